/-
  DERIVED. Contracts of the functions that the law reaches, and the law itself, for every input. No conditions.
-/
import Derived.Test.YtfnghigkbcbjiaaDoorGL0
import Derived.Test.YtfnghigkbcbjiaaDoorTK1
open Go Go.AM Go.Proofs Go.RowKit TK
set_option maxRecDepth 100000
namespace GL
/-! names -/
theorem cell_lt {w : World} {a : Addr} {v : Value} (h : w.cell? a = some v) (_hs : a.spot = none) : a.block < w.heap.size := by
  unfold World.cell? at h
  split at h
  · rename_i hb
    exact (Array.getElem?_eq_some_iff.1 hb).1
  · cases h
theorem ext_below {g : Gh} {w w' : World} (hno : ∀ b, g.own b = none) (h : Below w.heap.size w w') : Ext g w g w' := by
  refine ⟨h.size, h.os, h.output, fun b o v hv => ?_, fun b hb ho => ⟨h.block b hb, rfl, ho⟩, trivial, fun a ha => ?_, fun _ _ => rfl, fun b cs E hb => ⟨cs, E, ?_, rfl⟩⟩
  · unfold Go.AM.imm at hv ⊢
    split at hv
    · rename_i hp
      rw [if_pos hp]
      have hlt := cell_lt hv rfl
      unfold World.cell? at hv ⊢
      rw [h.block b hlt]; exact hv
    · cases hv
  · unfold World.frozen?
    rw [h.block _ ha]
  · rw [h.block b (Array.getElem?_eq_some_iff.1 hb).1]; exact hb
def innerL : Bs := [97, 98, 99, 100, 101, 102, 103, 104, 105, 106, 107, 108, 109, 110, 111, 112, 113, 114, 115, 116, 117, 118, 119, 120, 121, 122, 65, 66, 67, 68, 69, 70, 71, 72, 73, 74, 75, 76, 77, 78, 79, 80, 81, 82, 83, 84, 85, 86, 87, 88, 89, 90, 48, 49, 50, 51, 52, 53, 54, 55, 56, 57, 95]
theorem inner_ascii : ∀ x ∈ innerL, x.toNat < 128 := by decide
theorem trim_spec (l : Bs) (hl : l.length < 17) : APure Tryd.prog 55 [.p (.s (B l)), .p (.s (B innerL))] (.p (.s (B (Lib.trimS l innerL)))) := by
  refine ⟨body_of Tryd.func55 rfl (by rfl), fun g w us hno hlen hrel => ?_⟩
  match us, hlen with
  | [u, v], _ =>
  have r1 := (hrel 0 u _ rfl rfl).pv
  have r2 := (hrel 1 v _ rfl rfl).pv
  cases r1
  cases r2
  have := Any.strings_Trim_laid Tryd.lays160 (by kernel_rfl) (B l) (B innerL) w (by rw [B_size]; omega) (by rw [B_size]; decide) (fun j b hb => by
    rw [B_data] at hb
    exact inner_ascii b (List.mem_of_getElem? hb))
  rw [B_data, B_data] at this
  refine this.mono ?_
  rintro e w' ⟨rfl, hb⟩
  exact ⟨_, g, rfl, .p _ _ _ (.s _), ext_below hno hb⟩
def namedF (l first : Bs) : Bool := bif l == [] then false else bif decide (l.length < 17) then bif decide (Lib.indexByte first (l.headD 0) ≥ 0) then Lib.trimS l innerL == [] else false else false
theorem B_emp (l : Bs) : ((B l).toList == ByteArray.toList ⟨#[]⟩) = (l == []) := B_beq l []
theorem named_aux (l first r : Bs) (i : Int) (R : Bool) (hR : (bif l == [] then false else bif decide (l.length < 17) then bif decide (i ≥ 0) then r == [] else false else false) = R)
    (h1 : APure Tryd.prog 54 [.p (.s (B first)), .p (vU (l.headD 0))] (.p (.i .i64 i)))
    (h2 : l.length < 17 → APure Tryd.prog 55 [.p (.s (B l)), .p (.s ⟨#[97, 98, 99, 100, 101, 102, 103, 104, 105, 106, 107, 108, 109, 110, 111, 112, 113, 114, 115, 116, 117, 118, 119, 120, 121, 122, 65, 66, 67, 68, 69, 70, 71, 72, 73, 74, 75, 76, 77, 78, 79, 80, 81, 82, 83, 84, 85, 86, 87, 88, 89, 90, 48, 49, 50, 51, 52, 53, 54, 55, 56, 57, 95]⟩)] (.p (.s (B r)))) :
    APure Tryd.prog 37 [.p (.s (B l)), .p (.s (B first))] (.p (.b R)) := by
  have hsz : (B l).size = l.length := B_size l
  refine APure.intro (tyOf_ok Tryd.prog) hmix Tryd.func37 rfl (by rfl) (by kernel_rfl) (by show 2 ≤ _; decide) rfl ?_
  conv => whnf
  refine asplit ?_ ?_ <;> intro h3 <;> conv => whnf
  · rw [B_emp] at h3
    have h3 : (l == []) = false := by simpa using h3
    refine asplit ?_ ?_ <;> intro h4 <;> conv => whnf
    · rw [hsz] at h4
      have h17 : l.length < 17 := by have := of_decide_eq_true h4; omega
      obtain ⟨c, X, hX⟩ : ∃ c X, l = c :: X := by
        cases l with
        | nil => simp at h3
        | cons c r => exact ⟨c, r, rfl⟩
      refine asix (k := 0) (c := c) rfl (by rw [hX]; rfl) ?_
      conv => whnf
      rw [show l.headD 0 = c by rw [hX]; rfl] at h1
      refine apc h1 ?_
      conv => whnf
      refine asplit ?_ ?_ <;> intro h5 <;> conv => whnf
      · refine apc (h2 h17) ?_
        conv => whnf
        exact .inl (pb (by rw [B_emp, ← hR, h3, decide_eq_true h17, h5]; rfl))
      · exact .inl (pb (by rw [← hR, h3, decide_eq_true h17, h5]; rfl))
    · rw [hsz] at h4
      have h17 : ¬ l.length < 17 := by have := of_decide_eq_false h4; omega
      exact .inl (pb (by rw [← hR, h3, decide_eq_false h17]; rfl))
  · rw [B_emp] at h3
    have h3 : (l == []) = true := by simpa using h3
    exact .inl (pb (by rw [← hR, h3]; rfl))
theorem named_spec (l first : Bs) : APure Tryd.prog 37 [.p (.s (B l)), .p (.s (B first))] (.p (.b (namedF l first))) :=
  named_aux l first _ _ _ rfl (idxB_spec first (l.headD 0)) (fun h => trim_spec l h)
end GL
open Go Go.AM Go.Proofs Go.RowKit TK
set_option maxRecDepth 100000
namespace GL
theorem asci_name : Tryd.prog.globalNamed "strings.asciiSpace" = some 0 := by kernel_rfl
def tabL : List Value := tabV .u8 Lib.asciiSpaceTab
/-- the package's table, lent -/
def gH (l : Nat) (vs : List Value) : Nat × AObj := (l, .glob 0 vs)
theorem fields_spec (s : ByteArray) (hs : s.size < 4294967281) (ha : ∀ (j : Nat) b, s.data.toList[j]? = some b → b.toNat < 128) :
    AMem Tryd.prog 56 [.p (.s s)] [(1000000000, .glob 0 tabL)] (.p (.sl 1 ((Lib.fields s.data.toList).map eStr))) [(1000000000, .glob 0 tabL)] :=
  fields_lift (body_of Tryd.func56 rfl (by rfl)) asci_name s (fun w htab => Any.strings_Fields_laid Tryd.lays157 s w hs ha htab)
theorem great_ex : ∃ t : ByteArray, ∀ (l : Bs) (F : ByteArray → Bool), (∀ t : Bs, APure Tryd.prog 37 [.p (.s (B l)), .p (.s (B t))] (.p (.b (F (B t))))) → APure Tryd.prog 22 [.p (.s (B l))] (.p (.b (F t))) := by
  apply Exists.intro
  intro l F h
  have h : ∀ t : ByteArray, APure Tryd.prog 37 [.p (.s (B l)), .p (.s t)] (.p (.b (F t))) := fun t => by
    have := h t.data.toList
    rwa [← B_of] at this
  refine APure.intro (tyOf_ok Tryd.prog) hmix Tryd.func22 rfl (by rfl) (by kernel_rfl) (by show 1 ≤ _; decide) rfl ?_
  conv => whnf
  refine ⟨by decide, ?_⟩
  conv => whnf
  refine apc (h _) ?_
  conv => whnf
  exact .inl rfl
theorem great_all : ∃ F : ByteArray → Bool, ∀ s : ByteArray, APure Tryd.prog 22 [.p (.s s)] (.p (.b (F s))) := by
  obtain ⟨t, h⟩ := great_ex
  refine ⟨fun s => namedF s.data.toList t.data.toList, fun s => ?_⟩
  have := h s.data.toList (fun t => namedF s.data.toList t.data.toList) (fun t => by
    have := named_spec s.data.toList t
    rwa [B_data])
  rwa [← B_of] at this
theorem word_ex : ∃ t : ByteArray, (∀ (F : ByteArray → List PV) (tab : List Value), (AMem Tryd.prog 56 [.p (.s t)] [(1000000000, .glob 0 tab)] (.p (.sl 1 (F t))) [(1000000000, .glob 0 tab)]) → AMem Tryd.prog 38 [] [(1000000000, .glob 0 tab)] (.p (.sl 1 (F t))) [(1000000000, .glob 0 tab)]) ∧ (decide (t.size < 100000) && t.data.toList.all fun b => decide (b.toNat < 128)) = true := by
  apply Exists.intro
  apply And.intro
  · intro F tab h
    refine AMem.intro (tyOf_ok Tryd.prog) hmix Tryd.func38 rfl (by rfl) (by kernel_rfl) (by show 0 ≤ _; decide) rfl ?_
    conv => whnf
    refine amc [1000000000] 50 h ?_
    conv => whnf
    exact ⟨.inl rfl, ⟨rfl, rfl⟩, trivial⟩
  · kernel_rfl
theorem cntF_le : ∀ (l : List UInt8) (b : Bool), Lib.cntF b l ≤ l.length
  | [], _ => Nat.le_refl _
  | x :: l, b => by
    have := cntF_le l (Lib.isSp x)
    rw [Lib.cntF, List.length_cons]
    split <;> omega
theorem fieldsGo_len (l : List UInt8) : (Lib.fields l).length ≤ l.length + 1 := by
  rw [Lib.fields, Lib.fieldsGo_length]
  have := cntF_le l ([] : List UInt8).isEmpty
  split <;> omega
theorem words_all : ∃ W : List Bs, W.length ≤ 1000000 ∧ AMem Tryd.prog 38 [] [(1000000000, .glob 0 tabL)] (.p (.sl 1 (W.map eStr))) [(1000000000, .glob 0 tabL)] := by
  obtain ⟨t, h1, h2⟩ := word_ex
  simp only [Bool.and_eq_true, decide_eq_true_eq, List.all_eq_true] at h2
  refine ⟨Lib.fields t.data.toList, ?_, h1 (fun t => (Lib.fields t.data.toList).map eStr) tabL (fields_spec t (by omega) fun j b hb => h2.2 b (List.mem_of_getElem? hb))⟩
  have := fieldsGo_len t.data.toList
  have := Lib.size_eq t
  omega
theorem small_ex : ∃ t : ByteArray, ∀ (l : Bs) (F : ByteArray → Bool) (W : List PV) (c : Bool) (tab : List Value), (∀ t : ByteArray, APure Tryd.prog 37 [.p (.s (B l)), .p (.s t)] (.p (.b (F t)))) →
    AMem Tryd.prog 38 [] [(1000000000, .glob 0 tab)] (.p (.sl 1 W)) [(1000000000, .glob 0 tab)] → APure Tryd.prog 7 [.p (.sl 1 W), .p (.s (B l))] (.p (.b c)) →
    AMem Tryd.prog 18 [.p (.s (B l))] [(1000000000, .glob 0 tab)] (.p (.b (F t && !c))) [(1000000000, .glob 0 tab)] := by
  apply Exists.intro
  intro l F W c tab h h1 h2
  refine AMem.intro (tyOf_ok Tryd.prog) hmix Tryd.func18 rfl (by rfl) (by kernel_rfl) (by show 1 ≤ _; decide) rfl ?_
  conv => whnf
  refine ⟨by decide, ?_⟩
  conv => whnf
  refine apc (h _) ?_
  conv => whnf
  refine asplit ?_ ?_ <;> intro h3 <;> conv => whnf
  · refine amc [1000000000] 50 h1 ?_
    conv => whnf
    refine apc h2 ?_
    conv => whnf
    exact ⟨.inl (pb (congrArg (fun b => b && !c) h3.symm)), ⟨rfl, rfl⟩, trivial⟩
  · exact ⟨.inl (pb (congrArg (fun b => b && !c) h3.symm)), ⟨rfl, rfl⟩, trivial⟩
/-- the words of the reference: which names are small, which great -/
theorem small_all : ∃ F : ByteArray → Bool, ∀ s : ByteArray, AMem Tryd.prog 18 [.p (.s s)] [(1000000000, .glob 0 tabL)] (.p (.b (F s))) [(1000000000, .glob 0 tabL)] := by
  obtain ⟨t, h⟩ := small_ex
  obtain ⟨W, hw, h1⟩ := words_all
  refine ⟨fun s => namedF s.data.toList t.data.toList && !W.contains s.data.toList, fun s => ?_⟩
  have := h s.data.toList (fun t => namedF s.data.toList t.data.toList) (W.map eStr) (W.contains s.data.toList) tabL (fun t => by
    have := named_spec s.data.toList t.data.toList
    rwa [← B_of t] at this) h1 (scont_spec W s.data.toList (by omega))
  rwa [← B_of] at this
end GL
open Go Go.AM Go.Proofs Go.RowKit TK
set_option maxRecDepth 100000
namespace GL
/-! the judge -/
def mustF (e : Int) (ok : Bool) (er : Int) : Int := bif e == 0 && !ok then er else e
theorem must_spec (e er : Int) (ok : Bool) : AMem Tryd.prog 36 [.ptr 1000000000 0, .p (.b ok), .p (.i .i64 er)] [(1000000000, .cells [.p (.i .i64 e)])] (.tup []) [(1000000000, .cells [.p (.i .i64 (mustF e ok er))])] := by
  generalize hR : mustF e ok er = R
  refine AMem.intro (tyOf_ok Tryd.prog) hmix Tryd.func36 rfl (by rfl) (by kernel_rfl) (by show 3 ≤ _; decide) rfl ?_
  conv => whnf
  refine asplit ?_ ?_ <;> intro h1 <;> conv => whnf
  · refine asplit ?_ ?_ <;> intro h2 <;> conv => whnf
    · have e1 : er = R := by rw [← hR, mustF, h1, h2]; rfl
      subst e1
      exact ⟨.inl rfl, ⟨.inl rfl, trivial⟩, trivial⟩
    · have e1 : e = R := by rw [← hR, mustF, h1, h2]; rfl
      subst e1
      exact ⟨.inl rfl, ⟨.inl rfl, trivial⟩, trivial⟩
  · have e1 : e = R := by rw [← hR, mustF, h1]; rfl
    subst e1
    exact ⟨.inl rfl, ⟨.inl rfl, trivial⟩, trivial⟩
theorem few_spec (e : Int) (ok : Bool) : AMem Tryd.prog 16 [.ptr 1000000000 0, .p (.b ok)] [(1000000000, .cells [.p (.i .i64 e)])] (.tup []) [(1000000000, .cells [.p (.i .i64 (mustF e ok 2))])] := by
  have h := must_spec e 2 ok
  generalize mustF e ok 2 = R at *
  refine AMem.intro (tyOf_ok Tryd.prog) hmix Tryd.func16 rfl (by rfl) (by kernel_rfl) (by show 2 ≤ _; decide) rfl ?_
  conv => whnf
  refine amc [1000000000] 50 h ?_
  conv => whnf
  exact ⟨.inl rfl, ⟨.inl rfl, trivial⟩, trivial⟩
theorem form_spec (e : Int) (ok : Bool) : AMem Tryd.prog 17 [.ptr 1000000000 0, .p (.b ok)] [(1000000000, .cells [.p (.i .i64 e)])] (.tup []) [(1000000000, .cells [.p (.i .i64 (mustF e ok 3))])] := by
  have h := must_spec e 3 ok
  generalize mustF e ok 3 = R at *
  refine AMem.intro (tyOf_ok Tryd.prog) hmix Tryd.func17 rfl (by rfl) (by kernel_rfl) (by show 2 ≤ _; decide) rfl ?_
  conv => whnf
  refine amc [1000000000] 50 h ?_
  conv => whnf
  exact ⟨.inl rfl, ⟨.inl rfl, trivial⟩, trivial⟩
end GL
open Go Go.AM Go.Proofs Go.RowKit TK
set_option maxRecDepth 100000
namespace GL
def plainF (n : Int) : Bool := decide (n ≥ 0) && decide (n ≤ 1000000)
theorem plain_spec (n : Int) : APure Tryd.prog 19 [.p (.i .i64 n)] (.p (.b (plainF n))) := by
  refine APure.intro (tyOf_ok Tryd.prog) hmix Tryd.func19 rfl (by rfl) (by kernel_rfl) (by show 1 ≤ _; decide) rfl ?_
  conv => whnf
  refine asplit ?_ ?_ <;> intro h1 <;> conv => whnf
  · exact .inl (pb (by rw [plainF, h1, Bool.true_and]))
  · exact .inl (pb (by rw [plainF, h1, Bool.false_and]))
def dataF (G : ByteArray → Bool) (s : ByteArray) : Bool := bif G s then (bif !(s.toList == ByteArray.toList ⟨#[82, 101, 102]⟩) then !(s.toList == ByteArray.toList ⟨#[67, 101, 108, 108]⟩) else false) else false
theorem data_spec (G : ByteArray → Bool) (s : ByteArray) (h : APure Tryd.prog 22 [.p (.s s)] (.p (.b (G s)))) : APure Tryd.prog 20 [.p (.s s)] (.p (.b (dataF G s))) := by
  generalize hR : dataF G s = R
  rw [dataF] at hR
  refine APure.intro (tyOf_ok Tryd.prog) hmix Tryd.func20 rfl (by rfl) (by kernel_rfl) (by show 1 ≤ _; decide) rfl ?_
  conv => whnf
  refine apc h ?_
  conv => whnf
  refine asplit ?_ ?_ <;> intro h1 <;> conv => whnf
  · refine asplit ?_ ?_ <;> intro h2 <;> conv => whnf
    · exact .inl (pb (by rw [← hR, h1, h2]; rfl))
    · exact .inl (pb (by rw [← hR, h1, h2]; rfl))
  · exact .inl (pb (by rw [← hR, h1]; rfl))
end GL
open Go Go.AM Go.Proofs Go.RowKit TK
set_option maxRecDepth 100000
namespace GL
def listGo (S : ByteArray → Bool) : List ByteArray → Int → Int
  | [], e => e
  | s :: r, e => listGo S r (mustF e (S s) 3)
def listF (S : ByteArray → Bool) (l : List ByteArray) (e : Int) : Int := listGo S l (mustF e (decide ((l.length : Int) ≤ 6)) 2)
theorem list_spec (S : ByteArray → Bool) (tab : List Value) (hS : ∀ s, AMem Tryd.prog 18 [.p (.s s)] [(1000000000, .glob 0 tab)] (.p (.b (S s))) [(1000000000, .glob 0 tab)]) (l : List ByteArray) (e : Int) (hl : l.length ≤ 1048640) :
    AMem Tryd.prog 21 [.ptr 1000000000 0, .p (.sl 1 (l.map PV.s))] [(1000000000, .cells [.p (.i .i64 e)]), (1000000001, .glob 0 tab)] (.tup []) [(1000000000, .cells [.p (.i .i64 (listF S l e))]), (1000000001, .glob 0 tab)] := by
  have hf := few_spec e (decide ((l.length : Int) ≤ 6))
  generalize hR : listF S l e = R
  rw [listF] at hR
  generalize mustF e (decide ((l.length : Int) ≤ 6)) 2 = e0 at *
  refine AMem.intro (tyOf_ok Tryd.prog) hmix Tryd.func21 rfl (by rfl) (by kernel_rfl) (by show 2 ≤ _; decide) rfl ?_
  conv => whnf
  rw [List.length_map]
  refine amc [1000000000] 50 hf ?_
  conv => whnf
  refine loopS (tyOf_ok _) hmix (by kernel_rfl) l.length [0, 11, 12, 13] [1000000000, 1000000001] (fun k _ => [.ptr 1000000000 0, .p (.sl 1 (l.map PV.s)), .p (.i .i64 (l.map PV.s).length), .p (.i .i64 (ix k))]) (fun k x => [.cells [.p (.i .i64 x)], .glob 0 tab]) (fun k x => listGo S (l.drop k) x = R) e0 ⟨rfl, rfl, rfl, rfl⟩ hR ?_
  intro k x hk hn
  conv => whnf
  refine asplit ?_ ?_ <;> intro h1 <;> conv => whnf
  · have hk1 := ix_tt h1 (by simp) hk (by omega)
    obtain ⟨b, hb1⟩ : ∃ b, l[k]? = some b := ⟨l[k], by simp [hk1]⟩
    rw [drop_cons hb1, listGo] at hn
    refine aidxk (x := PV.s b) (by simp [hb1]) (by omega) ?_
    conv => whnf
    have h2 := form_spec x (S b)
    refine amc [1000000001] 60 (hS b) ?_
    conv => whnf
    generalize mustF x (S b) 3 = y at *
    refine amc [1000000000] 70 h2 ?_
    conv => whnf
    exact ⟨hk1, y, ⟨rfl, rfl, rfl, rfl⟩, hn⟩
  · have hk1 := ix_ff h1 (by simp) hk (by omega)
    rw [hk1, List.drop_length, listGo] at hn
    subst hn
    exact ⟨.inl rfl, ⟨.inl rfl, trivial⟩, ⟨rfl, rfl⟩, trivial⟩
end GL
