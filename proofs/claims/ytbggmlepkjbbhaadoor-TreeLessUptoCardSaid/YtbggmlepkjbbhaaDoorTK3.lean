/-
  DERIVED. Contracts of the functions that the law reaches, and the law itself, for every input. No conditions.
-/
import Derived.Test.YtbggmlepkjbbhaaDoorTK1
open Go Go.AM Go.Proofs
set_option maxRecDepth 100000
namespace TK
theorem split_spec (l : Bs) (sep : ByteArray) (hs : sep = B [32]) (hl : l.length ≤ 1048576) : APure Tryd.prog 73 [.p (.s (B l)), .p (.s sep)] (.p (.sl 1 ((splitF 32 l).map eStr))) := by
  have h := genSplit_spec l 32 hl
  rw [← hs] at h
  refine APure.intro (tyOf_ok Tryd.prog) hmix Tryd.func73 rfl (by rfl) (by kernel_rfl) (by show 2 ≤ _; decide) rfl ?_
  conv => whnf
  refine apc h ?_
  conv => whnf
  exact .inl rfl
theorem words_spec : APure Tryd.prog 62 [] (.p (.sl 1 (wordsL.map eStr))) := by
  have h := split_spec keysL (B [32]) rfl (by decide)
  rw [show splitF 32 keysL = wordsL from rfl] at h
  refine APure.intro (tyOf_ok Tryd.prog) hmix Tryd.func62 rfl (by rfl) (by kernel_rfl) (by show 0 ≤ _; decide) rfl ?_
  conv => whnf
  refine apc h ?_
  conv => whnf
  exact .inl rfl
/-! slices.Index, slices.Contains -/
def idxF (x : Bs) : List Bs → Nat → Int
  | [], _ => -1
  | a :: r, k => bif x == a then (k : Int) else idxF x r (k + 1)
theorem idxF_ge (x : Bs) : ∀ (l : List Bs) (k : Nat), decide (idxF x l k ≥ 0) = l.contains x
  | [], k => by simp [idxF]
  | a :: r, k => by
    rw [idxF, List.contains_cons]
    cases h : x == a with
    | true => simp
    | false => rw [cond_false, idxF_ge x r (k + 1), Bool.false_or]
theorem sidx_spec (l : List Bs) (x : Bs) (hb : l.length < 9223372036854775807) : APure Tryd.prog 72 [.p (.sl 1 (l.map eStr)), .p (.s (B x))] (.p (.i .i64 (idxF x l 0))) := by
  refine APure.intro (tyOf_ok Tryd.prog) hmix Tryd.func72 rfl (by rfl) (by kernel_rfl) (by show 2 ≤ _; decide) rfl ?_
  conv => whnf
  refine loopS (tyOf_ok _) hmix (by kernel_rfl) l.length [0, 1, 6, 7, 8] [] (fun k _ => [.p (.sl 1 (l.map eStr)), .p (.s (B x)), .p (.sl 1 (l.map eStr)), .p (.i .i64 (l.map eStr).length), .p (.i .i64 (ix k))]) (fun _ _ => []) (fun k _ => idxF x l 0 = idxF x (l.drop k) k) () ⟨rfl, rfl, rfl, rfl⟩ rfl ?_
  intro k s hk hn
  conv => whnf
  refine asplit ?_ ?_ <;> intro h1 <;> conv => whnf
  · have hk1 := ix_tt h1 (by simp) hk (by omega)
    obtain ⟨b, hb1⟩ : ∃ b, l[k]? = some b := ⟨l[k], by simp [hk1]⟩
    rw [drop_cons hb1, idxF] at hn
    refine aidxk (x := eStr b) (by simp [hb1]) (by omega) ?_
    conv => whnf
    refine asplit ?_ ?_ <;> intro h2 <;> conv => whnf
    · rw [B_beq] at h2
      refine .inl (pi ?_)
      rw [hn, h2, ix_eq (by omega)]; rfl
    · rw [B_beq] at h2
      exact ⟨hk1, (), ⟨rfl, rfl, rfl, rfl⟩, by rw [hn, h2]; rfl⟩
  · have hk1 := ix_ff h1 (by simp) hk (by omega)
    rw [hk1, List.drop_length, idxF] at hn
    exact .inl (pi hn.symm)
theorem scont_aux (l : AV) (x : Bs) (i : Int) (h : APure Tryd.prog 72 [l, .p (.s (B x))] (.p (.i .i64 i))) (hl : ∃ s xs, l = .p (.sl s xs)) : APure Tryd.prog 61 [l, .p (.s (B x))] (.p (.b (decide (i ≥ 0)))) := by
  obtain ⟨s, xs, rfl⟩ := hl
  refine APure.intro (tyOf_ok Tryd.prog) hmix Tryd.func61 rfl (by rfl) (by kernel_rfl) (by show 2 ≤ _; decide) rfl ?_
  conv => whnf
  refine apc h ?_
  conv => whnf
  exact .inl rfl
theorem scont_spec (l : List Bs) (x : Bs) (hb : l.length < 9223372036854775807) : APure Tryd.prog 61 [.p (.sl 1 (l.map eStr)), .p (.s (B x))] (.p (.b (l.contains x))) := by
  rw [← idxF_ge x l 0]
  exact scont_aux _ x _ (sidx_spec l x hb) ⟨_, _, rfl⟩
/-! classes of bytes -/
theorem small_spec (c : UInt8) : APure Tryd.prog 42 [.p (vU c)] (.p (.b (smallF c))) := by
  refine APure.intro (tyOf_ok Tryd.prog) hmix Tryd.func42 rfl (by rfl) (by kernel_rfl) (by show 1 ≤ _; decide) rfl ?_
  conv => whnf
  refine asplit ?_ ?_ <;> intro h <;> conv => whnf
  · exact .inl (pb (by rw [smallF, h]; rfl))
  · exact .inl (pb (by rw [smallF, h]; rfl))
theorem cap_spec (c : UInt8) : APure Tryd.prog 63 [.p (vU c)] (.p (.b (capF c))) := by
  refine APure.intro (tyOf_ok Tryd.prog) hmix Tryd.func63 rfl (by rfl) (by kernel_rfl) (by show 1 ≤ _; decide) rfl ?_
  conv => whnf
  refine asplit ?_ ?_ <;> intro h <;> conv => whnf
  · exact .inl (pb (by rw [capF, h]; rfl))
  · exact .inl (pb (by rw [capF, h]; rfl))
theorem digit_spec (c : UInt8) : APure Tryd.prog 71 [.p (vU c)] (.p (.b (digitF c))) := by
  refine APure.intro (tyOf_ok Tryd.prog) hmix Tryd.func71 rfl (by rfl) (by kernel_rfl) (by show 1 ≤ _; decide) rfl ?_
  conv => whnf
  refine asplit ?_ ?_ <;> intro h <;> conv => whnf
  · exact .inl (pb (by rw [digitF, h]; rfl))
  · exact .inl (pb (by rw [digitF, h]; rfl))
theorem letter_aux (c : UInt8) (a b : Bool) (h1 : APure Tryd.prog 42 [.p (vU c)] (.p (.b a))) (h2 : APure Tryd.prog 63 [.p (vU c)] (.p (.b b))) : APure Tryd.prog 59 [.p (vU c)] (.p (.b (a || b))) := by
  refine APure.intro (tyOf_ok Tryd.prog) hmix Tryd.func59 rfl (by rfl) (by kernel_rfl) (by show 1 ≤ _; decide) rfl ?_
  conv => whnf
  refine apc h1 ?_
  conv => whnf
  refine asplit ?_ ?_ <;> intro h <;> conv => whnf
  · exact .inl (pb (by rw [h]; rfl))
  · refine apc h2 ?_
    conv => whnf
    exact .inl (pb (by rw [h]; rfl))
theorem letter_spec (c : UInt8) : APure Tryd.prog 59 [.p (vU c)] (.p (.b (letterF c))) := letter_aux c _ _ (small_spec c) (cap_spec c)
theorem part_aux (c : UInt8) (a b : Bool) (h1 : APure Tryd.prog 59 [.p (vU c)] (.p (.b a))) (h2 : APure Tryd.prog 71 [.p (vU c)] (.p (.b b))) : APure Tryd.prog 60 [.p (vU c)] (.p (.b ((a || b) || (bi c == 95)))) := by
  refine APure.intro (tyOf_ok Tryd.prog) hmix Tryd.func60 rfl (by rfl) (by kernel_rfl) (by show 1 ≤ _; decide) rfl ?_
  conv => whnf
  refine apc h1 ?_
  conv => whnf
  refine asplit ?_ ?_ <;> intro h <;> conv => whnf
  · exact .inl (pb (by rw [h]; rfl))
  · refine apc h2 ?_
    conv => whnf
    refine asplit ?_ ?_ <;> intro h3 <;> conv => whnf
    · exact .inl (pb (by rw [h, h3]; rfl))
    · exact .inl (pb (by rw [h, h3]; rfl))
theorem part_spec (c : UInt8) : APure Tryd.prog 60 [.p (vU c)] (.p (.b (partF c))) := part_aux c _ _ (letter_spec c) (digit_spec c)
/-! span -/
end TK
open Go Go.AM Go.Proofs
set_option maxRecDepth 100000
namespace TK
theorem B_emp (l : Bs) : ((B l).toList == ByteArray.toList ⟨#[]⟩) = (l == []) := B_beq l []
theorem word_aux (l : Bs) (W : List Bs) (b : Bool) (h1 : APure Tryd.prog 62 [] (.p (.sl 1 (W.map eStr)))) (h2 : APure Tryd.prog 61 [.p (.sl 1 (W.map eStr)), .p (.s (B l))] (.p (.b b))) :
    APure Tryd.prog 43 [.p (.s (B l))] (.p (.b (!(l == []) && b))) := by
  refine APure.intro (tyOf_ok Tryd.prog) hmix Tryd.func43 rfl (by rfl) (by kernel_rfl) (by show 1 ≤ _; decide) rfl ?_
  conv => whnf
  refine asplit ?_ ?_ <;> intro h <;> conv => whnf
  · rw [B_emp] at h
    refine apc h1 ?_
    conv => whnf
    refine apc h2 ?_
    conv => whnf
    exact .inl (pb (by rw [h]; rfl))
  · rw [B_emp] at h
    exact .inl (pb (by rw [h]; rfl))
theorem word_spec (l : Bs) : APure Tryd.prog 43 [.p (.s (B l))] (.p (.b (wordF l))) :=
  word_aux l wordsL _ words_spec (scont_spec wordsL l (by rw [wordsL, split_len]; exact Nat.lt_of_le_of_lt (Nat.succ_le_succ (count_le' _ _)) (by decide)))
theorem name_aux (l : Bs) (R : Bool) (hR : nameF l = R) (hl : l.length ≤ 1048576) : APure Tryd.prog 41 [.p (.s (B l))] (.p (.b R)) := by
  have hsz : (B l).size = l.length := B_size l
  refine APure.intro (tyOf_ok Tryd.prog) hmix Tryd.func41 rfl (by rfl) (by kernel_rfl) (by show 1 ≤ _; decide) rfl ?_
  conv => whnf
  refine asplit ?_ ?_ <;> intro h1 <;> conv => whnf
  · rw [B_emp] at h1
    exact .inl (pb (by rw [← hR, nameF, h1]; rfl))
  rw [B_emp] at h1
  refine asplit ?_ ?_ <;> intro h2 <;> conv => whnf
  · rw [hsz] at h2
    have : ¬ l.length ≤ 16 := by have := of_decide_eq_true h2; omega
    exact .inl (pb (by rw [← hR, nameF, h1]; simp [this]))
  rw [hsz] at h2
  have h16 : l.length ≤ 16 := by have := of_decide_eq_false h2; omega
  obtain ⟨c, r, rfl⟩ : ∃ c r, l = c :: r := by
    cases l with
    | nil => simp at h1
    | cons c r => exact ⟨c, r, rfl⟩
  refine asix (k := 0) (c := c) rfl rfl ?_
  conv => whnf
  have hc := letter_spec c
  have hR2 : (letterF c && (c :: r).all partF) = R := by rw [← hR, nameF]; simp only [h1, h16, decide_true, Bool.true_and, Bool.not_false, List.headD_cons]
  clear hR h1 h2
  generalize c :: r = l at *
  generalize letterF c = b at *
  refine apc hc ?_
  conv => whnf
  refine asplit ?_ ?_ <;> intro h3 <;> conv => whnf
  · have h3 : b = false := by simpa using h3
    subst h3
    exact .inl (pb hR2)
  have h3 : b = true := by simpa using h3
  subst h3
  rw [Bool.true_and] at hR2
  refine loopS (tyOf_ok _) hmix (by kernel_rfl) l.length [0, 18, 19] [] (fun k _ => [.p (.s (B l)), .p (.i .i64 (B l).size), .p (.i .i64 (ix k))]) (fun _ _ => []) (fun k _ => R = (l.drop k).all partF) () ⟨rfl, rfl, rfl, rfl⟩ hR2.symm ?_
  intro k s hk hn
  conv => whnf
  refine asplit ?_ ?_ <;> intro h4 <;> conv => whnf
  · have hk1 := ix_tt h4 (by rw [hsz]) hk (by omega)
    obtain ⟨d, hd⟩ : ∃ b, l[k]? = some b := ⟨_, List.getElem?_eq_getElem hk1⟩
    refine asix (ix_eq (by omega)) hd ?_
    conv => whnf
    have hp := part_spec d
    rw [drop_cons hd, List.all_cons] at hn
    generalize partF d = q at *
    refine apc hp ?_
    conv => whnf
    refine asplit ?_ ?_ <;> intro h5 <;> conv => whnf
    · have h5 : q = false := by simpa using h5
      subst h5
      exact .inl (pb hn.symm)
    · have h5 : q = true := by simpa using h5
      subst h5
      exact ⟨hk1, (), ⟨rfl, rfl, rfl, rfl⟩, by rw [hn]; rfl⟩
  · have hk1 := ix_ff h4 (by rw [hsz]) hk (by omega)
    rw [hk1, List.drop_length] at hn
    exact .inl (pb hn.symm)
theorem name_spec (l : Bs) (hl : l.length ≤ 1048576) : APure Tryd.prog 41 [.p (.s (B l))] (.p (.b (nameF l))) := name_aux l _ rfl hl
theorem low_aux (l : Bs) (a b : Bool) (c : UInt8) (h1 : APure Tryd.prog 41 [.p (.s (B l))] (.p (.b a))) (hc : a = true → l[0]? = some c) (b2 : Bool) (h2 : APure Tryd.prog 42 [.p (vU c)] (.p (.b b2))) (h3 : APure Tryd.prog 43 [.p (.s (B l))] (.p (.b b))) :
    APure Tryd.prog 24 [.p (.s (B l))] (.p (.b (a && (b2 && !b)))) := by
  refine APure.intro (tyOf_ok Tryd.prog) hmix Tryd.func24 rfl (by rfl) (by kernel_rfl) (by show 1 ≤ _; decide) rfl ?_
  conv => whnf
  refine apc h1 ?_
  conv => whnf
  refine asplit ?_ ?_ <;> intro h <;> conv => whnf
  · refine asix (k := 0) rfl (hc h) ?_
    conv => whnf
    refine apc h2 ?_
    conv => whnf
    refine asplit ?_ ?_ <;> intro h' <;> conv => whnf
    · refine apc h3 ?_
      conv => whnf
      exact .inl (pb (by rw [h, h']; rfl))
    · exact .inl (pb (by rw [h, h']; rfl))
  · exact .inl (pb (by rw [h]; rfl))
theorem name_head {l : Bs} (h : nameF l = true) : l[0]? = some (l.headD 0) := by
  cases l with
  | nil => simp [nameF] at h
  | cons c r => rfl
theorem low_spec (l : Bs) (hl : l.length ≤ 1048576) : APure Tryd.prog 24 [.p (.s (B l))] (.p (.b (lowF l))) :=
  low_aux l _ _ _ (name_spec l hl) name_head _ (small_spec _) (word_spec l)
theorem up_aux (l : Bs) (a : Bool) (c : UInt8) (h1 : APure Tryd.prog 41 [.p (.s (B l))] (.p (.b a))) (hc : a = true → l[0]? = some c) (b2 : Bool) (h2 : APure Tryd.prog 63 [.p (vU c)] (.p (.b b2))) :
    APure Tryd.prog 45 [.p (.s (B l))] (.p (.b (a && b2))) := by
  refine APure.intro (tyOf_ok Tryd.prog) hmix Tryd.func45 rfl (by rfl) (by kernel_rfl) (by show 1 ≤ _; decide) rfl ?_
  conv => whnf
  refine apc h1 ?_
  conv => whnf
  refine asplit ?_ ?_ <;> intro h <;> conv => whnf
  · refine asix (k := 0) rfl (hc h) ?_
    conv => whnf
    refine apc h2 ?_
    conv => whnf
    exact .inl (pb (by rw [h]; rfl))
  · exact .inl (pb (by rw [h]; rfl))
theorem up_spec (l : Bs) (hl : l.length ≤ 1048576) : APure Tryd.prog 45 [.p (.s (B l))] (.p (.b (upF l))) := up_aux l _ _ (name_spec l hl) name_head _ (cap_spec _)
theorem idxB_cont (c : UInt8) : ∀ (l : Bs), decide (Lib.indexByte l c ≥ 0) = l.contains c
  | [] => by simp [Lib.indexByte]
  | a :: r => by
    have ih := idxB_cont c r
    have hg := Lib.indexByte_ge r c
    rw [List.contains_cons, Lib.indexByte]
    by_cases h : a = c
    · subst h; simp
    · rw [if_neg (by simpa using h), ← ih, show (c == a) = false by simpa using fun e => h e.symm, Bool.false_or]
      by_cases h2 : Lib.indexByte r c = -1
      · rw [if_pos (by simpa using h2), h2]
      · rw [if_neg (by simpa using h2)]
        have : Lib.indexByte r c ≥ 0 := by omega
        simp only [this, decide_true, decide_eq_true_eq]; omega
theorem idxB_lt (c : UInt8) : ∀ (l : Bs), Lib.indexByte l c < l.length
  | [] => by simp [Lib.indexByte]
  | a :: r => by
    have ih := idxB_lt c r
    rw [Lib.indexByte, List.length_cons]
    split
    · omega
    · split
      · omega
      · omega
theorem hex_lt (c : UInt8) : hexF c ≤ 15 := by have := idxB_lt c hexL; simp only [hexL, List.length_cons, List.length_nil] at this; rw [hexF]; simp only [hexL]; omega
end TK
