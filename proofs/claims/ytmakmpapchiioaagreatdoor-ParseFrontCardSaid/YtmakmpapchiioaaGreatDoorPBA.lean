/-
  DERIVED. Contracts of the functions that the law reaches, and the law itself, for every input. No conditions.
-/
import Derived.Test.YtmakmpapchiioaaGreatDoorPAX
open Go Go.AM Go.Proofs TK TR
set_option maxRecDepth 100000
namespace PA
def readsL : Bs := [109, 111, 100, 117, 108, 101, 32, 109, 32, 49, 59, 32, 102, 117, 110, 32, 102, 40, 120, 58, 32, 105, 110, 116, 41, 58, 32, 105, 110, 116, 32, 61, 32, 40, 120, 32, 43, 32, 49, 41, 59]
def okReads (x : LPg × Int × Int) : Bool := x.2.2 == 0 && (x.1.name.toList == (⟨#[109]⟩ : ByteArray).toList && match x.1.funcs with | [f] => f.body.kind == 8 | _ => false)
theorem reads_ok : okReads (parseF readsL) = true := by kernel_rfl
theorem reads_aux (ev : Value) (nm : ByteArray) (ver at_ : Int) (us : List LUse) (ds : List LDt) (ts : List LTr) (is : List LIm) (acs : List LAc) (fn : ByteArray) (ps ns : List ByteArray) (tys : List Ty) (ok : Int) (on : ByteArray) (ol : List Ty) (bn : Int) (bt : ByteArray) (bns : List ByteArray) (bts : List Ty) (bxs : List Ex) (bms : List Arm) (bp : Int)
    (h : AMem Tryz.prog 8 [.p (.s (B readsL))] (hE ev) (vParse (⟨nm, ver, us, ds, ts, is, [⟨fn, ps, ns, tys, .mk ok on ol, .mk 8 bn bt bns bts bxs bms bp⟩], acs⟩, at_, 0)) (hE ev)) (hn : (nm.toList == (⟨#[109]⟩ : ByteArray).toList) = true) :
    AMem Tryz.prog 7 [] (hE ev) (.p (.b true)) (hE ev) := by
  unfold hE at h ⊢
  refine AMem.intro (tyOf_ok Tryz.prog) hmix Tryz.func7 rfl (by rfl) (by kernel_rfl) (by show 0 ≤ _; decide) rfl ?_
  conv => whnf
  refine amc [1000000000] 500 h ?_
  conv => whnf
  rw [hn]
  conv => whnf
  refine ⟨_, Int.le_refl _, rfl, ?_⟩
  conv => whnf
  exact ⟨.inl rfl, ⟨rfl, rfl⟩, trivial⟩
theorem reads_spec (ev : Value) (hev : ev = .nilIface ∨ ∃ te pe, ev = .iface te pe) : AMem Tryz.prog 7 [] (hE ev) (.p (.b true)) (hE ev) := by
  have h := parse_spec ev hev readsL
  have hq := reads_ok
  generalize parseF readsL = x at h hq
  obtain ⟨⟨nm, ver, us, ds, ts, is, fs, acs⟩, at_, e⟩ := x
  unfold okReads at hq
  simp only [Bool.and_eq_true, beq_iff_eq] at hq
  obtain ⟨rfl, hn, hf⟩ := hq
  match fs, hf with
  | [⟨fn, ps, ns, tys, .mk ok on ol, .mk bk bn bt bns bts bxs bms bp⟩], hf =>
    have hf : bk = 8 := by simpa [Ex.kind] using hf
    subst hf
    exact reads_aux ev nm ver at_ us ds ts is acs fn ps ns tys ok on ol bn bt bns bts bxs bms bp h (by simpa using hn)
end PA
open Go Go.AM Go.Proofs TK TR
set_option maxRecDepth 100000
namespace PA
def lA (at_ : Int) : Heap := [(1000000000, .cells [.p (.i .i64 at_)])]
theorem at_fn (at_ : Int) (t : Tk) : AMem Tryz.prog 11 [.p (eTk t), .ptr 1000000000 0] (lA at_) (.p (.b ((t.at_ : Int) == at_))) (lA at_) := by
  unfold lA
  refine AMem.intro (tyOf_ok Tryz.prog) hmix Tryz.func11 rfl (by rfl) (by kernel_rfl) (by show 2 ≤ _; decide) rfl ?_
  conv => whnf
  exact ⟨.inl rfl, ob_refl _, trivial⟩
theorem idx_spec (at_ : Int) (o : List Tk) (ho : o.length ≤ 4000) (k : Nat) (t : Tk) (hk : o[k]? = some t) (ht : (t.at_ : Int) = at_) (hf : ∀ (j : Nat) (a : Tk), j < k → o[j]? = some a → (a.at_ : Int) ≠ at_) :
    AMem Tryz.prog 10 [.p (.sl 3 (o.map eTk)), .fn 11 [] [.ptr 1000000000 0]] (lA at_) (.p (.i .i64 k)) (lA at_) := by
  have h := at_fn at_
  have hkl := (List.getElem?_eq_some_iff.1 hk).1
  unfold lA at *
  refine AMem.intro (tyOf_ok Tryz.prog) hmix Tryz.func10 rfl (by rfl) (by kernel_rfl) (by show 2 ≤ _; decide) rfl ?_
  conv => whnf
  refine loopS (tyOf_ok _) hmix (by kernel_rfl) o.length [0, 1, 7, 8] [1000000000] (fun j (_ : Unit) => [.p (.sl 3 (o.map eTk)), .fn 11 [] [.ptr 1000000000 0], .p (.i .i64 (o.map eTk).length), .p (.i .i64 (ix j))]) (fun _ _ => [.cells [.p (.i .i64 at_)]]) (fun j _ => j ≤ k) () ⟨rfl, rfl, rfl, rfl⟩ (Nat.zero_le _) ?_
  intro j _ hj hs
  conv => whnf
  refine asplit ?_ ?_ <;> intro h1 <;> conv => whnf
  · have hk1 := ix_tt h1 (by simp) hj (by omega)
    obtain ⟨b, hb1⟩ : ∃ b, o[j]? = some b := ⟨_, List.getElem?_eq_getElem hk1⟩
    refine aidxk (x := eTk b) (by simp [hb1]) (by omega) ?_
    conv => whnf
    refine amc [1000000000] 50 (h b) ?_
    conv => whnf
    refine asplit ?_ ?_ <;> intro h2 <;> conv => whnf
    · have hbe : (b.at_ : Int) = at_ := by simpa using h2
      have : j = k := by
        rcases Nat.lt_or_ge j k with q | q
        · exact absurd hbe (hf j b q hb1)
        · omega
      subst this
      exact ⟨.inl (pi (by rw [ix_eq (by omega)])), ⟨.inl rfl, trivial⟩, trivial⟩
    · have hbe : ¬ (b.at_ : Int) = at_ := by simpa using h2
      refine ⟨hk1, (), ⟨rfl, rfl, rfl, rfl⟩, ?_⟩
      rcases Nat.lt_or_ge j k with q | q
      · exact q
      · exfalso
        have : j = k := by omega
        subst this
        rw [hk] at hb1; cases hb1
        exact hbe ht
  · have hk1 := ix_ff h1 (by simp) hj (by omega)
    omega
theorem front_1 (ev : Value) (s m : ByteArray) (pg : LPg) (at_ e : Int) (he : (e != 10) = true) (h0 : AMem Tryz.prog 7 [] (hE ev) (.p (.b true)) (hE ev)) (h1 : AMem Tryz.prog 8 [.p (.s s)] (hE ev) (vParse (pg, at_, e)) (hE ev)) :
    AMem Tryz.prog 3 [.p (.s s), .p (.s m)] (hE ev) (.p (.b true)) (hE ev) := by
  unfold hE at *
  refine AMem.intro (tyOf_ok Tryz.prog) hmix Tryz.func3 rfl (by rfl) (by kernel_rfl) (by show 2 ≤ _; decide) rfl ?_
  conv => whnf
  refine amc [1000000000] 500 h0 ?_
  conv => whnf
  refine amc [1000000000] 600 h1 ?_
  conv => whnf
  rw [he]
  conv => whnf
  exact ⟨.inl rfl, ⟨rfl, rfl⟩, trivial⟩
theorem front_2 (ev : Value) (s m : ByteArray) (pg : LPg) (at_ : Int) (he : at_ ≥ s.size ∨ at_ < 0) (h0 : AMem Tryz.prog 7 [] (hE ev) (.p (.b true)) (hE ev)) (h1 : AMem Tryz.prog 8 [.p (.s s)] (hE ev) (.tup [.p (elPg pg), .p (.i .i64 at_), .p (.i .i64 10)]) (hE ev)) :
    AMem Tryz.prog 3 [.p (.s s), .p (.s m)] (hE ev) (.p (.b true)) (hE ev) := by
  unfold hE at *
  refine AMem.intro (tyOf_ok Tryz.prog) hmix Tryz.func3 rfl (by rfl) (by kernel_rfl) (by show 2 ≤ _; decide) rfl ?_
  conv => whnf
  refine amc [1000000000] 500 h0 ?_
  conv => whnf
  refine amc [1000000000] 600 h1 ?_
  conv => whnf
  generalize hd : decide (at_ ≥ (s.size : Int)) = d
  cases d with
  | true =>
    conv => whnf
    exact ⟨.inl rfl, ⟨rfl, rfl⟩, trivial⟩
  | false =>
    have hd := of_decide_eq_false hd
    conv => whnf
    rw [decide_eq_true (show at_ < 0 by omega)]
    conv => whnf
    exact ⟨.inl rfl, ⟨rfl, rfl⟩, trivial⟩
theorem front_3 (ev : Value) (s m : ByteArray) (pg : LPg) (at_ : Int) (hl : at_ < s.size) (hl0 : 0 ≤ at_) (h0 : AMem Tryz.prog 7 [] (hE ev) (.p (.b true)) (hE ev)) (h1 : AMem Tryz.prog 8 [.p (.s s)] (hE ev) (.tup [.p (elPg pg), .p (.i .i64 at_), .p (.i .i64 10)]) (hE ev))
    (o : List Tk) (p e2 : Int) (he2 : (e2 != 0) = true) (h2 : APure Tryz.prog 9 [.p (.s s)] (.tup [.p (.sl 3 (o.map eTk)), .p (.i .i64 p), .p (.i .i64 e2)])) :
    AMem Tryz.prog 3 [.p (.s s), .p (.s m)] (hE ev) (.p (.b true)) (hE ev) := by
  unfold hE at *
  refine AMem.intro (tyOf_ok Tryz.prog) hmix Tryz.func3 rfl (by rfl) (by kernel_rfl) (by show 2 ≤ _; decide) rfl ?_
  conv => whnf
  refine amc [1000000000] 500 h0 ?_
  conv => whnf
  refine amc [1000000000] 600 h1 ?_
  conv => whnf
  generalize hd : decide (at_ ≥ (s.size : Int)) = d
  rw [decide_eq_false (by omega)] at hd
  subst hd
  conv => whnf
  rw [decide_eq_false (show ¬ at_ < 0 by omega)]
  conv => whnf
  refine apc h2 ?_
  conv => whnf
  rw [he2]
  conv => whnf
  exact ⟨.inl rfl, ⟨rfl, rfl⟩, trivial⟩
theorem front_4 (ev : Value) (s m : ByteArray) (hs : s.size ≤ 140737488351232) (hm : m.size ≤ 140737488351232) (pg : LPg) (at_ : Int) (hl : at_ < s.size) (hl0 : 0 ≤ at_) (h0 : AMem Tryz.prog 7 [] (hE ev) (.p (.b true)) (hE ev)) (h1 : AMem Tryz.prog 8 [.p (.s s)] (hE ev) (.tup [.p (elPg pg), .p (.i .i64 at_), .p (.i .i64 10)]) (hE ev))
    (o : List Tk) (p : Int) (h2 : APure Tryz.prog 9 [.p (.s s)] (.tup [.p (.sl 3 (o.map eTk)), .p (.i .i64 p), .p (.i .i64 0)]))
    (k : Nat) (hk : k < o.length) (hol : o.length ≤ 4000) (h3 : AMem Tryz.prog 10 [.p (.sl 3 (o.map eTk)), .fn 11 [] [.ptr 1000000000 0]] (lA at_) (.p (.i .i64 k)) (lA at_))
    (en : Nat) (hen : en ≤ s.size) (hen2 : ∀ t, o[k + 1]? = some t → t.at_ = en) (hen3 : o[k + 1]? = none → en = s.size)
    (w : ByteArray) (hw : s.extract 0 en ++ ⟨#[32]⟩ ++ m = w) (pg2 : LPg) (at2 e4 : Int) (h5 : AMem Tryz.prog 8 [.p (.s w)] (hE ev) (.tup [.p (elPg pg2), .p (.i .i64 at2), .p (.i .i64 e4)]) (hE ev)) (o2 : List Tk) (p2 e3 : Int) (h4 : APure Tryz.prog 9 [.p (.s w)] (.tup [.p (.sl 3 (o2.map eTk)), .p (.i .i64 p2), .p (.i .i64 e3)]))
    (hfin : e3 = 0 → at2 = at_ ∧ e4 = 10) :
    AMem Tryz.prog 3 [.p (.s s), .p (.s m)] (hE ev) (.p (.b true)) (hE ev) := by
  unfold lA at h3
  unfold hE at *
  refine AMem.intro (tyOf_ok Tryz.prog) hmix Tryz.func3 rfl (by rfl) (by kernel_rfl) (by show 2 ≤ _; decide) rfl ?_
  conv => whnf
  refine amc [1000000000] 500 h0 ?_
  conv => whnf
  refine amc [1000000000] 600 h1 ?_
  conv => whnf
  generalize hd : decide (at_ ≥ (s.size : Int)) = d
  rw [decide_eq_false (by omega)] at hd
  subst hd
  conv => whnf
  rw [decide_eq_false (show ¬ at_ < 0 by omega)]
  conv => whnf
  refine apc h2 ?_
  conv => whnf
  refine amc [6] 700 h3 ?_
  conv => whnf
  rw [decide_eq_false (show ¬ (k : Int) < 0 by omega)]
  conv => whnf
  have hwr : IntKind.i64.wrap ((k : Int) + 1) = ((k + 1 : Nat) : Int) := by rw [wrap64 (by omega) (by omega)]; rfl
  rw [hwr, List.length_map]
  by_cases hk2 : k + 1 < o.length
  · rw [decide_eq_true (show ((k + 1 : Nat) : Int) < (o.length : Int) by omega)]
    have ht : o[k + 1]? = some (o[k + 1]'hk2) := List.getElem?_eq_getElem hk2
    have hte := hen2 _ ht
    conv => whnf
    refine aidxi (x := eTk (o[k + 1]'hk2)) (by rw [hwr]; omega) (by rw [hwr, List.getElem?_map]; rw [show ((k + 1 : Nat) : Int).toNat = k + 1 by omega, ht]; rfl) ?_
    conv => whnf
    rw [hte]
    refine ⟨⟨by omega, by omega, by omega⟩, ?_⟩
    conv => whnf
    refine aneed (by rw [ByteArray.size_extract]; show _ + 1 ≤ _; omega) ?_
    conv => whnf
    rw [show s.extract (Int.toNat 0) ((en : Int)).toNat ++ ⟨#[32]⟩ ++ m = w from hw]
    refine aneed (by rw [ByteArray.size_append, ByteArray.size_extract]; show _ + 1 + _ ≤ _; omega) ?_
    conv => whnf
    refine apc h4 ?_
    conv => whnf
    generalize hb : (e3 != 0) = b
    cases b with
    | true =>
      conv => whnf
      exact ⟨.inl rfl, ⟨rfl, rfl⟩, trivial⟩
    | false =>
      obtain ⟨rfl, rfl⟩ := hfin (by simpa using hb)
      conv => whnf
      refine amc [1000000000] 800 h5 ?_
      conv => whnf
      rw [beq_self_eq_true]
      exact ⟨.inl rfl, ⟨rfl, rfl⟩, trivial⟩
  · rw [decide_eq_false (show ¬ ((k + 1 : Nat) : Int) < (o.length : Int) by omega)]
    conv => whnf
    have hes := hen3 (List.getElem?_eq_none (by omega))
    rw [← hes]
    refine ⟨⟨by omega, by omega, by omega⟩, ?_⟩
    conv => whnf
    refine aneed (by rw [ByteArray.size_extract]; show _ + 1 ≤ _; omega) ?_
    conv => whnf
    rw [show s.extract (Int.toNat 0) ((en : Int)).toNat ++ ⟨#[32]⟩ ++ m = w from hw]
    refine aneed (by rw [ByteArray.size_append, ByteArray.size_extract]; show _ + 1 + _ ≤ _; omega) ?_
    conv => whnf
    refine apc h4 ?_
    conv => whnf
    generalize hb : (e3 != 0) = b
    cases b with
    | true =>
      conv => whnf
      exact ⟨.inl rfl, ⟨rfl, rfl⟩, trivial⟩
    | false =>
      obtain ⟨rfl, rfl⟩ := hfin (by simpa using hb)
      conv => whnf
      refine amc [1000000000] 800 h5 ?_
      conv => whnf
      rw [beq_self_eq_true]
      exact ⟨.inl rfl, ⟨rfl, rfl⟩, trivial⟩
theorem B_cut (l m : Bs) (en : Nat) : (B l).extract 0 en ++ ⟨#[32]⟩ ++ B m = B (l.take en ++ 32 :: m) := by
  apply ByteArray.ext
  apply Array.toList_inj.1
  simp [ByteArray.data_append, B_data]
theorem front_spec (ev : Value) (hev : ev = .nilIface ∨ ∃ te pe, ev = .iface te pe) (l m : Bs) (hl : l.length ≤ 140737488351232) (hm : m.length ≤ 140737488351232) :
    AMem Tryz.prog 3 [.p (.s (B l)), .p (.s (B m))] (hE ev) (.p (.b true)) (hE ev) := by
  have h0 := reads_spec ev hev
  have h1 := parse_spec ev hev l
  obtain ⟨pg, at_, e, hp⟩ : ∃ pg at_ e, parseF l = (pg, at_, e) := ⟨_, _, _, rfl⟩
  rw [hp] at h1
  by_cases he : e = 10
  · subst he
    by_cases hat : at_ < (B l).size ∧ 0 ≤ at_
    · rcases readF_cases l with ⟨T, hq⟩ | ⟨p, hq⟩ | ⟨p, hq⟩
      · have h2 := read_spec l
        rw [hq] at h2
        obtain ⟨k, t, k1, k2, k3, k4, k5⟩ := front_plain l m T hq at_ pg hp hat.2 (by have := hat.1; rw [B_size] at this; exact this)
        obtain ⟨q1, q2, _⟩ := read_ok hq
        have hT := (tok_of l q1 T q2).len
        obtain ⟨pg2, at2, e4, hp2⟩ : ∃ pg2 at2 e4, parseF (l.take (endF l T k) ++ 32 :: m) = (pg2, at2, e4) := ⟨_, _, _, rfl⟩
        have h5 := parse_spec ev hev (l.take (endF l T k) ++ 32 :: m)
        have h4 := read_spec (l.take (endF l T k) ++ 32 :: m)
        rw [hp2] at h5
        obtain ⟨o2, p2, e3, hr2⟩ : ∃ o2 p2 e3, readF (l.take (endF l T k) ++ 32 :: m) = (o2, p2, e3) := ⟨_, _, _, rfl⟩
        rw [hr2] at h4
        refine front_4 ev (B l) (B m) (by rw [B_size]; exact hl) (by rw [B_size]; exact hm) pg at_ hat.1 hat.2 h0 h1 T _ h2 k (List.getElem?_eq_some_iff.1 k1).1 hT (idx_spec at_ T hT k t k1 k2 k3) (endF l T k) (by rw [B_size]; exact k4) (fun t ht => by unfold endF; rw [ht]) (fun hn => by unfold endF; rw [hn, B_size]) _ (B_cut l m _) pg2 at2 e4 h5 o2 p2 e3 h4 (fun h => ?_)
        subst h
        obtain ⟨_, _, rfl⟩ := read_ok hr2
        have := k5 o2 hr2
        rw [hp2] at this
        simp only [Prod.mk.injEq] at this
        exact ⟨this.2.1, this.2.2⟩
      · have h2 := read_spec l
        rw [hq] at h2
        exact front_3 ev (B l) (B m) pg at_ hat.1 hat.2 h0 h1 [] p 2 (by decide) h2
      · have h2 := read_spec l
        rw [hq] at h2
        exact front_3 ev (B l) (B m) pg at_ hat.1 hat.2 h0 h1 [] p 10 (by decide) h2
    · exact front_2 ev (B l) (B m) pg at_ (by omega) h0 h1
  · exact front_1 ev (B l) (B m) pg at_ e (by simpa using he) h0 h1
end PA
