/-
  DERIVED. Contracts of functions that the law reaches, and the law, for every input. No conditions.
-/
import Derived.Test.YtcgaadhbnckjbaaUX4
import Derived.Test.YtcgaadhbnckjbaaUX5
open Go Go.AM Go.Proofs
set_option maxRecDepth 100000
namespace KK
/-! pairs; fair -/
abbrev TP2 := Ty × Ty
def eP (p : TP2) : PV := .agg ((eT p.1).cells ++ (eT p.2).cells)
theorem sumP_mem : ∀ {l : List TP2} {p : TP2}, p ∈ l → nodes p.1 + nodes p.2 ≤ sumP l
  | [], _, h => by cases h
  | q :: r, p, h => by
    rw [sumP]
    rcases List.mem_cons.1 h with rfl | h
    · omega
    · have := sumP_mem h; omega
theorem sumP_app : ∀ (l r : List TP2), sumP (l ++ r) = sumP l + sumP r
  | [], r => by simp [sumP]
  | q :: l, r => by rw [List.cons_append, sumP, sumP, sumP_app l r]; omega
theorem sumP_len : ∀ (l : List TP2), l.length ≤ sumP l
  | [] => Nat.le_refl _
  | p :: r => by have := sumP_len r; have := nodes_pos p.1; rw [sumP]; simp; omega
def fairF : List TP2 → Nat → Bool
  | [], n => decide ((n : Int) ≤ 120)
  | p :: r, n => bif !pureF p.1 then false else bif !pureF p.2 then false else fairF r (n + (nodes p.1 + nodes p.2))
theorem fair_of : ∀ {l : List TP2} {n : Nat}, fairF l n = true → (∀ p ∈ l, pureP p) ∧ n + sumP l ≤ 120
  | [], n, h => by
    rw [fairF] at h
    have := of_decide_eq_true h
    exact ⟨by simp, by rw [sumP]; omega⟩
  | p :: r, n, h => by
    rw [fairF] at h
    cases h1 : pureF p.1 with
    | false => rw [h1] at h; cases h
    | true =>
      rw [h1] at h
      cases h2 : pureF p.2 with
      | false => rw [h2] at h; cases h
      | true =>
        rw [h2] at h
        have h : fairF r (n + (nodes p.1 + nodes p.2)) = true := h
        obtain ⟨h3, h4⟩ := fair_of h
        refine ⟨fun q hq => ?_, by rw [sumP]; omega⟩
        rcases List.mem_cons.1 hq with rfl | hq
        · exact ⟨h1, h2⟩
        · exact h3 q hq
theorem eP_get {ps : List TP2} {k : Nat} {p : TP2} (h : ps[k]? = some p) : (ps.map eP)[k]? = some (eP p) := by rw [List.getElem?_map, h]; rfl
theorem fair_spec (ps : List TP2) (hs : sumP ps ≤ 1099511627776) : APure Try.prog 6 [.p (.sl 6 (ps.map eP))] (.p (.b (fairF ps 0))) := by
  have hl := sumP_len ps
  generalize hR : fairF ps 0 = R
  refine APure.intro (tyOf_ok Try.prog) hmix Try.func6 rfl (by rfl) (by kernel_rfl) (by show 1 ≤ _; decide) rfl ?_
  conv => whnf
  refine loopS (tyOf_ok _) hmix (by kernel_rfl) ps.length [3, 10, 11, 12] [] (fun k (s : Nat) => [.p (.i .i64 (s : Int)), .p (.sl 6 (ps.map eP)), .p (.i .i64 (ps.map eP).length), .p (.i .i64 (ix k))]) (fun _ _ => []) (fun k s => fairF (ps.drop k) s = R ∧ s + sumP (ps.drop k) = sumP ps) 0 ⟨rfl, rfl, rfl, rfl⟩ ⟨hR, by simp⟩ ?_
  rintro k s hk ⟨hs1, hs2⟩
  conv => whnf
  refine asplit ?_ ?_ <;> intro h1 <;> conv => whnf
  · have hk1 := ix_tt h1 (by rw [List.length_map]) hk (by omega)
    obtain ⟨b, hb⟩ : ∃ b, ps[k]? = some b := ⟨_, List.getElem?_eq_getElem hk1⟩
    have hmem := sumP_mem (List.mem_of_getElem? hb)
    rw [drop_cons hb, fairF] at hs1
    rw [drop_cons hb, sumP] at hs2
    have c1 := pure_spec b.1 (okT_of_nodes _ (by omega))
    have c2 := pure_spec b.2 (okT_of_nodes _ (by omega))
    unfold PureS at c1 c2
    have c3 := span_spec b.1 (by omega)
    have c4 := span_spec b.2 (by omega)
    refine aidxk (eP_get hb) (by omega) ?_
    generalize nodes b.1 = n1 at *
    generalize nodes b.2 = n2 at *
    generalize hgt b.1 = g1 at *
    generalize hgt b.2 = g2 at *
    generalize pureF b.1 = q1 at *
    generalize pureF b.2 = q2 at *
    obtain ⟨⟨ak, an, ax⟩, bk, bn, bx⟩ := b
    conv => whnf
    refine aneed (by decide) ?_
    conv => whnf
    refine apc c1 ?_
    conv => whnf
    cases q1 with
    | false =>
      conv => whnf
      exact .inl (pb hs1)
    | true =>
      conv => whnf
      refine aneed (by decide) ?_
      conv => whnf
      refine apc c2 ?_
      conv => whnf
      cases q2 with
      | false =>
        conv => whnf
        exact .inl (pb hs1)
      | true =>
        conv => whnf
        refine aneed (by decide) ?_
        conv => whnf
        refine apc c3 ?_
        conv => whnf
        refine aneed (by decide) ?_
        conv => whnf
        refine apc c4 ?_
        conv => whnf
        refine ⟨hk1, s + (n1 + n2), ⟨rfl, ?_, rfl, rfl⟩, hs1, by omega⟩
        show [AV.p (.i .i64 (IntKind.i64.wrap ((s : Int) + IntKind.i64.wrap ((n1 : Int) + (n2 : Int))))), _, _, _] = _
        rw [add64 (by omega), add64 (by omega)]
        rfl
  · have hk1 := ix_ff h1 (by rw [List.length_map]) hk (by omega)
    rw [hk1, List.drop_length, fairF] at hs1
    exact .inl (pb hs1)
end KK
open Go Go.AM Go.Proofs
set_option maxRecDepth 100000
namespace KK
/-! Apply, SameType, with a list of bindings -/
theorem okTs_of' : ∀ {l : List Ty}, (∀ t ∈ l, okT t) → okTs l
  | [], _ => trivial
  | t :: r, h => ⟨h t (by simp), okTs_of' (fun d hd => h d (by simp [hd]))⟩
theorem eB_get {l : TM} {k : Nat} {p : ByteArray × Ty} (h : l[k]? = some p) : (l.map eB)[k]? = some (eB p) := by rw [List.getElem?_map, h]; rfl
def applyF (l : TM) (t : Ty) : Ty := putF (l.map (·.1)) (l.map (·.2)) t
theorem apply_spec (l : TM) (hl : l.length ≤ 1000000000) (hol : ∀ p ∈ l, okT p.2) (t : Ty) (ht : okT t) : APure Try.prog 9 [.p (.sl 4 (l.map eB)), .p (eT t)] (.p (eT (applyF l t))) := by
  have hc := put_spec (l.map (·.1)) (l.map (·.2)) (by simp; omega) (by simp; omega) (okTs_of' (fun t h => by
    obtain ⟨p, hp, rfl⟩ := List.mem_map.1 h
    exact hol p hp)) t ht
  unfold applyF
  obtain ⟨tk, tn, tx⟩ := t
  generalize hR : putF (l.map (·.1)) (l.map (·.2)) (.mk tk tn tx) = R at hc ⊢
  obtain ⟨rk, rn, rx⟩ := R
  refine APure.intro (tyOf_ok Try.prog) hmix Try.func9 rfl (by rfl) (by kernel_rfl) (by show 2 ≤ _; decide) rfl ?_
  conv => whnf
  refine lp_nil 5 0 rfl ?_
  refine lp_nil 6 2 rfl ?_
  refine loopS (tyOf_ok _) hmix (by kernel_rfl) l.length [3, 4, 5, 6, 9, 10, 11] [3, 4] (fun k (_ : Unit) => [.ptr 3 0, .ptr 4 0, .so 1 (((l.take k).map (·.1)).map eStr), .so 3 (eTs ((l.take k).map (·.2))), .p (.sl 4 (l.map eB)), .p (.i .i64 (l.map eB).length), .p (.i .i64 (ix k))]) (fun _ _ => [.cells [.p (.i .i64 tk), .p (.s tn), .p (.sl 3 (eTs tx))], .cells [.p (.i .i64 0), .p (.s ⟨#[]⟩), .nilS]]) (fun k _ => True) () ⟨rfl, rfl, rfl, rfl⟩ trivial ?_
  rintro k _ hk -
  conv => whnf
  refine asplit ?_ ?_ <;> intro h1 <;> conv => whnf
  · have hk1 := ix_tt h1 (by rw [List.length_map]) hk (by omega)
    obtain ⟨b, hb⟩ : ∃ b, l[k]? = some b := ⟨_, List.getElem?_eq_getElem hk1⟩
    refine aidxk (eB_get hb) (by omega) ?_
    have hts := take_snoc hb
    obtain ⟨bn, ck, cn, cx⟩ := b
    have e1 : ((l.take (k + 1)).map (·.1)).map eStr = ((l.take k).map (·.1)).map eStr ++ [.s bn] := by rw [hts, List.map_append, List.map_append]; rfl
    have e2 : eTs ((l.take (k + 1)).map (·.2)) = eTs ((l.take k).map (·.2)) ++ [eT (.mk ck cn cx)] := by rw [hts, List.map_append, eTs_map, eTs_map, List.map_append]; rfl
    conv => whnf
    refine aneed (show ((((l.take k).map (·.1)).map eStr).length + 1) * 16 ≤ 140737488355328 by simp; omega) ?_
    conv => whnf
    refine aneed (show ((eTs ((l.take k).map (·.2))).length + 1) * 48 ≤ 140737488355328 by rw [eTs_len]; simp; omega) ?_
    conv => whnf
    refine aneed (by kernel_rfl) ?_
    conv => whnf
    refine ⟨hk1, (), ⟨rfl, ?_, rfl, rfl⟩, trivial⟩
    rw [e1, e2]
    rfl
  · have hk1 := ix_ff h1 (by rw [List.length_map]) hk (by omega)
    subst hk1
    rw [List.take_length]
    refine apc hc ?_
    conv => whnf
    exact .inl rfl
end KK
