/-
  DERIVED. Contracts of the functions that the law reaches, and the law itself, for every input. No conditions.
-/
import Derived.Test.YtfikmccicklonaaTR2
open Go Go.AM Go.Proofs
set_option maxRecDepth 100000
namespace TR
theorem imax_nat (a b : Nat) : (if (a : Int) < (b : Int) then (b : Int) else (a : Int)) = ((max a b : Nat) : Int) := by
  split
  · rw [Nat.max_eq_right (by omega)]
  · rw [Nat.max_eq_left (by omega)]
theorem imax_nat' (a b : Nat) : imax (a : Int) (b : Int) = ((max a b : Nat) : Int) := imax_nat a b
mutual
def pdeepF : Pt → Nat
  | .mk _ _ _ xs => pdeepFs xs + 1
def pdeepFs : List Pt → Nat
  | [] => 0
  | p :: r => max (pdeepF p) (pdeepFs r)
end
mutual
def deepF : Ex → Nat
  | .mk _ _ _ _ _ xs ms _ => max (deepFs xs) (deepFa ms) + 1
def deepFs : List Ex → Nat
  | [] => 0
  | p :: r => max (deepF p) (deepFs r)
def deepFa : List Arm → Nat
  | [] => 0
  | .mk p e :: r => max (max (pdeepF p) (deepF e)) (deepFa r)
end
mutual
theorem pdeep_le : ∀ (p : Pt), pdeepF p ≤ psizeF p
  | .mk k n t xs => by rw [pdeepF, psizeF]; have := pdeeps_le xs; omega
theorem pdeeps_le : ∀ (l : List Pt), pdeepFs l ≤ psizeFs l
  | [] => by simp [pdeepFs]
  | p :: r => by have h1 := pdeep_le p; have h2 := pdeeps_le r; rw [pdeepFs, psizeFs]; omega
end
mutual
theorem deep_le : ∀ (p : Ex), deepF p ≤ sizeF p
  | .mk k n t ns ts xs ms p => by rw [deepF, sizeF]; have := deeps_le xs; have := deepa_le ms; omega
theorem deeps_le : ∀ (l : List Ex), deepFs l ≤ sizeFs l
  | [] => by simp [deepFs]
  | p :: r => by have h1 := deep_le p; have h2 := deeps_le r; rw [deepFs, sizeFs]; omega
theorem deepa_le : ∀ (l : List Arm), deepFa l ≤ sizeFa l
  | [] => by simp [deepFa]
  | .mk p e :: r => by have h1 := deep_le e; have h2 := deepa_le r; have h3 := pdeep_le p; rw [deepFa, sizeFa]; omega
end
theorem pdeepFs_snoc (l : List Pt) (p : Pt) : pdeepFs (l ++ [p]) = max (pdeepFs l) (pdeepF p) := by
  induction l with
  | nil => simp [pdeepFs]
  | cons a l ih => simp [pdeepFs, ih]
theorem deepFs_snoc (l : List Ex) (p : Ex) : deepFs (l ++ [p]) = max (deepFs l) (deepF p) := by
  induction l with
  | nil => simp [deepFs]
  | cons a l ih => simp [deepFs, ih]
theorem deepFa_snoc (l : List Arm) (p : Arm) : deepFa (l ++ [p]) = max (deepFa l) (max (pdeepF p.pat) (deepF p.body)) := by
  induction l with
  | nil => obtain ⟨p, e⟩ := p; simp [deepFa, Arm.pat, Arm.body]
  | cons a l ih => obtain ⟨q, e⟩ := a; simp [deepFa, ih]
theorem psizeFs_snoc (l : List Pt) (p : Pt) : psizeFs (l ++ [p]) = psizeFs l + psizeF p := by rw [psizeFs_app]; simp [psizeFs]
theorem sizeFs_snoc (l : List Ex) (p : Ex) : sizeFs (l ++ [p]) = sizeFs l + sizeF p := by rw [sizeFs_app]; simp [sizeFs]
theorem sizeFa_snoc (l : List Arm) (p : Arm) : sizeFa (l ++ [p]) = sizeFa l + (psizeF p.pat + sizeF p.body) := by rw [sizeFa_app]; obtain ⟨p, e⟩ := p; simp [sizeFa, Arm.pat, Arm.body]
theorem sizeFs_take (l : List Ex) (k : Nat) : sizeFs (l.take k) ≤ sizeFs l := by
  have := sizeFs_app (l.take k) (l.drop k)
  rw [List.take_append_drop] at this; omega
theorem sizeFa_take (l : List Arm) (k : Nat) : sizeFa (l.take k) ≤ sizeFa l := by
  have := sizeFa_app (l.take k) (l.drop k)
  rw [List.take_append_drop] at this; omega

/-- patSize -/
theorem patSize_spec (p : Pt) : wP p ≤ 1048576 → APure Try.prog 45 [.p (eP p)] (.p (.i .i64 (psizeF p))) := by
  induction p using Pt.ind with
  | h k0 n0 t0 as0 ih =>
  intro hw
  have hl := wP_lens k0 n0 t0 as0
  have hsz := psize_le (.mk k0 n0 t0 as0)
  rw [psizeF] at hsz ⊢
  refine APure.intro (tyOf_ok Try.prog) hmix Try.func45 rfl (by rfl) (by kernel_rfl) (by show 1 ≤ _; decide) rfl ?_
  conv => whnf
  refine loopS (tyOf_ok _) hmix (by kernel_rfl) as0.length [3, 7, 8, 9] [] (fun k (s : Int) => [.p (.i .i64 s), .p (.sl 4 (ePs as0)), .p (.i .i64 (ePs as0).length), .p (.i .i64 (ix k))]) (fun _ _ => []) (fun k s => s = 1 + psizeFs (as0.take k)) 1 ⟨rfl, rfl, rfl, rfl⟩ (by simp [psizeFs]) ?_
  intro k s hk hs
  conv => whnf
  refine asplit ?_ ?_ <;> intro h1 <;> conv => whnf
  · have hk1 := ix_tt h1 (by rw [ePs_len]) hk (by omega)
    obtain ⟨b, hb1⟩ : ∃ b, as0[k]? = some b := ⟨as0[k], by simp [hk1]⟩
    refine aidxk (ePs_get hb1) (by omega) ?_
    have hbw := wP_args (k := k0) (n := n0) (t := t0) (List.mem_of_getElem? hb1)
    have hc := ih b (List.mem_of_getElem? hb1) (by omega)
    have hts : psizeFs (as0.take (k + 1)) = psizeFs (as0.take k) + psizeF b := by rw [take_snoc hb1, psizeFs_snoc]
    have htl := psizeFs_le as0 (k + 1)
    generalize psizeF b = sb at hc hts
    obtain ⟨b1, b2, b3, b4⟩ := b
    conv => whnf
    refine apc hc ?_
    conv => whnf
    refine ⟨hk1, _, ⟨rfl, rfl, rfl, rfl⟩, ?_⟩
    rw [hs, hts, wrap64 (by omega) (by omega)]; omega
  · have hk1 := ix_ff h1 (by rw [ePs_len]) hk (by omega)
    exact .inl (pi (by rw [hs, hk1, List.take_length]; omega))

/-- patDeep -/
theorem patDeep_spec (p : Pt) : wP p ≤ 1048576 → APure Try.prog 47 [.p (eP p)] (.p (.i .i64 (pdeepF p))) := by
  induction p using Pt.ind with
  | h k0 n0 t0 as0 ih =>
  intro hw
  have hl := wP_lens k0 n0 t0 as0
  have hsz := psize_le (.mk k0 n0 t0 as0)
  have hdz := pdeep_le (.mk k0 n0 t0 as0)
  rw [psizeF] at hsz
  rw [pdeepF] at hdz ⊢
  refine APure.intro (tyOf_ok Try.prog) hmix Try.func47 rfl (by rfl) (by kernel_rfl) (by show 1 ≤ _; decide) rfl ?_
  conv => whnf
  refine loopS (tyOf_ok _) hmix (by kernel_rfl) as0.length [3, 7, 8, 9] [] (fun k (s : Int) => [.p (.i .i64 s), .p (.sl 4 (ePs as0)), .p (.i .i64 (ePs as0).length), .p (.i .i64 (ix k))]) (fun _ _ => []) (fun k s => s = pdeepFs (as0.take k)) 0 ⟨rfl, rfl, rfl, rfl⟩ (by simp [pdeepFs]) ?_
  intro k s hk hs
  conv => whnf
  refine asplit ?_ ?_ <;> intro h1 <;> conv => whnf
  · have hk1 := ix_tt h1 (by rw [ePs_len]) hk (by omega)
    obtain ⟨b, hb1⟩ : ∃ b, as0[k]? = some b := ⟨as0[k], by simp [hk1]⟩
    refine aidxk (ePs_get hb1) (by omega) ?_
    have hbw := wP_args (k := k0) (n := n0) (t := t0) (List.mem_of_getElem? hb1)
    have hc := ih b (List.mem_of_getElem? hb1) (by omega)
    have hts : pdeepFs (as0.take (k + 1)) = max (pdeepFs (as0.take k)) (pdeepF b) := by rw [take_snoc hb1, pdeepFs_snoc]
    generalize pdeepF b = sb at hc hts
    obtain ⟨b1, b2, b3, b4⟩ := b
    conv => whnf
    refine apc hc ?_
    conv => whnf
    refine ⟨hk1, _, ⟨rfl, rfl, rfl, rfl⟩, ?_⟩
    rw [hs, hts, imax_nat]
  · have hk1 := ix_ff h1 (by rw [ePs_len]) hk (by omega)
    have hs2 : s = pdeepFs as0 := by rw [hs, hk1, List.take_length]
    have := pdeeps_le as0
    exact .inl (pi (by rw [hs2, wrap64 (by omega) (by omega)]; omega))

/-- Size -/
theorem size_spec (e : Ex) : wE e ≤ 1048576 → APure Try.prog 26 [.p (eE e)] (.p (.i .i64 (sizeF e))) := by
  induction e using Ex.ind with
  | h k0 n0 t0 ns0 ts0 as0 ms0 p0 ih1 ih2 =>
  intro hw
  have hl := wE_lens k0 n0 t0 ns0 ts0 as0 ms0 p0
  have hsz := size_le (.mk k0 n0 t0 ns0 ts0 as0 ms0 p0)
  rw [sizeF] at hsz ⊢
  refine APure.intro (tyOf_ok Try.prog) hmix Try.func26 rfl (by rfl) (by kernel_rfl) (by show 1 ≤ _; decide) rfl ?_
  conv => whnf
  refine loopS (tyOf_ok _) hmix (by kernel_rfl) as0.length [1, 3, 9, 10, 11] [1] (fun k (s : Int) => [.ptr 1 0, .p (.i .i64 s), .p (.sl 8 (eEs as0)), .p (.i .i64 (eEs as0).length), .p (.i .i64 (ix k))]) (fun _ _ => [.cells [.p (.i .i64 k0), .p (.i .i64 n0), .p (.s t0), .p (.sl 1 (ns0.map eStr)), .p (.sl 3 (eTs ts0)), .p (.sl 8 (eEs as0)), .p (.sl 12 (eAs ms0)), .p (.i .i64 p0)]]) (fun k s => s = 1 + sizeFs (as0.take k)) 1 ⟨rfl, rfl, rfl, rfl⟩ (by simp [sizeFs]) ?_
  intro k s hk hs
  conv => whnf
  refine asplit ?_ ?_ <;> intro h1 <;> conv => whnf
  · have hk1 := ix_tt h1 (by rw [eEs_len]) hk (by omega)
    obtain ⟨b, hb1⟩ : ∃ b, as0[k]? = some b := ⟨as0[k], by simp [hk1]⟩
    refine aidxk (eEs_get hb1) (by omega) ?_
    have hbw := wE_args (k := k0) (n := n0) (t := t0) (ns := ns0) (ts := ts0) (ms := ms0) (p := p0) (List.mem_of_getElem? hb1)
    have hc := ih1 b (List.mem_of_getElem? hb1) (by omega)
    have hts : sizeFs (as0.take (k + 1)) = sizeFs (as0.take k) + sizeF b := by rw [take_snoc hb1, sizeFs_snoc]
    have htl := sizeFs_take as0 (k + 1)
    generalize sizeF b = sb at hc hts
    obtain ⟨b1, b2, b3, b4, b5, b6, b7, b8⟩ := b
    conv => whnf
    refine apc hc ?_
    conv => whnf
    refine ⟨hk1, _, ⟨rfl, rfl, rfl, rfl⟩, ?_⟩
    rw [hs, hts, wrap64 (by omega) (by omega)]; omega
  · have hk1 := ix_ff h1 (by rw [eEs_len]) hk (by omega)
    have hs2 : s = 1 + sizeFs as0 := by rw [hs, hk1, List.take_length]
    refine loopS (tyOf_ok _) hmix (by kernel_rfl) ms0.length [1, 3, 21, 22, 23] [1] (fun k (s : Int) => [.ptr 1 0, .p (.i .i64 s), .p (.sl 12 (eAs ms0)), .p (.i .i64 (eAs ms0).length), .p (.i .i64 (ix k))]) (fun _ _ => [.cells [.p (.i .i64 k0), .p (.i .i64 n0), .p (.s t0), .p (.sl 1 (ns0.map eStr)), .p (.sl 3 (eTs ts0)), .p (.sl 8 (eEs as0)), .p (.sl 12 (eAs ms0)), .p (.i .i64 p0)]]) (fun k s => s = 1 + sizeFs as0 + sizeFa (ms0.take k)) s ⟨rfl, rfl, rfl, rfl⟩ (by simp [sizeFa, hs2]) ?_
    intro j s3 hj hs3
    conv => whnf
    refine asplit ?_ ?_ <;> intro h2 <;> conv => whnf
    · have hj1 := ix_tt h2 (by rw [eAs_len]) hj (by omega)
      obtain ⟨b, hb1⟩ : ∃ b, ms0[j]? = some b := ⟨ms0[j], by simp [hj1]⟩
      refine aidxk (eAs_get hb1) (by omega) ?_
      have hbw := wE_body (k := k0) (n := n0) (t := t0) (ns := ns0) (ts := ts0) (xs := as0) (p := p0) (List.mem_of_getElem? hb1)
      have hc := ih2 b (List.mem_of_getElem? hb1) (by omega)
      have hp := patSize_spec b.pat (by omega)
      have hts : sizeFa (ms0.take (j + 1)) = sizeFa (ms0.take j) + (psizeF b.pat + sizeF b.body) := by rw [take_snoc hb1, sizeFa_snoc]
      have htl := sizeFa_take ms0 (j + 1)
      generalize sizeF b.body = sb at hc hts
      generalize psizeF b.pat = pb at hp hts
      obtain ⟨⟨ck, cn, ct, ca⟩, ⟨c1, c2, c3, c4, c5, c6, c7, c8⟩⟩ := b
      conv => whnf
      refine apc hp ?_
      conv => whnf
      refine apc hc ?_
      conv => whnf
      refine aneed (by kernel_rfl) ?_
      conv => whnf
      refine ⟨hj1, _, ⟨rfl, rfl, rfl, rfl⟩, ?_⟩
      rw [hs3, hts, wrap64 (x := (pb : Int) + sb) (by omega) (by omega), wrap64 (by omega) (by omega)]; omega
    · have hj1 := ix_ff h2 (by rw [eAs_len]) hj (by omega)
      have hs4 : s3 = 1 + sizeFs as0 + sizeFa ms0 := by rw [hs3, hj1, List.take_length]
      exact .inl (pi (by omega))

/-- Deep -/
theorem deep_spec (e : Ex) : wE e ≤ 1048576 → APure Try.prog 28 [.p (eE e)] (.p (.i .i64 (deepF e))) := by
  induction e using Ex.ind with
  | h k0 n0 t0 ns0 ts0 as0 ms0 p0 ih1 ih2 =>
  intro hw
  have hl := wE_lens k0 n0 t0 ns0 ts0 as0 ms0 p0
  have hsz := size_le (.mk k0 n0 t0 ns0 ts0 as0 ms0 p0)
  have hdz := deep_le (.mk k0 n0 t0 ns0 ts0 as0 ms0 p0)
  rw [deepF] at hdz ⊢
  refine APure.intro (tyOf_ok Try.prog) hmix Try.func28 rfl (by rfl) (by kernel_rfl) (by show 1 ≤ _; decide) rfl ?_
  conv => whnf
  refine loopS (tyOf_ok _) hmix (by kernel_rfl) as0.length [1, 3, 9, 10, 11] [1] (fun k (s : Int) => [.ptr 1 0, .p (.i .i64 s), .p (.sl 8 (eEs as0)), .p (.i .i64 (eEs as0).length), .p (.i .i64 (ix k))]) (fun _ _ => [.cells [.p (.i .i64 k0), .p (.i .i64 n0), .p (.s t0), .p (.sl 1 (ns0.map eStr)), .p (.sl 3 (eTs ts0)), .p (.sl 8 (eEs as0)), .p (.sl 12 (eAs ms0)), .p (.i .i64 p0)]]) (fun k s => s = deepFs (as0.take k)) 0 ⟨rfl, rfl, rfl, rfl⟩ (by simp [deepFs]) ?_
  intro k s hk hs
  conv => whnf
  refine asplit ?_ ?_ <;> intro h1 <;> conv => whnf
  · have hk1 := ix_tt h1 (by rw [eEs_len]) hk (by omega)
    obtain ⟨b, hb1⟩ : ∃ b, as0[k]? = some b := ⟨as0[k], by simp [hk1]⟩
    refine aidxk (eEs_get hb1) (by omega) ?_
    have hbw := wE_args (k := k0) (n := n0) (t := t0) (ns := ns0) (ts := ts0) (ms := ms0) (p := p0) (List.mem_of_getElem? hb1)
    have hc := ih1 b (List.mem_of_getElem? hb1) (by omega)
    have hts : deepFs (as0.take (k + 1)) = max (deepFs (as0.take k)) (deepF b) := by rw [take_snoc hb1, deepFs_snoc]
    generalize deepF b = sb at hc hts
    obtain ⟨b1, b2, b3, b4, b5, b6, b7, b8⟩ := b
    conv => whnf
    refine apc hc ?_
    conv => whnf
    refine ⟨hk1, _, ⟨rfl, rfl, rfl, rfl⟩, ?_⟩
    rw [hs, hts, imax_nat]
  · have hk1 := ix_ff h1 (by rw [eEs_len]) hk (by omega)
    have hs2 : s = deepFs as0 := by rw [hs, hk1, List.take_length]
    refine loopS (tyOf_ok _) hmix (by kernel_rfl) ms0.length [1, 3, 21, 22, 23] [1] (fun k (s : Int) => [.ptr 1 0, .p (.i .i64 s), .p (.sl 12 (eAs ms0)), .p (.i .i64 (eAs ms0).length), .p (.i .i64 (ix k))]) (fun _ _ => [.cells [.p (.i .i64 k0), .p (.i .i64 n0), .p (.s t0), .p (.sl 1 (ns0.map eStr)), .p (.sl 3 (eTs ts0)), .p (.sl 8 (eEs as0)), .p (.sl 12 (eAs ms0)), .p (.i .i64 p0)]]) (fun k s => s = ((max (deepFs as0) (deepFa (ms0.take k)) : Nat) : Int)) s ⟨rfl, rfl, rfl, rfl⟩ (by simp [deepFa, hs2]) ?_
    intro j s3 hj hs3
    conv => whnf
    refine asplit ?_ ?_ <;> intro h2 <;> conv => whnf
    · have hj1 := ix_tt h2 (by rw [eAs_len]) hj (by omega)
      obtain ⟨b, hb1⟩ : ∃ b, ms0[j]? = some b := ⟨ms0[j], by simp [hj1]⟩
      refine aidxk (eAs_get hb1) (by omega) ?_
      have hbw := wE_body (k := k0) (n := n0) (t := t0) (ns := ns0) (ts := ts0) (xs := as0) (p := p0) (List.mem_of_getElem? hb1)
      have hc := ih2 b (List.mem_of_getElem? hb1) (by omega)
      have hp := patDeep_spec b.pat (by omega)
      have hts : deepFa (ms0.take (j + 1)) = max (deepFa (ms0.take j)) (max (pdeepF b.pat) (deepF b.body)) := by rw [take_snoc hb1, deepFa_snoc]
      generalize deepF b.body = sb at hc hts
      generalize pdeepF b.pat = pb at hp hts
      obtain ⟨⟨ck, cn, ct, ca⟩, ⟨c1, c2, c3, c4, c5, c6, c7, c8⟩⟩ := b
      conv => whnf
      refine apc hp ?_
      conv => whnf
      refine apc hc ?_
      conv => whnf
      refine aneed (by kernel_rfl) ?_
      conv => whnf
      refine ⟨hj1, _, ⟨rfl, rfl, rfl, rfl⟩, ?_⟩
      rw [hs3, hts, imax_nat', imax_nat', Nat.max_assoc, Nat.max_assoc]
    · have hj1 := ix_ff h2 (by rw [eAs_len]) hj (by omega)
      have hs4 : s3 = ((max (deepFs as0) (deepFa ms0) : Nat) : Int) := by rw [hs3, hj1, List.take_length]
      exact .inl (pi (by rw [hs4, wrap64 (by omega) (by omega)]; omega))
end TR
