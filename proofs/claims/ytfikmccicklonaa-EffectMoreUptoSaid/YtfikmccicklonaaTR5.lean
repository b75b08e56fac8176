/-
  DERIVED. Contracts of the functions that the law reaches, and the law itself, for every input. No conditions.
-/
import Derived.Test.YtfikmccicklonaaTR4
open Go Go.AM Go.Proofs
set_option maxRecDepth 100000
namespace TR
/-- Needs -/
def needsF (k n : Int) (len : Nat) : Int :=
  bif k == 1 || (k == 2 || (k == 3 || (k == 4 || (k == 5 || k == 16)))) then 0 else
  bif k == 10 || (k == 13 || (k == 19 || (k == 20 || (k == 21 || (k == 22 || (k == 24 || k == 25)))))) then 1 else
  bif k == 6 || (k == 15 || k == 23) then 2 else
  bif k == 7 then 3 else
  bif k == 18 then (bif decide (n ≥ 0) then 1 else 0) else
  bif k == 8 || (k == 9 || (k == 12 || (k == 14 || k == 17))) then len else
  bif k == 11 then (if (len : Int) < 1 then 1 else len) else -1
theorem needs_spec (e : Ex) : APure Try.prog 64 [.p (eE e)] (.p (.i .i64 (needsF e.kind e.num e.args.length))) := by
  obtain ⟨k0, n0, t0, ns0, ts0, as0, ms0, p0⟩ := e
  simp only [Ex.kind, Ex.num, Ex.args]
  refine APure.intro (tyOf_ok Try.prog) hmix Try.func64 rfl (by rfl) (by kernel_rfl) (by show 1 ≤ _; decide) rfl ?_
  by_cases hr : 1 ≤ k0 ∧ k0 ≤ 25
  · obtain rfl | rfl | rfl | rfl | rfl | rfl | rfl | rfl | rfl | rfl | rfl | rfl | rfl | rfl | rfl | rfl | rfl | rfl | rfl | rfl | rfl | rfl | rfl | rfl | rfl : k0 = 1 ∨ k0 = 2 ∨ k0 = 3 ∨ k0 = 4 ∨ k0 = 5 ∨ k0 = 6 ∨ k0 = 7 ∨ k0 = 8 ∨ k0 = 9 ∨ k0 = 10 ∨ k0 = 11 ∨ k0 = 12 ∨ k0 = 13 ∨ k0 = 14 ∨ k0 = 15 ∨ k0 = 16 ∨ k0 = 17 ∨ k0 = 18 ∨ k0 = 19 ∨ k0 = 20 ∨ k0 = 21 ∨ k0 = 22 ∨ k0 = 23 ∨ k0 = 24 ∨ k0 = 25 := by omega
    · conv => whnf
      exact .inl rfl
    · conv => whnf
      exact .inl rfl
    · conv => whnf
      exact .inl rfl
    · conv => whnf
      exact .inl rfl
    · conv => whnf
      exact .inl rfl
    · conv => whnf
      exact .inl rfl
    · conv => whnf
      exact .inl rfl
    · conv => whnf
      exact .inl (pi (by rw [eEs_len]; rfl))
    · conv => whnf
      exact .inl (pi (by rw [eEs_len]; rfl))
    · conv => whnf
      exact .inl rfl
    · conv => whnf
      exact .inl (pi (by rw [eEs_len]; rfl))
    · conv => whnf
      exact .inl (pi (by rw [eEs_len]; rfl))
    · conv => whnf
      exact .inl rfl
    · conv => whnf
      exact .inl (pi (by rw [eEs_len]; rfl))
    · conv => whnf
      exact .inl rfl
    · conv => whnf
      exact .inl rfl
    · conv => whnf
      exact .inl (pi (by rw [eEs_len]; rfl))
    · conv => whnf
      refine asplit ?_ ?_ <;> intro h <;> conv => whnf
      · exact .inl (pi (by show _ = (bif decide (n0 ≥ 0) then (1 : Int) else 0); rw [h]; rfl))
      · exact .inl (pi (by show _ = (bif decide (n0 ≥ 0) then (1 : Int) else 0); rw [h]; rfl))
    · conv => whnf
      exact .inl rfl
    · conv => whnf
      exact .inl rfl
    · conv => whnf
      exact .inl rfl
    · conv => whnf
      exact .inl rfl
    · conv => whnf
      exact .inl rfl
    · conv => whnf
      exact .inl rfl
    · conv => whnf
      exact .inl rfl
  · have hb : ∀ c : Int, 1 ≤ c → c ≤ 25 → (k0 == c) = false := fun c h1 h2 => by simp; omega
    conv => whnf
    iterate 25 (refine asf (hb _ (by decide) (by decide)) ?_; conv => whnf)
    exact .inl (pi (by rw [needsF]; simp only [hb 1 (by decide) (by decide), hb 2 (by decide) (by decide), hb 3 (by decide) (by decide), hb 4 (by decide) (by decide), hb 5 (by decide) (by decide), hb 6 (by decide) (by decide), hb 7 (by decide) (by decide), hb 8 (by decide) (by decide), hb 9 (by decide) (by decide), hb 10 (by decide) (by decide), hb 11 (by decide) (by decide), hb 12 (by decide) (by decide), hb 13 (by decide) (by decide), hb 14 (by decide) (by decide), hb 15 (by decide) (by decide), hb 16 (by decide) (by decide), hb 17 (by decide) (by decide), hb 18 (by decide) (by decide), hb 19 (by decide) (by decide), hb 20 (by decide) (by decide), hb 21 (by decide) (by decide), hb 22 (by decide) (by decide), hb 23 (by decide) (by decide), hb 24 (by decide) (by decide), hb 25 (by decide) (by decide), Bool.or_self, cond_false]))
mutual
def boundF : Pt → List ByteArray
  | .mk k _ t xs => bif k == 2 then [t] else bif k == 6 then boundFs xs else []
def boundFs : List Pt → List ByteArray
  | [] => []
  | p :: r => boundF p ++ boundFs r
end
theorem boundFs_app (l r : List Pt) : boundFs (l ++ r) = boundFs l ++ boundFs r := by
  induction l with
  | nil => simp [boundFs]
  | cons a l ih => simp [boundFs, ih]
theorem boundFs_snoc (l : List Pt) (p : Pt) : boundFs (l ++ [p]) = boundFs l ++ boundF p := by rw [boundFs_app]; simp [boundFs]
mutual
theorem bound_le : ∀ (p : Pt), (boundF p).length ≤ wP p
  | .mk k n t xs => by
    rw [boundF, wP_mk]
    have := bounds_le xs
    cases k == 2 <;> cases k == 6 <;> simp <;> omega
theorem bounds_le : ∀ (l : List Pt), (boundFs l).length ≤ PV.wts (ePs l)
  | [] => by simp [boundFs]
  | p :: r => by have h1 := bound_le p; have h2 := bounds_le r; unfold wP at h1; simp only [boundFs, ePs, PV.wts, List.length_append]; omega
end
theorem boundFs_take (l : List Pt) (k : Nat) : (boundFs (l.take k)).length ≤ (boundFs l).length := by
  have := boundFs_app (l.take k) (l.drop k)
  rw [List.take_append_drop] at this; rw [this]; simp
theorem bound_spec (p : Pt) : wP p ≤ 1048640 → APure Try.prog 66 [.p (eP p)] (.p (.sl 1 ((boundF p).map eStr))) := by
  induction p using Pt.ind with
  | h k0 n0 t0 as0 ih =>
  intro hw
  have hl := wP_lens k0 n0 t0 as0
  have hbl := bounds_le as0
  have hwm := wP_mk k0 n0 t0 as0
  rw [boundF]
  refine APure.intro (tyOf_ok Try.prog) hmix Try.func66 rfl (by rfl) (by kernel_rfl) (by show 1 ≤ _; decide) rfl ?_
  conv => whnf
  refine asplit ?_ ?_ <;> intro h1 <;> conv => whnf
  · have h1 : (k0 == 2) = true := h1
    rw [h1]
    exact .inr (.inl rfl)
  have h1 : (k0 == 2) = false := h1
  rw [h1]
  refine asplit ?_ ?_ <;> intro h2 <;> conv => whnf
  · have h2 : (k0 == 6) = true := h2
    rw [h2]
    refine lp_nil 3 0 rfl ?_
    refine loopS (tyOf_ok _) hmix (by kernel_rfl) as0.length [3, 16, 17, 18] [] (fun k (s : List ByteArray) => [.so 1 (s.map eStr), .p (.sl 4 (ePs as0)), .p (.i .i64 (ePs as0).length), .p (.i .i64 (ix k))]) (fun _ _ => []) (fun k s => s = boundFs (as0.take k)) [] ⟨rfl, rfl, rfl, rfl⟩ (by simp [boundFs]) ?_
    intro k s hk hs
    conv => whnf
    refine asplit ?_ ?_ <;> intro h3 <;> conv => whnf
    · have hk1 := ix_tt h3 (by rw [ePs_len]) hk (by omega)
      obtain ⟨b, hb1⟩ : ∃ b, as0[k]? = some b := ⟨as0[k], by simp [hk1]⟩
      refine aidxk (ePs_get hb1) (by omega) ?_
      have hbw := wP_args (k := k0) (n := n0) (t := t0) (List.mem_of_getElem? hb1)
      have hc := ih b (List.mem_of_getElem? hb1) (by omega)
      have hts : boundFs (as0.take (k + 1)) = boundFs (as0.take k) ++ boundF b := by rw [take_snoc hb1, boundFs_snoc]
      have htl := boundFs_take as0 (k + 1)
      rw [hts, ← hs, List.length_append] at htl
      generalize boundF b = sb at hc hts htl
      obtain ⟨b1, b2, b3, b4⟩ := b
      conv => whnf
      refine apc hc ?_
      conv => whnf
      refine aneed (show ((s.map eStr).length + (sb.map eStr).length) * 16 ≤ 140737488355328 by simp; omega) ?_
      conv => whnf
      refine ⟨hk1, s ++ sb, ⟨rfl, ?_, rfl, rfl⟩, by rw [hs, hts]⟩
      rw [List.map_append]; rfl
    · have hk1 := ix_ff h3 (by rw [ePs_len]) hk (by omega)
      have hs2 : s = boundFs as0 := by rw [hs, hk1, List.take_length]
      subst hs2
      exact .inr (.inl rfl)
  · have h2 : (k0 == 6) = false := h2
    rw [h2]
    exact .inr (.inl rfl)

/-! the finder -/
structure St where
  seen : List (ByteArray × Bool)
  bound : List (ByteArray × Int)
  out : List ByteArray
def incF (m : List (ByteArray × Int)) (s : ByteArray) : List (ByteArray × Int) := sput s (IntKind.i64.wrap ((slook s m).getD 0 + 1)) m
def decF (m : List (ByteArray × Int)) (s : ByteArray) : List (ByteArray × Int) := sput s (IntKind.i64.wrap ((slook s m).getD 0 - 1)) m
def St.inc (σ : St) (ns : List ByteArray) : St := { σ with bound := ns.foldl incF σ.bound }
def St.dec (σ : St) (ns : List ByteArray) : St := { σ with bound := ns.foldl decF σ.bound }
def varF (t : ByteArray) (σ : St) : St := bif ((slook t σ.bound).getD 0 == 0) && !((slook t σ.seen).getD false) then ⟨sput t true σ.seen, σ.bound, σ.out ++ [t]⟩ else σ
mutual
def visitF : Ex → St → St
  | .mk k n t ns _ xs ms _, σ => bif decide (needsF k n xs.length < 0) then σ else bif decide ((xs.length : Int) < needsF k n xs.length) then visitFn xs.length xs σ else
      let σ1 := bif k == 5 then varF t σ else bif k == 6 then letFs t xs σ else bif k == 10 then funFs ns xs σ else visitFn (needsF k n xs.length).toNat xs σ
      bif k == 13 || k == 18 then armFs ms σ1 else σ1
def visitFn : Nat → List Ex → St → St
  | _, [], σ => σ
  | 0, _, σ => σ
  | n + 1, e :: r, σ => visitFn n r (visitF e σ)
def letFs (t : ByteArray) : List Ex → St → St
  | a :: b :: _, σ => (visitF b ((visitF a σ).inc [t])).dec [t]
  | _, σ => σ
def funFs (ns : List ByteArray) : List Ex → St → St
  | a :: _, σ => (visitF a (σ.inc ns)).dec ns
  | _, σ => σ
def armFs : List Arm → St → St
  | [], σ => σ
  | .mk p e :: r, σ => armFs r ((visitF e (σ.inc (boundF p))).dec (boundF p))
end
def underF (ns : List ByteArray) (e : Ex) (σ : St) : St := (visitF e (σ.inc ns)).dec ns

def hpS (σ : St) : Heap := [(1000000000, .cells [.mp 1000000001, .mp 1000000002, .so 1 (σ.out.map eStr)]), (1000000001, .map .ks (eM vB σ.seen)), (1000000002, .map .ks (eM vI σ.bound))]
def VisitS (e : Ex) : Prop := ∀ σ : St, σ.out.length + wE e ≤ 2097152 →
  AMem Try.prog 42 [.ptr 1000000000 0, .p (eE e)] (hpS σ) (.tup []) (hpS (visitF e σ))
def UnderS (ns : List ByteArray) (e : Ex) : Prop := ∀ σ : St, σ.out.length + wE e ≤ 2097152 →
  AMem Try.prog 65 [.ptr 1000000000 0, .p (.sl 1 (ns.map eStr)), .p (eE e)] (hpS σ) (.tup []) (hpS (underF ns e σ))
theorem under_of (ns : List ByteArray) (e : Ex) (hn : ns.length ≤ 1048640) (ih : VisitS e) : UnderS ns e := by
  intro σ hσ
  have hv := ih (σ.inc ns) hσ
  have hu : underF ns e σ = (visitF e (σ.inc ns)).dec ns := rfl
  rw [hu]
  generalize visitF e (σ.inc ns) = σ2 at hv
  obtain ⟨se, bo, ou⟩ := σ
  obtain ⟨se2, bo2, ou2⟩ := σ2
  obtain ⟨k0, n0, t0, ns0, ts0, as0, ms0, p0⟩ := e
  simp only [hpS, St.inc, St.dec] at hv ⊢
  refine AMem.intro (tyOf_ok Try.prog) hmix Try.func65 rfl (by rfl) (by kernel_rfl) (by show 3 ≤ _; decide) rfl ?_
  conv => whnf
  refine loopS (tyOf_ok _) hmix (by kernel_rfl) ns.length [0, 1, 5, 10, 11, 12] [1000000000, 1000000001, 1000000002, 5] (fun k (m : List (ByteArray × Int)) => [.ptr 1000000000 0, .p (.sl 1 (ns.map eStr)), .ptr 5 0, .p (.sl 1 (ns.map eStr)), .p (.i .i64 (ns.map eStr).length), .p (.i .i64 (ix k))])
    (fun k m => [.cells [.mp 1000000001, .mp 1000000002, .so 1 (ou.map eStr)], .map .ks (eM vB se), .map .ks (eM vI m), .cells [.p (.i .i64 k0), .p (.i .i64 n0), .p (.s t0), .p (.sl 1 (ns0.map eStr)), .p (.sl 3 (eTs ts0)), .p (.sl 8 (eEs as0)), .p (.sl 12 (eAs ms0)), .p (.i .i64 p0)]])
    (fun k m => m = (ns.take k).foldl incF bo) bo ⟨rfl, rfl, rfl, rfl⟩ rfl ?_
  intro k m hk hm
  conv => whnf
  refine asplit ?_ ?_ <;> intro h1 <;> conv => whnf
  · have hk1 := ix_tt h1 (by simp) hk (by omega)
    obtain ⟨b, hb1⟩ : ∃ b, ns[k]? = some b := ⟨ns[k], by simp [hk1]⟩
    refine aidxk (x := eStr b) (by simp [hb1]) (by omega) ?_
    conv => whnf
    refine alook (mlook_I b m) ?_
    conv => whnf
    refine ⟨hk1, incF m b, ⟨by rw [incF, ← mput_eM]; rfl, rfl, rfl, rfl⟩, ?_⟩
    rw [take_snoc hb1, List.foldl_append, ← hm]; rfl
  · have hk1 := ix_ff h1 (by simp) hk (by omega)
    have hm2 : m = ns.foldl incF bo := by rw [hm, hk1, List.take_length]
    subst hm2
    refine amc [1000000000, 1000000001, 1000000002] 10000 hv ?_
    conv => whnf
    refine loopS (tyOf_ok _) hmix (by kernel_rfl) ns.length [0, 27, 28, 29] [1000000000, 1000000001, 1000000002] (fun k (m : List (ByteArray × Int)) => [.ptr 1000000000 0, .p (.sl 1 (ns.map eStr)), .p (.i .i64 (ns.map eStr).length), .p (.i .i64 (ix k))])
      (fun k m => [.cells [.mp 1000000001, .mp 1000000002, .so 1 (ou2.map eStr)], .map .ks (eM vB se2), .map .ks (eM vI m)])
      (fun k m => m = (ns.take k).foldl decF bo2) bo2 ⟨rfl, rfl, rfl, rfl⟩ rfl ?_
    intro j m3 hj hm3
    conv => whnf
    refine asplit ?_ ?_ <;> intro h2 <;> conv => whnf
    · have hj1 := ix_tt h2 (by simp) hj (by omega)
      obtain ⟨b, hb1⟩ : ∃ b, ns[j]? = some b := ⟨ns[j], by simp [hj1]⟩
      refine aidxk (x := eStr b) (by simp [hb1]) (by omega) ?_
      conv => whnf
      refine alook (mlook_I b m3) ?_
      conv => whnf
      refine ⟨hj1, decF m3 b, ⟨by rw [decF, ← mput_eM]; rfl, rfl, rfl, rfl⟩, ?_⟩
      rw [take_snoc hb1, List.foldl_append, ← hm3]; rfl
    · have hj1 := ix_ff h2 (by simp) hj (by omega)
      have hm4 : m3 = ns.foldl decF bo2 := by rw [hm3, hj1, List.take_length]
      subst hm4
      exact ⟨.inl rfl, ⟨.inl rfl, .inl rfl, .inl rfl, trivial⟩, ⟨rfl, rfl⟩, ⟨rfl, rfl⟩, trivial⟩
end TR
