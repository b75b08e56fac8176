/-
  DERIVED. Contracts of the functions that the law reaches, and the law itself, for every input. No conditions.
-/
import Derived.Test.YtfgngbamdnaihaaK4
import Derived.Test.YtfgngbamdnaihaaAMRow
import Derived.Test.YtfgngbamdnaihaaRows
import Derived.ProofKit
import Derived.SizedLaws
import Derived.ChangeBears2
import Derived.OpenShut
namespace Go.Proofs.Ytfgngbamdnaihaa
open Go Go.AM Go.Proofs KK

theorem Try.own : ownKnob Try.prog.godebug = none := by kernel_rfl

theorem dec_str (y : PV) (h : TP Try.prog 9 [y]) : ∃ d, y = eStr d ∧ True := by
  obtain ⟨s, e, _⟩ := tp_str (by kernel_rfl) h
  cases e; exact ⟨s, rfl, trivial⟩

theorem okTs_of : ∀ (l : List Ty), (∀ t ∈ l, okT t) → okTs l
  | [], _ => trivial
  | t :: r, h => ⟨h t (by simp), okTs_of r (fun d hd => h d (by simp [hd]))⟩

theorem dec_ty : ∀ (n : Nat) (cs : List PV), SizeOf.sizeOf cs < n → TP Try.prog 36 cs → ∃ t, PV.agg cs = eT t ∧ okT t
  | 0, cs, hn, _ => by omega
  | n + 1, cs, hn, h => by
    obtain ⟨hl, hf⟩ := tp_struct (n := 3) (l := [(0, 3, 1), (1, 9, 1), (2, 34, 1)]) (by kernel_rfl) h
    match cs, hl with
    | [a, b, c], _ =>
      obtain ⟨k, e1, _⟩ := tp_int (k := .i64) (by kernel_rfl) (hf (0, 3, 1) (by simp))
      obtain ⟨s, e2, _⟩ := tp_str (by kernel_rfl) (hf (1, 9, 1) (by simp))
      obtain ⟨xs, e3, hb, hc, ha⟩ := tp_slice (e := 36) (c := 3) (b := 48) (agg := true) (by kernel_rfl) (hf (2, 34, 1) (by simp))
      cases e1; cases e2; cases e3
      obtain ⟨l, rfl, hq⟩ := list_map (enc := eT) (Q := okT) xs (fun y hy => by
        obtain ⟨ys, rfl⟩ := (ha y hy).1 rfl
        have h1 := List.sizeOf_lt_of_mem hy
        exact dec_ty n ys (by simp at hn h1; omega) (hc _ hy))
      exact ⟨.mk k s l, by rw [eT, eTs_map], by have := hb; simp at this; omega, okTs_of l hq⟩

theorem dec_tys (x : List PV) (h : TP Try.prog 34 x) : ∃ l, x = [.sl 3 (eTs l)] ∧ l.length * 48 ≤ 140737488351232 ∧ okTs l := by
  obtain ⟨l, e, hb, hq⟩ := tp_list (e := 36) (c := 3) (b := 48) (enc := eT) (Q := okT) (by kernel_rfl) h (fun cs hcs => dec_ty _ cs (Nat.lt_succ_self _) hcs)
  exact ⟨l, by rw [e, eTs_map], hb, okTs_of l hq⟩

theorem dec_d (cs : List PV) (h : TP Try.prog 33 cs) : ∃ d, PV.agg cs = eD d ∧ True := by
  obtain ⟨hl, hf⟩ := tp_struct (n := 3) (l := [(0, 9, 1), (1, 30, 1), (2, 31, 1)]) (by kernel_rfl) h
  match cs, hl with
  | [a, b, c], _ =>
    obtain ⟨s, e1, _⟩ := tp_str (by kernel_rfl) (hf (0, 9, 1) (by simp))
    obtain ⟨l, e2, _⟩ := tp_slice (e := 9) (c := 1) (b := 16) (agg := false) (by kernel_rfl) (hf (1, 30, 1) (by simp))
    cases e1; cases e2
    exact ⟨⟨s, l, c⟩, rfl, trivial⟩

theorem dec_p (cs : List PV) (h : TP Try.prog 29 cs) : ∃ p, PV.agg cs = eP p ∧ p.ds.length * 64 ≤ 140737488351232 := by
  obtain ⟨hl, hf⟩ := tp_struct (n := 8) (l := [(0, 9, 1), (1, 3, 1), (2, 22, 1), (3, 23, 1), (4, 24, 1), (5, 25, 1), (6, 26, 1), (7, 27, 1)]) (by kernel_rfl) h
  match cs, hl with
  | [a0, a1, a2, a3, a4, a5, a6, a7], _ =>
    obtain ⟨l, e, hb, _⟩ := tp_list (e := 33) (c := 3) (b := 64) (by kernel_rfl) (hf (3, 23, 1) (by simp)) dec_d
    cases e
    exact ⟨⟨a0, a1, a2, l, a4, a5, a6, a7⟩, rfl, hb⟩

end Go.Proofs.Ytfgngbamdnaihaa
