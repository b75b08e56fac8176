/-
  DERIVED. Contracts of the functions that the law reaches, and the law itself, for every input. No conditions.
-/
import Derived.Test.YtfaeijklldnohaaDoorKS
import Derived.Test.YtfaeijklldnohaaDoorAMRow
import Derived.Test.YtfaeijklldnohaaDoorRows
import Derived.Test.YtfaeijklldnohaaDoorCards
import Derived.Test.YtfaeijklldnohaaDoorTie
import Derived.ProofKit
import Derived.SizedLaws
import Derived.ChangeBears2
import Derived.OpenShut
import Derived.Deep.DeepHandedRow
import Derived.Lay
namespace Go.Proofs.YtfaeijklldnohaaDoor
open Go Go.AM Go.Proofs KK

theorem Tryd.own : ownKnob Tryd.prog.godebug = none := by kernel_rfl

theorem dec_str (y : PV) (h : TP Tryd.prog 9 [y]) : ∃ d, y = eStr d ∧ True := by
  obtain ⟨s, e, _⟩ := tp_str (by kernel_rfl) h
  cases e; exact ⟨s, rfl, trivial⟩

theorem okTs_of : ∀ (l : List Ty), (∀ t ∈ l, okT t) → okTs l
  | [], _ => trivial
  | t :: r, h => ⟨h t (by simp), okTs_of r (fun d hd => h d (by simp [hd]))⟩

theorem dec_ty : ∀ (n : Nat) (cs : List PV), SizeOf.sizeOf cs < n → TP Tryd.prog 24 cs → ∃ t, PV.agg cs = eT t ∧ okT t
  | 0, cs, hn, _ => by omega
  | n + 1, cs, hn, h => by
    obtain ⟨hl, hf⟩ := tp_struct (n := 3) (l := [(0, 3, 1), (1, 9, 1), (2, 22, 1)]) (by kernel_rfl) h
    match cs, hl with
    | [a, b, c], _ =>
      obtain ⟨k, e1, _⟩ := tp_int (k := .i64) (by kernel_rfl) (hf (0, 3, 1) (by simp))
      obtain ⟨s, e2, _⟩ := tp_str (by kernel_rfl) (hf (1, 9, 1) (by simp))
      obtain ⟨xs, e3, hb, hc, ha⟩ := tp_slice (e := 24) (c := 3) (b := 48) (agg := true) (by kernel_rfl) (hf (2, 22, 1) (by simp))
      cases e1; cases e2; cases e3
      obtain ⟨l, rfl, hq⟩ := list_map (enc := eT) (Q := okT) xs (fun y hy => by
        obtain ⟨ys, rfl⟩ := (ha y hy).1 rfl
        have h1 := List.sizeOf_lt_of_mem hy
        exact dec_ty n ys (by simp at hn h1; omega) (hc _ hy))
      exact ⟨.mk k s l, by rw [eT, eTs_map], by have := hb; simp at this; omega, okTs_of l hq⟩

theorem dec_tys (x : List PV) (h : TP Tryd.prog 22 x) : ∃ l, x = [.sl 3 (eTs l)] ∧ l.length * 48 ≤ 140737488351232 ∧ okTs l := by
  obtain ⟨l, e, hb, hq⟩ := tp_list (e := 24) (c := 3) (b := 48) (enc := eT) (Q := okT) (by kernel_rfl) h (fun cs hcs => dec_ty _ cs (Nat.lt_succ_self _) hcs)
  exact ⟨l, by rw [e, eTs_map], hb, okTs_of l hq⟩

end Go.Proofs.YtfaeijklldnohaaDoor
