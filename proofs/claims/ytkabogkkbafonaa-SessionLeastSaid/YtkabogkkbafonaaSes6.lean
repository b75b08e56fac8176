/-
  DERIVED. Contracts of the functions that the law reaches, and the law itself, for every input. No conditions.
-/
import Derived.Test.YtkabogkkbafonaaSes5
import Derived.Test.YtkabogkkbafonaaAMRow
import Derived.Test.YtkabogkkbafonaaRows
import Derived.ProofKit
import Derived.SizedLaws
import Derived.ChangeBears2
import Derived.OpenShut
namespace Go.Proofs.Ytkabogkkbafonaa
open Go Go.AM Go.Proofs SE

theorem Try.own : ownKnob Try.prog.godebug = none := by kernel_rfl
theorem dec_br (cs : List PV) (h : TP Try.prog 39 cs) : ∃ d, PV.agg cs = eB d ∧ True := by
  obtain ⟨hl, hf⟩ := tp_struct (n := 2) (l := [(0, 3, 1), (1, 3, 1)]) (by kernel_rfl) h
  match cs, hl with
  | [a, b], _ =>
    obtain ⟨m, e1, _⟩ := tp_int (k := .i64) (by kernel_rfl) (hf (0, 3, 1) (by simp))
    obtain ⟨n, e2, _⟩ := tp_int (k := .i64) (by kernel_rfl) (hf (1, 3, 1) (by simp))
    cases e1; cases e2
    exact ⟨⟨m, n⟩, rfl, trivial⟩
theorem dec_st (cs : List PV) (h : TP Try.prog 42 cs) : ∃ d, PV.agg cs = eS d ∧ d.brs.length * 16 ≤ 140737488355328 := by
  obtain ⟨hl, hf⟩ := tp_struct (n := 2) (l := [(0, 3, 1), (1, 40, 1)]) (by kernel_rfl) h
  match cs, hl with
  | [a, b], _ =>
    obtain ⟨m, e1, _⟩ := tp_int (k := .i64) (by kernel_rfl) (hf (0, 3, 1) (by simp))
    obtain ⟨n, e2, hb, _⟩ := tp_list (e := 39) (c := 2) (b := 16) (by kernel_rfl) (hf (1, 40, 1) (by simp)) dec_br
    cases e1; cases e2
    exact ⟨⟨m, n⟩, rfl, by dsimp only; omega⟩
theorem dec_sts (x : List PV) (h : TP Try.prog 22 x) : ∃ l : List St, x = [.sl 2 (l.map eS)] ∧ Fit l := by
  obtain ⟨l, e, _, hf⟩ := tp_list (e := 42) (c := 2) (b := 32) (by kernel_rfl) h dec_st
  exact ⟨l, e, hf⟩
end Go.Proofs.Ytkabogkkbafonaa
