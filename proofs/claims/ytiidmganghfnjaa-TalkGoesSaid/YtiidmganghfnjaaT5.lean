/-
  DERIVED. Contracts of the functions that the law reaches, and the law itself, for every input. No conditions.
-/
import Derived.Test.YtiidmganghfnjaaT4
import Derived.Test.YtiidmganghfnjaaAMRow
import Derived.Test.YtiidmganghfnjaaRows
import Derived.ProofKit
import Derived.SizedLaws
import Derived.ChangeBears2
import Derived.OpenShut
namespace Go.Proofs.Ytiidmganghfnjaa
open Go Go.AM Go.Proofs TK

theorem Try.own : ownKnob Try.prog.godebug = none := by kernel_rfl

theorem dec_i (y : PV) (h : TP Try.prog 3 [y]) : ∃ d, y = vI d ∧ True := by
  obtain ⟨m, e, _⟩ := tp_int (k := .i64) (by kernel_rfl) h
  cases e; exact ⟨m, rfl, trivial⟩
theorem dec_is (x : List PV) (h : TP Try.prog 26 x) : ∃ l : List Int, x = [.sl 1 (l.map vI)] ∧ l.length * 8 ≤ 140737488351232 := by
  obtain ⟨l, e, hb, _⟩ := tp_list1 (e := 3) (c := 1) (b := 8) (by kernel_rfl) h dec_i
  exact ⟨l, e, hb⟩
theorem dec_ln (cs : List PV) (h : TP Try.prog 43 cs) : ∃ d, PV.agg cs = eL d ∧ True := by
  obtain ⟨hl, hf⟩ := tp_struct (n := 2) (l := [(0, 3, 1), (1, 3, 1)]) (by kernel_rfl) h
  match cs, hl with
  | [a, b], _ =>
    obtain ⟨m, e1, _⟩ := tp_int (k := .i64) (by kernel_rfl) (hf (0, 3, 1) (by simp))
    obtain ⟨n, e2, _⟩ := tp_int (k := .i64) (by kernel_rfl) (hf (1, 3, 1) (by simp))
    cases e1; cases e2
    exact ⟨⟨m, n⟩, rfl, trivial⟩
theorem dec_dd (cs : List PV) (h : TP Try.prog 37 cs) : ∃ d, PV.agg cs = eDd d ∧ True := by
  obtain ⟨hl, hf⟩ := tp_struct (n := 3) (l := [(0, 3, 1), (1, 4, 1), (2, 3, 1)]) (by kernel_rfl) h
  match cs, hl with
  | [a, b, c], _ =>
    obtain ⟨m, e1, _⟩ := tp_int (k := .i64) (by kernel_rfl) (hf (0, 3, 1) (by simp))
    obtain ⟨s, e2⟩ := tp_bool (by kernel_rfl) (hf (1, 4, 1) (by simp))
    obtain ⟨n, e3, _⟩ := tp_int (k := .i64) (by kernel_rfl) (hf (2, 3, 1) (by simp))
    cases e1; cases e2; cases e3
    exact ⟨⟨m, s, n⟩, rfl, trivial⟩
theorem dec_w (y : PV) (h : TP Try.prog 35 [y]) : ∃ d, y = eW d ∧ d.length * 24 ≤ 140737488351232 := by
  obtain ⟨l, e, hb, _⟩ := tp_list (e := 37) (c := 3) (b := 24) (by kernel_rfl) h dec_dd
  cases e
  exact ⟨l, rfl, hb⟩
theorem dec_net (cs : List PV) (h : TP Try.prog 25 cs) : ∃ n, PV.agg cs = eN n ∧ (n.lines.length * 16 ≤ 140737488351232 ∧ n.who.length * 24 ≤ 140737488351232 ∧ ∀ w ∈ n.who, w.length * 24 ≤ 140737488351232) := by
  obtain ⟨hl, hf⟩ := tp_struct (n := 2) (l := [(0, 22, 1), (1, 23, 1)]) (by kernel_rfl) h
  match cs, hl with
  | [a, b], _ =>
    obtain ⟨l, e1, h1, _⟩ := tp_list (e := 43) (c := 2) (b := 16) (by kernel_rfl) (hf (0, 22, 1) (by simp)) dec_ln
    obtain ⟨w, e2, h2, h3⟩ := tp_list1 (e := 35) (c := 1) (b := 24) (by kernel_rfl) (hf (1, 23, 1) (by simp)) dec_w
    cases e1; cases e2
    exact ⟨⟨l, w⟩, rfl, h1, h2, h3⟩
theorem okN_of {n : Net} (h : n.lines.length * 16 ≤ 140737488351232 ∧ n.who.length * 24 ≤ 140737488351232 ∧ ∀ w ∈ n.who, w.length * 24 ≤ 140737488351232) : okN n :=
  ⟨by omega, by omega, fun w hw => by have := h.2.2 w hw; omega⟩
end Go.Proofs.Ytiidmganghfnjaa
