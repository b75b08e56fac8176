/-
  DERIVED. Contracts of the functions that the law reaches, and the law itself, for every input. No conditions.
-/
import Derived.Test.YtfikmccicklonaaTR7
import Derived.Test.YtfikmccicklonaaAMRow
import Derived.Test.YtfikmccicklonaaRows
import Derived.ProofKit
import Derived.SizedLaws
import Derived.Deep.CondSized
import Derived.ChangeBears2
import Derived.OpenShut
namespace Go.Proofs.Ytfikmccicklonaa
open Go Go.AM Go.Proofs TR

theorem Try.own : ownKnob Try.prog.godebug = none := by kernel_rfl

mutual
theorem bulk_eq {H : Type} : ∀ (d : DataW H), Rows.uptoBulk d = bulkW d
  | .lit (.string _) => by simp [Rows.uptoBulk, bulkW]
  | .lit (.bool _) => by simp [Rows.uptoBulk, bulkW]
  | .lit (.int _ _) => by simp [Rows.uptoBulk, bulkW]
  | .lit (.float _ _) => by simp [Rows.uptoBulk, bulkW]
  | .lit .nil => by simp [Rows.uptoBulk, bulkW]
  | .nil => by simp [Rows.uptoBulk, bulkW]
  | .ptr d => by simp [Rows.uptoBulk, bulkW, bulk_eq d]
  | .slice a b => by simp [Rows.uptoBulk, bulkW, bulkAll_eq a, bulkAll_eq b]
  | .agg a => by simp [Rows.uptoBulk, bulkW, bulkAll_eq a]
  | .iface _ d => by simp [Rows.uptoBulk, bulkW, bulk_eq d]
  | .map es => by simp [Rows.uptoBulk, bulkW, bulkEntries_eq es]
  | .held _ => by simp [Rows.uptoBulk, bulkW]
theorem bulkAll_eq {H : Type} : ∀ (d : List (DataW H)), Rows.uptoBulkAll d = bulkAll d
  | [] => by simp [Rows.uptoBulkAll, bulkAll]
  | x :: r => by simp [Rows.uptoBulkAll, bulkAll, bulk_eq x, bulkAll_eq r]
theorem bulkEntries_eq {H : Type} : ∀ (d : List (Lit × DataW H)), Rows.uptoBulkEntries d = bulkEntries d
  | [] => by simp [Rows.uptoBulkEntries, bulkEntries]
  | x :: r => by simp [Rows.uptoBulkEntries, bulkEntries, bulkEntry_eq x, bulkEntries_eq r]
theorem bulkEntry_eq {H : Type} : ∀ (d : Lit × DataW H), Rows.uptoBulkEntry d = bulkEntry d
  | (.string _, d) => by simp [Rows.uptoBulkEntry, bulkEntry, bulk_eq d]
  | (.bool _, d) => by simp [Rows.uptoBulkEntry, bulkEntry, bulk_eq d]
  | (.int _ _, d) => by simp [Rows.uptoBulkEntry, bulkEntry, bulk_eq d]
  | (.float _ _, d) => by simp [Rows.uptoBulkEntry, bulkEntry, bulk_eq d]
  | (.nil, d) => by simp [Rows.uptoBulkEntry, bulkEntry, bulk_eq d]
end
theorem small_of {H : Type} {ds : List (DataW H)} (h : Rows.uptoSmall H ds = true) : bulkAll ds ≤ 1048576 := by
  rw [← bulkAll_eq]; exact of_decide_eq_true h

theorem dec_str (y : PV) (h : TP Try.prog 9 [y]) : ∃ d, y = eStr d ∧ True := by
  obtain ⟨s, e, _⟩ := tp_str (by kernel_rfl) h
  cases e; exact ⟨s, rfl, trivial⟩
theorem dec_ty : ∀ (n : Nat) (cs : List PV), SizeOf.sizeOf cs < n → TP Try.prog 33 cs → ∃ t, PV.agg cs = eT t ∧ True
  | 0, cs, hn, _ => by omega
  | n + 1, cs, hn, h => by
    obtain ⟨hl, hf⟩ := tp_struct (n := 3) (l := [(0, 3, 1), (1, 9, 1), (2, 31, 1)]) (by kernel_rfl) h
    match cs, hl with
    | [a, b, c], _ =>
      obtain ⟨k, e1, _⟩ := tp_int (k := .i64) (by kernel_rfl) (hf (0, 3, 1) (by simp))
      obtain ⟨s, e2, _⟩ := tp_str (by kernel_rfl) (hf (1, 9, 1) (by simp))
      obtain ⟨xs, e3, hb, hc, ha⟩ := tp_slice (e := 33) (c := 3) (b := 48) (agg := true) (by kernel_rfl) (hf (2, 31, 1) (by simp))
      cases e1; cases e2; cases e3
      obtain ⟨l, rfl, hq⟩ := list_map (enc := eT) (Q := fun _ => True) xs (fun y hy => by
        obtain ⟨ys, rfl⟩ := (ha y hy).1 rfl
        have h1 := List.sizeOf_lt_of_mem hy
        exact dec_ty n ys (by simp at hn h1; omega) (hc _ hy))
      exact ⟨.mk k s l, by rw [eT, eTs_map], trivial⟩
theorem dec_pat : ∀ (n : Nat) (cs : List PV), SizeOf.sizeOf cs < n → TP Try.prog 68 cs → ∃ t, PV.agg cs = eP t ∧ True
  | 0, cs, hn, _ => by omega
  | n + 1, cs, hn, h => by
    obtain ⟨hl, hf⟩ := tp_struct (n := 4) (l := [(0, 3, 1), (1, 3, 1), (2, 9, 1), (3, 66, 1)]) (by kernel_rfl) h
    match cs, hl with
    | [a, b, c, d], _ =>
      obtain ⟨k, e1, _⟩ := tp_int (k := .i64) (by kernel_rfl) (hf (0, 3, 1) (by simp))
      obtain ⟨m, e4, _⟩ := tp_int (k := .i64) (by kernel_rfl) (hf (1, 3, 1) (by simp))
      obtain ⟨s, e2, _⟩ := tp_str (by kernel_rfl) (hf (2, 9, 1) (by simp))
      obtain ⟨xs, e3, hb, hc, ha⟩ := tp_slice (e := 68) (c := 4) (b := 56) (agg := true) (by kernel_rfl) (hf (3, 66, 1) (by simp))
      cases e1; cases e2; cases e3; cases e4
      obtain ⟨l, rfl, hq⟩ := list_map (enc := eP) (Q := fun _ => True) xs (fun y hy => by
        obtain ⟨ys, rfl⟩ := (ha y hy).1 rfl
        have h1 := List.sizeOf_lt_of_mem hy
        exact dec_pat n ys (by simp at hn h1; omega) (hc _ hy))
      exact ⟨.mk k m s l, by rw [eP, ePs_map], trivial⟩
theorem sz_append (a b : List PV) : SizeOf.sizeOf b ≤ SizeOf.sizeOf (a ++ b) := by
  induction a with
  | nil => simp
  | cons x r ih => simp; omega
theorem dec_ex : ∀ (n : Nat) (cs : List PV), SizeOf.sizeOf cs < n → TP Try.prog 37 cs → ∃ t, PV.agg cs = eE t ∧ True
  | 0, cs, hn, _ => by omega
  | n + 1, cs, hn, h => by
    obtain ⟨hl, hf⟩ := tp_struct (n := 8) (l := [(0, 3, 1), (1, 3, 1), (2, 9, 1), (3, 30, 1), (4, 31, 1), (5, 34, 1), (6, 35, 1), (7, 3, 1)]) (by kernel_rfl) h
    match cs, hl with
    | [a0, a1, a2, a3, a4, a5, a6, a7], _ =>
      obtain ⟨k, e0, _⟩ := tp_int (k := .i64) (by kernel_rfl) (hf (0, 3, 1) (by simp))
      obtain ⟨m, e1, _⟩ := tp_int (k := .i64) (by kernel_rfl) (hf (1, 3, 1) (by simp))
      obtain ⟨s, e2, _⟩ := tp_str (by kernel_rfl) (hf (2, 9, 1) (by simp))
      obtain ⟨ns, e3, _⟩ := tp_list1 (e := 9) (c := 1) (b := 16) (by kernel_rfl) (hf (3, 30, 1) (by simp)) dec_str
      obtain ⟨ts, e4, _⟩ := tp_list (e := 33) (c := 3) (b := 48) (enc := eT) (Q := fun _ => True) (by kernel_rfl) (hf (4, 31, 1) (by simp)) (fun cs hcs => dec_ty _ cs (Nat.lt_succ_self _) hcs)
      obtain ⟨xs, e5, _, hc5, ha5⟩ := tp_slice (e := 37) (c := 8) (b := 136) (agg := true) (by kernel_rfl) (hf (5, 34, 1) (by simp))
      obtain ⟨ms, e6, _, hc6, ha6⟩ := tp_slice (e := 70) (c := 12) (b := 192) (agg := true) (by kernel_rfl) (hf (6, 35, 1) (by simp))
      obtain ⟨p, e7, _⟩ := tp_int (k := .i64) (by kernel_rfl) (hf (7, 3, 1) (by simp))
      cases e0; cases e1; cases e2; cases e3; cases e4; cases e5; cases e6; cases e7
      obtain ⟨l5, rfl, _⟩ := list_map (enc := eE) (Q := fun _ => True) xs (fun y hy => by
        obtain ⟨ys, rfl⟩ := (ha5 y hy).1 rfl
        have h1 := List.sizeOf_lt_of_mem hy
        exact dec_ex n ys (by simp at hn h1; omega) (hc5 _ hy))
      obtain ⟨l6, rfl, _⟩ := list_map (enc := eA) (Q := fun _ => True) ms (fun y hy => by
        obtain ⟨ys, rfl⟩ := (ha6 y hy).1 rfl
        have h1 := List.sizeOf_lt_of_mem hy
        obtain ⟨hl6, hf6⟩ := tp_struct (n := 12) (l := [(0, 68, 4), (4, 37, 8)]) (by kernel_rfl) (hc6 _ hy)
        simp only [PV.cells] at hl6 hf6
        obtain ⟨q1, w1, _⟩ := dec_pat _ _ (Nat.lt_succ_self _) (hf6 (0, 68, 4) (by simp))
        have hd : (ys.drop 4).take 8 = ys.drop 4 := List.take_of_length_le (by simp; omega)
        have hs := sz_append (ys.take 4) (ys.drop 4)
        rw [List.take_append_drop] at hs
        have h2 := hf6 (4, 37, 8) (by simp)
        simp only [hd] at h2
        obtain ⟨q2, w2, _⟩ := dec_ex n (ys.drop 4) (by simp at hn h1; omega) h2
        refine ⟨.mk q1 q2, ?_, trivial⟩
        rw [eA, ← w1, ← w2]
        simp only [PV.cells, List.drop_zero, List.take_append_drop])
      exact ⟨.mk k m s ns ts l5 l6 p, by rw [eE, eTs_map, eEs_map, eAs_map], trivial⟩
end Go.Proofs.Ytfikmccicklonaa
