/-
  DERIVED. Contracts of the functions that the law reaches, and the law itself, for every input. No conditions.
-/
import Derived.Test.YtfnghigkbcbjiaaDoorGLD
import Derived.Test.YtfnghigkbcbjiaaDoorAMRow
import Derived.Test.YtfnghigkbcbjiaaDoorRows
import Derived.Test.YtfnghigkbcbjiaaDoorCards
import Derived.Test.YtfnghigkbcbjiaaDoorTie
import Derived.ProofKit
import Derived.SizedLaws
import Derived.Deep.CondSized
import Derived.ChangeBears2
import Derived.OpenShut
import Derived.Deep.DeepHandedRow
import Derived.Lay
namespace Go.Proofs.YtfnghigkbcbjiaaDoor
open Go Go.AM Go.Proofs TR

theorem Tryd.own : ownKnob Tryd.prog.godebug = none := by kernel_rfl

mutual
theorem bulk_eq {H : Type} : ∀ (d : DataW H), Rows.uptoBulk d = bulkW d
  | .lit (.string _) => by simp [Rows.uptoBulk, bulkW]
  | .lit (.bool _) => by simp [Rows.uptoBulk, bulkW]
  | .lit (.int _ _) => by simp [Rows.uptoBulk, bulkW]
  | .lit (.float _ _) => by simp [Rows.uptoBulk, bulkW]
  | .lit .nil => by simp [Rows.uptoBulk, bulkW]
  | .nil => by simp [Rows.uptoBulk, bulkW]
  | .ptr d => by simp [Rows.uptoBulk, bulkW, bulk_eq d]
  | .slice a b => by simp [Rows.uptoBulk, bulkW, bulkAll_eq a, bulkAll_eq b]
  | .agg a => by simp [Rows.uptoBulk, bulkW, bulkAll_eq a]
  | .iface _ d => by simp [Rows.uptoBulk, bulkW, bulk_eq d]
  | .map es => by simp [Rows.uptoBulk, bulkW, bulkEntries_eq es]
  | .held _ => by simp [Rows.uptoBulk, bulkW]
theorem bulkAll_eq {H : Type} : ∀ (d : List (DataW H)), Rows.uptoBulkAll d = bulkAll d
  | [] => by simp [Rows.uptoBulkAll, bulkAll]
  | x :: r => by simp [Rows.uptoBulkAll, bulkAll, bulk_eq x, bulkAll_eq r]
theorem bulkEntries_eq {H : Type} : ∀ (d : List (Lit × DataW H)), Rows.uptoBulkEntries d = bulkEntries d
  | [] => by simp [Rows.uptoBulkEntries, bulkEntries]
  | x :: r => by simp [Rows.uptoBulkEntries, bulkEntries, bulkEntry_eq x, bulkEntries_eq r]
theorem bulkEntry_eq {H : Type} : ∀ (d : Lit × DataW H), Rows.uptoBulkEntry d = bulkEntry d
  | (.string _, d) => by simp [Rows.uptoBulkEntry, bulkEntry, bulk_eq d]
  | (.bool _, d) => by simp [Rows.uptoBulkEntry, bulkEntry, bulk_eq d]
  | (.int _ _, d) => by simp [Rows.uptoBulkEntry, bulkEntry, bulk_eq d]
  | (.float _ _, d) => by simp [Rows.uptoBulkEntry, bulkEntry, bulk_eq d]
  | (.nil, d) => by simp [Rows.uptoBulkEntry, bulkEntry, bulk_eq d]
end
theorem small_of {H : Type} {ds : List (DataW H)} (h : Rows.uptoSmall H ds = true) : bulkAll ds ≤ 1048576 := by
  rw [← bulkAll_eq]; exact of_decide_eq_true h

theorem dec_str (y : PV) (h : TP Tryd.prog 9 [y]) : ∃ d, y = eStr d ∧ True := by
  obtain ⟨s, e, _⟩ := tp_str (by kernel_rfl) h
  cases e; exact ⟨s, rfl, trivial⟩
theorem dec_ty : ∀ (n : Nat) (cs : List PV), SizeOf.sizeOf cs < n → TP Tryd.prog 29 cs → ∃ t, PV.agg cs = eT t ∧ True
  | 0, cs, hn, _ => by omega
  | n + 1, cs, hn, h => by
    obtain ⟨hl, hf⟩ := tp_struct (n := 3) (l := [(0, 3, 1), (1, 9, 1), (2, 23, 1)]) (by kernel_rfl) h
    match cs, hl with
    | [a, b, c], _ =>
      obtain ⟨k, e1, _⟩ := tp_int (k := .i64) (by kernel_rfl) (hf (0, 3, 1) (by simp))
      obtain ⟨s, e2, _⟩ := tp_str (by kernel_rfl) (hf (1, 9, 1) (by simp))
      obtain ⟨xs, e3, hb, hc, ha⟩ := tp_slice (e := 29) (c := 3) (b := 48) (agg := true) (by kernel_rfl) (hf (2, 23, 1) (by simp))
      cases e1; cases e2; cases e3
      obtain ⟨l, rfl, hq⟩ := list_map (enc := eT) (Q := fun _ => True) xs (fun y hy => by
        obtain ⟨ys, rfl⟩ := (ha y hy).1 rfl
        have h1 := List.sizeOf_lt_of_mem hy
        exact dec_ty n ys (by simp at hn h1; omega) (hc _ hy))
      exact ⟨.mk k s l, by rw [eT, eTs_map], trivial⟩
theorem dec_pat : ∀ (n : Nat) (cs : List PV), SizeOf.sizeOf cs < n → TP Tryd.prog 79 cs → ∃ t, PV.agg cs = eP t ∧ True
  | 0, cs, hn, _ => by omega
  | n + 1, cs, hn, h => by
    obtain ⟨hl, hf⟩ := tp_struct (n := 4) (l := [(0, 3, 1), (1, 3, 1), (2, 9, 1), (3, 77, 1)]) (by kernel_rfl) h
    match cs, hl with
    | [a, b, c, d], _ =>
      obtain ⟨k, e1, _⟩ := tp_int (k := .i64) (by kernel_rfl) (hf (0, 3, 1) (by simp))
      obtain ⟨m, e4, _⟩ := tp_int (k := .i64) (by kernel_rfl) (hf (1, 3, 1) (by simp))
      obtain ⟨s, e2, _⟩ := tp_str (by kernel_rfl) (hf (2, 9, 1) (by simp))
      obtain ⟨xs, e3, hb, hc, ha⟩ := tp_slice (e := 79) (c := 4) (b := 56) (agg := true) (by kernel_rfl) (hf (3, 77, 1) (by simp))
      cases e1; cases e2; cases e3; cases e4
      obtain ⟨l, rfl, hq⟩ := list_map (enc := eP) (Q := fun _ => True) xs (fun y hy => by
        obtain ⟨ys, rfl⟩ := (ha y hy).1 rfl
        have h1 := List.sizeOf_lt_of_mem hy
        exact dec_pat n ys (by simp at hn h1; omega) (hc _ hy))
      exact ⟨.mk k m s l, by rw [eP, ePs_map], trivial⟩
theorem sz_append (a b : List PV) : SizeOf.sizeOf b ≤ SizeOf.sizeOf (a ++ b) := by
  induction a with
  | nil => simp
  | cons x r ih => simp; omega
theorem dec_ex : ∀ (n : Nat) (cs : List PV), SizeOf.sizeOf cs < n → TP Tryd.prog 27 cs → ∃ t, PV.agg cs = eE t ∧ True
  | 0, cs, hn, _ => by omega
  | n + 1, cs, hn, h => by
    obtain ⟨hl, hf⟩ := tp_struct (n := 8) (l := [(0, 3, 1), (1, 3, 1), (2, 9, 1), (3, 22, 1), (4, 23, 1), (5, 24, 1), (6, 25, 1), (7, 3, 1)]) (by kernel_rfl) h
    match cs, hl with
    | [a0, a1, a2, a3, a4, a5, a6, a7], _ =>
      obtain ⟨k, e0, _⟩ := tp_int (k := .i64) (by kernel_rfl) (hf (0, 3, 1) (by simp))
      obtain ⟨m, e1, _⟩ := tp_int (k := .i64) (by kernel_rfl) (hf (1, 3, 1) (by simp))
      obtain ⟨s, e2, _⟩ := tp_str (by kernel_rfl) (hf (2, 9, 1) (by simp))
      obtain ⟨ns, e3, _⟩ := tp_list1 (e := 9) (c := 1) (b := 16) (by kernel_rfl) (hf (3, 22, 1) (by simp)) dec_str
      obtain ⟨ts, e4, _⟩ := tp_list (e := 29) (c := 3) (b := 48) (enc := eT) (Q := fun _ => True) (by kernel_rfl) (hf (4, 23, 1) (by simp)) (fun cs hcs => dec_ty _ cs (Nat.lt_succ_self _) hcs)
      obtain ⟨xs, e5, _, hc5, ha5⟩ := tp_slice (e := 27) (c := 8) (b := 136) (agg := true) (by kernel_rfl) (hf (5, 24, 1) (by simp))
      obtain ⟨ms, e6, _, hc6, ha6⟩ := tp_slice (e := 81) (c := 12) (b := 192) (agg := true) (by kernel_rfl) (hf (6, 25, 1) (by simp))
      obtain ⟨p, e7, _⟩ := tp_int (k := .i64) (by kernel_rfl) (hf (7, 3, 1) (by simp))
      cases e0; cases e1; cases e2; cases e3; cases e4; cases e5; cases e6; cases e7
      obtain ⟨l5, rfl, _⟩ := list_map (enc := eE) (Q := fun _ => True) xs (fun y hy => by
        obtain ⟨ys, rfl⟩ := (ha5 y hy).1 rfl
        have h1 := List.sizeOf_lt_of_mem hy
        exact dec_ex n ys (by simp at hn h1; omega) (hc5 _ hy))
      obtain ⟨l6, rfl, _⟩ := list_map (enc := eA) (Q := fun _ => True) ms (fun y hy => by
        obtain ⟨ys, rfl⟩ := (ha6 y hy).1 rfl
        have h1 := List.sizeOf_lt_of_mem hy
        obtain ⟨hl6, hf6⟩ := tp_struct (n := 12) (l := [(0, 79, 4), (4, 27, 8)]) (by kernel_rfl) (hc6 _ hy)
        simp only [PV.cells] at hl6 hf6
        obtain ⟨q1, w1, _⟩ := dec_pat _ _ (Nat.lt_succ_self _) (hf6 (0, 79, 4) (by simp))
        have hd : (ys.drop 4).take 8 = ys.drop 4 := List.take_of_length_le (by simp; omega)
        have hs := sz_append (ys.take 4) (ys.drop 4)
        rw [List.take_append_drop] at hs
        have h2 := hf6 (4, 27, 8) (by simp)
        simp only [hd] at h2
        obtain ⟨q2, w2, _⟩ := dec_ex n (ys.drop 4) (by simp at hn h1; omega) h2
        refine ⟨.mk q1 q2, ?_, trivial⟩
        rw [eA, ← w1, ← w2]
        simp only [PV.cells, List.drop_zero, List.take_append_drop])
      exact ⟨.mk k m s ns ts l5 l6 p, by rw [eE, eTs_map, eEs_map, eAs_map], trivial⟩
/-! programs that come in, read whole -/
theorem decl_ss {x : PV} (h : TP Tryd.prog 22 [x]) : ∃ l : List ByteArray, x = .sl 1 (l.map eStr) := by
  obtain ⟨ns, e3, _⟩ := tp_list1 (e := 9) (c := 1) (b := 16) (by kernel_rfl) h dec_str
  cases e3; exact ⟨ns, rfl⟩
theorem decl_ts {x : PV} (h : TP Tryd.prog 23 [x]) : ∃ l : List Ty, x = .sl 3 (eTs l) := by
  obtain ⟨ts, e4, _⟩ := tp_list (e := 29) (c := 3) (b := 48) (enc := eT) (Q := fun _ => True) (by kernel_rfl) h (fun cs hcs => dec_ty _ cs (Nat.lt_succ_self _) hcs)
  cases e4; exact ⟨ts, by rw [eTs_map]⟩
theorem decl_use (cs : List PV) (h : TP Tryd.prog 61 cs) : ∃ f : LUse, PV.agg cs = elUse f ∧ True := by
  obtain ⟨hl, hf⟩ := tp_struct (n := 3) (l := [(0, 9, 1), (1, 3, 1), (2, 3, 1)]) (by kernel_rfl) h
  match cs, hl with
  | [a0, a1, a2], _ =>
    obtain ⟨s, e0, _⟩ := tp_str (by kernel_rfl) (hf (0, 9, 1) (by simp))
    obtain ⟨k, e1, _⟩ := tp_int (k := .i64) (by kernel_rfl) (hf (1, 3, 1) (by simp))
    obtain ⟨m, e2, _⟩ := tp_int (k := .i64) (by kernel_rfl) (hf (2, 3, 1) (by simp))
    cases e0; cases e1; cases e2
    exact ⟨⟨s, k, m⟩, rfl, trivial⟩
theorem decl_fu (cs : List PV) (h : TP Tryd.prog 72 cs) : ∃ f : LFu, PV.agg cs = elFu f ∧ True := by
  obtain ⟨hl, hf⟩ := tp_struct (n := 15) (l := [(0, 9, 1), (1, 22, 1), (2, 22, 1), (3, 23, 1), (4, 29, 3), (7, 27, 8)]) (by kernel_rfl) h
  match cs, hl with
  | [a0, a1, a2, a3, b1, b2, b3, c1, c2, c3, c4, c5, c6, c7, c8], _ =>
    obtain ⟨s, e0, _⟩ := tp_str (by kernel_rfl) (hf (0, 9, 1) (by simp))
    obtain ⟨l1, e1⟩ := decl_ss (hf (1, 22, 1) (by simp))
    obtain ⟨l2, e2⟩ := decl_ss (hf (2, 22, 1) (by simp))
    obtain ⟨l3, e3⟩ := decl_ts (hf (3, 23, 1) (by simp))
    obtain ⟨t, e4, _⟩ := dec_ty _ [b1, b2, b3] (Nat.lt_succ_self _) (hf (4, 29, 3) (by simp))
    obtain ⟨e, e5, _⟩ := dec_ex _ [c1, c2, c3, c4, c5, c6, c7, c8] (Nat.lt_succ_self _) (hf (7, 27, 8) (by simp))
    cases e0; subst e1; subst e2; subst e3
    refine ⟨⟨s, l1, l2, l3, t, e⟩, ?_, trivial⟩
    rw [elFu, ← e4, ← e5]; rfl
theorem decl_im (cs : List PV) (h : TP Tryd.prog 75 cs) : ∃ f : LIm, PV.agg cs = elIm f ∧ True := by
  obtain ⟨hl, hf⟩ := tp_struct (n := 3) (l := [(0, 9, 1), (1, 9, 1), (2, 37, 1)]) (by kernel_rfl) h
  match cs, hl with
  | [a0, a1, a2], _ =>
    obtain ⟨s, e0, _⟩ := tp_str (by kernel_rfl) (hf (0, 9, 1) (by simp))
    obtain ⟨u, e1, _⟩ := tp_str (by kernel_rfl) (hf (1, 9, 1) (by simp))
    obtain ⟨fs, e2, _⟩ := tp_list (e := 72) (c := 15) (b := 272) (enc := elFu) (Q := fun _ => True) (by kernel_rfl) (hf (2, 37, 1) (by simp)) (fun cs hcs => decl_fu cs hcs)
    cases e0; cases e1; cases e2
    exact ⟨⟨s, u, fs⟩, rfl, trivial⟩
theorem decl_mk (cs : List PV) (h : TP Tryd.prog 67 cs) : ∃ f : LMk, PV.agg cs = elMk f ∧ True := by
  obtain ⟨hl, hf⟩ := tp_struct (n := 2) (l := [(0, 9, 1), (1, 23, 1)]) (by kernel_rfl) h
  match cs, hl with
  | [a0, a1], _ =>
    obtain ⟨s, e0, _⟩ := tp_str (by kernel_rfl) (hf (0, 9, 1) (by simp))
    obtain ⟨l3, e3⟩ := decl_ts (hf (1, 23, 1) (by simp))
    cases e0; subst e3
    exact ⟨⟨s, l3⟩, rfl, trivial⟩
theorem decl_dt (cs : List PV) (h : TP Tryd.prog 64 cs) : ∃ f : LDt, PV.agg cs = elDt f ∧ True := by
  obtain ⟨hl, hf⟩ := tp_struct (n := 3) (l := [(0, 9, 1), (1, 22, 1), (2, 62, 1)]) (by kernel_rfl) h
  match cs, hl with
  | [a0, a1, a2], _ =>
    obtain ⟨s, e0, _⟩ := tp_str (by kernel_rfl) (hf (0, 9, 1) (by simp))
    obtain ⟨l1, e1⟩ := decl_ss (hf (1, 22, 1) (by simp))
    obtain ⟨fs, e2, _⟩ := tp_list (e := 67) (c := 2) (b := 40) (enc := elMk) (Q := fun _ => True) (by kernel_rfl) (hf (2, 62, 1) (by simp)) (fun cs hcs => decl_mk cs hcs)
    cases e0; subst e1; cases e2
    exact ⟨⟨s, l1, fs⟩, rfl, trivial⟩
theorem decl_tr (cs : List PV) (h : TP Tryd.prog 70 cs) : ∃ f : LTr, PV.agg cs = elTr f ∧ True := by
  obtain ⟨hl, hf⟩ := tp_struct (n := 2) (l := [(0, 9, 1), (1, 37, 1)]) (by kernel_rfl) h
  match cs, hl with
  | [a0, a1], _ =>
    obtain ⟨s, e0, _⟩ := tp_str (by kernel_rfl) (hf (0, 9, 1) (by simp))
    obtain ⟨fs, e2, _⟩ := tp_list (e := 72) (c := 15) (b := 272) (enc := elFu) (Q := fun _ => True) (by kernel_rfl) (hf (1, 37, 1) (by simp)) (fun cs hcs => decl_fu cs hcs)
    cases e0; cases e2
    exact ⟨⟨s, fs⟩, rfl, trivial⟩
theorem decl_ac (cs : List PV) (h : TP Tryd.prog 31 cs) : ∃ f : LAc, PV.agg cs = elAc f ∧ True := by
  obtain ⟨hl, hf⟩ := tp_struct (n := 14) (l := [(0, 9, 1), (1, 22, 1), (2, 23, 1), (3, 29, 3), (6, 27, 8)]) (by kernel_rfl) h
  match cs, hl with
  | [a0, a1, a3, b1, b2, b3, c1, c2, c3, c4, c5, c6, c7, c8], _ =>
    obtain ⟨s, e0, _⟩ := tp_str (by kernel_rfl) (hf (0, 9, 1) (by simp))
    obtain ⟨l1, e1⟩ := decl_ss (hf (1, 22, 1) (by simp))
    obtain ⟨l3, e3⟩ := decl_ts (hf (2, 23, 1) (by simp))
    obtain ⟨t, e4, _⟩ := dec_ty _ [b1, b2, b3] (Nat.lt_succ_self _) (hf (3, 29, 3) (by simp))
    obtain ⟨e, e5, _⟩ := dec_ex _ [c1, c2, c3, c4, c5, c6, c7, c8] (Nat.lt_succ_self _) (hf (6, 27, 8) (by simp))
    cases e0; subst e1; subst e3
    refine ⟨⟨s, l1, l3, t, e⟩, ?_, trivial⟩
    rw [elAc, ← e4, ← e5]; rfl
theorem decl_pg (cs : List PV) (h : TP Tryd.prog 39 cs) : ∃ f : LPg, PV.agg cs = elPg f ∧ True := by
  obtain ⟨hl, hf⟩ := tp_struct (n := 8) (l := [(0, 9, 1), (1, 3, 1), (2, 33, 1), (3, 34, 1), (4, 35, 1), (5, 36, 1), (6, 37, 1), (7, 32, 1)]) (by kernel_rfl) h
  match cs, hl with
  | [a0, a1, a2, a3, a4, a5, a6, a7], _ =>
    obtain ⟨s, e0, _⟩ := tp_str (by kernel_rfl) (hf (0, 9, 1) (by simp))
    obtain ⟨n, e1, _⟩ := tp_int (k := .i64) (by kernel_rfl) (hf (1, 3, 1) (by simp))
    obtain ⟨l2, e2, _⟩ := tp_list (e := 61) (c := 3) (b := 32) (enc := elUse) (Q := fun _ => True) (by kernel_rfl) (hf (2, 33, 1) (by simp)) (fun cs hcs => decl_use cs hcs)
    obtain ⟨l3, e3, _⟩ := tp_list (e := 64) (c := 3) (b := 64) (enc := elDt) (Q := fun _ => True) (by kernel_rfl) (hf (3, 34, 1) (by simp)) (fun cs hcs => decl_dt cs hcs)
    obtain ⟨l4, e4, _⟩ := tp_list (e := 70) (c := 2) (b := 40) (enc := elTr) (Q := fun _ => True) (by kernel_rfl) (hf (4, 35, 1) (by simp)) (fun cs hcs => decl_tr cs hcs)
    obtain ⟨l5, e5, _⟩ := tp_list (e := 75) (c := 3) (b := 56) (enc := elIm) (Q := fun _ => True) (by kernel_rfl) (hf (5, 36, 1) (by simp)) (fun cs hcs => decl_im cs hcs)
    obtain ⟨l6, e6, _⟩ := tp_list (e := 72) (c := 15) (b := 272) (enc := elFu) (Q := fun _ => True) (by kernel_rfl) (hf (6, 37, 1) (by simp)) (fun cs hcs => decl_fu cs hcs)
    obtain ⟨l7, e7, _⟩ := tp_list (e := 31) (c := 14) (b := 248) (enc := elAc) (Q := fun _ => True) (by kernel_rfl) (hf (7, 32, 1) (by simp)) (fun cs hcs => decl_ac cs hcs)
    cases e0; cases e1; cases e2; cases e3; cases e4; cases e5; cases e6; cases e7
    exact ⟨⟨s, n, l2, l3, l4, l5, l6, l7⟩, rfl, trivial⟩
end Go.Proofs.YtfnghigkbcbjiaaDoor
