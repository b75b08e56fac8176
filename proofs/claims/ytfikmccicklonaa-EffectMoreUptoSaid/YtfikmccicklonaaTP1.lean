/-
  DERIVED. Contracts of the functions that the law reaches, and the law itself, for every input. No conditions.
-/
import Derived.Test.YtfikmccicklonaaTR8
import Derived.Test.YtfikmccicklonaaTS1
namespace Go.Proofs.Ytfikmccicklonaa
open Go Go.AM Go.Proofs TR
/-! programs that come in, read -/
theorem raw_sl {t e c b : Nat} {agg : Bool} {x : PV} (hu : sliceT Try.prog t e c b agg = true) (h : TP Try.prog t [x]) : ∃ xs, x = .sl c xs := by
  obtain ⟨xs, e, _⟩ := tp_slice hu h; cases e; exact ⟨xs, rfl⟩
theorem dec_fu (cs : List PV) (h : TP Try.prog 39 cs) : ∃ f : Fu, PV.agg cs = eFu f ∧ True := by
  obtain ⟨hl, hf⟩ := tp_struct (n := 15) (l := [(0, 9, 1), (1, 30, 1), (2, 30, 1), (3, 31, 1), (4, 33, 3), (7, 37, 8)]) (by kernel_rfl) h
  match cs, hl with
  | [a0, a1, a2, a3, b1, b2, b3, c1, c2, c3, c4, c5, c6, c7, c8], _ =>
    obtain ⟨s, e0, _⟩ := tp_str (by kernel_rfl) (hf (0, 9, 1) (by simp))
    obtain ⟨l1, e1⟩ := raw_sl (e := 9) (c := 1) (b := 16) (agg := false) (by kernel_rfl) (hf (1, 30, 1) (by simp))
    obtain ⟨l2, e2⟩ := raw_sl (e := 9) (c := 1) (b := 16) (agg := false) (by kernel_rfl) (hf (2, 30, 1) (by simp))
    obtain ⟨l3, e3⟩ := raw_sl (e := 33) (c := 3) (b := 48) (agg := true) (by kernel_rfl) (hf (3, 31, 1) (by simp))
    obtain ⟨⟨k, n, l⟩, e4, _⟩ := dec_ty _ [b1, b2, b3] (Nat.lt_succ_self _) (hf (4, 33, 3) (by simp))
    obtain ⟨e, e5, _⟩ := dec_ex _ [c1, c2, c3, c4, c5, c6, c7, c8] (Nat.lt_succ_self _) (hf (7, 37, 8) (by simp))
    cases e0; cases e1; cases e2; cases e3
    rw [eT] at e4
    cases e4
    refine ⟨⟨s, l1, l2, l3, k, n, eTs l, e⟩, ?_, trivial⟩
    rw [eFu, ← e5]; rfl
theorem dec_im (cs : List PV) (h : TP Try.prog 81 cs) : ∃ f : Im, PV.agg cs = eIm f ∧ True := by
  obtain ⟨hl, hf⟩ := tp_struct (n := 3) (l := [(0, 9, 1), (1, 9, 1), (2, 26, 1)]) (by kernel_rfl) h
  match cs, hl with
  | [a0, a1, a2], _ =>
    obtain ⟨s, e0, _⟩ := tp_str (by kernel_rfl) (hf (0, 9, 1) (by simp))
    obtain ⟨u, e1, _⟩ := tp_str (by kernel_rfl) (hf (1, 9, 1) (by simp))
    obtain ⟨fs, e2, _⟩ := tp_list (e := 39) (c := 15) (b := 272) (enc := eFu) (Q := fun _ => True) (by kernel_rfl) (hf (2, 26, 1) (by simp)) (fun cs hcs => dec_fu cs hcs)
    cases e0; cases e1; cases e2
    exact ⟨⟨s, u, fs⟩, rfl, trivial⟩
theorem dec_mk (cs : List PV) (h : TP Try.prog 124 cs) : ∃ f : Mk, PV.agg cs = eMk f ∧ True := by
  obtain ⟨hl, hf⟩ := tp_struct (n := 2) (l := [(0, 9, 1), (1, 31, 1)]) (by kernel_rfl) h
  match cs, hl with
  | [a0, a1], _ =>
    obtain ⟨s, e0, _⟩ := tp_str (by kernel_rfl) (hf (0, 9, 1) (by simp))
    obtain ⟨l3, e3⟩ := raw_sl (e := 33) (c := 3) (b := 48) (agg := true) (by kernel_rfl) (hf (1, 31, 1) (by simp))
    cases e0; cases e3
    exact ⟨⟨s, l3⟩, rfl, trivial⟩
theorem dec_dt (cs : List PV) (h : TP Try.prog 122 cs) : ∃ f : Dt, PV.agg cs = eDt f ∧ True := by
  obtain ⟨hl, hf⟩ := tp_struct (n := 3) (l := [(0, 9, 1), (1, 30, 1), (2, 120, 1)]) (by kernel_rfl) h
  match cs, hl with
  | [a0, a1, a2], _ =>
    obtain ⟨s, e0, _⟩ := tp_str (by kernel_rfl) (hf (0, 9, 1) (by simp))
    obtain ⟨l1, e1⟩ := raw_sl (e := 9) (c := 1) (b := 16) (agg := false) (by kernel_rfl) (hf (1, 30, 1) (by simp))
    obtain ⟨fs, e2, _⟩ := tp_list (e := 124) (c := 2) (b := 40) (enc := eMk) (Q := fun _ => True) (by kernel_rfl) (hf (2, 120, 1) (by simp)) (fun cs hcs => dec_mk cs hcs)
    cases e0; cases e1; cases e2
    exact ⟨⟨s, l1, fs⟩, rfl, trivial⟩
theorem dec_tr (cs : List PV) (h : TP Try.prog 126 cs) : ∃ f : Tr, PV.agg cs = eTr f ∧ True := by
  obtain ⟨hl, hf⟩ := tp_struct (n := 2) (l := [(0, 9, 1), (1, 26, 1)]) (by kernel_rfl) h
  match cs, hl with
  | [a0, a1], _ =>
    obtain ⟨s, e0, _⟩ := tp_str (by kernel_rfl) (hf (0, 9, 1) (by simp))
    obtain ⟨fs, e2, _⟩ := tp_list (e := 39) (c := 15) (b := 272) (enc := eFu) (Q := fun _ => True) (by kernel_rfl) (hf (1, 26, 1) (by simp)) (fun cs hcs => dec_fu cs hcs)
    cases e0; cases e2
    exact ⟨⟨s, fs⟩, rfl, trivial⟩
theorem dec_ac (cs : List PV) (h : TP Try.prog 91 cs) : ∃ f : Ac, PV.agg cs = eAc f ∧ True := by
  obtain ⟨hl, hf⟩ := tp_struct (n := 14) (l := [(0, 9, 1), (1, 30, 1), (2, 31, 1), (3, 33, 3), (6, 37, 8)]) (by kernel_rfl) h
  match cs, hl with
  | [a0, a1, a3, b1, b2, b3, c1, c2, c3, c4, c5, c6, c7, c8], _ =>
    obtain ⟨s, e0, _⟩ := tp_str (by kernel_rfl) (hf (0, 9, 1) (by simp))
    obtain ⟨l1, e1⟩ := raw_sl (e := 9) (c := 1) (b := 16) (agg := false) (by kernel_rfl) (hf (1, 30, 1) (by simp))
    obtain ⟨l3, e3⟩ := raw_sl (e := 33) (c := 3) (b := 48) (agg := true) (by kernel_rfl) (hf (2, 31, 1) (by simp))
    obtain ⟨⟨k, n, l⟩, e4, _⟩ := dec_ty _ [b1, b2, b3] (Nat.lt_succ_self _) (hf (3, 33, 3) (by simp))
    obtain ⟨e, e5, _⟩ := dec_ex _ [c1, c2, c3, c4, c5, c6, c7, c8] (Nat.lt_succ_self _) (hf (6, 37, 8) (by simp))
    cases e0; cases e1; cases e3
    rw [eT] at e4
    cases e4
    refine ⟨⟨s, l1, l3, k, n, eTs l, e⟩, ?_, trivial⟩
    rw [eAc, ← e5]; rfl
theorem dec_pg (cs : List PV) (h : TP Try.prog 29 cs) : ∃ f : Pg, PV.agg cs = ePg f ∧ True := by
  obtain ⟨hl, hf⟩ := tp_struct (n := 8) (l := [(0, 9, 1), (1, 3, 1), (2, 22, 1), (3, 23, 1), (4, 24, 1), (5, 25, 1), (6, 26, 1), (7, 27, 1)]) (by kernel_rfl) h
  match cs, hl with
  | [a0, a1, a2, a3, a4, a5, a6, a7], _ =>
    obtain ⟨s, e0, _⟩ := tp_str (by kernel_rfl) (hf (0, 9, 1) (by simp))
    obtain ⟨n, e1, _⟩ := tp_int (k := .i64) (by kernel_rfl) (hf (1, 3, 1) (by simp))
    obtain ⟨l2, e2⟩ := raw_sl (e := 146) (c := 3) (b := 32) (agg := true) (by kernel_rfl) (hf (2, 22, 1) (by simp))
    obtain ⟨l3, e3, _⟩ := tp_list (e := 122) (c := 3) (b := 64) (enc := eDt) (Q := fun _ => True) (by kernel_rfl) (hf (3, 23, 1) (by simp)) (fun cs hcs => dec_dt cs hcs)
    obtain ⟨l4, e4, _⟩ := tp_list (e := 126) (c := 2) (b := 40) (enc := eTr) (Q := fun _ => True) (by kernel_rfl) (hf (4, 24, 1) (by simp)) (fun cs hcs => dec_tr cs hcs)
    obtain ⟨l5, e5, _⟩ := tp_list (e := 81) (c := 3) (b := 56) (enc := eIm) (Q := fun _ => True) (by kernel_rfl) (hf (5, 25, 1) (by simp)) (fun cs hcs => dec_im cs hcs)
    obtain ⟨l6, e6, _⟩ := tp_list (e := 39) (c := 15) (b := 272) (enc := eFu) (Q := fun _ => True) (by kernel_rfl) (hf (6, 26, 1) (by simp)) (fun cs hcs => dec_fu cs hcs)
    obtain ⟨l7, e7, _⟩ := tp_list (e := 91) (c := 14) (b := 248) (enc := eAc) (Q := fun _ => True) (by kernel_rfl) (hf (7, 27, 1) (by simp)) (fun cs hcs => dec_ac cs hcs)
    cases e0; cases e1; cases e2; cases e3; cases e4; cases e5; cases e6; cases e7
    exact ⟨⟨s, n, l2, l3, l4, l5, l6, l7⟩, rfl, trivial⟩
end Go.Proofs.Ytfikmccicklonaa
