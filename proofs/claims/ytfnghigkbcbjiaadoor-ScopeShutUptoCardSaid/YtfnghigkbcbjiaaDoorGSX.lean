/-
  DERIVED. Contracts of the functions that the law reaches, and the law itself, for every input. No conditions.
-/
import Derived.Test.YtfnghigkbcbjiaaDoorGLX
import Derived.Test.YtfnghigkbcbjiaaDoorGSB
namespace Go.Proofs.YtfnghigkbcbjiaaDoor
open Go Go.AM Go.Proofs TR
/-! .. with the range of their numbers -/
theorem wf64 {k : Int} (h : (Lit.int .i64 k).wf = true) : GL.i64R k := by
  have h : (decide (IntKind.i64.min ≤ k) && decide (k ≤ IntKind.i64.max)) = true := h
  simp only [Bool.and_eq_true, decide_eq_true_eq] at h
  exact ⟨h.1, h.2⟩
theorem rTs_of : ∀ {l : List Ty}, (∀ t ∈ l, GL.rngT t) → GL.rngTs l
  | [], _ => by rw [GL.rngTs]; trivial
  | x :: r, h => by rw [GL.rngTs]; exact ⟨h x (by simp), rTs_of fun t ht => h t (by simp [ht])⟩
theorem rPs_of : ∀ {l : List Pt}, (∀ t ∈ l, GL.rngP t) → GL.rngPs l
  | [], _ => by rw [GL.rngPs]; trivial
  | x :: r, h => by rw [GL.rngPs]; exact ⟨h x (by simp), rPs_of fun t ht => h t (by simp [ht])⟩
theorem rEs_of : ∀ {l : List Ex}, (∀ t ∈ l, GL.rngE t) → GL.rngEs l
  | [], _ => by rw [GL.rngEs]; trivial
  | x :: r, h => by rw [GL.rngEs]; exact ⟨h x (by simp), rEs_of fun t ht => h t (by simp [ht])⟩
theorem rAs_of : ∀ {l : List Arm}, (∀ a ∈ l, GL.rngP a.pat ∧ GL.rngE a.body) → GL.rngAs l
  | [], _ => by rw [GL.rngAs]; trivial
  | .mk p e :: r, h => by rw [GL.rngAs]; exact ⟨(h (.mk p e) (by simp)).1, (h (.mk p e) (by simp)).2, rAs_of fun t ht => h t (by simp [ht])⟩
theorem dcr_ty : ∀ (n : Nat) (cs : List PV), SizeOf.sizeOf cs < n → TP Tryd.prog 29 cs → ∃ t, PV.agg cs = eT t ∧ GL.rngT t
  | 0, cs, hn, _ => by omega
  | n + 1, cs, hn, h => by
    obtain ⟨hl, hf⟩ := tp_struct (n := 3) (l := [(0, 3, 1), (1, 9, 1), (2, 23, 1)]) (by kernel_rfl) h
    match cs, hl with
    | [a, b, c], _ =>
      obtain ⟨k, e1, wk⟩ := tp_int (k := .i64) (by kernel_rfl) (hf (0, 3, 1) (by simp))
      obtain ⟨s, e2, _⟩ := tp_str (by kernel_rfl) (hf (1, 9, 1) (by simp))
      obtain ⟨xs, e3, hb, hc, ha⟩ := tp_slice (e := 29) (c := 3) (b := 48) (agg := true) (by kernel_rfl) (hf (2, 23, 1) (by simp))
      cases e1; cases e2; cases e3
      obtain ⟨l, rfl, hq⟩ := list_map (enc := eT) (Q := GL.rngT) xs (fun y hy => by
        obtain ⟨ys, rfl⟩ := (ha y hy).1 rfl
        have h1 := List.sizeOf_lt_of_mem hy
        exact dcr_ty n ys (by simp at hn h1; omega) (hc _ hy))
      exact ⟨.mk k s l, by rw [eT, eTs_map], by rw [GL.rngT]; exact ⟨wf64 wk, rTs_of hq⟩⟩
theorem dcr_pat : ∀ (n : Nat) (cs : List PV), SizeOf.sizeOf cs < n → TP Tryd.prog 79 cs → ∃ t, PV.agg cs = eP t ∧ GL.rngP t
  | 0, cs, hn, _ => by omega
  | n + 1, cs, hn, h => by
    obtain ⟨hl, hf⟩ := tp_struct (n := 4) (l := [(0, 3, 1), (1, 3, 1), (2, 9, 1), (3, 77, 1)]) (by kernel_rfl) h
    match cs, hl with
    | [a, b, c, d], _ =>
      obtain ⟨k, e1, wk⟩ := tp_int (k := .i64) (by kernel_rfl) (hf (0, 3, 1) (by simp))
      obtain ⟨m, e4, wm⟩ := tp_int (k := .i64) (by kernel_rfl) (hf (1, 3, 1) (by simp))
      obtain ⟨s, e2, _⟩ := tp_str (by kernel_rfl) (hf (2, 9, 1) (by simp))
      obtain ⟨xs, e3, hb, hc, ha⟩ := tp_slice (e := 79) (c := 4) (b := 56) (agg := true) (by kernel_rfl) (hf (3, 77, 1) (by simp))
      cases e1; cases e2; cases e3; cases e4
      obtain ⟨l, rfl, hq⟩ := list_map (enc := eP) (Q := GL.rngP) xs (fun y hy => by
        obtain ⟨ys, rfl⟩ := (ha y hy).1 rfl
        have h1 := List.sizeOf_lt_of_mem hy
        exact dcr_pat n ys (by simp at hn h1; omega) (hc _ hy))
      exact ⟨.mk k m s l, by rw [eP, ePs_map], by rw [GL.rngP]; exact ⟨wf64 wk, wf64 wm, rPs_of hq⟩⟩
theorem dcr_ex : ∀ (n : Nat) (cs : List PV), SizeOf.sizeOf cs < n → TP Tryd.prog 27 cs → ∃ t, PV.agg cs = eE t ∧ GL.rngE t
  | 0, cs, hn, _ => by omega
  | n + 1, cs, hn, h => by
    obtain ⟨hl, hf⟩ := tp_struct (n := 8) (l := [(0, 3, 1), (1, 3, 1), (2, 9, 1), (3, 22, 1), (4, 23, 1), (5, 24, 1), (6, 25, 1), (7, 3, 1)]) (by kernel_rfl) h
    match cs, hl with
    | [a0, a1, a2, a3, a4, a5, a6, a7], _ =>
      obtain ⟨k, e0, wk⟩ := tp_int (k := .i64) (by kernel_rfl) (hf (0, 3, 1) (by simp))
      obtain ⟨m, e1, wm⟩ := tp_int (k := .i64) (by kernel_rfl) (hf (1, 3, 1) (by simp))
      obtain ⟨s, e2, _⟩ := tp_str (by kernel_rfl) (hf (2, 9, 1) (by simp))
      obtain ⟨ns, e3, _⟩ := tp_list1 (e := 9) (c := 1) (b := 16) (by kernel_rfl) (hf (3, 22, 1) (by simp)) dec_str
      obtain ⟨ts, e4, _, ht⟩ := tp_list (e := 29) (c := 3) (b := 48) (enc := eT) (Q := GL.rngT) (by kernel_rfl) (hf (4, 23, 1) (by simp)) (fun cs hcs => dcr_ty _ cs (Nat.lt_succ_self _) hcs)
      obtain ⟨xs, e5, _, hc5, ha5⟩ := tp_slice (e := 27) (c := 8) (b := 136) (agg := true) (by kernel_rfl) (hf (5, 24, 1) (by simp))
      obtain ⟨ms, e6, _, hc6, ha6⟩ := tp_slice (e := 81) (c := 12) (b := 192) (agg := true) (by kernel_rfl) (hf (6, 25, 1) (by simp))
      obtain ⟨p, e7, _⟩ := tp_int (k := .i64) (by kernel_rfl) (hf (7, 3, 1) (by simp))
      cases e0; cases e1; cases e2; cases e3; cases e4; cases e5; cases e6; cases e7
      obtain ⟨l5, rfl, h5⟩ := list_map (enc := eE) (Q := GL.rngE) xs (fun y hy => by
        obtain ⟨ys, rfl⟩ := (ha5 y hy).1 rfl
        have h1 := List.sizeOf_lt_of_mem hy
        exact dcr_ex n ys (by simp at hn h1; omega) (hc5 _ hy))
      obtain ⟨l6, rfl, h6⟩ := list_map (enc := eA) (Q := fun a => GL.rngP a.pat ∧ GL.rngE a.body) ms (fun y hy => by
        obtain ⟨ys, rfl⟩ := (ha6 y hy).1 rfl
        have h1 := List.sizeOf_lt_of_mem hy
        obtain ⟨hl6, hf6⟩ := tp_struct (n := 12) (l := [(0, 79, 4), (4, 27, 8)]) (by kernel_rfl) (hc6 _ hy)
        simp only [PV.cells] at hl6 hf6
        obtain ⟨q1, w1, r1⟩ := dcr_pat _ _ (Nat.lt_succ_self _) (hf6 (0, 79, 4) (by simp))
        have hd : (ys.drop 4).take 8 = ys.drop 4 := List.take_of_length_le (by simp; omega)
        have hs := sz_append (ys.take 4) (ys.drop 4)
        rw [List.take_append_drop] at hs
        have h2 := hf6 (4, 27, 8) (by simp)
        simp only [hd] at h2
        obtain ⟨q2, w2, r2⟩ := dcr_ex n (ys.drop 4) (by simp at hn h1; omega) h2
        refine ⟨.mk q1 q2, ?_, r1, r2⟩
        rw [eA, ← w1, ← w2]
        simp only [PV.cells, List.drop_zero, List.take_append_drop])
      exact ⟨.mk k m s ns ts l5 l6 p, by rw [eE, eTs_map, eEs_map, eAs_map], by rw [GL.rngE]; exact ⟨wf64 wk, wf64 wm, rTs_of ht, rEs_of h5, rAs_of h6⟩⟩
theorem dcrl_fu (cs : List PV) (h : TP Tryd.prog 72 cs) : ∃ f : LFu, PV.agg cs = elFu f ∧ GL.rngE f.body := by
  obtain ⟨hl, hf⟩ := tp_struct (n := 15) (l := [(0, 9, 1), (1, 22, 1), (2, 22, 1), (3, 23, 1), (4, 29, 3), (7, 27, 8)]) (by kernel_rfl) h
  match cs, hl with
  | [a0, a1, a2, a3, b1, b2, b3, c1, c2, c3, c4, c5, c6, c7, c8], _ =>
    obtain ⟨s, e0, _⟩ := tp_str (by kernel_rfl) (hf (0, 9, 1) (by simp))
    obtain ⟨l1, e1⟩ := decl_ss (hf (1, 22, 1) (by simp))
    obtain ⟨l2, e2⟩ := decl_ss (hf (2, 22, 1) (by simp))
    obtain ⟨l3, e3⟩ := decl_ts (hf (3, 23, 1) (by simp))
    obtain ⟨t, e4, _⟩ := dcr_ty _ [b1, b2, b3] (Nat.lt_succ_self _) (hf (4, 29, 3) (by simp))
    obtain ⟨e, e5, re⟩ := dcr_ex _ [c1, c2, c3, c4, c5, c6, c7, c8] (Nat.lt_succ_self _) (hf (7, 27, 8) (by simp))
    cases e0; subst e1; subst e2; subst e3
    refine ⟨⟨s, l1, l2, l3, t, e⟩, ?_, re⟩
    rw [elFu, ← e4, ← e5]; rfl
theorem dcrl_tr (cs : List PV) (h : TP Tryd.prog 70 cs) : ∃ f : LTr, PV.agg cs = elTr f ∧ ∀ g ∈ f.funcs, GL.rngE g.body := by
  obtain ⟨hl, hf⟩ := tp_struct (n := 2) (l := [(0, 9, 1), (1, 37, 1)]) (by kernel_rfl) h
  match cs, hl with
  | [a0, a1], _ =>
    obtain ⟨s, e0, _⟩ := tp_str (by kernel_rfl) (hf (0, 9, 1) (by simp))
    obtain ⟨fs, e2, _, hq⟩ := tp_list (e := 72) (c := 15) (b := 272) (enc := elFu) (Q := fun f => GL.rngE f.body) (by kernel_rfl) (hf (1, 37, 1) (by simp)) (fun cs hcs => dcrl_fu cs hcs)
    cases e0; cases e2
    exact ⟨⟨s, fs⟩, rfl, hq⟩
theorem dcrl_pg (cs : List PV) (h : TP Tryd.prog 39 cs) : ∃ f : LPg, PV.agg cs = elPg f ∧ ∀ t ∈ f.traits, ∀ g ∈ t.funcs, GL.rngE g.body := by
  obtain ⟨hl, hf⟩ := tp_struct (n := 8) (l := [(0, 9, 1), (1, 3, 1), (2, 33, 1), (3, 34, 1), (4, 35, 1), (5, 36, 1), (6, 37, 1), (7, 32, 1)]) (by kernel_rfl) h
  match cs, hl with
  | [a0, a1, a2, a3, a4, a5, a6, a7], _ =>
    obtain ⟨s, e0, _⟩ := tp_str (by kernel_rfl) (hf (0, 9, 1) (by simp))
    obtain ⟨n, e1, _⟩ := tp_int (k := .i64) (by kernel_rfl) (hf (1, 3, 1) (by simp))
    obtain ⟨l2, e2, _⟩ := tp_list (e := 61) (c := 3) (b := 32) (enc := elUse) (Q := fun _ => True) (by kernel_rfl) (hf (2, 33, 1) (by simp)) (fun cs hcs => decl_use cs hcs)
    obtain ⟨l3, e3, _⟩ := tp_list (e := 64) (c := 3) (b := 64) (enc := elDt) (Q := fun _ => True) (by kernel_rfl) (hf (3, 34, 1) (by simp)) (fun cs hcs => decl_dt cs hcs)
    obtain ⟨l4, e4, _, hq⟩ := tp_list (e := 70) (c := 2) (b := 40) (enc := elTr) (Q := fun t => ∀ g ∈ t.funcs, GL.rngE g.body) (by kernel_rfl) (hf (4, 35, 1) (by simp)) (fun cs hcs => dcrl_tr cs hcs)
    obtain ⟨l5, e5, _⟩ := tp_list (e := 75) (c := 3) (b := 56) (enc := elIm) (Q := fun _ => True) (by kernel_rfl) (hf (5, 36, 1) (by simp)) (fun cs hcs => decl_im cs hcs)
    obtain ⟨l6, e6, _⟩ := tp_list (e := 72) (c := 15) (b := 272) (enc := elFu) (Q := fun _ => True) (by kernel_rfl) (hf (6, 37, 1) (by simp)) (fun cs hcs => decl_fu cs hcs)
    obtain ⟨l7, e7, _⟩ := tp_list (e := 31) (c := 14) (b := 248) (enc := elAc) (Q := fun _ => True) (by kernel_rfl) (hf (7, 32, 1) (by simp)) (fun cs hcs => decl_ac cs hcs)
    cases e0; cases e1; cases e2; cases e3; cases e4; cases e5; cases e6; cases e7
    exact ⟨⟨s, n, l2, l3, l4, l5, l6, l7⟩, rfl, hq⟩
end Go.Proofs.YtfnghigkbcbjiaaDoor
