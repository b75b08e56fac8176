/-
  DERIVED. Contracts of functions that the law reaches, and the law, for every input. No conditions.
-/
import Derived.Test.YtcgaadhbnckjbaaUNI
import Derived.Test.YtcgaadhbnckjbaaAMRow
import Derived.Test.YtcgaadhbnckjbaaRows
import Derived.ProofKit
import Derived.SizedLaws
import Derived.Deep.CondSized
import Derived.ChangeBears2
import Derived.OpenShut
namespace Go.Proofs.Ytcgaadhbnckjbaa
open Go Go.AM Go.Proofs KK

theorem Try.own : ownKnob Try.prog.godebug = none := by kernel_rfl

theorem okTs_of : ∀ (l : List Ty), (∀ t ∈ l, okT t) → okTs l
  | [], _ => trivial
  | t :: r, h => ⟨h t (by simp), okTs_of r (fun d hd => h d (by simp [hd]))⟩

theorem dec_ty : ∀ (n : Nat) (cs : List PV), SizeOf.sizeOf cs < n → TP Try.prog 27 cs → ∃ t, PV.agg cs = eT t ∧ okT t
  | 0, cs, hn, _ => by omega
  | n + 1, cs, hn, h => by
    obtain ⟨hl, hf⟩ := tp_struct (n := 3) (l := [(0, 3, 1), (1, 9, 1), (2, 25, 1)]) (by kernel_rfl) h
    match cs, hl with
    | [a, b, c], _ =>
      obtain ⟨k, e1, _⟩ := tp_int (k := .i64) (by kernel_rfl) (hf (0, 3, 1) (by simp))
      obtain ⟨s, e2, _⟩ := tp_str (by kernel_rfl) (hf (1, 9, 1) (by simp))
      obtain ⟨xs, e3, hb, hc, ha⟩ := tp_slice (e := 27) (c := 3) (b := 48) (agg := true) (by kernel_rfl) (hf (2, 25, 1) (by simp))
      cases e1; cases e2; cases e3
      obtain ⟨l, rfl, hq⟩ := list_map (enc := eT) (Q := okT) xs (fun y hy => by
        obtain ⟨ys, rfl⟩ := (ha y hy).1 rfl
        have h1 := List.sizeOf_lt_of_mem hy
        exact dec_ty n ys (by simp at hn h1; omega) (hc _ hy))
      exact ⟨.mk k s l, by rw [eT, eTs_map], by have := hb; simp at this; omega, okTs_of l hq⟩

mutual
theorem bulk_eq {H : Type} : ∀ (d : DataW H), Rows.uptoBulk d = bulkW d
  | .lit (.string _) => by simp [Rows.uptoBulk, bulkW]
  | .lit (.bool _) => by simp [Rows.uptoBulk, bulkW]
  | .lit (.int _ _) => by simp [Rows.uptoBulk, bulkW]
  | .lit (.float _ _) => by simp [Rows.uptoBulk, bulkW]
  | .lit .nil => by simp [Rows.uptoBulk, bulkW]
  | .nil => by simp [Rows.uptoBulk, bulkW]
  | .ptr d => by simp [Rows.uptoBulk, bulkW, bulk_eq d]
  | .slice a b => by simp [Rows.uptoBulk, bulkW, bulkAll_eq a, bulkAll_eq b]
  | .agg a => by simp [Rows.uptoBulk, bulkW, bulkAll_eq a]
  | .iface _ d => by simp [Rows.uptoBulk, bulkW, bulk_eq d]
  | .map es => by simp [Rows.uptoBulk, bulkW, bulkEntries_eq es]
  | .held _ => by simp [Rows.uptoBulk, bulkW]
theorem bulkAll_eq {H : Type} : ∀ (d : List (DataW H)), Rows.uptoBulkAll d = bulkAll d
  | [] => by simp [Rows.uptoBulkAll, bulkAll]
  | x :: r => by simp [Rows.uptoBulkAll, bulkAll, bulk_eq x, bulkAll_eq r]
theorem bulkEntries_eq {H : Type} : ∀ (d : List (Lit × DataW H)), Rows.uptoBulkEntries d = bulkEntries d
  | [] => by simp [Rows.uptoBulkEntries, bulkEntries]
  | x :: r => by simp [Rows.uptoBulkEntries, bulkEntries, bulkEntry_eq x, bulkEntries_eq r]
theorem bulkEntry_eq {H : Type} : ∀ (d : Lit × DataW H), Rows.uptoBulkEntry d = bulkEntry d
  | (.string _, d) => by simp [Rows.uptoBulkEntry, bulkEntry, bulk_eq d]
  | (.bool _, d) => by simp [Rows.uptoBulkEntry, bulkEntry, bulk_eq d]
  | (.int _ _, d) => by simp [Rows.uptoBulkEntry, bulkEntry, bulk_eq d]
  | (.float _ _, d) => by simp [Rows.uptoBulkEntry, bulkEntry, bulk_eq d]
  | (.nil, d) => by simp [Rows.uptoBulkEntry, bulkEntry, bulk_eq d]
end
theorem small_of {H : Type} {ds : List (DataW H)} (h : Rows.uptoSmall H ds = true) : bulkAll ds ≤ 1048576 := by
  rw [← bulkAll_eq]; exact of_decide_eq_true h

mutual
theorem nodes_wt : ∀ (t : Ty), nodes t ≤ PV.wt (eT t)
  | .mk k n xs => by
    have := nodess_wt xs
    rw [nodes, eT]; simp only [PV.wt, PV.wts]; omega
theorem nodess_wt : ∀ (l : List Ty), nodess l ≤ PV.wts (eTs l)
  | [] => by simp [nodess]
  | t :: r => by
    have h1 := nodes_wt t; have h2 := nodess_wt r
    simp only [nodess, eTs, PV.wts]; omega
end
def arrT (P : Program) (t m e n c : Nat) : Bool := match P.underlying t with | some (.array m' e') => Nat.beq m' m && Nat.beq e' e && Nat.beq (P.cellsOf t) n && Nat.beq (P.cellsOf e) c | _ => false
theorem tp_array {P : Program} {t m e n c : Nat} {x : List PV} (hu : arrT P t m e n c = true) (h : TP P t x) : x.length = n ∧ ∀ i, i < m → TP P e ((x.drop (i * c)).take c) := by
  unfold arrT at hu
  cases h with
  | array _ m' e' xs h hl hf =>
    rw [h] at hu
    simp only [Bool.and_eq_true] at hu
    obtain ⟨⟨⟨h1, h2⟩, h3⟩, h4⟩ := hu
    obtain rfl := Nat.eq_of_beq_eq_true h1
    obtain rfl := Nat.eq_of_beq_eq_true h2
    obtain rfl := Nat.eq_of_beq_eq_true h3
    obtain rfl := Nat.eq_of_beq_eq_true h4
    exact ⟨hl, hf⟩
  | bool _ _ h => rw [h] at hu; cases hu
  | int _ _ _ h => rw [h] at hu; cases hu
  | str _ _ h => rw [h] at hu; cases hu
  | sl _ _ _ h => rw [h] at hu; cases hu
  | struct _ _ _ h => rw [h] at hu; cases hu
theorem eT_cells {cs : List PV} {t : Ty} (h : PV.agg cs = eT t) : cs = (eT t).cells := by rw [← h]; rfl
theorem dec_pair (cs : List PV) (h : TP Try.prog 28 cs) : ∃ p : TP2, PV.agg cs = eP p ∧ True := by
  obtain ⟨hl, hf⟩ := tp_array (m := 2) (e := 27) (n := 6) (c := 3) (by kernel_rfl) h
  obtain ⟨t1, e1, _⟩ := dec_ty _ _ (Nat.lt_succ_self _) (hf 0 (by decide))
  obtain ⟨t2, e2, _⟩ := dec_ty _ _ (Nat.lt_succ_self _) (hf 1 (by decide))
  refine ⟨(t1, t2), ?_, trivial⟩
  have k1 := eT_cells e1
  have k2 := eT_cells e2
  match cs, hl with
  | [a, b, c, d, e, f], _ =>
    simp at k1 k2
    unfold eP
    rw [← k1, ← k2]; rfl
theorem dec_pairs (x : List PV) (h : TP Try.prog 22 x) : ∃ l : List TP2, x = [.sl 6 (l.map eP)] := by
  obtain ⟨l, e, _, _⟩ := tp_list (e := 28) (c := 6) (b := 96) (enc := eP) (Q := fun _ => True) (by kernel_rfl) h dec_pair
  exact ⟨l, e⟩
theorem dec_bind (cs : List PV) (h : TP Try.prog 37 cs) : ∃ p : ByteArray × Ty, PV.agg cs = eB p ∧ True := by
  obtain ⟨hl, hf⟩ := tp_struct (n := 4) (l := [(0, 9, 1), (1, 27, 3)]) (by kernel_rfl) h
  match cs, hl with
  | [a, b, c, d], _ =>
    obtain ⟨s, e1, _⟩ := tp_str (by kernel_rfl) (hf (0, 9, 1) (by simp))
    obtain ⟨t, e2, _⟩ := dec_ty _ _ (Nat.lt_succ_self _) (hf (1, 27, 3) (by simp))
    have k2 := eT_cells e2
    simp at k2
    cases e1
    refine ⟨(s, t), ?_, trivial⟩
    unfold eB
    rw [← k2]
theorem dec_binds (x : List PV) (h : TP Try.prog 29 x) : ∃ l : TM, x = [.sl 4 (l.map eB)] := by
  obtain ⟨l, e, _, _⟩ := tp_list (e := 37) (c := 4) (b := 64) (enc := eB) (Q := fun _ => True) (by kernel_rfl) h dec_bind
  exact ⟨l, e⟩
theorem pair_wt (p : TP2) : nodes p.1 + nodes p.2 ≤ PV.wt (eP p) := by
  have h1 := nodes_wt p.1
  have h2 := nodes_wt p.2
  obtain ⟨⟨ak, an, ax⟩, bk, bn, bx⟩ := p
  unfold eP
  rw [PV.wt, PV.wts_append]
  exact Nat.add_le_add h1 h2
theorem pairs_wt : ∀ (l : List TP2), sumP l ≤ PV.wts (l.map eP)
  | [] => by simp [sumP]
  | p :: r => by
    have := pair_wt p; have := pairs_wt r
    rw [List.map_cons, sumP, PV.wts]; omega
theorem binds_wt : ∀ (l : TM), l.length ≤ PV.wts (l.map eB) ∧ ∀ p ∈ l, nodes p.2 ≤ PV.wts (l.map eB)
  | [] => by simp
  | (n, t) :: r => by
    obtain ⟨h1, h2⟩ := binds_wt r
    have h3 := nodes_wt t
    have h4 : PV.wt (eB (n, t)) = (n.size + 1) + PV.wt (eT t) := by
      obtain ⟨k, m, xs⟩ := t
      rfl
    rw [List.map_cons, PV.wts]
    refine ⟨by simp; omega, fun p hp => ?_⟩
    rcases List.mem_cons.1 hp with rfl | hp
    · simp only; omega
    · have := h2 p hp; omega
theorem unifySolves_pure (xss : List (List PV)) (h : TPs Try.prog [22] xss) (hB : wtss xss ≤ 1048576) : APure Try.prog 4 (mkArgs Try.prog [22] xss) (.p (.b true)) := by
  cases h with
  | cons _ _ x1 _ h1 h =>
  cases h
  obtain ⟨ps, e1⟩ := dec_pairs x1 h1
  have a1 : aggT Try.prog 22 = false := by kernel_rfl
  have hw := pairs_wt ps
  subst e1
  simp only [wtss, PV.wts, PV.wt] at hB
  have := unifySolves_ok ps (by omega)
  simpa only [mkArgs, mkArg, a1, if_true, Bool.false_eq_true, if_false, List.headD_cons] using this
theorem unifyOrder_pure (xss : List (List PV)) (h : TPs Try.prog [22] xss) (hB : wtss xss ≤ 1048576) : APure Try.prog 3 (mkArgs Try.prog [22] xss) (.p (.b true)) := by
  cases h with
  | cons _ _ x1 _ h1 h =>
  cases h
  obtain ⟨ps, e1⟩ := dec_pairs x1 h1
  have a1 : aggT Try.prog 22 = false := by kernel_rfl
  have hw := pairs_wt ps
  subst e1
  simp only [wtss, PV.wts, PV.wt] at hB
  have := unifyOrder_ok ps (by omega)
  simpa only [mkArgs, mkArg, a1, if_true, Bool.false_eq_true, if_false, List.headD_cons] using this
theorem unifyMost_pure (xss : List (List PV)) (h : TPs Try.prog [22, 29] xss) (hB : wtss xss ≤ 1048576) : APure Try.prog 5 (mkArgs Try.prog [22, 29] xss) (.p (.b true)) := by
  cases h with
  | cons _ _ x1 _ h1 h =>
  cases h with
  | cons _ _ x2 _ h2 h =>
  cases h
  obtain ⟨ps, e1⟩ := dec_pairs x1 h1
  obtain ⟨os, e2⟩ := dec_binds x2 h2
  have a1 : aggT Try.prog 22 = false := by kernel_rfl
  have a2 : aggT Try.prog 29 = false := by kernel_rfl
  have hw := pairs_wt ps
  obtain ⟨hw1, hw2⟩ := binds_wt os
  subst e1
  subst e2
  simp only [wtss, PV.wts, PV.wt] at hB
  have := unifyMost_ok ps os (by omega) (by omega) (fun p hp => by have := hw2 p hp; omega)
  simpa only [mkArgs, mkArg, a1, a2, if_true, Bool.false_eq_true, if_false, List.headD_cons] using this

set_option maxRecDepth 100000 in
theorem unifySolves_lifted (os : Os) (started : os.Started) (H : Type) (enc : TypeId × Value → H) (F : Stop.Interp) :
    ReturnsInHanded {} Try.checked os 4 .any ((Rows.OpenSpec.upto Rows.unifySolvesSpec).pre6 enc Try.prog Try.f4 Rows.unifySolvesUptoRow.domain false) (((Rows.OpenSpec.upto Rows.unifySolvesSpec).at F).post enc Try.prog Try.f4 false true false false) := by
  refine returnsInHanded_of_cond_sized (C := Try.checked) (s := Rows.OpenSpec.upto Rows.unifySolvesSpec) (k := Rows.uptoSmall) rfl Try.own started (by kernel_rfl) Try.func4
    (OpenSpec.witness (enc := enc) (C := Try.checked) (s := Rows.OpenSpec.upto Rows.unifySolvesSpec) (k := Rows.uptoSmall) rfl false ⟨#[], #[.slice none 0 0], []⟩ 8 (by kernel_rfl) (by kernel_rfl) (by kernel_rfl)
      (x := ([.nil], [], [])) (by kernel_rfl) rfl (by kernel_rfl)) ?_
  intro W base args ds gs before hval0 hW _ hk hsz0 _
  exact law_upto (P := Try.prog) (F := 4) (fn := Try.f4) (s := Rows.unifySolvesSpec) (tb := 4) 1048576 [22] rfl (by kernel_rfl) (by kernel_rfl) (by kernel_rfl) (by kernel_rfl)
    (fun ds hds => by match ds, hds with | [a], _ => exact ⟨rfl, rfl, rfl⟩) W base args ds gs before hval0 hW hsz0 rfl (small_of hk) unifySolves_pure

theorem unifySolves_holds : Rows.UnifySolvesUptoSaid :=
  OpenClaim.holds_of_cond 4 Try.f4 rfl rfl rfl rfl rfl rfl rfl ⟨rfl, rfl, rfl, rfl, rfl⟩ rfl rfl rfl rfl rfl (by kernel_rfl) Try.func4 (by kernel_rfl)
    (of_decide_eq_true (by kernel_rfl)) (by unfold Func.isWrapper; first | (rw [if_pos (by decide +kernel)]; kernel_rfl) | (rw [if_neg (by decide +kernel)]; exact ⟨rfl, rfl⟩))
    (fun os started H enc _ F => unifySolves_lifted os started H enc F)
#print axioms unifySolves_holds

set_option maxRecDepth 100000 in
theorem unifyOrder_lifted (os : Os) (started : os.Started) (H : Type) (enc : TypeId × Value → H) (F : Stop.Interp) :
    ReturnsInHanded {} Try.checked os 3 .any ((Rows.OpenSpec.upto Rows.unifyOrderSpec).pre6 enc Try.prog Try.f3 Rows.unifyOrderUptoRow.domain false) (((Rows.OpenSpec.upto Rows.unifyOrderSpec).at F).post enc Try.prog Try.f3 false true false false) := by
  refine returnsInHanded_of_cond_sized (C := Try.checked) (s := Rows.OpenSpec.upto Rows.unifyOrderSpec) (k := Rows.uptoSmall) rfl Try.own started (by kernel_rfl) Try.func3
    (OpenSpec.witness (enc := enc) (C := Try.checked) (s := Rows.OpenSpec.upto Rows.unifyOrderSpec) (k := Rows.uptoSmall) rfl false ⟨#[], #[.slice none 0 0], []⟩ 8 (by kernel_rfl) (by kernel_rfl) (by kernel_rfl)
      (x := ([.nil], [], [])) (by kernel_rfl) rfl (by kernel_rfl)) ?_
  intro W base args ds gs before hval0 hW _ hk hsz0 _
  exact law_upto (P := Try.prog) (F := 3) (fn := Try.f3) (s := Rows.unifyOrderSpec) (tb := 4) 1048576 [22] rfl (by kernel_rfl) (by kernel_rfl) (by kernel_rfl) (by kernel_rfl)
    (fun ds hds => by match ds, hds with | [a], _ => exact ⟨rfl, rfl, rfl⟩) W base args ds gs before hval0 hW hsz0 rfl (small_of hk) unifyOrder_pure

theorem unifyOrder_holds : Rows.UnifyOrderUptoSaid :=
  OpenClaim.holds_of_cond 3 Try.f3 rfl rfl rfl rfl rfl rfl rfl ⟨rfl, rfl, rfl, rfl, rfl⟩ rfl rfl rfl rfl rfl (by kernel_rfl) Try.func3 (by kernel_rfl)
    (of_decide_eq_true (by kernel_rfl)) (by unfold Func.isWrapper; first | (rw [if_pos (by decide +kernel)]; kernel_rfl) | (rw [if_neg (by decide +kernel)]; exact ⟨rfl, rfl⟩))
    (fun os started H enc _ F => unifyOrder_lifted os started H enc F)
#print axioms unifyOrder_holds

set_option maxRecDepth 100000 in
theorem unifyMost_lifted (os : Os) (started : os.Started) (H : Type) (enc : TypeId × Value → H) (F : Stop.Interp) :
    ReturnsInHanded {} Try.checked os 5 .any ((Rows.OpenSpec.upto Rows.unifyMostSpec).pre6 enc Try.prog Try.f5 Rows.unifyMostUptoRow.domain false) (((Rows.OpenSpec.upto Rows.unifyMostSpec).at F).post enc Try.prog Try.f5 false true false false) := by
  refine returnsInHanded_of_cond_sized (C := Try.checked) (s := Rows.OpenSpec.upto Rows.unifyMostSpec) (k := Rows.uptoSmall) rfl Try.own started (by kernel_rfl) Try.func5
    (OpenSpec.witness (enc := enc) (C := Try.checked) (s := Rows.OpenSpec.upto Rows.unifyMostSpec) (k := Rows.uptoSmall) rfl false ⟨#[], #[.slice none 0 0, .slice none 0 0], []⟩ 8 (by kernel_rfl) (by kernel_rfl) (by kernel_rfl)
      (x := ([.nil, .nil], [], [])) (by kernel_rfl) rfl (by kernel_rfl)) ?_
  intro W base args ds gs before hval0 hW _ hk hsz0 _
  exact law_upto (P := Try.prog) (F := 5) (fn := Try.f5) (s := Rows.unifyMostSpec) (tb := 4) 1048576 [22, 29] rfl (by kernel_rfl) (by kernel_rfl) (by kernel_rfl) (by kernel_rfl)
    (fun ds hds => by match ds, hds with | [a, b], _ => exact ⟨rfl, rfl, rfl⟩) W base args ds gs before hval0 hW hsz0 rfl (small_of hk) unifyMost_pure

theorem unifyMost_holds : Rows.UnifyMostUptoSaid :=
  OpenClaim.holds_of_cond 5 Try.f5 rfl rfl rfl rfl rfl rfl rfl ⟨rfl, rfl, rfl, rfl, rfl⟩ rfl rfl rfl rfl rfl (by kernel_rfl) Try.func5 (by kernel_rfl)
    (of_decide_eq_true (by kernel_rfl)) (by unfold Func.isWrapper; first | (rw [if_pos (by decide +kernel)]; kernel_rfl) | (rw [if_neg (by decide +kernel)]; exact ⟨rfl, rfl⟩))
    (fun os started H enc _ F => unifyMost_lifted os started H enc F)
#print axioms unifyMost_holds

end Go.Proofs.Ytcgaadhbnckjbaa
