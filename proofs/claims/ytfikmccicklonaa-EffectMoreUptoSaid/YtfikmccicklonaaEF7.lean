/-
  DERIVED. Contracts of the functions that the law reaches, and the law itself, for every input. No conditions.
-/
import Derived.Test.YtfikmccicklonaaTP1
import Derived.Test.YtfikmccicklonaaEF6
namespace Go.Proofs.Ytfikmccicklonaa
open Go Go.AM Go.Proofs TR

theorem effectLeast_pure (xss : List (List PV)) (h : TPs Try.prog [29] xss) (hB : wtss xss ≤ 1048576) : APure Try.prog 4 (mkArgs Try.prog [29] xss) (.p (.b true)) := by
  cases h with
  | cons _ _ x1 _ h1 h =>
  cases h
  obtain ⟨p, e1, _⟩ := dec_pg x1 h1
  have a1 : aggT Try.prog 29 = true := by kernel_rfl
  have hw : wPg p = PV.wts x1 := by rw [wPg, ← e1, PV.wt]
  simp only [wtss, PV.wts, PV.wt] at hB
  have := effectLeast_spec p (by omega)
  simpa only [mkArgs, mkArg, a1, if_true, Bool.false_eq_true, if_false, List.headD_cons, e1, eStr] using this
theorem effectMore_pure (xss : List (List PV)) (h : TPs Try.prog [29, 39] xss) (hB : wtss xss ≤ 1048576) : APure Try.prog 3 (mkArgs Try.prog [29, 39] xss) (.p (.b true)) := by
  cases h with
  | cons _ _ x1 _ h1 h =>
  cases h with
  | cons _ _ x2 _ h2 h =>
  cases h
  obtain ⟨p, e1, _⟩ := dec_pg x1 h1
  obtain ⟨f, e2, _⟩ := dec_fu x2 h2
  have a1 : aggT Try.prog 29 = true := by kernel_rfl
  have a2 : aggT Try.prog 39 = true := by kernel_rfl
  have hw : wPg p = PV.wts x1 := by rw [wPg, ← e1, PV.wt]
  have hw2 : PV.wt (eFu f) = PV.wts x2 := by rw [← e2, PV.wt]
  simp only [wtss, PV.wts, PV.wt] at hB
  have := effectMore_spec p f (by omega)
  simpa only [mkArgs, mkArg, a1, a2, if_true, Bool.false_eq_true, if_false, List.headD_cons, e1, e2, eStr] using this

set_option maxRecDepth 100000 in
theorem effectLeast_lifted (os : Os) (started : os.Started) (H : Type) (enc : TypeId × Value → H) (F : Stop.Interp) :
    ReturnsInHanded {} Try.checked os 4 .any ((Rows.OpenSpec.upto Rows.effectLeastSpec).pre6 enc Try.prog Try.f4 Rows.effectLeastUptoRow.domain false) (((Rows.OpenSpec.upto Rows.effectLeastSpec).at F).post enc Try.prog Try.f4 false true false false) := by
  refine returnsInHanded_of_cond_sized (C := Try.checked) (s := Rows.OpenSpec.upto Rows.effectLeastSpec) (k := Rows.uptoSmall) rfl Try.own started (by kernel_rfl) Try.func4
    (OpenSpec.witness (enc := enc) (C := Try.checked) (s := Rows.OpenSpec.upto Rows.effectLeastSpec) (k := Rows.uptoSmall) rfl false ⟨#[], #[.agg #[.string .empty, .int .i64 0, .slice none 0 0, .slice none 0 0, .slice none 0 0, .slice none 0 0, .slice none 0 0, .slice none 0 0]], []⟩ 8 (by kernel_rfl) (by kernel_rfl) (by kernel_rfl)
      (x := ([.agg [.lit (.string []), .lit (.int .i64 0), .nil, .nil, .nil, .nil, .nil, .nil]], [], [])) (by kernel_rfl) rfl (by kernel_rfl)) ?_
  intro W base args ds gs before hval0 hW _ hk hsz0 _
  exact law_upto (P := Try.prog) (F := 4) (fn := Try.f4) (s := Rows.effectLeastSpec) (tb := 4) 1048576 [29] rfl (by kernel_rfl) (by kernel_rfl) (by kernel_rfl) (by kernel_rfl)
    (fun ds hds => by match ds, hds with | [a], _ => exact ⟨rfl, rfl, rfl⟩) W base args ds gs before hval0 hW hsz0 rfl (small_of hk) effectLeast_pure

theorem effectLeast_holds : Rows.EffectLeastUptoSaid :=
  OpenClaim.holds_of_cond 4 Try.f4 rfl rfl rfl rfl rfl rfl rfl ⟨rfl, rfl, rfl, rfl, rfl⟩ rfl rfl rfl rfl rfl (by kernel_rfl) Try.func4 (by kernel_rfl)
    (of_decide_eq_true (by kernel_rfl)) (by unfold Func.isWrapper; first | (rw [if_pos (by decide +kernel)]; kernel_rfl) | (rw [if_neg (by decide +kernel)]; exact ⟨rfl, rfl⟩))
    (fun os started H enc _ F => effectLeast_lifted os started H enc F)
#print axioms effectLeast_holds

set_option maxRecDepth 100000 in
theorem effectMore_lifted (os : Os) (started : os.Started) (H : Type) (enc : TypeId × Value → H) (F : Stop.Interp) :
    ReturnsInHanded {} Try.checked os 3 .any ((Rows.OpenSpec.upto Rows.effectMoreSpec).pre6 enc Try.prog Try.f3 Rows.effectMoreUptoRow.domain false) (((Rows.OpenSpec.upto Rows.effectMoreSpec).at F).post enc Try.prog Try.f3 false true false false) := by
  refine returnsInHanded_of_cond_sized (C := Try.checked) (s := Rows.OpenSpec.upto Rows.effectMoreSpec) (k := Rows.uptoSmall) rfl Try.own started (by kernel_rfl) Try.func3
    (OpenSpec.witness (enc := enc) (C := Try.checked) (s := Rows.OpenSpec.upto Rows.effectMoreSpec) (k := Rows.uptoSmall) rfl false ⟨#[], #[.agg #[.string .empty, .int .i64 0, .slice none 0 0, .slice none 0 0, .slice none 0 0, .slice none 0 0, .slice none 0 0, .slice none 0 0], .agg #[.string .empty, .slice none 0 0, .slice none 0 0, .slice none 0 0, .int .i64 0, .string .empty, .slice none 0 0, .int .i64 0, .int .i64 0, .string .empty, .slice none 0 0, .slice none 0 0, .slice none 0 0, .slice none 0 0, .int .i64 0]], []⟩ 8 (by kernel_rfl) (by kernel_rfl) (by kernel_rfl)
      (x := ([.agg [.lit (.string []), .lit (.int .i64 0), .nil, .nil, .nil, .nil, .nil, .nil], .agg [.lit (.string []), .nil, .nil, .nil, .agg [.lit (.int .i64 0), .lit (.string []), .nil], .agg [.lit (.int .i64 0), .lit (.int .i64 0), .lit (.string []), .nil, .nil, .nil, .nil, .lit (.int .i64 0)]]], [], [])) (by kernel_rfl) rfl (by kernel_rfl)) ?_
  intro W base args ds gs before hval0 hW _ hk hsz0 _
  exact law_upto (P := Try.prog) (F := 3) (fn := Try.f3) (s := Rows.effectMoreSpec) (tb := 4) 1048576 [29, 39] rfl (by kernel_rfl) (by kernel_rfl) (by kernel_rfl) (by kernel_rfl)
    (fun ds hds => by match ds, hds with | [a, b], _ => exact ⟨rfl, rfl, rfl⟩) W base args ds gs before hval0 hW hsz0 rfl (small_of hk) effectMore_pure

theorem effectMore_holds : Rows.EffectMoreUptoSaid :=
  OpenClaim.holds_of_cond 3 Try.f3 rfl rfl rfl rfl rfl rfl rfl ⟨rfl, rfl, rfl, rfl, rfl⟩ rfl rfl rfl rfl rfl (by kernel_rfl) Try.func3 (by kernel_rfl)
    (of_decide_eq_true (by kernel_rfl)) (by unfold Func.isWrapper; first | (rw [if_pos (by decide +kernel)]; kernel_rfl) | (rw [if_neg (by decide +kernel)]; exact ⟨rfl, rfl⟩))
    (fun os started H enc _ F => effectMore_lifted os started H enc F)
#print axioms effectMore_holds

end Go.Proofs.Ytfikmccicklonaa
