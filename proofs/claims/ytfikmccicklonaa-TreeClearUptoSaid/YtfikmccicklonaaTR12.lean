/-
  DERIVED. Contracts of the functions that the law reaches, and the law itself, for every input. No conditions.
-/
import Derived.Test.YtfikmccicklonaaTR8
import Derived.Test.YtfikmccicklonaaTR11
namespace Go.Proofs.Ytfikmccicklonaa
open Go Go.AM Go.Proofs TR

theorem treeClear_pure (xss : List (List PV)) (h : TPs Try.prog [37] xss) (hB : wtss xss ≤ 1048576) : APure Try.prog 8 (mkArgs Try.prog [37] xss) (.p (.b true)) := by
  cases h with
  | cons _ _ x1 _ h1 h =>
  cases h
  obtain ⟨e, e1, _⟩ := dec_ex _ x1 (Nat.lt_succ_self _) h1
  have a1 : aggT Try.prog 37 = true := by kernel_rfl
  have hw : wE e = PV.wts x1 := by rw [wE, ← e1, PV.wt]
  simp only [wtss] at hB
  have := treeClear_spec e (by omega)
  simpa only [mkArgs, mkArg, a1, if_true, e1] using this

set_option maxRecDepth 100000 in
theorem treeClear_lifted (os : Os) (started : os.Started) (H : Type) (enc : TypeId × Value → H) (F : Stop.Interp) :
    ReturnsInHanded {} Try.checked os 8 .any ((Rows.OpenSpec.upto Rows.treeClearSpec).pre6 enc Try.prog Try.f8 Rows.treeClearUptoRow.domain false) (((Rows.OpenSpec.upto Rows.treeClearSpec).at F).post enc Try.prog Try.f8 false true false false) := by
  refine returnsInHanded_of_cond_sized (C := Try.checked) (s := Rows.OpenSpec.upto Rows.treeClearSpec) (k := Rows.uptoSmall) rfl Try.own started (by kernel_rfl) Try.func8
    (OpenSpec.witness (enc := enc) (C := Try.checked) (s := Rows.OpenSpec.upto Rows.treeClearSpec) (k := Rows.uptoSmall) rfl false ⟨#[], #[.agg #[.int .i64 0, .int .i64 0, .string .empty, .slice none 0 0, .slice none 0 0, .slice none 0 0, .slice none 0 0, .int .i64 0]], []⟩ 8 (by kernel_rfl) (by kernel_rfl) (by kernel_rfl)
      (x := ([.agg [.lit (.int .i64 0), .lit (.int .i64 0), .lit (.string []), .nil, .nil, .nil, .nil, .lit (.int .i64 0)]], [], [])) (by kernel_rfl) rfl (by kernel_rfl)) ?_
  intro W base args ds gs before hval0 hW _ hk hsz0 _
  exact law_upto (P := Try.prog) (F := 8) (fn := Try.f8) (s := Rows.treeClearSpec) (tb := 4) 1048576 [37] rfl (by kernel_rfl) (by kernel_rfl) (by kernel_rfl) (by kernel_rfl)
    (fun ds hds => by match ds, hds with | [a], _ => exact ⟨rfl, rfl, rfl⟩) W base args ds gs before hval0 hW hsz0 rfl (small_of hk) treeClear_pure

theorem treeClear_holds : Rows.TreeClearUptoSaid :=
  OpenClaim.holds_of_cond 8 Try.f8 rfl rfl rfl rfl rfl rfl rfl ⟨rfl, rfl, rfl, rfl, rfl⟩ rfl rfl rfl rfl rfl (by kernel_rfl) Try.func8 (by kernel_rfl)
    (of_decide_eq_true (by kernel_rfl)) (by unfold Func.isWrapper; first | (rw [if_pos (by decide +kernel)]; kernel_rfl) | (rw [if_neg (by decide +kernel)]; exact ⟨rfl, rfl⟩))
    (fun os started H enc _ F => treeClear_lifted os started H enc F)
#print axioms treeClear_holds

end Go.Proofs.Ytfikmccicklonaa
