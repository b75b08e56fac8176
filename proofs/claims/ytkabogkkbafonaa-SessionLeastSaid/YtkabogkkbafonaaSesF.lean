/-
  DERIVED. Contracts of the functions that the law reaches, and the law itself, for every input. No conditions.
-/
import Derived.Test.YtkabogkkbafonaaSes6
import Derived.Test.YtkabogkkbafonaaSesE
namespace Go.Proofs.Ytkabogkkbafonaa
open Go Go.AM Go.Proofs SE

theorem sessionLeast_pure (xss : List (List PV)) (h : TPs Try.prog [22, 22] xss) : APure Try.prog 6 (mkArgs Try.prog [22, 22] xss) (.p (.b true)) := by
  cases h with
  | cons _ _ x1 _ h1 h =>
  cases h with
  | cons _ _ x2 _ h2 h =>
  cases h
  obtain ⟨l1, rfl, f1⟩ := dec_sts x1 h1
  obtain ⟨l2, rfl, f2⟩ := dec_sts x2 h2
  have a1 : aggT Try.prog 22 = false := by kernel_rfl
  have := leastLaw_spec l1 l2 f1 f2
  simpa only [mkArgs, mkArg, a1, List.headD_cons, Bool.false_eq_true, if_false] using this

set_option maxRecDepth 100000 in
theorem sessionLeast_lifted (os : Os) (started : os.Started) (H : Type) (enc : TypeId × Value → H) :
    ReturnsInHanded {} Try.checked os 6 .any (Rows.sessionLeastSpec.pre6 enc Try.prog Try.f6 Rows.sessionLeastRow.domain false) (Rows.sessionLeastSpec.post enc Try.prog Try.f6 false true false false) := by
  refine returnsInHanded_of_change_sized (C := Try.checked) Try.own started (by kernel_rfl) Try.func6
    (ChangeSpec.witness6 (enc := enc) (C := Try.checked) false ⟨#[], #[.slice none 0 0, .slice none 0 0], []⟩ 8 (by kernel_rfl) (by kernel_rfl) (by kernel_rfl) (by kernel_rfl)) ?_
  intro W base args ds gs before hval0 hW _ hsz0 _
  exact law_of (P := Try.prog) (F := 6) (fn := Try.f6) (s := Rows.sessionLeastSpec) (tb := 4) [22, 22] rfl (by kernel_rfl) (by kernel_rfl) (by kernel_rfl) (by kernel_rfl)
    (fun ds hds => by match ds, hds with | [a, b], _ => exact ⟨rfl, rfl, rfl⟩) W base args ds gs before hval0 hW hsz0 rfl sessionLeast_pure

theorem sessionLeast_holds : Rows.SessionLeastSaid :=
  OpenClaim.holds_of_wide 6 Try.f6 rfl rfl rfl rfl rfl rfl rfl ⟨rfl, rfl, rfl, rfl, rfl⟩ rfl rfl rfl rfl rfl (by kernel_rfl) Try.func6 (by kernel_rfl)
    (of_decide_eq_true (by kernel_rfl)) (by unfold Func.isWrapper; first | (rw [if_pos (by decide +kernel)]; kernel_rfl) | (rw [if_neg (by decide +kernel)]; exact ⟨rfl, rfl⟩))
    (fun os started H enc _ => sessionLeast_lifted os started H enc)
#print axioms sessionLeast_holds

end Go.Proofs.Ytkabogkkbafonaa
