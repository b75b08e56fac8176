/-
  DERIVED. Contracts of the functions that the law reaches, and the law itself, for every input. No conditions.
-/
import Derived.Test.YtfgngbamdnaihaaK5
namespace Go.Proofs.Ytfgngbamdnaihaa
open Go Go.AM Go.Proofs KK

theorem more_pure (xss : List (List PV)) (h : TPs Try.prog [29, 33, 30, 36] xss) : APure Try.prog 3 (mkArgs Try.prog [29, 33, 30, 36] xss) (.p (.b true)) := by
  cases h with
  | cons _ _ x1 _ h1 h =>
  cases h with
  | cons _ _ x2 _ h2 h =>
  cases h with
  | cons _ _ x3 _ h3 h =>
  cases h with
  | cons _ _ x4 _ h4 h =>
  cases h
  obtain ⟨p, e1, hp⟩ := dec_p x1 h1
  obtain ⟨d, e2, _⟩ := dec_d x2 h2
  obtain ⟨ps, rfl, hps, _⟩ := tp_list1 (e := 9) (c := 1) (b := 16) (by kernel_rfl) h3 dec_str
  obtain ⟨t, e4, ht⟩ := dec_ty _ x4 (Nat.lt_succ_self _) h4
  have a1 : aggT Try.prog 29 = true := by kernel_rfl
  have a2 : aggT Try.prog 33 = true := by kernel_rfl
  have a3 : aggT Try.prog 30 = false := by kernel_rfl
  have a4 : aggT Try.prog 36 = true := by kernel_rfl
  have := kindMore_spec p d ps t (by omega) (by omega) ht
  simpa only [mkArgs, mkArg, a1, a2, a3, a4, if_true, e1, e2, e4, List.headD_cons, Bool.false_eq_true, if_false] using this

set_option maxRecDepth 100000 in
theorem kindMore_lifted (os : Os) (started : os.Started) (H : Type) (enc : TypeId × Value → H) :
    ReturnsInHanded {} Try.checked os 3 .any (Rows.kindMoreSpec.pre6 enc Try.prog Try.f3 Rows.kindMoreRow.domain false) (Rows.kindMoreSpec.post enc Try.prog Try.f3 false true false false) := by
  refine returnsInHanded_of_change_sized (C := Try.checked) Try.own started (by kernel_rfl) Try.func3
    (ChangeSpec.witness6 (enc := enc) (C := Try.checked) false ⟨#[], #[.agg #[.string ⟨#[]⟩, .int .i64 0, .slice none 0 0, .slice none 0 0, .slice none 0 0, .slice none 0 0, .slice none 0 0, .slice none 0 0], .agg #[.string ⟨#[]⟩, .slice none 0 0, .slice none 0 0], .slice none 0 0, .agg #[.int .i64 0, .string ⟨#[]⟩, .slice none 0 0]], []⟩ 8 (by kernel_rfl) (by kernel_rfl) (by kernel_rfl) (by kernel_rfl)) ?_
  intro W base args ds gs before hval0 hW _ hsz0 _
  exact law_of (P := Try.prog) (F := 3) (fn := Try.f3) (s := Rows.kindMoreSpec) (tb := 4) [29, 33, 30, 36] rfl (by kernel_rfl) (by kernel_rfl) (by kernel_rfl) (by kernel_rfl)
    (fun ds hds => by match ds, hds with | [a, b, c, d], _ => exact ⟨rfl, rfl, rfl⟩) W base args ds gs before hval0 hW hsz0 rfl more_pure

theorem kindMore_holds : Rows.KindMoreSaid :=
  OpenClaim.holds_of_wide 3 Try.f3 rfl rfl rfl rfl rfl rfl rfl ⟨rfl, rfl, rfl, rfl, rfl⟩ rfl rfl rfl rfl rfl (by kernel_rfl) Try.func3 (by kernel_rfl)
    (of_decide_eq_true (by kernel_rfl)) (by unfold Func.isWrapper; first | (rw [if_pos (by decide +kernel)]; kernel_rfl) | (rw [if_neg (by decide +kernel)]; exact ⟨rfl, rfl⟩))
    (fun os started H enc _ => kindMore_lifted os started H enc)
#print axioms kindMore_holds

end Go.Proofs.Ytfgngbamdnaihaa
