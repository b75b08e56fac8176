/-
  DERIVED. Contracts of the functions that the law reaches, and the law itself, for every input. No conditions.
-/
import Derived.Test.YtfgngbamdnaihaaK5
namespace Go.Proofs.Ytfgngbamdnaihaa
open Go Go.AM Go.Proofs KK

theorem put_pure (xss : List (List PV)) (h : TPs Try.prog [29, 30, 36, 34] xss) : APure Try.prog 4 (mkArgs Try.prog [29, 30, 36, 34] xss) (.p (.b true)) := by
  cases h with
  | cons _ _ x1 _ h1 h =>
  cases h with
  | cons _ _ x2 _ h2 h =>
  cases h with
  | cons _ _ x3 _ h3 h =>
  cases h with
  | cons _ _ x4 _ h4 h =>
  cases h
  obtain ⟨p, e1, hp⟩ := dec_p x1 h1
  obtain ⟨ps, rfl, hps, _⟩ := tp_list1 (e := 9) (c := 1) (b := 16) (by kernel_rfl) h2 dec_str
  obtain ⟨t, e3, ht⟩ := dec_ty _ x3 (Nat.lt_succ_self _) h3
  obtain ⟨l, rfl, hl, hol⟩ := dec_tys x4 h4
  have a1 : aggT Try.prog 29 = true := by kernel_rfl
  have a2 : aggT Try.prog 30 = false := by kernel_rfl
  have a3 : aggT Try.prog 36 = true := by kernel_rfl
  have a4 : aggT Try.prog 34 = false := by kernel_rfl
  have := kindPut_spec p ps t l (by omega) (by omega) ht hol (by omega)
  simpa only [mkArgs, mkArg, a1, a2, a3, a4, if_true, e1, e3, List.headD_cons, Bool.false_eq_true, if_false] using this

set_option maxRecDepth 100000 in
theorem kindPut_lifted (os : Os) (started : os.Started) (H : Type) (enc : TypeId × Value → H) :
    ReturnsInHanded {} Try.checked os 4 .any (Rows.kindPutSpec.pre6 enc Try.prog Try.f4 Rows.kindPutRow.domain false) (Rows.kindPutSpec.post enc Try.prog Try.f4 false true false false) := by
  refine returnsInHanded_of_change_sized (C := Try.checked) Try.own started (by kernel_rfl) Try.func4
    (ChangeSpec.witness6 (enc := enc) (C := Try.checked) false ⟨#[], #[.agg #[.string ⟨#[]⟩, .int .i64 0, .slice none 0 0, .slice none 0 0, .slice none 0 0, .slice none 0 0, .slice none 0 0, .slice none 0 0], .slice none 0 0, .agg #[.int .i64 0, .string ⟨#[]⟩, .slice none 0 0], .slice none 0 0], []⟩ 8 (by kernel_rfl) (by kernel_rfl) (by kernel_rfl) (by kernel_rfl)) ?_
  intro W base args ds gs before hval0 hW _ hsz0 _
  exact law_of (P := Try.prog) (F := 4) (fn := Try.f4) (s := Rows.kindPutSpec) (tb := 4) [29, 30, 36, 34] rfl (by kernel_rfl) (by kernel_rfl) (by kernel_rfl) (by kernel_rfl)
    (fun ds hds => by match ds, hds with | [a, b, c, d], _ => exact ⟨rfl, rfl, rfl⟩) W base args ds gs before hval0 hW hsz0 rfl put_pure

theorem kindPut_holds : Rows.KindPutSaid :=
  OpenClaim.holds_of_wide 4 Try.f4 rfl rfl rfl rfl rfl rfl rfl ⟨rfl, rfl, rfl, rfl, rfl⟩ rfl rfl rfl rfl rfl (by kernel_rfl) Try.func4 (by kernel_rfl)
    (of_decide_eq_true (by kernel_rfl)) (by unfold Func.isWrapper; first | (rw [if_pos (by decide +kernel)]; kernel_rfl) | (rw [if_neg (by decide +kernel)]; exact ⟨rfl, rfl⟩))
    (fun os started H enc _ => kindPut_lifted os started H enc)
#print axioms kindPut_holds

end Go.Proofs.Ytfgngbamdnaihaa
