/-
  DERIVED. Contracts of the functions that the law reaches, and the law itself, for every input. No conditions.
-/
import Derived.Test.YtfikmccicklonaaTP1
import Derived.Test.YtfikmccicklonaaTS8
namespace Go.Proofs.Ytfikmccicklonaa
open Go Go.AM Go.Proofs TR

theorem scopeMore_pure (xss : List (List PV)) (h : TPs Try.prog [29, 30, 9] xss) (hB : wtss xss ≤ 1048576) : APure Try.prog 7 (mkArgs Try.prog [29, 30, 9] xss) (.p (.b true)) := by
  cases h with
  | cons _ _ x1 _ h1 h =>
  cases h with
  | cons _ _ x2 _ h2 h =>
  cases h with
  | cons _ _ x3 _ h3 h =>
  cases h
  obtain ⟨p, e1, _⟩ := dec_pg x1 h1
  obtain ⟨l, e2, _⟩ := tp_list1 (e := 9) (c := 1) (b := 16) (by kernel_rfl) h2 dec_str
  obtain ⟨s, e3, _⟩ := tp_str (by kernel_rfl) h3
  subst e2 e3
  have a1 : aggT Try.prog 29 = true := by kernel_rfl
  have a2 : aggT Try.prog 9 = false := by kernel_rfl
  have a3 : aggT Try.prog 30 = false := by kernel_rfl
  have hw : wPg p = PV.wts x1 := by rw [wPg, ← e1, PV.wt]
  have hl := wSs_len l
  simp only [wtss, PV.wts, PV.wt] at hB
  have := scopeMore_spec p l s (by omega) (by omega)
  simpa only [mkArgs, mkArg, a1, a2, a3, if_true, Bool.false_eq_true, if_false, List.headD_cons, e1, eStr] using this

set_option maxRecDepth 100000 in
theorem scopeMore_lifted (os : Os) (started : os.Started) (H : Type) (enc : TypeId × Value → H) (F : Stop.Interp) :
    ReturnsInHanded {} Try.checked os 7 .any ((Rows.OpenSpec.upto Rows.scopeMoreSpec).pre6 enc Try.prog Try.f7 Rows.scopeMoreUptoRow.domain false) (((Rows.OpenSpec.upto Rows.scopeMoreSpec).at F).post enc Try.prog Try.f7 false true false false) := by
  refine returnsInHanded_of_cond_sized (C := Try.checked) (s := Rows.OpenSpec.upto Rows.scopeMoreSpec) (k := Rows.uptoSmall) rfl Try.own started (by kernel_rfl) Try.func7
    (OpenSpec.witness (enc := enc) (C := Try.checked) (s := Rows.OpenSpec.upto Rows.scopeMoreSpec) (k := Rows.uptoSmall) rfl false ⟨#[], #[.agg #[.string .empty, .int .i64 0, .slice none 0 0, .slice none 0 0, .slice none 0 0, .slice none 0 0, .slice none 0 0, .slice none 0 0], .slice none 0 0, .string .empty], []⟩ 8 (by kernel_rfl) (by kernel_rfl) (by kernel_rfl)
      (x := ([.agg [.lit (.string []), .lit (.int .i64 0), .nil, .nil, .nil, .nil, .nil, .nil], .nil, .lit (.string [])], [], [])) (by kernel_rfl) rfl (by kernel_rfl)) ?_
  intro W base args ds gs before hval0 hW _ hk hsz0 _
  exact law_upto (P := Try.prog) (F := 7) (fn := Try.f7) (s := Rows.scopeMoreSpec) (tb := 4) 1048576 [29, 30, 9] rfl (by kernel_rfl) (by kernel_rfl) (by kernel_rfl) (by kernel_rfl)
    (fun ds hds => by match ds, hds with | [a, b, c], _ => exact ⟨rfl, rfl, rfl⟩) W base args ds gs before hval0 hW hsz0 rfl (small_of hk) scopeMore_pure

theorem scopeMore_holds : Rows.ScopeMoreUptoSaid :=
  OpenClaim.holds_of_cond 7 Try.f7 rfl rfl rfl rfl rfl rfl rfl ⟨rfl, rfl, rfl, rfl, rfl⟩ rfl rfl rfl rfl rfl (by kernel_rfl) Try.func7 (by kernel_rfl)
    (of_decide_eq_true (by kernel_rfl)) (by unfold Func.isWrapper; first | (rw [if_pos (by decide +kernel)]; kernel_rfl) | (rw [if_neg (by decide +kernel)]; exact ⟨rfl, rfl⟩))
    (fun os started H enc _ F => scopeMore_lifted os started H enc F)
#print axioms scopeMore_holds

end Go.Proofs.Ytfikmccicklonaa
