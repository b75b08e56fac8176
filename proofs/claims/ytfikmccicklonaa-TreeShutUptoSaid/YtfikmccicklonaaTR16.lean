/-
  DERIVED. Contracts of the functions that the law reaches, and the law itself, for every input. No conditions.
-/
import Derived.Test.YtfikmccicklonaaTR8
import Derived.Test.YtfikmccicklonaaTR15
namespace Go.Proofs.Ytfikmccicklonaa
open Go Go.AM Go.Proofs TR

theorem treeShut_pure (xss : List (List PV)) (h : TPs Try.prog [37, 9] xss) (hB : wtss xss ≤ 1048576) : APure Try.prog 5 (mkArgs Try.prog [37, 9] xss) (.p (.b true)) := by
  cases h with
  | cons _ _ x1 _ h1 h =>
  cases h with
  | cons _ _ x2 _ h2 h =>
  cases h
  obtain ⟨e, e1, _⟩ := dec_ex _ x1 (Nat.lt_succ_self _) h1
  obtain ⟨s, e2, _⟩ := tp_str (by kernel_rfl) h2
  subst e2
  have a1 : aggT Try.prog 37 = true := by kernel_rfl
  have a2 : aggT Try.prog 9 = false := by kernel_rfl
  have hw : wE e = PV.wts x1 := by rw [wE, ← e1, PV.wt]
  simp only [wtss, PV.wts, PV.wt] at hB
  have := treeShut_spec e s (by omega)
  simpa only [mkArgs, mkArg, a1, a2, if_true, Bool.false_eq_true, if_false, List.headD_cons, e1, eStr] using this

set_option maxRecDepth 100000 in
theorem treeShut_lifted (os : Os) (started : os.Started) (H : Type) (enc : TypeId × Value → H) (F : Stop.Interp) :
    ReturnsInHanded {} Try.checked os 5 .any ((Rows.OpenSpec.upto Rows.treeShutSpec).pre6 enc Try.prog Try.f5 Rows.treeShutUptoRow.domain false) (((Rows.OpenSpec.upto Rows.treeShutSpec).at F).post enc Try.prog Try.f5 false true false false) := by
  refine returnsInHanded_of_cond_sized (C := Try.checked) (s := Rows.OpenSpec.upto Rows.treeShutSpec) (k := Rows.uptoSmall) rfl Try.own started (by kernel_rfl) Try.func5
    (OpenSpec.witness (enc := enc) (C := Try.checked) (s := Rows.OpenSpec.upto Rows.treeShutSpec) (k := Rows.uptoSmall) rfl false ⟨#[], #[.agg #[.int .i64 0, .int .i64 0, .string .empty, .slice none 0 0, .slice none 0 0, .slice none 0 0, .slice none 0 0, .int .i64 0], .string .empty], []⟩ 8 (by kernel_rfl) (by kernel_rfl) (by kernel_rfl)
      (x := ([.agg [.lit (.int .i64 0), .lit (.int .i64 0), .lit (.string []), .nil, .nil, .nil, .nil, .lit (.int .i64 0)], .lit (.string [])], [], [])) (by kernel_rfl) rfl (by kernel_rfl)) ?_
  intro W base args ds gs before hval0 hW _ hk hsz0 _
  exact law_upto (P := Try.prog) (F := 5) (fn := Try.f5) (s := Rows.treeShutSpec) (tb := 4) 1048576 [37, 9] rfl (by kernel_rfl) (by kernel_rfl) (by kernel_rfl) (by kernel_rfl)
    (fun ds hds => by match ds, hds with | [a, b], _ => exact ⟨rfl, rfl, rfl⟩) W base args ds gs before hval0 hW hsz0 rfl (small_of hk) treeShut_pure

theorem treeShut_holds : Rows.TreeShutUptoSaid :=
  OpenClaim.holds_of_cond 5 Try.f5 rfl rfl rfl rfl rfl rfl rfl ⟨rfl, rfl, rfl, rfl, rfl⟩ rfl rfl rfl rfl rfl (by kernel_rfl) Try.func5 (by kernel_rfl)
    (of_decide_eq_true (by kernel_rfl)) (by unfold Func.isWrapper; first | (rw [if_pos (by decide +kernel)]; kernel_rfl) | (rw [if_neg (by decide +kernel)]; exact ⟨rfl, rfl⟩))
    (fun os started H enc _ F => treeShut_lifted os started H enc F)
#print axioms treeShut_holds


end Go.Proofs.Ytfikmccicklonaa
