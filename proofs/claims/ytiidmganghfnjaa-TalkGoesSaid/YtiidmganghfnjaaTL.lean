/-
  DERIVED. Contracts of the functions that the law reaches, and the law itself, for every input. No conditions.
-/
import Derived.Test.YtiidmganghfnjaaT5
import Derived.Test.YtiidmganghfnjaaTJ
namespace Go.Proofs.Ytiidmganghfnjaa
open Go Go.AM Go.Proofs TK

theorem talkGoes_pure (xss : List (List PV)) (h : TPs Try.prog [25, 26] xss) : APure Try.prog 6 (mkArgs Try.prog [25, 26] xss) (.p (.b true)) := by
  cases h with
  | cons _ _ x1 _ h1 h =>
  cases h with
  | cons _ _ x2 _ h2 h =>
  cases h
  obtain ⟨n, e1, hn⟩ := dec_net x1 h1
  obtain ⟨a, rfl, ha⟩ := dec_is x2 h2
  have a1 : aggT Try.prog 25 = true := by kernel_rfl
  have a2 : aggT Try.prog 26 = false := by kernel_rfl
  have := talkGoes_spec n (okN_of hn) a (by omega)
  simpa only [mkArgs, mkArg, a1, a2, if_true, e1, List.headD_cons, Bool.false_eq_true, if_false] using this

set_option maxRecDepth 100000 in
theorem talkGoes_lifted (os : Os) (started : os.Started) (H : Type) (enc : TypeId × Value → H) :
    ReturnsInHanded {} Try.checked os 6 .any (Rows.talkGoesSpec.pre6 enc Try.prog Try.f6 Rows.talkGoesRow.domain false) (Rows.talkGoesSpec.post enc Try.prog Try.f6 false true false false) := by
  refine returnsInHanded_of_change_sized (C := Try.checked) Try.own started (by kernel_rfl) Try.func6
    (ChangeSpec.witness6 (enc := enc) (C := Try.checked) false ⟨#[], #[.agg #[.slice none 0 0, .slice none 0 0], .slice none 0 0], []⟩ 8 (by kernel_rfl) (by kernel_rfl) (by kernel_rfl) (by kernel_rfl)) ?_
  intro W base args ds gs before hval0 hW _ hsz0 _
  exact law_of (P := Try.prog) (F := 6) (fn := Try.f6) (s := Rows.talkGoesSpec) (tb := 4) [25, 26] rfl (by kernel_rfl) (by kernel_rfl) (by kernel_rfl) (by kernel_rfl)
    (fun ds hds => by match ds, hds with | [a, b], _ => exact ⟨rfl, rfl, rfl⟩) W base args ds gs before hval0 hW hsz0 rfl talkGoes_pure

theorem talkGoes_holds : Rows.TalkGoesSaid :=
  OpenClaim.holds_of_wide 6 Try.f6 rfl rfl rfl rfl rfl rfl rfl ⟨rfl, rfl, rfl, rfl, rfl⟩ rfl rfl rfl rfl rfl (by kernel_rfl) Try.func6 (by kernel_rfl)
    (of_decide_eq_true (by kernel_rfl)) (by unfold Func.isWrapper; first | (rw [if_pos (by decide +kernel)]; kernel_rfl) | (rw [if_neg (by decide +kernel)]; exact ⟨rfl, rfl⟩))
    (fun os started H enc _ => talkGoes_lifted os started H enc)
#print axioms talkGoes_holds

end Go.Proofs.Ytiidmganghfnjaa
