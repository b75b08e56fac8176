/-
  DERIVED. Contracts of the functions that the law reaches, and the law itself, for every input. No conditions.
-/
import Derived.Test.YtniepbahpkibgaaDoorTKA
import Derived.Test.YtniepbahpkibgaaDoorAMRow
import Derived.Test.YtniepbahpkibgaaDoorRows
import Derived.Test.YtniepbahpkibgaaDoorCards
import Derived.Test.YtniepbahpkibgaaDoorTie
import Derived.ProofKit
import Derived.SizedLaws
import Derived.ChangeBears2
import Derived.OpenShut
import Derived.Deep.DeepHandedRow
import Derived.Lay
namespace Go.Proofs.YtniepbahpkibgaaDoor
open Go Go.AM Go.Proofs
theorem Tryd.own : ownKnob Tryd.prog.godebug = none := by kernel_rfl
theorem str_pure {F : Nat} (hp : ∀ l : Bs, APure Tryd.prog F [.p (.s (B l))] (.p (.b true))) (xss : List (List PV)) (h : TPs Tryd.prog [9] xss) : APure Tryd.prog F (mkArgs Tryd.prog [9] xss) (.p (.b true)) := by
  cases h with
  | cons _ _ x1 _ h1 h =>
  cases h
  obtain ⟨s, e1, _⟩ := tp_str (by kernel_rfl) h1
  subst e1
  have a1 : aggT Tryd.prog 9 = false := by kernel_rfl
  have := hp s.data.toList
  rw [← B_of] at this
  simpa only [mkArgs, mkArg, a1, Bool.false_eq_true, if_false, List.headD_cons] using this
end Go.Proofs.YtniepbahpkibgaaDoor
