/-
  No cell of these rows narrows 'for every input' (looked for: loops, veiled, ifaces, maps, wideKeys, modest, calm, conditions, laid).
  DERIVED. THE GIVEN ROWS OF THIS SEAT. 4 by the template 'for every input the law returns true; each argument reads behind the call as it read before'; 0 by the template 'total and deterministic' (their statements: YtkabogkkbafonaaTotals.lean).
  GIVEN WITH THE SEED: the statements are not yours to turn. If you find one false, say at which input.
  Laid BY PROGRAM, IN A SANDBOX (cutbox-rows.mjs): the forced cells as the released guide's own fill.sh prints them over the translation c2b40ca8252bbf3b… (all of the seat's roots in one cut). By AI agents, Wed Nov 11 2026. No macro, syntax, notation, axiom, sorry.
-/
import Derived.Test.YtkabogkkbafonaaChecked
import GoSem.Claim
import GoSem.ClaimJoined
import GoSem.ClaimMapViews
import Derived.JoinedTies
import Derived.KernelRfl
namespace Go.Proofs.Ytkabogkkbafonaa
/- THE CELL 'sum', in the pinned program and in every row, IS THE sha256 OF THE DUMP (.gsa) THAT YtkabogkkbafonaaProg.lean LOADS. Nothing in Lean hashes anything: it is a label: what it is worth is what the hold of that sum in a sandbox is worth. -/
noncomputable def Try.pinned : Pinned := { name := "ytkabogkkbafonaa", sum := "c2b40ca8252bbf3b35fe87b363d6dbcfdfae6f4a53c7b2d0beedd7a8bea57a21", checked := Try.checked }
namespace Rows
def none {H : Type} : Left H := { results := [], args := [] }

/-- 'roadkeep2.SessionAfter': WHATEVER THE INPUT: true; the input reads as it did. -/
def sessionAfterSpec : ChangeSpec := { name := "sessionAfter", fn := fun _ => fun
  | [d1, d2] => { results := [.lit (.bool true)], args := [d1, d2] }
  | _ => none }
def sessionAfterRow : OpenClaim := { program := "ytkabogkkbafonaa", sum := "c2b40ca8252bbf3b35fe87b363d6dbcfdfae6f4a53c7b2d0beedd7a8bea57a21", func := "roadstead/roadkeep2.SessionAfter", spec := "sessionAfter", apart := false }
def SessionAfterSaid : Prop := sessionAfterRow.holds Try.pinned (OpenSpec.ofChange sessionAfterSpec)

/-- ITS FALSE NEIGHBOUR: 'it returns false'. Refute it at one input. -/
def sessionAfterWrong : ChangeSpec := { name := "sessionAfter", fn := fun _ => fun
  | [d1, d2] => { results := [.lit (.bool false)], args := [d1, d2] }
  | _ => none }
def SessionAfterWrongFalsely : Prop := sessionAfterRow.holds Try.pinned (OpenSpec.ofChange sessionAfterWrong)

/-- 'roadkeep2.SessionOrder': WHATEVER THE INPUT: true; the input reads as it did. -/
def sessionOrderSpec : ChangeSpec := { name := "sessionOrder", fn := fun _ => fun
  | [d1, d2, d3] => { results := [.lit (.bool true)], args := [d1, d2, d3] }
  | _ => none }
def sessionOrderRow : OpenClaim := { program := "ytkabogkkbafonaa", sum := "c2b40ca8252bbf3b35fe87b363d6dbcfdfae6f4a53c7b2d0beedd7a8bea57a21", func := "roadstead/roadkeep2.SessionOrder", spec := "sessionOrder", unfollowed := true, recurses := true, apart := false }
def SessionOrderSaid : Prop := sessionOrderRow.holds Try.pinned (OpenSpec.ofChange sessionOrderSpec)

/-- ITS FALSE NEIGHBOUR: 'it returns false'. Refute it at one input. -/
def sessionOrderWrong : ChangeSpec := { name := "sessionOrder", fn := fun _ => fun
  | [d1, d2, d3] => { results := [.lit (.bool false)], args := [d1, d2, d3] }
  | _ => none }
def SessionOrderWrongFalsely : Prop := sessionOrderRow.holds Try.pinned (OpenSpec.ofChange sessionOrderWrong)

/-- 'roadkeep2.SessionDual': WHATEVER THE INPUT: true; the input reads as it did. -/
def sessionDualSpec : ChangeSpec := { name := "sessionDual", fn := fun _ => fun
  | [d1, d2] => { results := [.lit (.bool true)], args := [d1, d2] }
  | _ => none }
def sessionDualRow : OpenClaim := { program := "ytkabogkkbafonaa", sum := "c2b40ca8252bbf3b35fe87b363d6dbcfdfae6f4a53c7b2d0beedd7a8bea57a21", func := "roadstead/roadkeep2.SessionDual", spec := "sessionDual", unfollowed := true, recurses := true, apart := false }
def SessionDualSaid : Prop := sessionDualRow.holds Try.pinned (OpenSpec.ofChange sessionDualSpec)

/-- ITS FALSE NEIGHBOUR: 'it returns false'. Refute it at one input. -/
def sessionDualWrong : ChangeSpec := { name := "sessionDual", fn := fun _ => fun
  | [d1, d2] => { results := [.lit (.bool false)], args := [d1, d2] }
  | _ => none }
def SessionDualWrongFalsely : Prop := sessionDualRow.holds Try.pinned (OpenSpec.ofChange sessionDualWrong)

/-- 'roadkeep2.SessionLeast': WHATEVER THE INPUT: true; the input reads as it did. -/
def sessionLeastSpec : ChangeSpec := { name := "sessionLeast", fn := fun _ => fun
  | [d1, d2] => { results := [.lit (.bool true)], args := [d1, d2] }
  | _ => none }
def sessionLeastRow : OpenClaim := { program := "ytkabogkkbafonaa", sum := "c2b40ca8252bbf3b35fe87b363d6dbcfdfae6f4a53c7b2d0beedd7a8bea57a21", func := "roadstead/roadkeep2.SessionLeast", spec := "sessionLeast", unfollowed := true, recurses := true, apart := false }
def SessionLeastSaid : Prop := sessionLeastRow.holds Try.pinned (OpenSpec.ofChange sessionLeastSpec)

/-- ITS FALSE NEIGHBOUR: 'it returns false'. Refute it at one input. -/
def sessionLeastWrong : ChangeSpec := { name := "sessionLeast", fn := fun _ => fun
  | [d1, d2] => { results := [.lit (.bool false)], args := [d1, d2] }
  | _ => none }
def SessionLeastWrongFalsely : Prop := sessionLeastRow.holds Try.pinned (OpenSpec.ofChange sessionLeastWrong)

/- THE SECOND FORM. 'bulk': how many values and letters a reading holds, each counted each time it is reached (what is shared counts as often as it is met; a slice's spare places count too). A statement '..UptoSaid' is the law's where the arguments, and the package variables that the reading takes, are together of bulk at most 1048576: NARROWER than '..Said'. Prove '..Said' where nothing that the law and all that it calls make is longer than what came in: it says more and counts as full. Else prove '..UptoSaid'. A law counts once. -/
mutual
def uptoBulk {H : Type} : DataW H → Nat
  | .lit (.string bytes) => bytes.length + 1
  | .lit _ => 1
  | .nil => 1
  | .ptr d => uptoBulk d + 1
  | .slice elems spare => uptoBulkAll elems + uptoBulkAll spare + 1
  | .agg parts => uptoBulkAll parts + 1
  | .iface _ d => uptoBulk d + 1
  | .map entries => uptoBulkEntries entries + 1
  | .held _ => 1
def uptoBulkAll {H : Type} : List (DataW H) → Nat
  | [] => 0
  | d :: r => uptoBulk d + uptoBulkAll r
def uptoBulkEntries {H : Type} : List (Lit × DataW H) → Nat
  | [] => 0
  | x :: r => uptoBulkEntry x + uptoBulkEntries r
def uptoBulkEntry {H : Type} : Lit × DataW H → Nat
  | (.string bytes, d) => bytes.length + uptoBulk d + 1
  | (_, d) => uptoBulk d + 1
 end
def uptoSmall : (H : Type) → List (DataW H) → Bool := fun _ ds => decide (uptoBulkAll ds ≤ 1048576)
def OpenSpec.upto (s : _root_.Go.ChangeSpec) : _root_.Go.OpenSpec := { _root_.Go.OpenSpec.ofChange s with cond := some uptoSmall }

/-- 'roadkeep2.SessionAfter', WHERE WHAT IT READS IS OF BULK AT MOST 1048576: true; the input reads as it did. -/
def sessionAfterUptoRow : OpenClaim := { program := "ytkabogkkbafonaa", sum := "c2b40ca8252bbf3b35fe87b363d6dbcfdfae6f4a53c7b2d0beedd7a8bea57a21", func := "roadstead/roadkeep2.SessionAfter", spec := "sessionAfter", apart := false, narrowed := true }
def SessionAfterUptoSaid : Prop := sessionAfterUptoRow.holds Try.pinned (OpenSpec.upto sessionAfterSpec)

/-- 'roadkeep2.SessionOrder', WHERE WHAT IT READS IS OF BULK AT MOST 1048576: true; the input reads as it did. -/
def sessionOrderUptoRow : OpenClaim := { program := "ytkabogkkbafonaa", sum := "c2b40ca8252bbf3b35fe87b363d6dbcfdfae6f4a53c7b2d0beedd7a8bea57a21", func := "roadstead/roadkeep2.SessionOrder", spec := "sessionOrder", unfollowed := true, recurses := true, apart := false, narrowed := true }
def SessionOrderUptoSaid : Prop := sessionOrderUptoRow.holds Try.pinned (OpenSpec.upto sessionOrderSpec)

/-- 'roadkeep2.SessionDual', WHERE WHAT IT READS IS OF BULK AT MOST 1048576: true; the input reads as it did. -/
def sessionDualUptoRow : OpenClaim := { program := "ytkabogkkbafonaa", sum := "c2b40ca8252bbf3b35fe87b363d6dbcfdfae6f4a53c7b2d0beedd7a8bea57a21", func := "roadstead/roadkeep2.SessionDual", spec := "sessionDual", unfollowed := true, recurses := true, apart := false, narrowed := true }
def SessionDualUptoSaid : Prop := sessionDualUptoRow.holds Try.pinned (OpenSpec.upto sessionDualSpec)

/-- 'roadkeep2.SessionLeast', WHERE WHAT IT READS IS OF BULK AT MOST 1048576: true; the input reads as it did. -/
def sessionLeastUptoRow : OpenClaim := { program := "ytkabogkkbafonaa", sum := "c2b40ca8252bbf3b35fe87b363d6dbcfdfae6f4a53c7b2d0beedd7a8bea57a21", func := "roadstead/roadkeep2.SessionLeast", spec := "sessionLeast", unfollowed := true, recurses := true, apart := false, narrowed := true }
def SessionLeastUptoSaid : Prop := sessionLeastUptoRow.holds Try.pinned (OpenSpec.upto sessionLeastSpec)

end Rows
end Go.Proofs.Ytkabogkkbafonaa
