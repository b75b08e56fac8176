/-
  No cell of these rows narrows 'for every input' (looked for: loops, veiled, ifaces, maps, wideKeys, modest, calm, conditions, laid).
  DERIVED. THE GIVEN ROWS OF THIS SEAT. 4 by the template 'for every input the law returns true; each argument reads behind the call as it read before'; 0 by the template 'total and deterministic' (their statements: YtiidmganghfnjaaTotals.lean).
  GIVEN WITH THE SEED: the statements are not yours to turn. If you find one false, say at which input.
  Laid BY PROGRAM, IN A SANDBOX (cutbox-rows.mjs): the forced cells as the released guide's own fill.sh prints them over the translation 0d4145b2d934e8f2… (all of the seat's roots in one cut). By AI agents, Wed Nov 11 2026. No macro, syntax, notation, axiom, sorry.
-/
import Derived.Test.YtiidmganghfnjaaChecked
import GoSem.Claim
import GoSem.ClaimJoined
import GoSem.ClaimMapViews
import Derived.JoinedTies
import Derived.KernelRfl
namespace Go.Proofs.Ytiidmganghfnjaa
/- THE CELL 'sum', in the pinned program and in every row, IS THE sha256 OF THE DUMP (.gsa) THAT YtiidmganghfnjaaProg.lean LOADS. Nothing in Lean hashes anything: it is a label: what it is worth is what the hold of that sum in a sandbox is worth. -/
noncomputable def Try.pinned : Pinned := { name := "ytiidmganghfnjaa", sum := "0d4145b2d934e8f2e073dd53b9cb595d011689ba8c341f06cc1d135c57f92c48", checked := Try.checked }
namespace Rows
def none {H : Type} : Left H := { results := [], args := [] }

/-- 'roadkeep2.TalkOrder': WHATEVER THE INPUT: true; the input reads as it did. -/
def talkOrderSpec : ChangeSpec := { name := "talkOrder", fn := fun _ => fun
  | [d1, d2, d3] => { results := [.lit (.bool true)], args := [d1, d2, d3] }
  | _ => none }
def talkOrderRow : OpenClaim := { program := "ytiidmganghfnjaa", sum := "0d4145b2d934e8f2e073dd53b9cb595d011689ba8c341f06cc1d135c57f92c48", func := "roadstead/roadkeep2.TalkOrder", spec := "talkOrder", apart := false }
def TalkOrderSaid : Prop := talkOrderRow.holds Try.pinned (OpenSpec.ofChange talkOrderSpec)

/-- ITS FALSE NEIGHBOUR: 'it returns false'. Refute it at one input. -/
def talkOrderWrong : ChangeSpec := { name := "talkOrder", fn := fun _ => fun
  | [d1, d2, d3] => { results := [.lit (.bool false)], args := [d1, d2, d3] }
  | _ => none }
def TalkOrderWrongFalsely : Prop := talkOrderRow.holds Try.pinned (OpenSpec.ofChange talkOrderWrong)

/-- 'roadkeep2.TalkWaits': WHATEVER THE INPUT: true; the input reads as it did. -/
def talkWaitsSpec : ChangeSpec := { name := "talkWaits", fn := fun _ => fun
  | [d1, d2] => { results := [.lit (.bool true)], args := [d1, d2] }
  | _ => none }
def talkWaitsRow : OpenClaim := { program := "ytiidmganghfnjaa", sum := "0d4145b2d934e8f2e073dd53b9cb595d011689ba8c341f06cc1d135c57f92c48", func := "roadstead/roadkeep2.TalkWaits", spec := "talkWaits", apart := false }
def TalkWaitsSaid : Prop := talkWaitsRow.holds Try.pinned (OpenSpec.ofChange talkWaitsSpec)

/-- ITS FALSE NEIGHBOUR: 'it returns false'. Refute it at one input. -/
def talkWaitsWrong : ChangeSpec := { name := "talkWaits", fn := fun _ => fun
  | [d1, d2] => { results := [.lit (.bool false)], args := [d1, d2] }
  | _ => none }
def TalkWaitsWrongFalsely : Prop := talkWaitsRow.holds Try.pinned (OpenSpec.ofChange talkWaitsWrong)

/-- 'roadkeep2.TalkTurned': WHATEVER THE INPUT: true; the input reads as it did. -/
def talkTurnedSpec : ChangeSpec := { name := "talkTurned", fn := fun _ => fun
  | [d1, d2] => { results := [.lit (.bool true)], args := [d1, d2] }
  | _ => none }
def talkTurnedRow : OpenClaim := { program := "ytiidmganghfnjaa", sum := "0d4145b2d934e8f2e073dd53b9cb595d011689ba8c341f06cc1d135c57f92c48", func := "roadstead/roadkeep2.TalkTurned", spec := "talkTurned", unfollowed := true, recurses := true, apart := false }
def TalkTurnedSaid : Prop := talkTurnedRow.holds Try.pinned (OpenSpec.ofChange talkTurnedSpec)

/-- ITS FALSE NEIGHBOUR: 'it returns false'. Refute it at one input. -/
def talkTurnedWrong : ChangeSpec := { name := "talkTurned", fn := fun _ => fun
  | [d1, d2] => { results := [.lit (.bool false)], args := [d1, d2] }
  | _ => none }
def TalkTurnedWrongFalsely : Prop := talkTurnedRow.holds Try.pinned (OpenSpec.ofChange talkTurnedWrong)

/-- 'roadkeep2.TalkGoes': WHATEVER THE INPUT: true; the input reads as it did. -/
def talkGoesSpec : ChangeSpec := { name := "talkGoes", fn := fun _ => fun
  | [d1, d2] => { results := [.lit (.bool true)], args := [d1, d2] }
  | _ => none }
def talkGoesRow : OpenClaim := { program := "ytiidmganghfnjaa", sum := "0d4145b2d934e8f2e073dd53b9cb595d011689ba8c341f06cc1d135c57f92c48", func := "roadstead/roadkeep2.TalkGoes", spec := "talkGoes", unfollowed := true, recurses := true, apart := false }
def TalkGoesSaid : Prop := talkGoesRow.holds Try.pinned (OpenSpec.ofChange talkGoesSpec)

/-- ITS FALSE NEIGHBOUR: 'it returns false'. Refute it at one input. -/
def talkGoesWrong : ChangeSpec := { name := "talkGoes", fn := fun _ => fun
  | [d1, d2] => { results := [.lit (.bool false)], args := [d1, d2] }
  | _ => none }
def TalkGoesWrongFalsely : Prop := talkGoesRow.holds Try.pinned (OpenSpec.ofChange talkGoesWrong)

/- THE SECOND FORM. 'bulk': how many values and letters a reading holds, each counted each time it is reached (what is shared counts as often as it is met; a slice's spare places count too). A statement '..UptoSaid' is the law's where the arguments, and the package variables that the reading takes, are together of bulk at most 1048576: NARROWER than '..Said'. Prove '..Said' where nothing that the law and all that it calls make is longer than what came in: it says more and counts as full. Else prove '..UptoSaid'. A law counts once. -/
mutual
def uptoBulk {H : Type} : DataW H → Nat
  | .lit (.string bytes) => bytes.length + 1
  | .lit _ => 1
  | .nil => 1
  | .ptr d => uptoBulk d + 1
  | .slice elems spare => uptoBulkAll elems + uptoBulkAll spare + 1
  | .agg parts => uptoBulkAll parts + 1
  | .iface _ d => uptoBulk d + 1
  | .map entries => uptoBulkEntries entries + 1
  | .held _ => 1
def uptoBulkAll {H : Type} : List (DataW H) → Nat
  | [] => 0
  | d :: r => uptoBulk d + uptoBulkAll r
def uptoBulkEntries {H : Type} : List (Lit × DataW H) → Nat
  | [] => 0
  | x :: r => uptoBulkEntry x + uptoBulkEntries r
def uptoBulkEntry {H : Type} : Lit × DataW H → Nat
  | (.string bytes, d) => bytes.length + uptoBulk d + 1
  | (_, d) => uptoBulk d + 1
 end
def uptoSmall : (H : Type) → List (DataW H) → Bool := fun _ ds => decide (uptoBulkAll ds ≤ 1048576)
def OpenSpec.upto (s : _root_.Go.ChangeSpec) : _root_.Go.OpenSpec := { _root_.Go.OpenSpec.ofChange s with cond := some uptoSmall }

/-- 'roadkeep2.TalkOrder', WHERE WHAT IT READS IS OF BULK AT MOST 1048576: true; the input reads as it did. -/
def talkOrderUptoRow : OpenClaim := { program := "ytiidmganghfnjaa", sum := "0d4145b2d934e8f2e073dd53b9cb595d011689ba8c341f06cc1d135c57f92c48", func := "roadstead/roadkeep2.TalkOrder", spec := "talkOrder", apart := false, narrowed := true }
def TalkOrderUptoSaid : Prop := talkOrderUptoRow.holds Try.pinned (OpenSpec.upto talkOrderSpec)

/-- 'roadkeep2.TalkWaits', WHERE WHAT IT READS IS OF BULK AT MOST 1048576: true; the input reads as it did. -/
def talkWaitsUptoRow : OpenClaim := { program := "ytiidmganghfnjaa", sum := "0d4145b2d934e8f2e073dd53b9cb595d011689ba8c341f06cc1d135c57f92c48", func := "roadstead/roadkeep2.TalkWaits", spec := "talkWaits", apart := false, narrowed := true }
def TalkWaitsUptoSaid : Prop := talkWaitsUptoRow.holds Try.pinned (OpenSpec.upto talkWaitsSpec)

/-- 'roadkeep2.TalkTurned', WHERE WHAT IT READS IS OF BULK AT MOST 1048576: true; the input reads as it did. -/
def talkTurnedUptoRow : OpenClaim := { program := "ytiidmganghfnjaa", sum := "0d4145b2d934e8f2e073dd53b9cb595d011689ba8c341f06cc1d135c57f92c48", func := "roadstead/roadkeep2.TalkTurned", spec := "talkTurned", unfollowed := true, recurses := true, apart := false, narrowed := true }
def TalkTurnedUptoSaid : Prop := talkTurnedUptoRow.holds Try.pinned (OpenSpec.upto talkTurnedSpec)

/-- 'roadkeep2.TalkGoes', WHERE WHAT IT READS IS OF BULK AT MOST 1048576: true; the input reads as it did. -/
def talkGoesUptoRow : OpenClaim := { program := "ytiidmganghfnjaa", sum := "0d4145b2d934e8f2e073dd53b9cb595d011689ba8c341f06cc1d135c57f92c48", func := "roadstead/roadkeep2.TalkGoes", spec := "talkGoes", unfollowed := true, recurses := true, apart := false, narrowed := true }
def TalkGoesUptoSaid : Prop := talkGoesUptoRow.holds Try.pinned (OpenSpec.upto talkGoesSpec)

end Rows
end Go.Proofs.Ytiidmganghfnjaa
