/-
  NARROWER THAN 'FOR EVERY INPUT', by the rows' own cells (each row's printed sentence says how): KindMore: loops · KindPut: loops.
  DERIVED. THE GIVEN ROWS OF THIS SEAT. 2 by the template 'for every input the law returns true; each argument reads behind the call as it read before'; 0 by the template 'total and deterministic' (their statements: YtfgngbamdnaihaaTotals.lean).
  GIVEN WITH THE SEED: the statements are not yours to turn. If you find one false, say at which input.
  Laid BY PROGRAM, IN A SANDBOX (cutbox-rows.mjs): the forced cells as the released guide's own fill.sh prints them over the translation ccee357a7cc11a50… (all of the seat's roots in one cut). By AI agents, Wed Nov 11 2026. No macro, syntax, notation, axiom, sorry.
-/
import Derived.Test.YtfgngbamdnaihaaChecked
import GoSem.Claim
import GoSem.ClaimJoined
import GoSem.ClaimMapViews
import Derived.JoinedTies
import Derived.KernelRfl
namespace Go.Proofs.Ytfgngbamdnaihaa
/- THE CELL 'sum', in the pinned program and in every row, IS THE sha256 OF THE DUMP (.gsa) THAT YtfgngbamdnaihaaProg.lean LOADS. Nothing in Lean hashes anything: it is a label: what it is worth is what the hold of that sum in a sandbox is worth. -/
noncomputable def Try.pinned : Pinned := { name := "ytfgngbamdnaihaa", sum := "ccee357a7cc11a50e9aef6842820cde63cbb47a9e683192b392b8b37362c308f", checked := Try.checked }
namespace Rows
def none {H : Type} : Left H := { results := [], args := [] }

/-- 'roadkeep2.KindMore': WHATEVER THE INPUT: true; the input reads as it did. -/
def kindMoreSpec : ChangeSpec := { name := "kindMore", fn := fun _ => fun
  | [d1, d2, d3, d4] => { results := [.lit (.bool true)], args := [d1, d2, d3, d4] }
  | _ => none }
def kindMoreRow : OpenClaim := { program := "ytfgngbamdnaihaa", sum := "ccee357a7cc11a50e9aef6842820cde63cbb47a9e683192b392b8b37362c308f", func := "roadstead/roadkeep2.KindMore", spec := "kindMore", recurses := true, loops := true, apart := false }
def KindMoreSaid : Prop := kindMoreRow.holds Try.pinned (OpenSpec.ofChange kindMoreSpec)

/-- ITS FALSE NEIGHBOUR: 'it returns false'. Refute it at one input. -/
def kindMoreWrong : ChangeSpec := { name := "kindMore", fn := fun _ => fun
  | [d1, d2, d3, d4] => { results := [.lit (.bool false)], args := [d1, d2, d3, d4] }
  | _ => none }
def KindMoreWrongFalsely : Prop := kindMoreRow.holds Try.pinned (OpenSpec.ofChange kindMoreWrong)

/-- 'roadkeep2.KindPut': WHATEVER THE INPUT: true; the input reads as it did. -/
def kindPutSpec : ChangeSpec := { name := "kindPut", fn := fun _ => fun
  | [d1, d2, d3, d4] => { results := [.lit (.bool true)], args := [d1, d2, d3, d4] }
  | _ => none }
def kindPutRow : OpenClaim := { program := "ytfgngbamdnaihaa", sum := "ccee357a7cc11a50e9aef6842820cde63cbb47a9e683192b392b8b37362c308f", func := "roadstead/roadkeep2.KindPut", spec := "kindPut", unfollowed := true, recurses := true, loops := true, apart := false }
def KindPutSaid : Prop := kindPutRow.holds Try.pinned (OpenSpec.ofChange kindPutSpec)

/-- ITS FALSE NEIGHBOUR: 'it returns false'. Refute it at one input. -/
def kindPutWrong : ChangeSpec := { name := "kindPut", fn := fun _ => fun
  | [d1, d2, d3, d4] => { results := [.lit (.bool false)], args := [d1, d2, d3, d4] }
  | _ => none }
def KindPutWrongFalsely : Prop := kindPutRow.holds Try.pinned (OpenSpec.ofChange kindPutWrong)

/- THE SECOND FORM. 'bulk': how many values and letters a reading holds, each counted each time it is reached (what is shared counts as often as it is met; a slice's spare places count too). A statement '..UptoSaid' is the law's where the arguments, and the package variables that the reading takes, are together of bulk at most 1048576: NARROWER than '..Said'. Prove '..Said' where nothing that the law and all that it calls make is longer than what came in: it says more and counts as full. Else prove '..UptoSaid'. A law counts once. -/
mutual
def uptoBulk {H : Type} : DataW H → Nat
  | .lit (.string bytes) => bytes.length + 1
  | .lit _ => 1
  | .nil => 1
  | .ptr d => uptoBulk d + 1
  | .slice elems spare => uptoBulkAll elems + uptoBulkAll spare + 1
  | .agg parts => uptoBulkAll parts + 1
  | .iface _ d => uptoBulk d + 1
  | .map entries => uptoBulkEntries entries + 1
  | .held _ => 1
def uptoBulkAll {H : Type} : List (DataW H) → Nat
  | [] => 0
  | d :: r => uptoBulk d + uptoBulkAll r
def uptoBulkEntries {H : Type} : List (Lit × DataW H) → Nat
  | [] => 0
  | x :: r => uptoBulkEntry x + uptoBulkEntries r
def uptoBulkEntry {H : Type} : Lit × DataW H → Nat
  | (.string bytes, d) => bytes.length + uptoBulk d + 1
  | (_, d) => uptoBulk d + 1
 end
def uptoSmall : (H : Type) → List (DataW H) → Bool := fun _ ds => decide (uptoBulkAll ds ≤ 1048576)
def OpenSpec.upto (s : _root_.Go.ChangeSpec) : _root_.Go.OpenSpec := { _root_.Go.OpenSpec.ofChange s with cond := some uptoSmall }

/-- 'roadkeep2.KindMore', WHERE WHAT IT READS IS OF BULK AT MOST 1048576: true; the input reads as it did. -/
def kindMoreUptoRow : OpenClaim := { program := "ytfgngbamdnaihaa", sum := "ccee357a7cc11a50e9aef6842820cde63cbb47a9e683192b392b8b37362c308f", func := "roadstead/roadkeep2.KindMore", spec := "kindMore", recurses := true, loops := true, apart := false, narrowed := true }
def KindMoreUptoSaid : Prop := kindMoreUptoRow.holds Try.pinned (OpenSpec.upto kindMoreSpec)

/-- 'roadkeep2.KindPut', WHERE WHAT IT READS IS OF BULK AT MOST 1048576: true; the input reads as it did. -/
def kindPutUptoRow : OpenClaim := { program := "ytfgngbamdnaihaa", sum := "ccee357a7cc11a50e9aef6842820cde63cbb47a9e683192b392b8b37362c308f", func := "roadstead/roadkeep2.KindPut", spec := "kindPut", unfollowed := true, recurses := true, loops := true, apart := false, narrowed := true }
def KindPutUptoSaid : Prop := kindPutUptoRow.holds Try.pinned (OpenSpec.upto kindPutSpec)

end Rows
end Go.Proofs.Ytfgngbamdnaihaa
