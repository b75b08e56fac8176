/-
  NARROWER THAN 'FOR EVERY INPUT', by the rows' own cells (each row's printed sentence says how): EffectMore: loops · EffectLeast: loops · TreeShut: loops · TreeWhole: loops · ScopeMore: loops · TreeClear: loops.
  DERIVED. THE GIVEN ROWS OF THIS SEAT. 6 by the template 'for every input the law returns true; each argument reads behind the call as it read before'; 0 by the template 'total and deterministic' (their statements: YtfikmccicklonaaTotals.lean).
  GIVEN WITH THE SEED: the statements are not yours to turn. If you find one false, say at which input.
  Laid BY PROGRAM, IN A SANDBOX (cutbox-rows.mjs): the forced cells as the released guide's own fill.sh prints them over the translation 824ad4d55607f274… (all of the seat's roots in one cut). By AI agents, Wed Nov 11 2026. No macro, syntax, notation, axiom, sorry.
-/
import Derived.Test.YtfikmccicklonaaChecked
import GoSem.Claim
import GoSem.ClaimJoined
import GoSem.ClaimMapViews
import Derived.JoinedTies
import Derived.KernelRfl
namespace Go.Proofs.Ytfikmccicklonaa
/- THE CELL 'sum', in the pinned program and in every row, IS THE sha256 OF THE DUMP (.gsa) THAT YtfikmccicklonaaProg.lean LOADS. Nothing in Lean hashes anything: it is a label: what it is worth is what the hold of that sum in a sandbox is worth. -/
noncomputable def Try.pinned : Pinned := { name := "ytfikmccicklonaa", sum := "824ad4d55607f274b570bb0cba93bf6fade06cabe22e8ab29b29e7bb23f5379f", checked := Try.checked }
namespace Rows
def none {H : Type} : Left H := { results := [], args := [] }

/-- 'roadkeep2.EffectMore': WHATEVER THE INPUT: true; the input reads as it did. -/
def effectMoreSpec : ChangeSpec := { name := "effectMore", fn := fun _ => fun
  | [d1, d2] => { results := [.lit (.bool true)], args := [d1, d2] }
  | _ => none }
def effectMoreRow : OpenClaim := { program := "ytfikmccicklonaa", sum := "824ad4d55607f274b570bb0cba93bf6fade06cabe22e8ab29b29e7bb23f5379f", func := "roadstead/roadkeep2.EffectMore", spec := "effectMore", unfollowed := true, recurses := true, loops := true, apart := false }
def EffectMoreSaid : Prop := effectMoreRow.holds Try.pinned (OpenSpec.ofChange effectMoreSpec)

/-- ITS FALSE NEIGHBOUR: 'it returns false'. Refute it at one input. -/
def effectMoreWrong : ChangeSpec := { name := "effectMore", fn := fun _ => fun
  | [d1, d2] => { results := [.lit (.bool false)], args := [d1, d2] }
  | _ => none }
def EffectMoreWrongFalsely : Prop := effectMoreRow.holds Try.pinned (OpenSpec.ofChange effectMoreWrong)

/-- 'roadkeep2.EffectLeast': WHATEVER THE INPUT: true; the input reads as it did. -/
def effectLeastSpec : ChangeSpec := { name := "effectLeast", fn := fun _ => fun
  | [d] => { results := [.lit (.bool true)], args := [d] }
  | _ => none }
def effectLeastRow : OpenClaim := { program := "ytfikmccicklonaa", sum := "824ad4d55607f274b570bb0cba93bf6fade06cabe22e8ab29b29e7bb23f5379f", func := "roadstead/roadkeep2.EffectLeast", spec := "effectLeast", unfollowed := true, recurses := true, loops := true, apart := false }
def EffectLeastSaid : Prop := effectLeastRow.holds Try.pinned (OpenSpec.ofChange effectLeastSpec)

/-- ITS FALSE NEIGHBOUR: 'it returns false'. Refute it at one input. -/
def effectLeastWrong : ChangeSpec := { name := "effectLeast", fn := fun _ => fun
  | [d] => { results := [.lit (.bool false)], args := [d] }
  | _ => none }
def EffectLeastWrongFalsely : Prop := effectLeastRow.holds Try.pinned (OpenSpec.ofChange effectLeastWrong)

/-- 'roadkeep2.TreeShut': WHATEVER THE INPUT: true; the input reads as it did. -/
def treeShutSpec : ChangeSpec := { name := "treeShut", fn := fun _ => fun
  | [d1, d2] => { results := [.lit (.bool true)], args := [d1, d2] }
  | _ => none }
def treeShutRow : OpenClaim := { program := "ytfikmccicklonaa", sum := "824ad4d55607f274b570bb0cba93bf6fade06cabe22e8ab29b29e7bb23f5379f", func := "roadstead/roadkeep2.TreeShut", spec := "treeShut", unfollowed := true, recurses := true, loops := true, apart := false }
def TreeShutSaid : Prop := treeShutRow.holds Try.pinned (OpenSpec.ofChange treeShutSpec)

/-- ITS FALSE NEIGHBOUR: 'it returns false'. Refute it at one input. -/
def treeShutWrong : ChangeSpec := { name := "treeShut", fn := fun _ => fun
  | [d1, d2] => { results := [.lit (.bool false)], args := [d1, d2] }
  | _ => none }
def TreeShutWrongFalsely : Prop := treeShutRow.holds Try.pinned (OpenSpec.ofChange treeShutWrong)

/-- 'roadkeep2.TreeWhole': WHATEVER THE INPUT: true; the input reads as it did. -/
def treeWholeSpec : ChangeSpec := { name := "treeWhole", fn := fun _ => fun
  | [d] => { results := [.lit (.bool true)], args := [d] }
  | _ => none }
def treeWholeRow : OpenClaim := { program := "ytfikmccicklonaa", sum := "824ad4d55607f274b570bb0cba93bf6fade06cabe22e8ab29b29e7bb23f5379f", func := "roadstead/roadkeep2.TreeWhole", spec := "treeWhole", unfollowed := true, recurses := true, loops := true, apart := false }
def TreeWholeSaid : Prop := treeWholeRow.holds Try.pinned (OpenSpec.ofChange treeWholeSpec)

/-- ITS FALSE NEIGHBOUR: 'it returns false'. Refute it at one input. -/
def treeWholeWrong : ChangeSpec := { name := "treeWhole", fn := fun _ => fun
  | [d] => { results := [.lit (.bool false)], args := [d] }
  | _ => none }
def TreeWholeWrongFalsely : Prop := treeWholeRow.holds Try.pinned (OpenSpec.ofChange treeWholeWrong)

/-- 'roadkeep2.ScopeMore': WHATEVER THE INPUT: true; the input reads as it did. -/
def scopeMoreSpec : ChangeSpec := { name := "scopeMore", fn := fun _ => fun
  | [d1, d2, d3] => { results := [.lit (.bool true)], args := [d1, d2, d3] }
  | _ => none }
def scopeMoreRow : OpenClaim := { program := "ytfikmccicklonaa", sum := "824ad4d55607f274b570bb0cba93bf6fade06cabe22e8ab29b29e7bb23f5379f", func := "roadstead/roadkeep2.ScopeMore", spec := "scopeMore", recurses := true, loops := true, apart := false }
def ScopeMoreSaid : Prop := scopeMoreRow.holds Try.pinned (OpenSpec.ofChange scopeMoreSpec)

/-- ITS FALSE NEIGHBOUR: 'it returns false'. Refute it at one input. -/
def scopeMoreWrong : ChangeSpec := { name := "scopeMore", fn := fun _ => fun
  | [d1, d2, d3] => { results := [.lit (.bool false)], args := [d1, d2, d3] }
  | _ => none }
def ScopeMoreWrongFalsely : Prop := scopeMoreRow.holds Try.pinned (OpenSpec.ofChange scopeMoreWrong)

/-- 'roadkeep2.TreeClear': WHATEVER THE INPUT: true; the input reads as it did. -/
def treeClearSpec : ChangeSpec := { name := "treeClear", fn := fun _ => fun
  | [d] => { results := [.lit (.bool true)], args := [d] }
  | _ => none }
def treeClearRow : OpenClaim := { program := "ytfikmccicklonaa", sum := "824ad4d55607f274b570bb0cba93bf6fade06cabe22e8ab29b29e7bb23f5379f", func := "roadstead/roadkeep2.TreeClear", spec := "treeClear", unfollowed := true, recurses := true, loops := true, apart := false }
def TreeClearSaid : Prop := treeClearRow.holds Try.pinned (OpenSpec.ofChange treeClearSpec)

/-- ITS FALSE NEIGHBOUR: 'it returns false'. Refute it at one input. -/
def treeClearWrong : ChangeSpec := { name := "treeClear", fn := fun _ => fun
  | [d] => { results := [.lit (.bool false)], args := [d] }
  | _ => none }
def TreeClearWrongFalsely : Prop := treeClearRow.holds Try.pinned (OpenSpec.ofChange treeClearWrong)

/- THE SECOND FORM. 'bulk': how many values and letters a reading holds, each counted each time it is reached (what is shared counts as often as it is met; a slice's spare places count too). A statement '..UptoSaid' is the law's where the arguments, and the package variables that the reading takes, are together of bulk at most 1048576: NARROWER than '..Said'. Prove '..Said' where nothing that the law and all that it calls make is longer than what came in: it says more and counts as full. Else prove '..UptoSaid'. A law counts once. -/
mutual
def uptoBulk {H : Type} : DataW H → Nat
  | .lit (.string bytes) => bytes.length + 1
  | .lit _ => 1
  | .nil => 1
  | .ptr d => uptoBulk d + 1
  | .slice elems spare => uptoBulkAll elems + uptoBulkAll spare + 1
  | .agg parts => uptoBulkAll parts + 1
  | .iface _ d => uptoBulk d + 1
  | .map entries => uptoBulkEntries entries + 1
  | .held _ => 1
def uptoBulkAll {H : Type} : List (DataW H) → Nat
  | [] => 0
  | d :: r => uptoBulk d + uptoBulkAll r
def uptoBulkEntries {H : Type} : List (Lit × DataW H) → Nat
  | [] => 0
  | x :: r => uptoBulkEntry x + uptoBulkEntries r
def uptoBulkEntry {H : Type} : Lit × DataW H → Nat
  | (.string bytes, d) => bytes.length + uptoBulk d + 1
  | (_, d) => uptoBulk d + 1
 end
def uptoSmall : (H : Type) → List (DataW H) → Bool := fun _ ds => decide (uptoBulkAll ds ≤ 1048576)
def OpenSpec.upto (s : _root_.Go.ChangeSpec) : _root_.Go.OpenSpec := { _root_.Go.OpenSpec.ofChange s with cond := some uptoSmall }

/-- 'roadkeep2.EffectMore', WHERE WHAT IT READS IS OF BULK AT MOST 1048576: true; the input reads as it did. -/
def effectMoreUptoRow : OpenClaim := { program := "ytfikmccicklonaa", sum := "824ad4d55607f274b570bb0cba93bf6fade06cabe22e8ab29b29e7bb23f5379f", func := "roadstead/roadkeep2.EffectMore", spec := "effectMore", unfollowed := true, recurses := true, loops := true, apart := false, narrowed := true }
def EffectMoreUptoSaid : Prop := effectMoreUptoRow.holds Try.pinned (OpenSpec.upto effectMoreSpec)

/-- 'roadkeep2.EffectLeast', WHERE WHAT IT READS IS OF BULK AT MOST 1048576: true; the input reads as it did. -/
def effectLeastUptoRow : OpenClaim := { program := "ytfikmccicklonaa", sum := "824ad4d55607f274b570bb0cba93bf6fade06cabe22e8ab29b29e7bb23f5379f", func := "roadstead/roadkeep2.EffectLeast", spec := "effectLeast", unfollowed := true, recurses := true, loops := true, apart := false, narrowed := true }
def EffectLeastUptoSaid : Prop := effectLeastUptoRow.holds Try.pinned (OpenSpec.upto effectLeastSpec)

/-- 'roadkeep2.TreeShut', WHERE WHAT IT READS IS OF BULK AT MOST 1048576: true; the input reads as it did. -/
def treeShutUptoRow : OpenClaim := { program := "ytfikmccicklonaa", sum := "824ad4d55607f274b570bb0cba93bf6fade06cabe22e8ab29b29e7bb23f5379f", func := "roadstead/roadkeep2.TreeShut", spec := "treeShut", unfollowed := true, recurses := true, loops := true, apart := false, narrowed := true }
def TreeShutUptoSaid : Prop := treeShutUptoRow.holds Try.pinned (OpenSpec.upto treeShutSpec)

/-- 'roadkeep2.TreeWhole', WHERE WHAT IT READS IS OF BULK AT MOST 1048576: true; the input reads as it did. -/
def treeWholeUptoRow : OpenClaim := { program := "ytfikmccicklonaa", sum := "824ad4d55607f274b570bb0cba93bf6fade06cabe22e8ab29b29e7bb23f5379f", func := "roadstead/roadkeep2.TreeWhole", spec := "treeWhole", unfollowed := true, recurses := true, loops := true, apart := false, narrowed := true }
def TreeWholeUptoSaid : Prop := treeWholeUptoRow.holds Try.pinned (OpenSpec.upto treeWholeSpec)

/-- 'roadkeep2.ScopeMore', WHERE WHAT IT READS IS OF BULK AT MOST 1048576: true; the input reads as it did. -/
def scopeMoreUptoRow : OpenClaim := { program := "ytfikmccicklonaa", sum := "824ad4d55607f274b570bb0cba93bf6fade06cabe22e8ab29b29e7bb23f5379f", func := "roadstead/roadkeep2.ScopeMore", spec := "scopeMore", recurses := true, loops := true, apart := false, narrowed := true }
def ScopeMoreUptoSaid : Prop := scopeMoreUptoRow.holds Try.pinned (OpenSpec.upto scopeMoreSpec)

/-- 'roadkeep2.TreeClear', WHERE WHAT IT READS IS OF BULK AT MOST 1048576: true; the input reads as it did. -/
def treeClearUptoRow : OpenClaim := { program := "ytfikmccicklonaa", sum := "824ad4d55607f274b570bb0cba93bf6fade06cabe22e8ab29b29e7bb23f5379f", func := "roadstead/roadkeep2.TreeClear", spec := "treeClear", unfollowed := true, recurses := true, loops := true, apart := false, narrowed := true }
def TreeClearUptoSaid : Prop := treeClearUptoRow.holds Try.pinned (OpenSpec.upto treeClearSpec)

end Rows
end Go.Proofs.Ytfikmccicklonaa
