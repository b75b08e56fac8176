/- Contracts, and the law, for every input. No conditions. -/
import Derived.Test.YtdmopjgjhfhfdaaGreatDoorAMRow
import Derived.Test.YtdmopjgjhfhfdaaGreatDoorAMGlob
import Derived.Test.YtdmopjgjhfhfdaaGreatDoorChecked
import Derived.Test.YtdmopjgjhfhfdaaGreatDoorRows
import Derived.Test.YtdmopjgjhfhfdaaGreatDoorCards
import Derived.Test.YtdmopjgjhfhfdaaGreatDoorTie
import Derived.ProofKit
import Derived.SizedLaws
import Derived.ChangeBears2
import Derived.OpenShut
import Derived.Deep.DeepHandedRow
import Derived.Lay
import Derived.LaidSub
import Derived.Deep.DeepWitnessRowRef
open Go Go.AM Go.Proofs
set_option maxRecDepth 100000
namespace Go.Proofs.YtdmopjgjhfhfdaaGreatDoor
theorem Tryz.own:ownKnob Tryz.prog.godebug=none:=by kernel_rfl
theorem Tryz.errRange_name:Tryz.prog.globalNamed "strconv.ErrRange"=some 2:=by kernel_rfl
theorem errR_met {l:List (String×DataW Unit)} {W:World} (h:laidMetH Tryz.prog l W) (hm:("strconv.ErrRange",(Rows.laid_strconv_ErrRange:DataW Unit))∈l):∃ev:Value,(ev=.nilIface∨∃te pe,ev=.iface te pe)∧∃(E:TypeId) (fr:Nat×Nat),W.heap[2]?=some (.cells [ev].toArray E fr):=by
 have h1:=Lib.laidMet.reads (laidMetH_iff.1 h).1 (n:= "strconv.ErrRange") (d:=Rows.laid_strconv_ErrRange) (List.mem_filter.2 ⟨hm,by kernel_rfl⟩);exact iface_reads (t:=224) Tryz.errRange_name (by kernel_rfl) (by kernel_rfl) h1
end Go.Proofs.YtdmopjgjhfhfdaaGreatDoor
