/-
  DERIVED. Contracts of functions that the law reaches, and the law, for every input. No conditions.
-/
import Derived.Test.YtmakmpapchiioaaGreatDoorSX3
import Derived.Test.YtmakmpapchiioaaGreatDoorPRW
import Derived.Deep.CondSized
open Go Go.AM Go.Proofs TR
set_option maxRecDepth 100000
namespace Go.Proofs.YtmakmpapchiioaaGreatDoor
theorem pow_name:Tryz.prog.globalNamed "internal/strconv.uint64pow10"=some 0:=by kernel_rfl
theorem pow_reads:(Rows.laid_internal_strconv_uint64pow10:DataW Unit)=Lib.tabData .u64 Lib.pow10Tab:=by kernel_rfl
theorem pow_met {l:List (String×DataW Unit)} {W:World} (h:laidMetH Tryz.prog l W) (hm:("internal/strconv.uint64pow10",(Rows.laid_internal_strconv_uint64pow10:DataW Unit))∈l):∃(E:TypeId) (fr:Nat×Nat),W.heap[0]?=some (.cells SW.powL.toArray E fr):=by
 have h2:=Lib.laidMet.reads (laidMetH_iff.1 h).1 (n:= "internal/strconv.uint64pow10") (d:=Rows.laid_internal_strconv_uint64pow10) (List.mem_filter.2 ⟨hm,by kernel_rfl⟩)
 rw[pow_reads]at h2
 exact tab_block pow_name (tabIs_of_reads (t:=241) (e:=216) (n:=20) pow_name (by kernel_rfl) (by kernel_rfl) (by kernel_rfl) (by kernel_rfl) (by kernel_rfl) h2)
end Go.Proofs.YtmakmpapchiioaaGreatDoor
