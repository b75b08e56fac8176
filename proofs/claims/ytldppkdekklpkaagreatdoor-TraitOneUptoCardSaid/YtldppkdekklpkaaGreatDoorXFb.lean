/- Contracts, and the law, for every input. No conditions. -/
import Derived.Test.YtldppkdekklpkaaGreatDoorXF0
set_option linter.all false
open Go Go.AM Go.Proofs
set_option maxRecDepth 100000
namespace XE
open TK TR
theorem l_func:factOK (59,[.p (elPg pgL),.p fuL],L59):=fact_hide no_facts (show fst1 (mem [] 59 [.p (elPg pgL),.p fuL] hq)=some (L59) by kernel_rfl) (by kernel_rfl) (by kernel_rfl)
end XE
