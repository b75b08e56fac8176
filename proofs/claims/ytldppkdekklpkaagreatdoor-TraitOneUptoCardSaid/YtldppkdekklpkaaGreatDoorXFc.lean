/- Contracts, and the law, for every input. No conditions. -/
import Derived.Test.YtldppkdekklpkaaGreatDoorXF0
set_option linter.all false
open Go Go.AM Go.Proofs
set_option maxRecDepth 100000
namespace XE
open TK TR
theorem l_actor:factOK (60,[.p (elPg pgL),.p acL],L60):=fact_hide no_facts (show fst1 (mem [] 60 [.p (elPg pgL),.p acL] hq)=some (L60) by kernel_rfl) (by kernel_rfl) (by kernel_rfl)
theorem q_func:factOK (59,[.p (elPg pgQ),.p fuQ],Q59):=fact_hide no_facts (show fst1 (mem [] 59 [.p (elPg pgQ),.p fuQ] hq)=some (Q59) by kernel_rfl) (by kernel_rfl) (by kernel_rfl)
end XE
