/- Contracts, and the law, for every input. No conditions. -/
import Derived.Test.YtldppkdekklpkaaGreatDoorXF0
set_option linter.all false
open Go Go.AM Go.Proofs
set_option maxRecDepth 100000
namespace XE
open TK TR
theorem l_right:factOK (15,[.p (elPg pgL)],.p (.i .i64 0)):=mem_ok no_facts (show mem [] 15 [.p (elPg pgL)] []=some (.p (.i .i64 0),[]) by kernel_rfl)
end XE
