/- Contracts, and the law, for every input. No conditions. -/
import Derived.Test.YtldppkdekklpkaaGreatDoorXFh
set_option linter.all false
open Go Go.AM Go.Proofs
set_option maxRecDepth 100000
namespace XE
open TK TR
noncomputable def fx3:List (Nat×List AV×AV):=[(22,[.p (elPg pgL)],L22)]
theorem fx3_ok:∀x∈fx3,factOK x:=List.forall_mem_cons.2 ⟨l_infer,List.forall_mem_nil _⟩
theorem l_cap:factOK (28,[.p (elPg pgL)],.tup [.p (.i .i64 0),.p (.i .i64 0)]):=fact_hide fx3_ok (show fst1 (mem fx3 28 [.p (elPg pgL)] hq)=some (.tup [.p (.i .i64 0),.p (.i .i64 0)]) by kernel_rfl) (by kernel_rfl) (by kernel_rfl)
end XE
