/- Contracts, and the law, for every input. No conditions. -/
import Derived.Test.YtldppkdekklpkaaGreatDoorXFb
import Derived.Test.YtldppkdekklpkaaGreatDoorXFc
import Derived.Test.YtldppkdekklpkaaGreatDoorXFd
import Derived.Test.YtldppkdekklpkaaGreatDoorXFa
set_option linter.all false
open Go Go.AM Go.Proofs
set_option maxRecDepth 100000
namespace XE
open TK TR
noncomputable def L22:AV:=.tup [.p (.sl 1 [(.sl 3 [(.agg [(.i .i64 1),(.s (B [])),(.sl 3 [])]),(.agg [(.i .i64 6),(.s (B [76,105,115,116])),(.sl 3 [(.agg [(.i .i64 5),(.s (B [97])),(.sl 3 [])])])]),(.agg [(.i .i64 1),(.s (B [])),(.sl 3 [])]),(.agg [(.i .i64 1),(.s (B [])),(.sl 3 [])]),(.agg [(.i .i64 1),(.s (B [])),(.sl 3 [])]),(.agg [(.i .i64 1),(.s (B [])),(.sl 3 [])]),(.agg [(.i .i64 6),(.s (B [76,105,115,116])),(.sl 3 [(.agg [(.i .i64 5),(.s (B [97])),(.sl 3 [])])])])]),(.sl 3 [(.agg [(.i .i64 4),(.s (B [])),(.sl 3 [])]),(.agg [(.i .i64 4),(.s (B [])),(.sl 3 [])]),(.agg [(.i .i64 4),(.s (B [])),(.sl 3 [])]),(.agg [(.i .i64 1),(.s (B [])),(.sl 3 [])]),(.agg [(.i .i64 1),(.s (B [])),(.sl 3 [])]),(.agg [(.i .i64 1),(.s (B [])),(.sl 3 [])]),(.agg [(.i .i64 4),(.s (B [])),(.sl 3 [])]),(.agg [(.i .i64 1),(.s (B [])),(.sl 3 [])])])]),.p (.i .i64 0),.p (.i .i64 0)]
noncomputable def Q22:AV:=.tup [.p (.sl 1 []),.p (.i .i64 12),.p (.i .i64 34)]
noncomputable def fx1:List (Nat×List AV×AV):=[(15,[.p (elPg pgL)],.p (.i .i64 0)),(59,[.p (elPg pgL),.p fuL],L59),(60,[.p (elPg pgL),.p acL],L60)]
theorem fx1_ok:∀x∈fx1,factOK x:=List.forall_mem_cons.2 ⟨l_right,List.forall_mem_cons.2 ⟨l_func,List.forall_mem_cons.2 ⟨l_actor,List.forall_mem_nil _⟩⟩⟩
noncomputable def fx2:List (Nat×List AV×AV):=[(15,[.p (elPg pgQ)],.p (.i .i64 0)),(59,[.p (elPg pgQ),.p fuQ],Q59)]
theorem fx2_ok:∀x∈fx2,factOK x:=List.forall_mem_cons.2 ⟨q_right,List.forall_mem_cons.2 ⟨q_func,List.forall_mem_nil _⟩⟩
theorem l_infer:factOK (22,[.p (elPg pgL)],L22):=mem_ok fx1_ok (show mem fx1 22 [.p (elPg pgL)] []=some (L22,[]) by kernel_rfl)
theorem q_infer:factOK (22,[.p (elPg pgQ)],Q22):=mem_ok fx2_ok (show mem fx2 22 [.p (elPg pgQ)] []=some (Q22,[]) by kernel_rfl)
end XE
