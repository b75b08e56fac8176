/- Contracts, and the law, for every input. No conditions. -/
import Derived.Test.YtldppkdekklpkaaGreatDoorXFi
set_option linter.all false
open Go Go.AM Go.Proofs
set_option maxRecDepth 100000
namespace XE
open TK TR
noncomputable def fx4:List (Nat×List AV×AV):=[(15,[.p (elPg pgL)],.p (.i .i64 0)),(17,[.p (elPg pgL)],.tup [.p (.i .i64 0),.p (.i .i64 0)]),(19,[.p (elPg pgL)],.tup [.p (.i .i64 0),.p (.i .i64 0)]),(5,[.p (elPg pgL)],.p (.i .i64 0)),(22,[.p (elPg pgL)],L22),(24,[.p (elPg pgL)],.tup [.p (.i .i64 0),.p (.i .i64 0)]),(26,[.p (elPg pgL)],.tup [.p (.i .i64 0),.p (.i .i64 0)]),(28,[.p (elPg pgL)],.tup [.p (.i .i64 0),.p (.i .i64 0)])]
theorem fx4_ok:∀x∈fx4,factOK x:=List.forall_mem_cons.2 ⟨l_right,List.forall_mem_cons.2 ⟨l_scope,List.forall_mem_cons.2 ⟨l_kind,List.forall_mem_cons.2 ⟨l_trait,List.forall_mem_cons.2 ⟨l_infer,List.forall_mem_cons.2 ⟨l_eff,List.forall_mem_cons.2 ⟨l_cov,List.forall_mem_cons.2 ⟨l_cap,List.forall_mem_nil _⟩⟩⟩⟩⟩⟩⟩⟩
noncomputable def fx5:List (Nat×List AV×AV):=[(15,[.p (elPg pgQ)],.p (.i .i64 0)),(17,[.p (elPg pgQ)],.tup [.p (.i .i64 0),.p (.i .i64 0)]),(19,[.p (elPg pgQ)],.tup [.p (.i .i64 0),.p (.i .i64 0)]),(5,[.p (elPg pgQ)],.p (.i .i64 0)),(22,[.p (elPg pgQ)],Q22)]
theorem fx5_ok:∀x∈fx5,factOK x:=List.forall_mem_cons.2 ⟨q_right,List.forall_mem_cons.2 ⟨q_scope,List.forall_mem_cons.2 ⟨q_kind,List.forall_mem_cons.2 ⟨q_trait,List.forall_mem_cons.2 ⟨q_infer,List.forall_mem_nil _⟩⟩⟩⟩⟩
theorem l_check:factOK (9,[.p (elPg pgL)],.tup [.p (.i .i64 0),.p (.i .i64 0)]):=mem_ok fx4_ok (show mem fx4 9 [.p (elPg pgL)] []=some (.tup [.p (.i .i64 0),.p (.i .i64 0)],[]) by kernel_rfl)
theorem q_check:factOK (9,[.p (elPg pgQ)],.tup [.p (.i .i64 12),.p (.i .i64 34)]):=mem_ok fx5_ok (show mem fx5 9 [.p (elPg pgQ)] []=some (.tup [.p (.i .i64 12),.p (.i .i64 34)],[]) by kernel_rfl)
end XE
