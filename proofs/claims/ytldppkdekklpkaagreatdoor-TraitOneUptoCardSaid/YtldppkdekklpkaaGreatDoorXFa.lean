/- Contracts, and the law, for every input. No conditions. -/
import Derived.Test.YtldppkdekklpkaaGreatDoorXF0
set_option linter.all false
open Go Go.AM Go.Proofs
set_option maxRecDepth 100000
namespace XE
open TK TR
theorem l_scope:factOK (17,[.p (elPg pgL)],.tup [.p (.i .i64 0),.p (.i .i64 0)]):=mem_ok no_facts (show mem [] 17 [.p (elPg pgL)] []=some (.tup [.p (.i .i64 0),.p (.i .i64 0)],[]) by kernel_rfl)
theorem l_kind:factOK (19,[.p (elPg pgL)],.tup [.p (.i .i64 0),.p (.i .i64 0)]):=mem_ok no_facts (show mem [] 19 [.p (elPg pgL)] []=some (.tup [.p (.i .i64 0),.p (.i .i64 0)],[]) by kernel_rfl)
theorem l_trait:factOK (5,[.p (elPg pgL)],.p (.i .i64 0)):=mem_ok no_facts (show mem [] 5 [.p (elPg pgL)] []=some (.p (.i .i64 0),[]) by kernel_rfl)
theorem l_eff:factOK (24,[.p (elPg pgL)],.tup [.p (.i .i64 0),.p (.i .i64 0)]):=mem_ok no_facts (show mem [] 24 [.p (elPg pgL)] []=some (.tup [.p (.i .i64 0),.p (.i .i64 0)],[]) by kernel_rfl)
theorem l_cov:factOK (26,[.p (elPg pgL)],.tup [.p (.i .i64 0),.p (.i .i64 0)]):=mem_ok no_facts (show mem [] 26 [.p (elPg pgL)] []=some (.tup [.p (.i .i64 0),.p (.i .i64 0)],[]) by kernel_rfl)
theorem q_scope:factOK (17,[.p (elPg pgQ)],.tup [.p (.i .i64 0),.p (.i .i64 0)]):=mem_ok no_facts (show mem [] 17 [.p (elPg pgQ)] []=some (.tup [.p (.i .i64 0),.p (.i .i64 0)],[]) by kernel_rfl)
theorem q_kind:factOK (19,[.p (elPg pgQ)],.tup [.p (.i .i64 0),.p (.i .i64 0)]):=mem_ok no_facts (show mem [] 19 [.p (elPg pgQ)] []=some (.tup [.p (.i .i64 0),.p (.i .i64 0)],[]) by kernel_rfl)
theorem q_trait:factOK (5,[.p (elPg pgQ)],.p (.i .i64 0)):=mem_ok no_facts (show mem [] 5 [.p (elPg pgQ)] []=some (.p (.i .i64 0),[]) by kernel_rfl)
theorem q_right:factOK (15,[.p (elPg pgQ)],.p (.i .i64 0)):=mem_ok no_facts (show mem [] 15 [.p (elPg pgQ)] []=some (.p (.i .i64 0),[]) by kernel_rfl)
end XE
