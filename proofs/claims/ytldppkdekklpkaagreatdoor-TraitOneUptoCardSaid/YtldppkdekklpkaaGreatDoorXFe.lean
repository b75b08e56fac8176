/- Contracts, and the law, for every input. No conditions. -/
import Derived.Test.YtldppkdekklpkaaGreatDoorXF0
set_option linter.all false
open Go Go.AM Go.Proofs
set_option maxRecDepth 100000
namespace XE
open TK TR
theorem l_read:AMem Tryz.prog 33 [.p (.s (B listsL))] [] (.tup [.p (.sl 3 (toks.map eTk)),.p (.i .i64 0),.p (.i .i64 0)]) []:=mem_ok no_facts (show mem [] 33 [.p (.s (B listsL))] []=some (.tup [.p (.sl 3 (toks.map eTk)),.p (.i .i64 0),.p (.i .i64 0)],[]) by kernel_rfl)
theorem q_read:AMem Tryz.prog 33 [.p (.s (B textQ))] [] (.tup [.p (.sl 3 (toksQ.map eTk)),.p (.i .i64 0),.p (.i .i64 0)]) []:=mem_ok no_facts (show mem [] 33 [.p (.s (B textQ))] []=some (.tup [.p (.sl 3 (toksQ.map eTk)),.p (.i .i64 0),.p (.i .i64 0)],[]) by kernel_rfl)
end XE
