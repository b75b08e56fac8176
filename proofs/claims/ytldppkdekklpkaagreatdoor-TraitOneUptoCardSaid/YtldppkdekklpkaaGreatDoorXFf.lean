/- Contracts, and the law, for every input. No conditions. -/
import Derived.Test.YtldppkdekklpkaaGreatDoorXF0
set_option linter.all false
open Go Go.AM Go.Proofs
set_option maxRecDepth 100000
namespace XE
open TK TR
theorem l_progn:AMem Tryz.prog 35 [.ptr 1000000000 0] [(1000000000,.cells [.p (.sl 3 (toks.map eTk)),.p (.i .i64 0),.p (.i .i64 205)]),(1000000001,.glob 1 [.nilIface])] (.p (elPg pgL)) [(1000000001,.glob 1 [.nilIface]),(1000000000,.cells [.p (.sl 3 (toks.map eTk)),.p (.i .i64 94),.p (.i .i64 205)])]:=mem_ok no_facts (show mem [] 35 [.ptr 1000000000 0] [(1000000000,.cells [.p (.sl 3 (toks.map eTk)),.p (.i .i64 0),.p (.i .i64 205)]),(1000000001,.glob 1 [.nilIface])]=some (.p (elPg pgL),[(1000000001,.glob 1 [.nilIface]),(1000000000,.cells [.p (.sl 3 (toks.map eTk)),.p (.i .i64 94),.p (.i .i64 205)])]) by kernel_rfl)
theorem q_progn:AMem Tryz.prog 35 [.ptr 1000000000 0] [(1000000000,.cells [.p (.sl 3 (toksQ.map eTk)),.p (.i .i64 0),.p (.i .i64 36)]),(1000000001,.glob 1 [.nilIface])] (.p (elPg pgQ)) [(1000000001,.glob 1 [.nilIface]),(1000000000,.cells [.p (.sl 3 (toksQ.map eTk)),.p (.i .i64 16),.p (.i .i64 36)])]:=mem_ok no_facts (show mem [] 35 [.ptr 1000000000 0] [(1000000000,.cells [.p (.sl 3 (toksQ.map eTk)),.p (.i .i64 0),.p (.i .i64 36)]),(1000000001,.glob 1 [.nilIface])]=some (.p (elPg pgQ),[(1000000001,.glob 1 [.nilIface]),(1000000000,.cells [.p (.sl 3 (toksQ.map eTk)),.p (.i .i64 16),.p (.i .i64 36)])]) by kernel_rfl)
end XE
