/- Contracts, and the law, for every input. No conditions. -/
import Derived.Test.YtdmopjgjhfhfdaaGreatDoorXC
set_option linter.all false
open Go Go.AM Go.Proofs TK TR
set_option maxRecDepth 100000
namespace XE
theorem Pu:av Tryz.prog 43 [.ptr 1000000000 0] [(1000000000,.cells [.p (.sl 3 (toks.map Og)),.p (.i .i64 0),.p (.i .i64 205)]),(1000000001,.bK 2 [.nilIface])] (.p (kW MD)) [(1000000001,.bK 2 [.nilIface]),(1000000000,.cells [.p (.sl 3 (toks.map Og)),.p (.i .i64 94),.p (.i .i64 205)])]:=Bv (by kernel_rfl)
end XE
