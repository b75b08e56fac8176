/- Contracts, and the law, for every input. No conditions. -/
import Derived.Test.YtdmopjgjhfhfdaaGreatDoorXC
set_option linter.all false
set_option maxRecDepth 100000
open Go Go.AM Go.Proofs TK TR
namespace XE
theorem Rz (te:TypeId) (pe:Value):au Tryz.prog 43 [.ptr 1000000000 0] [(1000000000,.cells [.p (.sl 3 (toks.map Qr)),.p (.i .i64 0),.p (.i .i64 205)]),(1000000001,.bJ 2 [.iface te pe])] (.p (iY NC)) [(1000000001,.bJ 2 [.iface te pe]),(1000000000,.cells [.p (.sl 3 (toks.map Qr)),.p (.i .i64 94),.p (.i .i64 205)])]:=Cm (by kernel_rfl)
end XE
