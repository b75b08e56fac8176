/-
  DERIVED. Contracts of functions that the law reaches, and the law, for every input. No conditions.
-/
import Derived.Test.YtndhaojhhmkfaaaGreatDoorPAQ
open Go Go.AM Go.Proofs TK TR
set_option maxRecDepth 100000
namespace PA
theorem parse_at (ev:Value) (hev:ev=.nilIface∨∃te pe,ev=.iface te pe) (l:Bs) (hw:∀pg b,programF (readF l).1 l.length 0=.ok (pg,b)→wlPg pg≤1048576):AMem Tryz.prog 19 [.p (.s (B l))] (hE ev) (vParse (parseF l)) (hE ev):=
 read_run ev hev l (fun pg b h=>hw pg b h)
end PA
