/- Part of a machine over plain values. No conditions. -/
import Derived.Test.YtdmopjgjhfhfdaaGreatDoorAMTop
namespace Go.AM
open Go.ChangeShapes Go.WideShapes Go.ChangeAt Go.RowKit
def lawCk (P:Program) (ps:List Nat):Bool:=
 let l:=plainTypes P 1000 ps []
 plainB P l&&ps.all (fun t=>l.contains t&&P.readableRec t&&Nat.blt t P.types.size)&&laidOutB P
end Go.AM
