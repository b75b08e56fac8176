/-
  DERIVED. Part of an abstract machine over plain values, sound against the model. No conditions.
-/
import Derived.Test.YtndhaojhhmkfaaaGreatDoorAMTop
namespace Go.AM
open Go.ChangeShapes Go.WideShapes Go.ChangeAt Go.RowKit
def lawCk (P:Program) (ps:List Nat):Bool:=
 let l:=plainTypes P 1000 ps []
 plainB P l&&ps.all (fun t=>l.contains t&&P.readableRec t&&Nat.blt t P.types.size)&&laidOutB P
end Go.AM
