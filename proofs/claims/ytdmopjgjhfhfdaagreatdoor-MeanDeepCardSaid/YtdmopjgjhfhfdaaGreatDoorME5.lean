/- Contracts, and the law, for every input. No conditions. -/
import Derived.Test.YtdmopjgjhfhfdaaGreatDoorME1
open Go Go.AM Go.Proofs TK
set_option maxRecDepth 100000
namespace MN
def deepL:Bs:=[109,111,100,117,108,101,32,109,32,49,59,32,102,117,110,32,100,111,119,110,40,110,58,32,105,110,116,41,58,32,105,110,116,32,61,32,105,102,32,40,110,32,60,32,49,41,32,116,104,101,110,32,48,32,101,108,115,101,32,40,49,32,43,32,100,111,119,110,40,40,110,32,45,32,49,41,41,41,59,32,97,99,116,111,114,32,65,40,110,58,32,105,110,116,44,32,107,58,32,105,110,116,41,58,32,105,110,116,32,61,32,108,101,116,32,120,32,61,32,115,97,121,40,100,111,119,110,40,110,41,41,32,105,110,32,105,102,32,40,107,32,60,32,49,41,32,116,104,101,110,32,40,41,32,101,108,115,101,32,98,101,99,111,109,101,40,110,44,32,40,107,32,45,32,49,41,41,59]
def outsT (R:Option (Ks×List Ou×Ss×Rn)):Option (List (Int×Int×ByteArray)):=match R with
 |none=>none
 |some R=>some (R.2.1.map fun o=>(o.kind,o.num,o.text))
def deepE (n:Nat):Option (List (Int×Int×ByteArray)):=outsT (playAll (PA.parseF deepL).1 [oV 2 (n:Int),oV 2 2] [])
def deepQ (n:Nat):Option (List (Int×Int×ByteArray)):=match Nat.ble n 59 with
 |true=>some [(2,(n:Int),⟨#[]⟩),(2,(n:Int),⟨#[]⟩),(2,(n:Int),⟨#[]⟩),(8,0,⟨#[]⟩)]
 |false=>some [(9,0,wDeep)]
end MN
