/- Contracts, and the law, for every input. No conditions. -/
import Derived.Test.YtdmopjgjhfhfdaaGreatDoorAMMv
import Derived.Lib.Bytealg
open Go Go.AM
set_option maxRecDepth 100000
namespace TK
def eStr (l:Bs):PV:=.s (B l)
abbrev bi (c:UInt8):Int:=(c.toNat:Int)
def smallF (c:UInt8):Bool:=decide (bi c≥97)&&decide (bi c≤122)
def capF (c:UInt8):Bool:=decide (bi c≥65)&&decide (bi c≤90)
def letterF (c:UInt8):Bool:=smallF c||capF c
def digitF (c:UInt8):Bool:=decide (bi c≥48)&&decide (bi c≤57)
def partF (c:UInt8):Bool:=(letterF c||digitF c)||(bi c==95)
def nlF (c:UInt8):Bool:=bi c != 10
def spanF (f:UInt8→Bool):Bs→Nat
 | []=>0
 |c::r=>bif f c then spanF f r+1 else 0
theorem spanF_le (f:UInt8→Bool):∀(l:Bs),spanF f l≤l.length
 | []=>Nat.le_refl _
 |c::r=>by
  have:=spanF_le f r;rw[spanF]
  cases f c<;>simp<;>omega
def splitF (c:UInt8):Bs→List Bs
 | []=>[[]]
 |x::r=>bif x==c then []::splitF c r else match splitF c r with|p::ps=>(x::p)::ps | []=>[[x]]
def keysL:Bs:=[97,99,116,111,114,32,97,102,116,101,114,32,97,110,100,32,97,112,112,108,121,32,98,101,99,111,109,101,32,98,111,111,108,32,99,101,108,108,32,100,97,116,97,32,101,108,115,101,32,102,97,105,108,32,102,97,108,115,101,32,102,110,32,102,111,114,32,102,117,110,32,103,101,116,32,105,102,32,105,109,112,108,32,105,110,32,105,110,116,32,108,101,116,32,108,105,110,107,32,109,97,116,99,104,32,109,111,100,117,108,101,32,110,111,116,32,111,114,32,112,117,116,32,114,101,99,101,105,118,101,32,115,97,121,32,115,101,108,102,32,115,101,110,100,32,115,112,97,119,110,32,116,101,120,116,32,116,104,101,110,32,116,114,97,105,116,32,116,114,117,101,32,117,110,105,116,32,117,115,101,32,119,97,116,99,104]
def wordsL:List Bs:=splitF 32 keysL
def wordF (l:Bs):Bool:=!(l==[])&&wordsL.contains l
def nameF (l:Bs):Bool:=!(l==[])&&(decide (l.length≤16)&&(letterF (l.headD 0)&&l.all partF))
def lowF (l:Bs):Bool:=nameF l&&(smallF (l.headD 0)&&!wordF l)
def upF (l:Bs):Bool:=nameF l&&capF (l.headD 0)
def signsL:Bs:=[40,41,91,93,123,125,44,59,58,61,43,45,42,47,37,60,94,124,95]
def signF (l:Bs):Bool:=(l==[61,62]||l==[45,62])||(decide (l.length=1)&&signsL.contains (l.headD 0))
def hexL:Bs:=[48,49,50,51,52,53,54,55,56,57,97,98,99,100,101,102]
def hexF (c:UInt8):Int:=Lib.indexByte hexL c
def escX:Bs→UInt8×Nat
 |h::l::_=>bif decide (hexF h≥0)&&decide (hexF l≥0) then (UInt8.ofNat (16*hexF h+hexF l).toNat,3) else (0,0)
 |_=>(0,0)
def escF:Bs→UInt8×Nat
 | []=>(0,0)
 |c::r=>bif bi c==110 then (10,1) else bif bi c==34||bi c==92 then (c,1) else bif bi c==120 then escX r else (0,0)
def litGo:Bs→Bs→Nat→Bs×Nat
 | [],_,_=>([],0)
 |c::r,v,i=>bif bi c==34 then (bif decide (v.length>64) then ([],0) else (v,i+1))
  else bif decide (bi c<32) then ([],0)
  else bif bi c != 92 then litGo r (v++[c]) (i+1)
  else bif (escF r).2==0 then ([],0) else litGo (r.drop (escF r).2) (v++[(escF r).1]) (i+(escF r).2+1)
 termination_by l=>l.length
 decreasing_by all_goals simp;try omega
def litF (l:Bs):Bs×Nat:=litGo (l.drop 1) [] 1
structure Tk where
 kind:Int
 text:Bs
 at_:Nat
def eTk (t:Tk):PV:=.agg [.i .i64 t.kind,.s (B t.text),.i .i64 t.at_]
def nextF:Bs→Int×Bs×Nat
 | []=>(0,[],0)
 |c::r=>let l:=c::r
  bif letterF c then (let n:=spanF partF l;let w:=l.take n
   bif wordF w then (3,w,n) else bif lowF w then (1,w,n) else bif upF w then (2,w,n) else (0,[],0))
  else bif digitF c then (let n:=spanF digitF l
   bif (match l[n]? with|some d=>partF d|none=>false) then (0,[],0) else (4,l.take n,n))
  else bif bi c==34 then (5,litF l)
  else bif decide (l.length≥2)&&signF (l.take 2) then (6,l.take 2,2)
  else bif signF (l.take 1) then (6,l.take 1,1) else (0,[],0)
def blankF (c:UInt8):Bool:=(bi c==32||bi c==9)||bi c==10
def readGo:Bs→Nat→List Tk→List Tk×Option Nat
 | [],_,out=>(out,none)
 |c::r,i,out=>bif blankF c then readGo r (i+1) out
  else bif bi c==35 then readGo (r.drop (spanF nlF r)) (i+(spanF nlF r+1)) out
  else let x:=nextF (c::r)
   bif x.2.2==0 then ([],some i) else readGo (r.drop (x.2.2-1)) (i+x.2.2) (out++[⟨x.1,x.2.1,i⟩])
 termination_by l=>l.length
 decreasing_by all_goals simp;try omega
def readF (l:Bs):List Tk×Nat×Int:=bif decide (l.length>4000) then ([],0,2) else match readGo l 0 [] with
 |(o,none)=>(o,0,0)
 |(_,some i)=>([],i,10)
end TK
