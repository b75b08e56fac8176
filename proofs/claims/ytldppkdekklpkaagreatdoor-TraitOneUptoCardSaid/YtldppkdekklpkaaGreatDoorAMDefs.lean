/- Part of a machine over plain values. No conditions. -/
import Derived.Laws.Cells
import Derived.Calls
import Derived.Orders
set_option linter.all false
namespace Go.AM
inductive PV where
 |b (x:Bool)
 |i (k:IntKind) (n:Int)
 |s (x:ByteArray)
 |sl (sz:Nat) (xs:List PV)
 |agg (xs:List PV)
 |nilp
 |nsl
 |adr (s k:Nat)
 |ads (s k n:Nat)
 |bx (cs:List PV)
 |pa (T:Nat) (one:Bool) (sz s k n c:Nat)
 |ifv (T:Nat) (x:PV)
 |nifc
 |amp (s k:Nat)
 deriving Inhabited
def PV.cells:PV→List PV
 |.agg xs=>xs
 |v=>[v]
inductive AV where
 |top
 |p (v:PV)
 |c (v:Value)
 |nilS
 |es (sz:Nat)
 |so (sz:Nat) (xs:List PV)
 |ptr (l off:Nat)
 |vp (cs:List PV)
 |agg (cs:List AV)
 |tup (vs:List AV)
 |mp (l:Nat)
 |ar (l:Nat)
 |ap (l i:Nat)
 |al (st:Bool) (l sz n:Nat)
 |ep (l sz i c:Nat)
 |tl (l sz i m:Nat)
 |fn (f:Nat) (first caps:List AV)
 |ifc (b:Bool)
 deriving Inhabited
mutual
def AV.free:AV→Bool
 |.agg cs=>AV.frees cs
 |.tup cs=>AV.frees cs
 |.fn _ a b=>AV.frees a&&AV.frees b
 |.so _ _=>false
 |.ptr _ _=>false
 |.mp _=>false
 |.ar _=>false
 |.ap _ _=>false
 |.al _ _ _ _=>false
 |.ep _ _ _ _=>false
 |.tl _ _ _ _=>false
 |_=>true
def AV.frees:List AV→Bool
 | []=>true
 |v::r=>AV.free v&&AV.frees r
end
inductive KD where
 |kb
 |ki (k:IntKind)
 |ks
 deriving Inhabited,DecidableEq
inductive AObj where
 |cells (cs:List AV)
 |arr (xs:List PV)
 |map (kd:KD) (es:List (PV×PV))
 |gr (st:Bool) (sz:Nat) (xs:List PV)
 |dead
 |glob (b:Nat) (vs:List Value)
 |bld (T e:Nat) (bs:List UInt8)
 |store (T:Nat) (one:Bool) (sp nx sz:Nat) (M:List (Nat×List PV))
 deriving Inhabited
def AObj.solid:AObj→Bool
 |.gr false _ []=>false
 |.dead=>false
 |.glob _ _=>false
 |.store _ _ _ _ _ _=>false
 |_=>true
def stO:Option AObj→Bool
 |some (.store _ _ _ _ _ _)=>true
 |_=>false
structure TI where
 desc:TypeDesc
 size:Nat
 bytes:Nat
 zero:List Value
 csz:List Nat
 eqs:List KD
 stk:List Nat:=[]
 meth:List (String×Nat):=[]
def isAggD:TypeDesc→Bool
 |.struct _=>true
 |.array _ _=>true
 |_=>false
abbrev Env:=List (Nat×AV)
abbrev Heap:=List (Nat×AObj)
def eget:Env→Nat→AV
 | [],_=>.top
 |(k,v)::r,i=>match Nat.beq k i with|true=>v|false=>eget r i
def hget:Heap→Nat→Option AObj
 | [],_=>none
 |(k,v)::r,i=>match Nat.beq k i with|true=>some v|false=>hget r i
def bigId:Nat:=1000000000
def freshId (h:Heap) (d:Nat):Bool:=match hget h d with|none=>Nat.blt d bigId|some _=>false
def KD.eq:KD→KD→Bool
 |.kb,.kb=>true
 |.ki k,.ki k'=>decide (k=k')
 |.ks,.ks=>true
 |_,_=>false
def kdOf:PV→Option KD
 |.b _=>some .kb
 |.i k _=>some (.ki k)
 |.s _=>some .ks
 |_=>none
def kdD:TypeDesc→Option KD
 |.bool=>some .kb
 |.int k=>some (.ki k)
 |.string=>some .ks
 |_=>none
def pvEq:PV→PV→Bool
 |.b a,.b b=>a==b
 |.i _ a,.i _ b=>a==b
 |.s a,.s b=>a==b
 |.adr _ a,.adr _ b=>Nat.beq a b
 |_,_=>false
def mfind (k:PV):List (PV×PV)→Option PV
 | []=>none
 |(a,v)::r=>match pvEq k a with|true=>some v|false=>mfind k r
def mput (k v:PV):List (PV×PV)→List (PV×PV)
 | []=>[(k,v)]
 |(a,u)::r=>match pvEq k a with|true=>(k,v)::r|false=>(a,u)::mput k v r
def mlook (k z:PV) (es:List (PV×PV)):PV×Bool:=match mfind k es with|some x=>(x,true)|none=>(z,false)
def constAV1:Value→AV
 |.bool x=>.p (.b x)
 |.int k n=>.p (.i k n)
 |.string x=>.p (.s x)
 |.slice none 0 0=>.nilS
 |.pointer none=>.p .nilp
 |.map none=>.c (.map none)
 |.nilFunc=>.c .nilFunc
 |.nilIface=>.c .nilIface
 |_=>.top
def constAV1s:List Value→List AV
 | []=>[]
 |v::r=>constAV1 v::constAV1s r
def oneCells:List Value→Bool
 | []=>true
 |v::r=>v.oneCell'&&oneCells r
def constAV:Value→AV
 |.agg ⟨cs⟩=>match oneCells cs with|true=>.agg (constAV1s cs)|false=>.top
 |v=>constAV1 v
def ev (e:Env):Operand→AV
 |.tmp t=>eget e t
 |.const v=>constAV v
 |.func f=>.fn f [] []
 |.global _=>.top
def AV.copy:AV→AV
 |.so sz xs=>.p (.sl sz xs)
 |v=>v
def AV.pure? (sz:Nat):AV→Option PV
 |.p v=>some v
 |.so sz xs=>some (.sl sz xs)
 |.nilS=>some (match sz with|0=>.nsl|z+1=>.sl (z+1) [])
 |.es z=>some (.sl z [])
 |.vp cs=>some (.bx cs)
 |_=>none
def ASplit (g:Bool) (X Y:Prop):Prop:=match g with|true=>X|false=>Y
def AIdx (xs:List PV) (i:Int) (K:PV→Prop):Prop:=∃x,0≤i∧xs[i.toNat]?=some x∧K x
def ALook (es:List (PV×PV)) (k z:PV) (K:PV→Bool→Prop):Prop:=∃x b,mlook k z es=(x,b)∧K x b
def mkp (p:PV×PV):PV:=.agg [p.1,p.2]
def bytesS (ns:List Int):ByteArray:=ns.foldl (fun r n=>r.push (UInt8.ofNat n.toNat)) ByteArray.empty
def ABytes (xs:List PV) (K:PV→Prop):Prop:=∃(ns:List Int) (y:PV),xs=ns.map (PV.i .u8)∧y=.s (bytesS ns)∧K y
def AStrI (s:ByteArray) (m:Int) (K:PV→Prop):Prop:=∃v,(0≤m∧m<s.size)∧v=.i .u8 ((s[m.toNat]?).getD 0).toNat∧K v
def ANeed (c:Prop) (K:Prop):Prop:=c∧K
def AStuck (_why:String):Prop:=False
def AV.force (v:AV) (K:AV→Prop):Prop:=match v with
 |.top=>K .top
 |.p x=>K (.p x)
 |.c x=>K (.c x)
 |.nilS=>K .nilS
 |.es a=>K (.es a)
 |.so a b=>K (.so a b)
 |.ptr a b=>K (.ptr a b)
 |.vp a=>K (.vp a)
 |.agg a=>K (.agg a)
 |.tup a=>K (.tup a)
 |.mp a=>K (.mp a)
 |.ar a=>K (.ar a)
 |.ap a b=>K (.ap a b)
 |.al q a b k=>K (.al q a b k)
 |.ep a b k d=>K (.ep a b k d)
 |.tl a b k d=>K (.tl a b k d)
 |.fn f x y=>K (.fn f x y)
 |.ifc b=>K (.ifc b)
theorem AV.force_eq (v:AV) (K:AV→Prop):v.force K=K v:=by cases v<;>rfl
def headD:List Nat→Nat
 | []=>1
 |a::_=>a
def allPure:List AV→List Nat→Option (List PV)
 | [],_=>some []
 |v::r,z=>match v.pure? (headD z),allPure r z.tail with
  |some x,some l=>some (x::l)
  |_,_=>none
def copyAll:List AV→List AV
 | []=>[]
 |v::r=>v.copy::copyAll r
def mkAgg (cs:List AV) (z:List Nat):AV:=match allPure cs z with|some l=>.p (.agg l)|none=>.agg (copyAll cs)
def anyNil:List AV→Bool
 | []=>false
 |.nilS::_=>true
 |_::r=>anyNil r
def mkAggN (cs:List AV) (z:List Nat):AV:=match anyNil cs with|true=>.agg (copyAll cs)|false=>mkAgg cs z
def AV.pureL (z:List Nat):AV→Option PV
 |.agg cs=>match allPure cs z with|some l=>some (.agg l)|none=>none
 |v=>v.pure? (headD z)
def pCells:List PV→List AV
 | []=>[]
 |v::r=>.p v::pCells r
def AV.cells?:AV→Option (List AV)
 |.p (.agg xs)=>some (pCells xs)
 |.agg cs=>some cs
 |.top=>none
 |.tup _=>none
 |v=>some [v]
def AV.aggCells?:AV→Option (List AV)
 |.p (.agg xs)=>some (pCells xs)
 |.agg cs=>some cs
 |_=>none
def constAVs:List Value→List AV
 | []=>[]
 |v::r=>constAV v::constAVs r
def setAt {α:Type}:List α→Nat→List α→Option (List α)
 |l,_,[]=>some l
 | [],_,_::_=>none
 |_::r,0,y::ys=>match setAt r 0 ys with|some l=>some (y::l)|none=>none
 |x::r,n+1,ys=>match setAt r n ys with|some l=>some (x::l)|none=>none
def getAt {α:Type}:List α→Nat→Nat→Option (List α)
 |_,_,0=>some []
 | [],_,_+1=>none
 |x::r,0,n+1=>match getAt r 0 n with|some l=>some (x::l)|none=>none
 |_::r,o+1,n=>getAt r o n
def moved:List Oper→Nat→Bool
 | [],_=>false
 |o::r,d=>match o.op with
  |.assign (.tmp t)=>match Nat.beq t d with|true=>true|false=>moved r d
  |.call { callee:=.builtin .append,args:=⟨.tmp t::_⟩,.. }=>match Nat.beq t d with|true=>true|false=>moved r d
  |.slice _ (.tmp t) _ none none=>match Nat.beq t d with|true=>true|false=>moved r d
  |_=>moved r d
structure Eff where
 rd:List Nat
 ew:Env
 hw:Heap
abbrev AK:=Eff→Prop
def imax (a b:Int):Int:=if a<b then b else a
def bitI (op:BinOp) (k:IntKind) (a b:Int):Int:=match op with
 |.and=>k.wrap (BitVec.ofInt k.bits a &&& BitVec.ofInt k.bits b).toNat
 |.or=>k.wrap (BitVec.ofInt k.bits a |||BitVec.ofInt k.bits b).toNat
 |.xor=>k.wrap (BitVec.ofInt k.bits a ^^^ BitVec.ofInt k.bits b).toNat
 |.andNot=>k.wrap (BitVec.ofInt k.bits a &&& ~~~ BitVec.ofInt k.bits b).toNat
 |_=>0
def binI (op:BinOp) (k:IntKind) (a b:Int):Option PV:=
 match op with
 |.and=>some (.i k (bitI .and k a b))
 |.or=>some (.i k (bitI .or k a b))
 |.xor=>some (.i k (bitI .xor k a b))
 |.andNot=>some (.i k (bitI .andNot k a b))
 |.add=>some (.i k (k.wrap (a+b)))
 |.sub=>some (.i k (k.wrap (a-b)))
 |.mul=>some (.i k (k.wrap (a*b)))
 |.eql=>some (.b (a==b))
 |.neq=>some (.b (a != b))
 |.lss=>some (.b (a<b))
 |.leq=>some (.b (a≤b))
 |.gtr=>some (.b (a>b))
 |.geq=>some (.b (a≥b))
 |_=>none
def binS (op:BinOp) (x y:ByteArray):Option PV:=
 match op with
 |.eql=>some (.b (x.toList==y.toList))
 |.neq=>some (.b (!(x.toList==y.toList)))
 |.lss=>some (.b (Op.bytesLess x.toList y.toList))
 |.leq=>some (.b (Op.bytesLess x.toList y.toList||x.toList==y.toList))
 |.gtr=>some (.b (!(Op.bytesLess x.toList y.toList||x.toList==y.toList)))
 |.geq=>some (.b (!(Op.bytesLess x.toList y.toList)))
 |_=>none
def flatEq1:KD→PV→PV→Option Bool
 |.ki _,.i k a,.i k' b=>match decide (k=k') with|true=>some (a==b)|false=>none
 |.kb,.b a,.b b=>some (a==b)
 |.ks,.s a,.s b=>some (a.toList==b.toList)
 |_,_,_=>none
def flatEq:List KD→List PV→List PV→Option Bool
 | [],[],[]=>some true
 |k::ks,x::xs,y::ys=>match flatEq1 k x y with
  |some q1=>match flatEq ks xs ys with|some q=>some (q1&&q)|none=>none
  |none=>none
 |_,_,_=>none
section
variable (ty:Nat→Option TI) (call:Nat→List AV→Heap→(List Nat→Heap→AV→Prop)→Prop)
def elemSz (t:Nat):Nat:=match ty t with
 |some i=>match i.desc with
  |.slice el=>match ty el with|some j=>j.size|none=>0
  |_=>0
 |none=>0
def aggTy (t:Nat) (cs:List AV):AV:=match ty t with
 |some i=>match allPure cs i.csz with|some l=>.p (.agg l)|none=>.agg cs
 |none=>.agg cs
def keepN (t:Nat):Bool:=match ty t with
 |some i=>i.stk.contains 9999
 |none=>false
def argOf (e:Env):List Operand→List Nat→List AV
 | [],_=>[]
 |x::r,ts=>(match ev e x with
  |.nilS=>match keepN ty (headD ts) with|true=>.nilS|false=>.p (.sl (elemSz ty (headD ts)) [])
  |.es sz=>.p (.sl sz [])
  |.so sz xs=>.p (.sl sz xs)
  |.agg cs=>aggTy ty (headD ts) cs
  |v=>v)::argOf e r ts.tail
def evs (e:Env):List Operand→List AV
 | []=>[]
 |x::r=>(ev e x).copy::evs e r
def ret (o:Oper) (v:AV) (K:AK):Prop:=match o.dst with
 |some d=>v.force fun v=>K ⟨[],[(d,v)],[]⟩
 |none=>K ⟨[],[],[]⟩
def retM (o:Oper) (rd:List Nat) (hw:Heap) (v:AV) (K:AK):Prop:=match o.dst with
 |some d=>v.force fun v=>K ⟨rd,[(d,v)],hw⟩
 |none=>K ⟨rd,[],hw⟩
def retR (o:Oper) (l:Nat) (v:AV) (K:AK):Prop:=match o.dst with
 |some d=>v.force fun v=>K ⟨[l],[(d,v)],[]⟩
 |none=>K ⟨[l],[],[]⟩
def aMove (o:Oper) (e:Env) (t:Nat) (mv:Nat→Bool) (K:AK):Prop:=
 match eget e t with
 |.so sz xs=>match o.dst with
  |some d=>match mv d with
   |true=>K ⟨[],[(d,.so sz xs),(t,.p (.sl sz xs))],[]⟩
   |false=>K ⟨[],[(d,.p (.sl sz xs))],[]⟩
  |none=>AStuck "move"
 |v=>ret o v K
def aLoad (o:Oper) (h:Heap) (t:Nat) (a:AV) (mv:Nat→Bool) (K:AK):Prop:=
 match ty t with
 |some i=>match a with
  |.ptr l off=>match hget h l with
   |some (.cells cs)=>match isAggD i.desc with
    |true=>match getAt cs off i.size with
     |some l1=>retR o l (mkAgg l1 i.csz) K
     |none=>AStuck "load"
    |false=>match cs[off]? with
     |some (.so sz xs)=>match o.dst with
      |some d=>match mv d with
       |true=>match setAt cs off [.p (.sl sz xs)] with
        |some cs'=>K ⟨[l],[(d,.so sz xs)],[(l,.cells cs')]⟩
        |none=>AStuck "load"
       |false=>K ⟨[l],[(d,.p (.sl sz xs))],[]⟩
      |none=>AStuck "load"
     |some v=>retR o l v K
     |none=>AStuck "load"
   |_=>AStuck "load"
  |.vp cs=>match isAggD i.desc with
   |true=>match getAt cs 0 i.size with
    |some l1=>ret o (.p (.agg l1)) K
    |none=>AStuck "load"
   |false=>match cs with
    |v::_=>ret o (.p v) K
    | []=>AStuck "load"
  |.ap l n=>match hget h l with
   |some (.arr xs)=>match isAggD i.desc with
    |true=>AStuck "load"
    |false=>AIdx xs n fun v=>retR o l (.p v) K
   |_=>AStuck "load"
  |.ep l sz n c=>match hget h l with
   |some (.gr _ sz' xs)=>match Nat.beq sz sz',isAggD i.desc with
    |true,true=>AIdx xs n fun v=>match getAt v.cells c i.size with
     |some l1=>retR o l (.p (.agg l1)) K
     |none=>AStuck "load"
    |true,false=>AIdx xs n fun v=>match v.cells[c]? with
     |some y=>retR o l (.p y) K
     |none=>AStuck "load"
    |_,_=>AStuck "load"
   |_=>AStuck "load"
  |_=>AStuck "load"
 |none=>AStuck "load"
def aStore (e:Env) (h:Heap) (t:Nat) (a:AV) (y:Operand) (K:AK):Prop:=
 match ty t with
 |some i=>match a with
  |.ptr l off=>match hget h l with
   |some (.cells cs)=>match ev e y,y with
    |.so sz xs,.tmp s=>match setAt cs off [.so sz xs] with
     |some cs'=>match Nat.beq i.size 1 with
      |true=>K ⟨[l],[(s,.p (.sl sz xs))],[(l,.cells cs')]⟩
      |false=>AStuck "store"
     |none=>AStuck "store"
    |v,_=>match v.cells? with
     |some ys=>match Nat.beq ys.length i.size,setAt cs off ys with
      |true,some cs'=>K ⟨[l],[],[(l,.cells cs')]⟩
      |_,_=>AStuck "store"
     |none=>AStuck "store"
   |_=>AStuck "store"
  |.ap l n=>match hget h l with
   |some (.arr xs)=>match ev e y,Nat.beq i.size 1 with
    |.p (.i k m),true=>ANeed (n<xs.length) (K ⟨[l],[],[(l,.arr (xs.set n (.i k m)))]⟩)
    |.p (.b m),true=>ANeed (n<xs.length) (K ⟨[l],[],[(l,.arr (xs.set n (.b m)))]⟩)
    |.p (.s m),true=>ANeed (n<xs.length) (K ⟨[l],[],[(l,.arr (xs.set n (.s m)))]⟩)
    |_,_=>AStuck "store"
   |_=>AStuck "store"
  |.ep l sz n 0=>match hget h l with
   |some (.gr st sz' xs)=>match (ev e y).pureL i.csz,Nat.beq sz sz',Nat.beq sz i.size,Nat.beq sz 0 with
    |some v,true,true,false=>match Nat.beq v.cells.length sz with
     |true=>ANeed (n<xs.length) (K ⟨[l],[],[(l,.gr st sz' (xs.set n v))]⟩)
     |false=>AStuck "store"
    |_,_,_,_=>AStuck "store"
   |_=>AStuck "store"
  |_=>AStuck "store"
 |none=>AStuck "store"
def fieldOf (t f:Nat):Option Field:=match ty t with
 |some i=>match i.desc with
  |.struct fs=>fs.toList[f]?
  |_=>none
 |none=>none
def place (offs:Nat→Option (Nat×Nat)):List AV→List (Nat×AV)→Option (List AV)
 |cs,[]=>some cs
 |cs,(i,v)::r=>match offs i with
  |some (off,sz)=>match v.cells? with
   |some ys=>match Nat.beq ys.length sz,Nat.beq sz 0,setAt cs off ys with
    |true,false,some cs'=>place offs cs' r
    |_,_,_=>none
   |none=>none
  |none=>none
def evParts (e:Env):List (Nat×Operand)→List (Nat×AV)
 | []=>[]
 |(i,x)::r=>(i,(ev e x).copy)::evParts e r
def aBuild (o:Oper) (e:Env) (t:Nat) (parts:List (Nat×Operand)) (K:AK):Prop:=
 match ty t with
 |some i=>match i.desc with
  |.struct _=>match place (fun f=>match fieldOf ty t f with|some x=>(match ty x.type with|some j=>some (x.offset,j.size)|none=>none)|none=>none) (constAVs i.zero) (evParts e parts) with
   |some cs=>ret o (mkAggN cs i.csz) K
   |none=>AStuck "build"
  |.array _ el=>match ty el with
   |some j=>match place (fun k=>some (k*j.size,j.size)) (constAVs i.zero) (evParts e parts) with
    |some cs=>ret o (mkAggN cs i.csz) K
    |none=>AStuck "build"
   |none=>AStuck "build"
  |_=>AStuck "build"
 |none=>AStuck "build"
def partsPure (sz:Nat) (z:List Nat) (e:Env):Nat→List (Nat×Operand)→Option (List PV)
 |_,[]=>some []
 |n,(i,x)::r=>match Nat.beq i n,(ev e x).pureL z with
  |true,some v=>match Nat.beq v.cells.length sz,partsPure sz z e (n+1) r with
   |true,some l=>some (v::l)
   |_,_=>none
  |_,_=>none
def fnParts (e:Env):Nat→List (Nat×Operand)→Option (List AV)
 |_,[]=>some []
 |n,(i,x)::r=>match Nat.beq i n,ev e x with
  |true,.fn f a b=>match fnParts e (n+1) r with
   |some l=>some (.fn f a b::l)
   |none=>none
  |_,_=>none
def aBuildFns (o:Oper) (e:Env) (h:Heap) (j:TI) (len:Nat) (parts:List (Nat×Operand)) (K:AK):Prop:=match fnParts e 0 parts,o.dst with
 |some cs,some d=>match Nat.beq cs.length len,Nat.ble 1 len&&Nat.ble len 16777216,Nat.beq j.size 1,freshId h d with
  |true,true,true,true=>K ⟨[],[(d,.ar d)],[(d,.cells cs)]⟩
  |_,_,_,_=>AStuck "buildSlice"
 |_,_=>AStuck "buildSlice"
def aBuildSlice (o:Oper) (e:Env) (h:Heap) (t len:Nat) (parts:List (Nat×Operand)) (K:AK):Prop:=
 match ty t with
 |some i=>match i.desc with
  |.slice el=>match ty el with
   |some j=>match partsPure j.size j.csz e 0 parts with
    |some xs=>match Nat.beq xs.length len,Nat.ble (len*j.size) 16777216,Nat.beq j.size 0 with
     |true,true,false=>match o.dst with
      |some d=>match i.stk.contains d with
       |false=>K ⟨[],[(d,.so j.size xs)],[]⟩
       |true=>match freshId h d with
        |true=>K ⟨[],[(d,.al true d j.size len)],[(d,.gr true j.size xs)]⟩
        |false=>AStuck "buildSlice"
      |none=>K ⟨[],[],[]⟩
     |_,_,_=>AStuck "buildSlice"
    |none=>aBuildFns o e h j len parts K
   |none=>AStuck "buildSlice"
  |_=>AStuck "buildSlice"
 |none=>AStuck "buildSlice"
def aUn (o:Oper) (op:UnOp) (x:AV) (K:AK):Prop:=match op,x with
 |.not,.p (.b a)=>ret o (.p (.b (!a))) K
 |.neg,.p (.i k a)=>ret o (.p (.i k (k.wrap (0-a)))) K
 |_,_=>AStuck "unOp"
def isBoolT (t:Nat):Bool:=match ty t with
 |some i=>match i.desc with|.bool=>true|_=>false
 |none=>false
def isIfaceT (t:Nat):Bool:=match ty t with
 |some i=>match i.desc with|.interface _=>true|_=>false
 |none=>false
def isSliceT (t:Nat):Bool:=match ty t with
 |some i=>match i.desc with|.slice _=>true|_=>false
 |none=>false
def nilEq:AV→Option Bool
 |.nilS=>some true
 |.es _=>some false
 |.p (.sl _ (_::_))=>some false
 |.so _ (_::_)=>some false
 |.al st _ _ n=>some (match st with|true=>false|false=>Nat.beq n 0)
 |_=>none
def aBin (o:Oper) (op:BinOp) (t:Nat) (x y:AV) (K:AK):Prop:=
 match x,y with
 |.p (.i k a),.p (.i k' b)=>match op with
  |.rem=>ANeed (k=k'∧b≠0) (ret o (.p (.i k (a.tmod b))) K)
  |.quo=>ANeed (k=k'∧b≠0) (ret o (.p (.i k (k.wrap (a.tdiv b)))) K)
  |op=>match binI op k a b with
   |some v=>match decide (k=k') with
    |true=>ret o (.p v) K
    |false=>AStuck "binOp"
   |none=>AStuck "binOp"
 |.p (.s a),.p (.s b)=>match op with
  |.add=>ANeed (a.size+b.size≤9223372036854775807) (ret o (.p (.s (a++b))) K)
  |op=>match binS op a b with
   |some v=>ret o (.p v) K
   |none=>AStuck "binOp"
 |x,.nilS=>match nilEq x,isSliceT ty t,op with
  |some b,true,.eql=>ret o (.p (.b b)) K
  |some b,true,.neq=>ret o (.p (.b (!b))) K
  |_,_,_=>AStuck "binOp nil"
 |.p (.b a),.p (.b b)=>match op,isBoolT ty t with
  |.eql,true=>ret o (.p (.b (a==b))) K
  |.neq,true=>ret o (.p (.b (!(a==b)))) K
  |_,_=>AStuck "binOp"
 |.p (.agg xs),.p (.agg ys)=>match ty t with
  |some i=>match i.eqs with
   |kd::ks=>match flatEq (kd::ks) xs ys,op with
    |some q,.eql=>ret o (.p (.b q)) K
    |some q,.neq=>ret o (.p (.b (!q))) K
    |_,_=>AStuck "binOp agg"
   | []=>AStuck "binOp agg"
  |none=>AStuck "binOp agg"
 |_,_=>AStuck "binOp"
def zeroPV (i:TI):Option PV:=match isAggD i.desc with
 |true=>match allPure (constAVs i.zero) i.csz with|some l=>some (.agg l)|none=>none
 |false=>match i.zero with
  |v::_=>(constAV v).pure? (headD i.csz)
  | []=>none
def aMakeMap (o:Oper) (h:Heap) (t:Nat) (K:AK):Prop:=match ty t,o.dst with
 |some i,some d=>match i.desc with
  |.map kt _=>match ty kt with
   |some j=>match kdD j.desc,freshId h d with
    |some kd,true=>K ⟨[],[(d,.mp d)],[(d,.map kd [])]⟩
    |_,_=>AStuck "makeMap"
   |none=>AStuck "makeMap"
  |_=>AStuck "makeMap"
 |_,_=>AStuck "makeMap"
def lookRes (ok:Bool) (x:PV) (b:Bool):AV:=match ok with|true=>.tup [.p x,.p (.b b)]|false=>.p x
def aLookup (o:Oper) (h:Heap) (t:Nat) (m k:AV) (ok:Bool) (K:AK):Prop:=match ty t with
 |some i=>match i.desc with
  |.map kt et=>match ty kt,ty et with
   |some jk,some je=>match zeroPV je,m,k with
    |some z,.mp l,.p k=>match hget h l with
     |some (.map kd es)=>match kdD jk.desc,kdOf k with
      |some a,some b=>match KD.eq a kd,KD.eq b kd with
       |true,true=>ALook es k z fun x b=>retR o l (lookRes ok x b) K
       |_,_=>AStuck "lookup"
      |_,_=>AStuck "lookup"
     |_=>AStuck "lookup"
    |some z,.c (.map none),.p k=>match kdD jk.desc,kdOf k with
     |some a,some b=>match KD.eq a b with
      |true=>ret o (lookRes ok z false) K
      |false=>AStuck "lookup"
     |_,_=>AStuck "lookup"
    |_,_,_=>AStuck "lookup"
   |_,_=>AStuck "lookup"
  |_=>AStuck "lookup"
 |none=>AStuck "lookup"
def aMapUpdate (h:Heap) (t:Nat) (m k v:AV) (K:AK):Prop:=match ty t with
 |some i=>match i.desc with
  |.map kt et=>match ty kt,ty et with
   |some jk,some je=>match m,k,v.pureL je.csz with
    |.mp l,.p k,some v=>match hget h l with
     |some (.map kd es)=>match kdD jk.desc,kdOf k with
      |some a,some b=>match KD.eq a kd,KD.eq b kd with
       |true,true=>K ⟨[l],[],[(l,.map kd (mput k v es))]⟩
       |_,_=>AStuck "mapUpdate"
      |_,_=>AStuck "mapUpdate"
     |_=>AStuck "mapUpdate"
    |_,_,_=>AStuck "mapUpdate"
   |_,_=>AStuck "mapUpdate"
  |_=>AStuck "mapUpdate"
 |none=>AStuck "mapUpdate"
def aMakeSlice (o:Oper) (h:Heap) (t:Nat) (a b:AV) (K:AK):Prop:=match ty t,o.dst with
 |some i,some d=>match i.desc with
  |.slice el=>match ty el with
   |some j=>match zeroPV j,a,b,freshId h d,isAggD j.desc,Nat.beq j.bytes 0 with
    |some z,.p (.i _ x),.p (.i _ y),true,false,false=>ANeed (x=y∧0≤x∧x*j.bytes≤140737488355328) (K ⟨[],[(d,.ar d)],[(d,.arr (List.replicate x.toNat z))]⟩)
    |_,_,_,_,_,_=>AStuck "makeSlice"
   |none=>AStuck "makeSlice"
  |_=>AStuck "makeSlice"
 |_,_=>AStuck "makeSlice"
def aIndex (o:Oper) (t:Nat) (x ix:AV) (K:AK):Prop:=match ty t with
 |some i=>match i.desc,x,ix with
  |.string,.p (.s s),.p (.i _ m)=>AStrI s m fun v=>ret o (.p v) K
  |_,_,_=>AStuck "index"
 |none=>AStuck "index"
def aIndexAddr (o:Oper) (t:Nat) (x ix:AV) (h:Heap) (K:AK):Prop:=
 match ty t with
 |some i=>match i.desc with
  |.slice el=>match ty el with
   |some j=>match x,ix with
    |.p (.sl sz xs),.p (.i _ n)=>match Nat.beq sz j.size with
     |true=>AIdx xs n fun v=>ret o (.vp v.cells) K
     |false=>AStuck "indexAddr"
    |.ar l,.p (.i _ n)=>match hget h l with
     |some (.arr xs)=>match Nat.beq j.size 1 with
      |true=>ANeed (0≤n∧n.toNat<xs.length) (retR o l (.ap l n.toNat) K)
      |false=>AStuck "indexAddr"
     |some (.cells cs)=>match Nat.beq j.size 1 with
      |true=>ANeed (0≤n∧n.toNat<cs.length) (retR o l (.ptr l n.toNat) K)
      |false=>AStuck "indexAddr"
     |_=>AStuck "indexAddr"
    |.al _ l sz m,.p (.i _ n)=>match Nat.beq sz j.size with
     |true=>ANeed (0≤n∧n.toNat<m) (ret o (.ep l sz n.toNat 0) K)
     |false=>AStuck "indexAddr"
    |_,_=>AStuck "indexAddr"
   |none=>AStuck "indexAddr"
  |.array len el=>match ty el with
   |some j=>match x,ix with
    |.vp cs,.p (.i _ m)=>ANeed (0≤m∧m<len) (ret o (.vp (cs.drop (m.toNat*j.size))) K)
    |.ptr l off,.p (.i _ m)=>ANeed (0≤m∧m<len) (ret o (.ptr l (off+m.toNat*j.size)) K)
    |_,_=>AStuck "indexAddr"
   |none=>AStuck "indexAddr"
  |_=>AStuck "indexAddr"
 |none=>AStuck "indexAddr"
def aLen (o:Oper) (t:Nat) (x:AV) (h:Heap) (K:AK):Prop:=
 match ty t with
 |some i=>match i.desc with
  |.slice _=>match x with
   |.p (.sl _ xs)=>ret o (.p (.i .i64 xs.length)) K
   |.so _ xs=>ret o (.p (.i .i64 xs.length)) K
   |.nilS=>ret o (.p (.i .i64 0)) K
   |.es _=>ret o (.p (.i .i64 0)) K
   |.ar l=>match hget h l with
    |some (.arr xs)=>retR o l (.p (.i .i64 xs.length)) K
    |some (.cells cs)=>retR o l (.p (.i .i64 cs.length)) K
    |_=>AStuck "len"
   |.al _ _ _ m=>ret o (.p (.i .i64 m)) K
   |_=>AStuck "len"
  |.map _ _=>match x with
   |.mp l=>match hget h l with
    |some (.map _ es)=>retR o l (.p (.i .i64 es.length)) K
    |_=>AStuck "len"
   |.c (.map none)=>ret o (.p (.i .i64 0)) K
   |_=>AStuck "len"
  |.string=>match x with
   |.p (.s x)=>ret o (.p (.i .i64 x.size)) K
   |_=>AStuck "len"
  |_=>AStuck "len"
 |none=>AStuck "len"
def aYs (sz:Nat):AV→Option (List PV)
 |.p (.sl sz' ys)=>match Nat.beq sz sz' with|true=>some ys|false=>none
 |.so sz' ys=>match Nat.beq sz sz' with|true=>some ys|false=>none
 |.nilS=>some []
 |.es _=>some []
 |_=>none
def aAppend (o:Oper) (e:Env) (h:Heap) (t t2:Nat) (x:Operand) (y:AV) (K:AK):Prop:=
 match ty t,isSliceT ty t2 with
 |some i,true=>match i.desc with
  |.slice el=>match ty el with
   |some j=>match Nat.beq (j.size*j.bytes) 0,aYs j.size y,o.dst with
    |false,some ys,some d=>match ev e x,x with
     |.nilS,_=>match i.stk.contains d with
      |false=>ANeed (ys.length*j.bytes≤140737488355328) (K ⟨[],[(d,.so j.size ys)],[]⟩)
      |true=>match freshId h d with
       |true=>ANeed (ys.length*j.bytes≤140737488355328) (K ⟨[],[(d,.al false d j.size ys.length)],[(d,.gr false j.size ys)]⟩)
       |false=>AStuck "append"
     |.so sz xs,.tmp s=>match Nat.beq sz j.size,Nat.beq s d with
      |true,false=>ANeed ((xs.length+ys.length)*j.bytes≤140737488355328) (K ⟨[],[(d,.so sz (xs++ys)),(s,.p (.sl sz xs))],[]⟩)
      |_,_=>AStuck "append"
     |.al st l sz m,_=>match hget h l,Nat.beq sz j.size,freshId h d with
      |some (.gr st' sz' xs),true,true=>match Nat.beq sz sz',st==st' with
       |true,true=>ANeed (m=xs.length∧(xs.length+ys.length)*j.bytes≤140737488355328) (K ⟨[l],[(d,.al st d sz (m+ys.length))],[(l,.dead),(d,.gr st sz (xs++ys))]⟩)
       |_,_=>AStuck "append"
      |_,_,_=>AStuck "append"
     |_,_=>AStuck "append"
    |_,_,_=>AStuck "append"
   |none=>AStuck "append"
  |_=>AStuck "append"
 |_,_=>AStuck "append"
def bldE (i:TI):Option Nat:=match i.zero with
 | [.pointer none,.slice none 0 0]=>match i.desc with
   |.struct ⟨[_,f]⟩=>match ty f.type with
    |some j=>match j.desc with
     |.slice el=>some el
     |_=>none
    |none=>none
   |_=>none
 |_=>none
def boundOf (e:Env) (dflt:Int):Option Operand→Option Int
 |none=>some dflt
 |some x=>match ev e x with
  |.p (.i _ n)=>some n
  |_=>none
def aSlice (o:Oper) (e:Env) (t:Nat) (x:AV) (lo hi:Option Operand) (K:AK):Prop:=
 match ty t with
 |some i=>match i.desc with
  |.slice el=>match ty el,x with
   |some j,.p (.sl sz xs)=>match Nat.beq sz j.size,boundOf e 0 lo,boundOf e xs.length hi with
    |true,some l,some u=>ANeed (0≤l∧l≤u∧u≤xs.length) (ret o (.p (.sl sz ((xs.take u.toNat).drop l.toNat))) K)
    |_,_,_=>AStuck "slice"
   |_,_=>AStuck "slice"
  |.string=>match x with
   |.p (.s s)=>match boundOf e 0 lo,boundOf e s.size hi with
    |some l,some u=>ANeed (0≤l∧l≤u∧u≤s.size) (ret o (.p (.s (s.extract l.toNat u.toNat))) K)
    |_,_=>AStuck "slice"
   |_=>AStuck "slice"
  |_=>AStuck "slice"
 |none=>AStuck "slice"
def aSliceO (o:Oper) (e:Env) (t s sz:Nat) (xs:List PV) (lo:Option Operand) (K:AK):Prop:=
 match ty t,o.dst with
 |some i,some d=>match i.desc with
  |.slice el=>match ty el with
   |some j=>match Nat.beq sz j.size,Nat.beq s d,boundOf e 0 lo with
    |true,false,some l=>ANeed (0≤l∧l≤xs.length) (K ⟨[],[(d,.so sz (xs.drop l.toNat)),(s,.p (.sl sz xs))],[]⟩)
    |_,_,_=>AStuck "slice"
   |none=>AStuck "slice"
  |_=>AStuck "slice"
 |_,_=>AStuck "slice"
def aSliceA (o:Oper) (e:Env) (h:Heap) (t l sz m:Nat) (u:Operand) (K:AK):Prop:=
 match ty t,o.dst with
 |some i,some d=>match i.desc with
  |.slice el=>match ty el,hget h l,ev e u with
   |some j,some (.gr true sz' xs),.p (.i _ k)=>match Nat.beq sz j.size,Nat.beq sz sz',freshId h d with
    |true,true,true=>ANeed (0≤k∧k≤m∧k≤xs.length) (K ⟨[l],[(d,.al true d sz k.toNat)],[(l,.dead),(d,.gr true sz (xs.take k.toNat))]⟩)
    |_,_,_=>AStuck "slice"
   |_,_,_=>AStuck "slice"
  |_=>AStuck "slice"
 |_,_=>AStuck "slice"
def aSliceR (o:Oper) (e:Env) (h:Heap) (t l:Nat) (u:Operand) (K:AK):Prop:=
 match ty t with
 |some i=>match i.desc with
  |.slice el=>match ty el,hget h l,ev e u with
   |some j,some (.arr xs),.p (.i _ k)=>match Nat.beq j.size 1 with
    |true=>ANeed (k=xs.length) (retR o l (.ar l) K)
    |false=>AStuck "slice"
   |_,_,_=>AStuck "slice"
  |_=>AStuck "slice"
 |_=>AStuck "slice"
def aSliceT (o:Oper) (e:Env) (t l sz m:Nat) (u:Option Operand) (K:AK):Prop:=
 match ty t,o.dst,u with
 |some i,some d,some u=>match i.desc with
  |.slice el=>match ty el,ev e u with
   |some j,.p (.i _ k)=>match Nat.beq sz j.size with
    |true=>ANeed (0≤k∧k≤m) (K ⟨[],[(d,.tl l sz k.toNat (m-k.toNat))],[]⟩)
    |false=>AStuck "slice"
   |_,_=>AStuck "slice"
  |_=>AStuck "slice"
 |_,_,_=>AStuck "slice"
def aClear (o:Oper) (e:Env) (h:Heap) (t:Nat) (x:Operand) (K:AK):Prop:=
 match ty t,o.dst with
 |some i,none=>match i.desc with
  |.slice el=>match ty el,ev e x with
   |some j,.tl l sz k _=>match hget h l,Nat.beq sz j.size with
    |some (.gr true sz' xs),true=>match Nat.beq sz sz' with
     |true=>K ⟨[l],[],[(l,.gr true sz (xs.take k))]⟩
     |false=>AStuck "clear"
    |_,_=>AStuck "clear"
   |_,_=>AStuck "clear"
  |_=>AStuck "clear"
 |_,_=>AStuck "clear"
def aConvB (o:Oper) (si i:TI) (v:AV) (K:AK):Prop:=match si.desc,i.desc,v.pure? 1 with
 |.slice el,.string,some (.sl sz xs)=>match Nat.beq sz 1,ty el with
  |true,some j=>match j.desc with
   |.int .u8=>ABytes xs fun y=>ret o (.p y) K
   |_=>AStuck "convert"
  |_,_=>AStuck "convert"
 |_,_,_=>AStuck "convert"
def findM (name:String):List (String×Nat)→Option Nat
 | []=>none
 |(a,f)::r=>match a==name with|true=>some f|false=>findM name r
def methOf (T:Nat) (name:String):Option Nat:=match ty T with
 |some i=>findM name i.meth
 |none=>none
def aopO (mv:Nat→Bool) (o:Oper) (e:Env) (h:Heap) (K:AK):Prop:=
 match o.op with
 |.move (.tmp t)=>aMove o e t mv K
 |.move x=>ret o (ev e x) K
 |.assign (.tmp t)=>aMove o e t (fun _=>true) K
 |.assign x=>ret o (ev e x) K
 |.pick c a b=>match ev e c with
  |.p (.b g)=>ASplit g (ret o (ev e a).copy K) (ret o (ev e b).copy K)
  |_=>AStuck "pick"
 |.alloc t=>match ty t,o.dst with
  |some i,some d=>match freshId h d with
   |true=>match i.stk.contains d with
    |false=>K ⟨[],[(d,.ptr d 0)],[(d,.cells (constAVs i.zero))]⟩
    |true=>match bldE ty i with
     |some el=>K ⟨[],[(d,.ptr d 0)],[(d,.bld t el [])]⟩
     |none=>AStuck "alloc"
   |false=>AStuck "alloc"
  |_,_=>AStuck "alloc"
 |.box _ x=>match o.dst with
  |some d=>match freshId h d with
   |true=>match (ev e x).copy.cells? with
    |some cs=>K ⟨[],[(d,.ptr d 0)],[(d,.cells cs)]⟩
    |none=>AStuck "box"
   |false=>AStuck "box"
  |_=>AStuck "box"
 |.build t ⟨parts⟩=>aBuild ty o e t parts K
 |.buildSlice t len ⟨parts⟩=>aBuildSlice ty o e h t len parts K
 |.load t x=>aLoad ty o h t (ev e x) mv K
 |.store t x y=>aStore ty e h t (ev e x) y K
 |.nilCheck x=>match ev e x with
  |.ptr l off=>ret o (.ptr l off) K
  |.vp cs=>ret o (.vp cs) K
  |.ep l sz m c=>ret o (.ep l sz m c) K
  |.fn f a b=>ret o (.fn f a b) K
  |_=>AStuck "nilCheck"
 |.binOp op t x (.const .nilIface) _=>match ev e x with
  |.ifc b=>match isIfaceT ty t,op with
   |true,.eql=>ret o (.p (.b (!b))) K
   |true,.neq=>ret o (.p (.b b)) K
   |_,_=>AStuck "binOp iface"
  |_=>AStuck "binOp iface"
 |.binOp op t x y _=>aBin ty o op t (ev e x) (ev e y) K
 |.unOp op _ x=>aUn o op (ev e x) K
 |.convert src dst x=>match ty src,ty dst,ev e x with
  |some _,some i,.p (.i _ n)=>match i.desc with
   |.int k=>ret o (.p (.i k (k.wrap n))) K
   |_=>AStuck "convert"
  |some _,some i,.p (.s x)=>match i.desc with
   |.string=>ret o (.p (.s x)) K
   |_=>AStuck "convert"
  |some si,some i,v=>aConvB ty o si i v K
  |_,_,_=>AStuck "convert"
 |.makeFunc (.func f) ⟨first⟩ ⟨caps⟩=>ret o (.fn f (evs e first) (evs e caps)) K
 |.slice t (.tmp s) lo none none=>match eget e s with
  |.so sz xs=>aSliceO ty o e t s sz xs lo K
  |.al true l sz m=>aSliceT ty o e t l sz m lo K
  |v=>aSlice ty o e t v.copy lo none K
 |.slice t (.tmp s) none (some u) none=>match eget e s with
  |.al true l sz m=>aSliceA ty o e h t l sz m u K
  |.ar l=>aSliceR ty o e h t l u K
  |v=>aSlice ty o e t v.copy none (some u) K
 |.slice t x lo hi none=>aSlice ty o e t (ev e x).copy lo hi K
 |.fieldAddr s x f=>match fieldOf ty s f with
  |some fd=>match ty fd.type with
   |some j=>match Nat.beq j.size 0,ev e x with
    |false,.ptr l off=>ret o (.ptr l (off+fd.offset)) K
    |false,.vp cs=>ret o (.vp (cs.drop fd.offset)) K
    |false,.ep l sz m c=>ret o (.ep l sz m (c+fd.offset)) K
    |_,_=>AStuck "fieldAddr"
   |none=>AStuck "fieldAddr"
  |none=>AStuck "fieldAddr"
 |.field t x f=>match fieldOf ty t f with
  |some fd=>match ty fd.type with
   |some j=>match (ev e x).aggCells? with
    |some cs=>match isAggD j.desc with
     |true=>match getAt cs fd.offset j.size with
      |some l=>ret o (mkAgg l j.csz) K
      |none=>AStuck "field"
     |false=>match cs[fd.offset]? with
      |some v=>ret o v.copy K
      |none=>AStuck "field"
    |none=>AStuck "field"
   |none=>AStuck "field"
  |none=>AStuck "field"
 |.indexAddr t x ix=>aIndexAddr ty o t (ev e x).copy (ev e ix) h K
 |.extract x n=>match ev e x with
  |.tup vs=>match vs[n]? with
   |some v=>ret o v.copy K
   |none=>AStuck "extract"
  |_=>AStuck "extract"
 |.call { callee:=.builtin .len,args:=⟨[x]⟩,argTypes:=⟨t::_⟩ }=>aLen ty o t (ev e x) h K
 |.call { callee:=.builtin .append,args:=⟨[x,y]⟩,argTypes:=⟨[t,t2]⟩ }=>aAppend ty o e h t t2 x (ev e y) K
 |.call { callee:=.builtin .min,args:=⟨[x,y]⟩,.. }=>match ev e x,ev e y with
  |.p (.i k a),.p (.i k' b)=>match decide (k=k') with
   |true=>ret o (.p (.i k (if b<a then b else a))) K
   |false=>AStuck "min"
  |_,_=>AStuck "min"
 |.call { callee:=.builtin .max,args:=⟨[x,y]⟩,.. }=>match ev e x,ev e y with
  |.p (.i k a),.p (.i k' b)=>match decide (k=k') with
   |true=>ret o (.p (.i k (if a<b then b else a))) K
   |false=>AStuck "max"
  |_,_=>AStuck "max"
 |.call { callee:=.builtin .max,args:=⟨[x,y,z]⟩,.. }=>match ev e x,ev e y,ev e z with
  |.p (.i k a),.p (.i k' b),.p (.i k2 c)=>match decide (k=k'),decide (k=k2) with
   |true,true=>ret o (.p (.i k (imax (imax a b) c))) K
   |_,_=>AStuck "max"
  |_,_,_=>AStuck "max"
 |.call { callee:=.builtin .clear,args:=⟨[x]⟩,argTypes:=⟨t::_⟩ }=>aClear ty o e h t x K
 |.call { callee:=.value x,args:=⟨az⟩,argTypes:=⟨ts⟩ }=>match ev e x with
  |.fn f first caps=>call f (first++argOf ty e az ts++caps) h fun rd hw r=>retM o rd hw r K
  |_=>AStuck "call"
 |.call { callee:=.invoke x name,args:=⟨az⟩,argTypes:=⟨ts⟩ }=>match ev e x with
  |.p (.ifv T y)=>match methOf ty T name with
   |some f=>call f ([.p y]++argOf ty e az ts++[]) h fun rd hw r=>retM o rd hw r K
   |none=>AStuck "invoke"
  |_=>AStuck "invoke"
 |.makeMap t none=>aMakeMap ty o h t K
 |.lookup t m k ok=>aLookup ty o h t (ev e m) (ev e k) ok K
 |.mapUpdate t m k v=>aMapUpdate ty h t (ev e m) (ev e k) (ev e v) K
 |.insert t m k v=>aMapUpdate ty h t (ev e m) (ev e k) (ev e v) K
 |.makeSlice t a b=>aMakeSlice ty o h t (ev e a) (ev e b) K
 |.index t x ix=>aIndex ty o t (ev e x) (ev e ix) K
 |_=>AStuck "op"
def slk (k:Nat):List (Nat×List PV)→Option (List PV)
 | []=>none
 |(a,xs)::r=>match Nat.beq a k with|true=>some xs|false=>slk k r
def sset (k:Nat) (xs:List PV):List (Nat×List PV)→List (Nat×List PV)
 | []=>[]
 |(a,ys)::r=>match Nat.beq a k with|true=>(a,xs)::r|false=>(a,ys)::sset k xs r
def sdel (k:Nat):List (Nat×List PV)→List (Nat×List PV)
 | []=>[]
 |(a,ys)::r=>match Nat.beq a k with|true=>r|false=>(a,ys)::sdel k r
def ASt (M:List (Nat×List PV)) (k:Nat) (K:List PV→Prop):Prop:=∃xs,slk k M=some xs∧K xs
def beqB:Bool→Bool→Bool
 |true,b=>b
 |false,true=>false
 |false,false=>true
def findSt (T:Nat) (one:Bool):Heap→Option Nat
 | []=>none
 |(l,.store T' o _ _ _ _)::r=>match Nat.beq T' T,beqB o one with|true,true=>some l|_,_=>findSt T one r
 |_::r=>findSt T one r
def AStO (T:Nat) (one:Bool) (h:Heap) (K:Nat→Nat→Nat→Nat→List (Nat×List PV)→Prop):Prop:=match findSt T one h with
 |some l=>match hget h l with
  |some (.store T' o sp nx sz M)=>match Nat.beq T' T,beqB o one with|true,true=>K l sp nx sz M|_,_=>AStuck "store"
  |_=>AStuck "store"
 |none=>AStuck "store"
def dPtr (S:Nat):AV→Option (Nat×Bool×Nat×Nat×Nat×Nat×Nat)
 |.p (.adr s k)=>some (S,true,0,s,k,0,0)
 |.p (.pa T one sz s k n c)=>some (T,one,sz,s,k,n,c)
 |_=>none
def setEl (v:PV) (c:Nat) (ys:List PV):Option PV:=match v with
 |.agg cs=>match setAt cs c ys with|some cs'=>some (.agg cs')|none=>none
 |_=>match c,ys with|0,[y]=>some y|_,_=>none
def isDP:AV→Bool
 |.p (.adr _ _)=>true
 |.p (.pa _ _ _ _ _ _ _)=>true
 |.p (.bx _)=>true
 |_=>false
def isDS:AV→Bool
 |.p (.ads _ _ _)=>true
 |.p .nsl=>true
 |_=>false
def isNP:AV→Bool
 |.p (.adr _ _)=>true
 |.p (.bx _)=>true
 |.p .nilp=>true
 |_=>false
def isAmp:AV→Bool
 |.p (.amp _ _)=>true
 |_=>false
def mkq (p:PV×PV):PV:=.agg [p.1,p.2,.nilp]
def mkk (kd:KD) (p:PV×PV):PV:=match kd with
 |.ks=>mkp p
 |.kb=>.agg [p.1,p.2,.nsl]
 |.ki i=>.agg [p.1,p.2,.i i 0,.nsl]
def mkx (b:Option KD) (p:PV×PV):PV:=match b with|none=>mkq p|some kd=>mkk kd p
def keyX (b:Option KD) (x:PV):Prop:=match b with|some kd=>kdOf x=some kd|none=>∃s k,x=.adr s k
def AStM (kd:KD) (M:List (Nat×List PV)) (k:Nat) (K:List (PV×PV)→Prop):Prop:=∃es,slk k M=some (es.map (mkk kd))∧K es
def ifNil:AV→Option Bool
 |.p (.ifv _ _)=>some false
 |.p .nifc=>some true
 |.c .nilIface=>some true
 |_=>none
def dynAt (t d:Nat):Bool:=match ty t with
 |some i=>i.stk.contains (1000000+d)
 |none=>false
def dstIs (o:Oper) (f:Nat→Bool):Bool:=match o.dst with|some d=>f d|none=>false
def isDyn (o:Oper) (e:Env):Bool:=match o.op with
 |.load _ x=>isDP (ev e x)
 |.store _ x _=>isDP (ev e x)
 |.alloc t=>dstIs o (dynAt ty t)
 |.nilCheck x=>isDP (ev e x)
 |.fieldAddr _ x _=>isDP (ev e x)
 |.indexAddr _ x _=>isDS (ev e x)
 |.slice _ x none (some _) none=>isDS (ev e x)
 |.call { callee:=.builtin .len,args:=⟨[x]⟩,.. }=>isDS (ev e x)
 |.call { callee:=.builtin .append,args:=⟨[x,_]⟩,argTypes:=⟨t::_⟩ }=>match ev e x with
  |.nilS=>dstIs o (dynAt ty t)
  |v=>isDS v
 |.binOp _ _ x _ _=>match ev e x with
  |.p (.ads _ _ _)=>true
  |.p .nsl=>true
  |v=>isNP v||(ifNil v).isSome
 |.buildSlice t _ _=>dstIs o (dynAt ty t)
 |.makeInterface _ _=>true
 |.makeMap t none=>dstIs o (dynAt ty t)
 |.lookup _ m _ _=>isAmp (ev e m)
 |.mapUpdate _ m _ _=>isAmp (ev e m)
 |.insert _ m _ _=>isAmp (ev e m)
 |.box t _=>dstIs o (dynAt ty t)
 |_=>false
def dLoad (o:Oper) (h:Heap) (t:Nat) (a:AV) (K:AK):Prop:=match ty t with
 |some i=>match a with
  |.p (.bx cs)=>match isAggD i.desc with
   |true=>match getAt cs 0 i.size with
    |some l1=>ret o (.p (.agg l1)) K
    |none=>AStuck "load"
   |false=>match cs with
    |v::_=>ret o (.p v) K
    | []=>AStuck "load"
  |a=>match dPtr t a with
   |some (T,one,sz0,s,k,m,c)=>AStO T one h fun l sp _ sz M=>ANeed (s=sp∧sz≠0∧(m=0∨sz0=sz)) (ASt M k fun xs=>AIdx xs m fun v=>match isAggD i.desc with
    |true=>match getAt v.cells c i.size with
     |some l1=>retR o l (.p (.agg l1)) K
     |none=>AStuck "load"
    |false=>match v.cells[c]? with
     |some y=>retR o l (.p y) K
     |none=>AStuck "load")
   |none=>AStuck "load"
 |none=>AStuck "load"
def dStore (e:Env) (h:Heap) (t:Nat) (a:AV) (y:Operand) (K:AK):Prop:=match ty t with
 |some i=>match dPtr t a,(ev e y).pureL i.csz with
  |some (T,one,sz0,s,k,m,c),some v=>match Nat.beq v.cells.length i.size,Nat.beq i.size 0 with
   |true,false=>AStO T one h fun l sp nx sz M=>ANeed (s=sp∧sz≠0∧(m=0∨sz0=sz)) (ASt M k fun xs=>AIdx xs m fun x=>match setEl x c v.cells with
    |some x'=>K ⟨[l],[],[(l,.store T one sp nx sz (sset k (xs.set m x') M))]⟩
    |none=>AStuck "store")
   |_,_=>AStuck "store"
  |_,_=>AStuck "store"
 |none=>AStuck "store"
def dAlloc (o:Oper) (h:Heap) (t:Nat) (K:AK):Prop:=match ty t,o.dst with
 |some i,some d=>match isAggD i.desc,allPure (constAVs i.zero) i.csz with
  |true,some zs=>AStO t true h fun l sp nx sz M=>match Nat.beq sz i.size,Nat.beq sz 0 with
   |true,false=>K ⟨[l],[(d,.p (.adr sp nx))],[(l,.store t true sp (nx+1) sz ((nx,[.agg zs])::M))]⟩
   |_,_=>AStuck "alloc"
  |_,_=>AStuck "alloc"
 |_,_=>AStuck "alloc"
def dNil (o:Oper) (a:AV) (K:AK):Prop:=match a with
 |.p x=>match isDP (.p x) with|true=>ret o (.p x) K|false=>AStuck "nilCheck"
 |_=>AStuck "nilCheck"
def dField (o:Oper) (s f:Nat) (a:AV) (K:AK):Prop:=match fieldOf ty s f with
 |some fd=>match ty fd.type,ty s with
  |some j,some i=>match Nat.beq j.size 0,a with
   |false,.p (.bx cs)=>ret o (.vp (cs.drop fd.offset)) K
   |false,.p (.adr sp k)=>ret o (.p (.pa s true i.size sp k 0 fd.offset)) K
   |false,.p (.pa T one sz sp k m c)=>ret o (.p (.pa T one sz sp k m (c+fd.offset))) K
   |_,_=>AStuck "fieldAddr"
  |_,_=>AStuck "fieldAddr"
 |none=>AStuck "fieldAddr"
def dIndex (o:Oper) (t:Nat) (x ix:AV) (K:AK):Prop:=match ty t with
 |some i=>match i.desc with
  |.slice el=>match ty el with
   |some j=>match x,ix with
    |.p (.ads s k m),.p (.i _ q)=>ANeed (0≤q∧q.toNat<m) (ret o (.p (.pa el false j.size s k q.toNat 0)) K)
    |_,_=>AStuck "indexAddr"
   |none=>AStuck "indexAddr"
  |_=>AStuck "indexAddr"
 |none=>AStuck "indexAddr"
def dLen (o:Oper) (t:Nat) (x:AV) (K:AK):Prop:=match isSliceT ty t,x with
 |true,.p (.ads _ _ m)=>ret o (.p (.i .i64 m)) K
 |true,.p .nsl=>ret o (.p (.i .i64 0)) K
 |_,_=>AStuck "len"
def dSlice (o:Oper) (e:Env) (t:Nat) (x:AV) (u:Operand) (K:AK):Prop:=match ty t with
 |some i=>match i.desc with
  |.slice el=>match ty el,x,ev e u with
   |some _,.p (.ads s k m),.p (.i _ q)=>ANeed (0≤q∧q≤m) (ret o (.p (.ads s k q.toNat)) K)
   |some _,.p .nsl,.p (.i _ q)=>ANeed (q=0) (ret o (.p .nsl) K)
   |_,_,_=>AStuck "slice"
  |_=>AStuck "slice"
 |none=>AStuck "slice"
def dAppend (o:Oper) (e:Env) (h:Heap) (t t2:Nat) (x y:AV) (K:AK):Prop:=match ty t,isSliceT ty t2 with
 |some i,true=>match i.desc with
  |.slice el=>match ty el with
   |some j=>match Nat.beq (j.size*j.bytes) 0,aYs j.size y,o.dst with
    |false,some ys,some d=>AStO el false h fun l sp nx sz M=>match Nat.beq sz j.size with
     |true=>match x with
      |.p (.ads s k m)=>ANeed (s=sp) (ASt M k fun xs=>ANeed (m≤xs.length∧(m+ys.length)*j.bytes≤140737488355328)
        (K ⟨[l],[(d,.p (.ads sp nx (m+ys.length)))],[(l,.store el false sp (nx+1) sz ((nx,xs.take m++ys)::sdel k M))]⟩))
      |.p .nsl=>ANeed (0<ys.length∧ys.length*j.bytes≤140737488355328) (K ⟨[l],[(d,.p (.ads sp nx ys.length))],[(l,.store el false sp (nx+1) sz ((nx,ys)::M))]⟩)
      |.nilS=>ANeed (0<ys.length∧ys.length*j.bytes≤140737488355328) (K ⟨[l],[(d,.p (.ads sp nx ys.length))],[(l,.store el false sp (nx+1) sz ((nx,ys)::M))]⟩)
      |_=>AStuck "append"
     |false=>AStuck "append"
    |_,_,_=>AStuck "append"
   |none=>AStuck "append"
  |_=>AStuck "append"
 |_,_=>AStuck "append"
def dBuild (o:Oper) (e:Env) (h:Heap) (t len:Nat) (parts:List (Nat×Operand)) (K:AK):Prop:=match ty t with
 |some i=>match i.desc with
  |.slice el=>match ty el with
   |some j=>match partsPure j.size j.csz e 0 parts,o.dst with
    |some xs,some d=>match Nat.beq xs.length len,Nat.ble (len*j.size) 16777216,Nat.beq j.size 0 with
     |true,true,false=>AStO el false h fun l sp nx sz M=>match Nat.beq sz j.size with
      |true=>K ⟨[l],[(d,.p (.ads sp nx len))],[(l,.store el false sp (nx+1) sz ((nx,xs)::M))]⟩
      |false=>AStuck "buildSlice"
     |_,_,_=>AStuck "buildSlice"
    |_,_=>AStuck "buildSlice"
   |none=>AStuck "buildSlice"
  |_=>AStuck "buildSlice"
 |none=>AStuck "buildSlice"
def isPtrT (t:Nat):Bool:=match ty t with
 |some i=>match i.desc with|.pointer _=>true|_=>false
 |none=>false
def ptrEq:AV→AV→Option Bool
 |.p .nilp,.c (.pointer none)=>some true
 |.p .nilp,.p .nilp=>some true
 |.p .nilp,.p (.adr _ _)=>some false
 |.p .nilp,.p (.bx _)=>some false
 |.p (.adr _ _),.c (.pointer none)=>some false
 |.p (.adr _ _),.p .nilp=>some false
 |.p (.bx _),.c (.pointer none)=>some false
 |.p (.bx _),.p .nilp=>some false
 |_,_=>none
def dBin (o:Oper) (h:Heap) (op:BinOp) (t:Nat) (x y:AV) (K:AK):Prop:=match x,y with
 |.p (.ads _ _ _),.nilS=>match isSliceT ty t,op with
  |true,.eql=>ret o (.p (.b false)) K
  |true,.neq=>ret o (.p (.b true)) K
  |_,_=>AStuck "binOp"
 |.p .nsl,.nilS=>match isSliceT ty t,op with
  |true,.eql=>ret o (.p (.b true)) K
  |true,.neq=>ret o (.p (.b false)) K
  |_,_=>AStuck "binOp"
 |.p (.adr s k),.p (.adr s' k')=>match isPtrT ty t,ty t with
  |true,some i=>match i.desc with
   |.pointer T=>match ty T with
    |some j=>match Nat.beq j.size 0 with
     |false=>AStO T true h fun l sp _ sz M=>ANeed (s=sp∧s'=sp∧sz≠0∧(slk k M).isSome=true∧(slk k' M).isSome=true) (match op with
      |.eql=>retR o l (.p (.b (Nat.beq k k'))) K
      |.neq=>retR o l (.p (.b (!(Nat.beq k k')))) K
      |_=>AStuck "binOp")
     |true=>AStuck "binOp"
    |none=>AStuck "binOp"
   |_=>AStuck "binOp"
  |_,_=>AStuck "binOp"
 |x,y=>match isPtrT ty t,ptrEq x y,op with
  |true,some b,.eql=>ret o (.p (.b b)) K
  |true,some b,.neq=>ret o (.p (.b (!b))) K
  |_,_,_=>AStuck "binOp"
def dMk (o:Oper) (T:Nat) (x:AV) (K:AK):Prop:=match ty T,x with
 |some i,.p y=>match i.desc with
  |.interface _=>AStuck "makeInterface"
  |_=>ret o (.p (.ifv T y)) K
 |_,_=>AStuck "makeInterface"
def dIfc (o:Oper) (op:BinOp) (t:Nat) (x:AV) (K:AK):Prop:=match isIfaceT ty t,ifNil x,op with
 |true,some b,.eql=>ret o (.p (.b b)) K
 |true,some b,.neq=>ret o (.p (.b (!b))) K
 |_,_,_=>AStuck "binOp iface"
def dBox (o:Oper) (h:Heap) (t:Nat) (x:AV) (K:AK):Prop:=match ty t,o.dst with
 |some i,some d=>match x.pureL i.csz with
  |some (.agg zs)=>AStO t true h fun l sp nx sz M=>match Nat.beq zs.length sz,Nat.beq sz 0 with
   |true,false=>K ⟨[l],[(d,.p (.adr sp nx))],[(l,.store t true sp (nx+1) sz ((nx,[.agg zs])::M))]⟩
   |_,_=>AStuck "box"
  |_=>AStuck "box"
 |_,_=>AStuck "box"
def keysIn (sp:Nat) (M:List (Nat×List PV)) (es:List (PV×PV)):Prop:=∀x∈es,∃k,x.1=.adr sp k∧(slk k M).isSome=true
def AStQ (M:List (Nat×List PV)) (q:Nat) (K:List (PV×PV)→Prop):Prop:=∃es,slk q M=some (es.map mkq)∧K es
def dLookP (o:Oper) (h:Heap) (t T2 s q s2 k2:Nat) (ok:Bool) (z:PV) (K:AK):Prop:=match ty T2 with
 |some j2=>match Nat.beq j2.size 0 with
  |false=>AStO t true h fun l sp _ sz M=>AStO T2 true h fun l2 sp2 _ sz2 M2=>ANeed (s=sp∧sz=0∧s2=sp2∧sz2≠0∧(slk k2 M2).isSome=true) (AStQ M q fun es=>ANeed (keysIn sp2 M2 es) (ALook es (.adr s2 k2) z fun x b=>retM o [l,l2] [] (lookRes ok x b) K))
  |true=>AStuck "lookup"
 |none=>AStuck "lookup"
def dUpdP (h:Heap) (t T2 s q s2 k2:Nat) (v:PV) (K:AK):Prop:=match ty T2 with
 |some j2=>match Nat.beq j2.size 0 with
  |false=>AStO t true h fun l sp nx sz M=>AStO T2 true h fun l2 sp2 _ sz2 M2=>ANeed (s=sp∧sz=0∧s2=sp2∧sz2≠0∧(slk k2 M2).isSome=true) (AStQ M q fun es=>ANeed (keysIn sp2 M2 es∧mfind (.adr s2 k2) es=none) (K ⟨[l,l2],[],[(l,.store t true sp nx sz (sset q ((es++[(PV.adr s2 k2,v)]).map mkq) M))]⟩))
  |true=>AStuck "mapUpdate"
 |none=>AStuck "mapUpdate"
def mapKey:TypeDesc→Bool
 |.string=>true
 |.int _=>true
 |.bool=>true
 |.pointer _=>true
 |_=>false
def dMakeMap (o:Oper) (h:Heap) (t:Nat) (K:AK):Prop:=match ty t,o.dst with
 |some i,some d=>match i.desc with
  |.map kt _=>match ty kt with
   |some j=>match mapKey j.desc with
    |true=>AStO t true h fun l sp nx sz M=>match Nat.beq sz 0 with
     |true=>K ⟨[l],[(d,.p (.amp sp nx))],[(l,.store t true sp (nx+1) sz ((nx,[])::M))]⟩
     |false=>AStuck "makeMap"
    |false=>AStuck "makeMap"
   |none=>AStuck "makeMap"
  |_=>AStuck "makeMap"
 |_,_=>AStuck "makeMap"
def dLookup (o:Oper) (h:Heap) (t:Nat) (m k:AV) (ok:Bool) (K:AK):Prop:=match ty t with
 |some i=>match i.desc with
  |.map kt et=>match ty kt,ty et with
   |some jk,some je=>match zeroPV je,m,k with
    |some z,.p (.amp s q),.p (.adr s2 k2)=>match jk.desc with
     |.pointer T2=>dLookP ty o h t T2 s q s2 k2 ok z K
     |_=>AStuck "lookup"
    |some z,.p (.amp s q),.p k=>match kdD jk.desc,kdOf k with
     |some kd,some kd'=>match KD.eq kd kd' with
      |true=>AStO t true h fun l sp _ sz M=>ANeed (s=sp∧sz=0) (AStM kd M q fun es=>ALook es k z fun x b=>retR o l (lookRes ok x b) K)
      |false=>AStuck "lookup"
     |_,_=>AStuck "lookup"
    |_,_,_=>AStuck "lookup"
   |_,_=>AStuck "lookup"
  |_=>AStuck "lookup"
 |none=>AStuck "lookup"
def dMapUpdate (h:Heap) (t:Nat) (m k v:AV) (K:AK):Prop:=match ty t with
 |some i=>match i.desc with
  |.map kt et=>match ty kt,ty et with
   |some jk,some je=>match m,k,v.pureL je.csz with
    |.p (.amp s q),.p (.adr s2 k2),some v=>match jk.desc with
     |.pointer T2=>dUpdP ty h t T2 s q s2 k2 v K
     |_=>AStuck "mapUpdate"
    |.p (.amp s q),.p k,some v=>match kdD jk.desc,kdOf k with
     |some kd,some kd'=>match KD.eq kd kd' with
      |true=>AStO t true h fun l sp nx sz M=>ANeed (s=sp∧sz=0) (AStM kd M q fun es=>K ⟨[l],[],[(l,.store t true sp nx sz (sset q ((mput k v es).map (mkk kd)) M))]⟩)
      |false=>AStuck "mapUpdate"
     |_,_=>AStuck "mapUpdate"
    |_,_,_=>AStuck "mapUpdate"
   |_,_=>AStuck "mapUpdate"
  |_=>AStuck "mapUpdate"
 |none=>AStuck "mapUpdate"
def aopD (o:Oper) (e:Env) (h:Heap) (K:AK):Prop:=match o.op with
 |.load t x=>dLoad ty o h t (ev e x) K
 |.store t x y=>dStore ty e h t (ev e x) y K
 |.alloc t=>dAlloc ty o h t K
 |.nilCheck x=>dNil o (ev e x) K
 |.fieldAddr s x f=>dField ty o s f (ev e x) K
 |.indexAddr t x ix=>dIndex ty o t (ev e x) (ev e ix) K
 |.slice t x none (some u) none=>dSlice ty o e t (ev e x) u K
 |.call { callee:=.builtin .len,args:=⟨[x]⟩,argTypes:=⟨t::_⟩ }=>dLen ty o t (ev e x) K
 |.call { callee:=.builtin .append,args:=⟨[x,y]⟩,argTypes:=⟨[t,t2]⟩ }=>dAppend ty o e h t t2 (ev e x) (ev e y) K
 |.buildSlice t len ⟨parts⟩=>dBuild ty o e h t len parts K
 |.makeInterface t x=>dMk ty o t (ev e x) K
 |.makeMap t none=>dMakeMap ty o h t K
 |.lookup t m k ok=>dLookup ty o h t (ev e m) (ev e k) ok K
 |.mapUpdate t m k v=>dMapUpdate ty h t (ev e m) (ev e k) (ev e v) K
 |.insert t m k v=>dMapUpdate ty h t (ev e m) (ev e k) (ev e v) K
 |.box t x=>dBox ty o h t (ev e x) K
 |.binOp op t x (.const .nilIface) _=>dIfc ty o op t (ev e x) K
 |.binOp op t x y _=>dBin ty o h op t (ev e x) (ev e y) K
 |_=>AStuck "dynamic"
def aop (mv:Nat→Bool) (o:Oper) (e:Env) (h:Heap) (K:AK):Prop:=match isDyn ty o e with
 |true=>aopD ty o e h K
 |false=>aopO ty call mv o e h K
def guardOf (ops:List Oper) (o:Oper) (e:Env) (S:Env→Prop) (X:Env→Prop):Prop:=
 match o.guard with
 |none=>X e
 |some (j,want)=>match ops[j]? with
  |some og=>match og.dst with
   |some d=>match eget e d with
    |.p (.b g)=>ASplit g (match want with|true=>X ((d,.p (.b true))::e)|false=>S ((d,.p (.b true))::e)) (match want with|true=>S ((d,.p (.b false))::e)|false=>X ((d,.p (.b false))::e))
    |.tup []=>S e
    |_=>AStuck "guard"
   |none=>AStuck "guard"
  |none=>AStuck "guard"
def putT (o:Oper) (e:Env) (K:Env→Prop):Prop:=match o.dst with
 |some d=>K ((d,.tup [])::e)
 |none=>K e
def pushE:Env→Env→(Env→Prop)→Prop
 | [],e,K=>K e
 |(d,v)::r,e,K=>pushE r ((d,v)::e) K
def pushH:Heap→Heap→(Heap→Prop)→Prop
 | [],e,K=>K e
 |(d,v)::r,e,K=>pushH r ((d,v)::e) K
noncomputable def aops (all:List Oper) (l:List Oper):Env→Heap→(Env→Heap→Prop)→Prop:=
 @List.rec Oper (fun _=>Env→Heap→(Env→Heap→Prop)→Prop)
  (fun e h K=>K e h)
  (fun o _ ih e h K=>guardOf all o e (fun e=>putT o e fun e=>ih e h K) fun e=>
    aop ty call (moved all) o e h fun f=>pushE f.ew e fun e=>pushH f.hw h fun h=>ih e h K) l
noncomputable def aopsR (all:List Oper) (l:List Oper):Env→Heap→List (Option Eff)→(Env→Heap→List (Option Eff)→Prop)→Prop:=
 @List.rec Oper (fun _=>Env→Heap→List (Option Eff)→(Env→Heap→List (Option Eff)→Prop)→Prop)
  (fun e h rs K=>K e h rs)
  (fun o _ ih e h rs K=>guardOf all o e (fun e=>putT o e fun e=>ih e h (none::rs) K) fun e=>
    aop ty call (moved all) o e h fun f=>pushE f.ew e fun e=>pushH f.hw h fun h=>ih e h (some f::rs) K) l
theorem aops_cons (all:List Oper) (o:Oper) (r:List Oper) (e:Env) (h:Heap) (K:Env→Heap→Prop):aops ty call all (o::r) e h K=
 guardOf all o e (fun e=>putT o e fun e=>aops ty call all r e h K) fun e=>aop ty call (moved all) o e h fun f=>pushE f.ew e fun e=>pushH f.hw h fun h=>aops ty call all r e h K:=rfl
theorem aopsR_cons (all:List Oper) (o:Oper) (r:List Oper) (e:Env) (h:Heap) (rs:List (Option Eff)) (K:Env→Heap→List (Option Eff)→Prop):aopsR ty call all (o::r) e h rs K=
 guardOf all o e (fun e=>putT o e fun e=>aopsR ty call all r e h (none::rs) K) fun e=>aop ty call (moved all) o e h fun f=>pushE f.ew e fun e=>pushH f.hw h fun h=>aopsR ty call all r e h (some f::rs) K:=rfl
def slotsOf (o:Oper):List Nat:=o.op.operands.toList.filterMap fun|.tmp t=>some t|_=>none
def guardSlot (all:List Oper) (o:Oper):List Nat:=match o.guard with
 |none=>[]
 |some (j,_)=>match all[j]? with
  |some og=>match og.dst with|some d=>[d]|none=>[]
  |none=>[]
def wrE (o:Oper):Option Eff→Env
 |some f=>f.ew
 |none=>match o.dst with|some d=>[(d,.tup [])]|none=>[]
def wrH:Option Eff→Heap
 |some f=>f.hw
 |none=>[]
def rdH:Option Eff→List Nat
 |some f=>f.rd++f.hw.map (·.1)
 |none=>[]
def disj (a b:List Nat):Bool:=a.all fun x=>b.all fun y=>!Nat.beq x y
def maskOf (acc:List Nat) (o:Oper):Nat:=o.after.toList.foldl (fun s x=>if Region.binds .any x then s |||2 ^ x.on |||(acc[x.on]?.getD 0) else s) 0
def masks:List Oper→List Nat→List Nat
 | [],acc=>acc
 |o::r,acc=>masks r (acc++[maskOf acc o])
def apartB (all:List Oper) (o1:Oper) (f1:Option Eff) (o2:Oper) (f2:Option Eff):Bool:=
 disj ((wrE o1 f1).map (·.1)) (slotsOf o2++guardSlot all o2++(wrE o2 f2).map (·.1))&&disj (slotsOf o1++guardSlot all o1) ((wrE o2 f2).map (·.1))&&
 disj ((wrH f1).map (·.1)) (rdH f2)&&disj (rdH f1) ((wrH f2).map (·.1))
def backB (ops:List Oper):Bool:=ops.zipIdx.all fun x=>x.1.after.toList.all fun y=>!Region.binds .any y||Nat.blt y.on x.2
def indB (ops:List Oper) (rs:List (Option Eff)):Bool:=
 let ms:=masks ops []
 let l:=(ops.zip rs.reverse).zipIdx
 backB ops&&l.all fun x=>l.all fun y=>!Nat.blt x.2 y.2||((ms[y.2]?.getD 0).testBit x.2)||apartB ops x.1.1 x.1.2 y.1.1 y.1.2
def apartW (all:List Oper) (o1:Oper) (f1:Option Eff) (o2:Oper) (f2:Option Eff):Bool:=
 disj ((wrE o1 f1).map (·.1)) (slotsOf o2++guardSlot all o2++(wrE o2 f2).map (·.1))&&disj (slotsOf o1++guardSlot all o1) ((wrE o2 f2).map (·.1))&&
 disj ((wrH f1).map (·.1)) (rdH f2)
def inW (i j:Nat):List (Nat×Nat)→Bool
 | []=>false
 |p::r=>(Nat.beq p.1 i&&Nat.beq p.2 j)||inW i j r
def uniqW:List (Nat×Nat)→Bool
 | []=>true
 |p::r=>r.all (fun q=>!Nat.beq q.1 p.1||Nat.beq q.2 p.2)&&uniqW r
def indW (W:List (Nat×Nat)) (ops:List Oper) (rs:List (Option Eff)):Bool:=
 let ms:=masks ops []
 let l:=(ops.zip rs.reverse).zipIdx
 backB ops&&uniqW W&&l.all fun x=>l.all fun y=>!Nat.blt x.2 y.2||((ms[y.2]?.getD 0).testBit x.2)||apartB ops x.1.1 x.1.2 y.1.1 y.1.2||(inW x.2 y.2 W&&apartW ops x.1.1 x.1.2 y.1.1 y.1.2)
def wkB (ops:List Oper) (fs:List (Option Eff)) (i j:Nat) (o:Oper) (f fj:Eff):Bool:=
 Nat.blt i j&&f.hw.isEmpty&&(ops.zip fs).zipIdx.all fun x=>Nat.blt x.2 i||(disj ((wrE x.1.1 x.1.2).map (·.1)) (slotsOf o)&&
  (Nat.beq x.2 j||disj ((wrH x.1.2).map (·.1)) (f.rd.filter fun l=>!(fj.hw.any fun y=>Nat.beq y.1 l))))
def wkAll (ops:List Oper) (fs:List (Option Eff)) (e:Env) (h:Heap):List (Nat×Nat)→Prop
 | []=>True
 |p::r=>(match ops[p.1]?,fs[p.1]?,fs[p.2]? with
  |some o,some (some f),some (some fj)=>wkB ops fs p.1 p.2 o f fj=true∧aop ty call (moved ops) o e (fj.hw.reverse++h) (fun f'=>f'=f)
  |_,_,_=>False)∧wkAll ops fs e h r
def indP (ops:List Oper) (rs:List (Option Eff)) (e:Env) (h:Heap):Prop:=indB ops rs=true∨∃W,indW W ops rs=true∧wkAll ty call ops rs.reverse e h W
variable (lp:Code→(Exit→Env→Heap→Prop)→Env→Heap→Prop)
noncomputable def awp (c:Code):(Exit→Env→Heap→Prop)→Env→Heap→Prop:=
 @Code.rec (fun _=>(Exit→Env→Heap→Prop)→Env→Heap→Prop)
  (fun K e h=>K .normal e h)
  (fun _ ops draw K e h=>match draw with
    |false=>aops ty call ops.toList ops.toList e h fun e h=>K .normal e h
    |true=>aopsR ty call ops.toList ops.toList e h [] fun e h rs=>ANeed (indP ty call ops.toList rs e h) (K .normal e h))
  (fun _ _ iha ihb K e h=>iha (fun x e h=>match x with|.normal=>ihb K e h|x=>K x e h) e h)
  (fun c _ _ iha ihb K e h=>match ev e c with
    |.p (.b g)=>ASplit g (iha K e h) (ihb K e h)
    |_=>AStuck "cond")
  (fun id _ ih K e h=>ih (fun x e h=>match x with
    |.exit i=>match Nat.beq i id with|true=>K .normal e h|false=>K (.exit i) e h
    |x=>K x e h) e h)
  (fun c _ K e h=>lp c K e h)
  (fun _ _ _ _ _ _ _ _ _=>AStuck "rangeFunc")
  (fun id K e h=>K (.exit id) e h)
  (fun _ _ _ _ _=>AStuck "scope")
  (fun _ _ _ _=>AStuck "label")
  (fun _ _ _ _=>AStuck "goto")
  (fun K e h=>K .ret e h)
  (fun _ _ _ _=>AStuck "refuse") c
end
end Go.AM
