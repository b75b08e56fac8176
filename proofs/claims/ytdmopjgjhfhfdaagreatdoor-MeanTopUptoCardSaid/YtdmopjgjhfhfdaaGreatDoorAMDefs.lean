/- Part of a machine over plain values. No conditions. -/
import Derived.Laws.Cells
import Derived.Calls
import Derived.Orders
set_option linter.all false
set_option maxRecDepth 100000
namespace Go.AM
inductive PV where
 |b (x:Bool)
 |i (k:IntKind) (n:Int)
 |s (x:ByteArray)
 |sl (sz:Nat) (xs:List PV)
 |agg (xs:List PV)
 |gm
 |tf
 |bH (s k:Nat)
 |kE (s k n:Nat)
 |bx (cs:List PV)
 |pa (T:Nat) (one:Bool) (sz s k n c:Nat)
 |uY (T:Nat) (x:PV)
 |wU
 |amp (s k:Nat)
 deriving Inhabited
def PV.cells:PV->List PV
 |.agg xs=>xs
 |v=>[v]
inductive AV where
 |top
 |p (v:PV)
 |c (v:Value)
 |cx
 |es (sz:Nat)
 |so (sz:Nat) (xs:List PV)
 |ptr (l off:Nat)
 |vp (cs:List PV)
 |agg (cs:List AV)
 |cI (vs:List AV)
 |ar (l:Nat)
 |ap (l i:Nat)
 |fn (f:Nat) (first caps:List AV)
 |wM (b:Bool)
 deriving Inhabited
mutual
def AV.free:AV->Bool
 |.agg cs=>AV.pJ cs
 |.cI cs=>AV.pJ cs
 |.fn _ a b=>AV.pJ a&&AV.pJ b
 |.so _ _=>false
 |.ptr _ _=>false
 |.ar _=>false
 |.ap _ _=>false
 |_=>true
def AV.pJ:List AV->Bool
 | []=>true
 |v::r=>AV.free v&&AV.pJ r
end
inductive KD where
 |kb
 |ki (k:IntKind)
 |ks
 deriving Inhabited,DecidableEq
inductive bu where
 |cells (cs:List AV)
 |arr (xs:List PV)
 |bJ (b:Nat) (vs:List Value)
 |store (T:Nat) (one:Bool) (sp nx sz:Nat) (M:List (Nat×List PV))
 deriving Inhabited
def bu.dP:bu->Bool
 |.bJ _ _=>false
 |.store _ _ _ _ _ _=>false
 |_=>true
structure TI where
 desc:TypeDesc
 size:Nat
 bytes:Nat
 zero:List Value
 csz:List Nat
 eqs:List KD
 stk:List Nat:=[]
 meth:List (String×Nat):=[]
def dA:TypeDesc->Bool
 |.struct _=>true
 |.array _ _=>true
 |_=>false
abbrev Env:=List (Nat×AV)
abbrev Heap:=List (Nat×bu)
def aL:Env->Nat->AV
 | [],_=>.top
 |(k,v)::r,i=>match Nat.beq k i with|true=>v|false=>aL r i
def aF:Heap->Nat->Option bu
 | [],_=>none
 |(k,v)::r,i=>match Nat.beq k i with|true=>some v|false=>aF r i
def bP:Nat:=1000000000
def fq (h:Heap) (d:Nat):Bool:=match aF h d with|none=>Nat.blt d bP|some _=>false
def u9:PV->Option KD
 |.b _=>some .kb
 |.i k _=>some (.ki k)
 |.s _=>some .ks
 |_=>none
def Mf:TypeDesc->Option KD
 |.bool=>some .kb
 |.int k=>some (.ki k)
 |.string=>some .ks
 |_=>none
def uF:PV->PV->Bool
 |.b a,.b b=>a==b
 |.i _ a,.i _ b=>a==b
 |.s a,.s b=>a==b
 |.bH _ a,.bH _ b=>Nat.beq a b
 |_,_=>false
def kg (k:PV):List (PV×PV)->Option PV
 | []=>none
 |(a,v)::r=>match uF k a with|true=>some v|false=>kg k r
def td (k v:PV):List (PV×PV)->List (PV×PV)
 | []=>[(k,v)]
 |(a,u)::r=>match uF k a with|true=>(k,v)::r|false=>(a,u)::td k v r
def qo (k z:PV) (es:List (PV×PV)):PV×Bool:=match kg k es with|some x=>(x,true)|none=>(z,false)
def nU:Value->AV
 |.bool x=>.p (.b x)
 |.int k n=>.p (.i k n)
 |.string x=>.p (.s x)
 |.slice none 0 0=>.cx
 |.pointer none=>.p .gm
 |.map none=>.c (.map none)
 |.nilFunc=>.c .nilFunc
 |.nilIface=>.c .nilIface
 |_=>.top
def gH:List Value->List AV
 | []=>[]
 |v::r=>nU v::gH r
def uQ:List Value->Bool
 | []=>true
 |v::r=>v.oneCell'&&uQ r
def jS:Value->AV
 |.agg ⟨cs⟩=>match uQ cs with|true=>.agg (gH cs)|false=>.top
 |v=>nU v
def ev (e:Env):Operand->AV
 |.tmp t=>aL e t
 |.const v=>jS v
 |.func f=>.fn f [] []
 |.global _=>.top
def AV.copy:AV->AV
 |.so sz xs=>.p (.sl sz xs)
 |v=>v
def AV.mM (sz:Nat):AV->Option PV
 |.p v=>some v
 |.so sz xs=>some (.sl sz xs)
 |.cx=>some (match sz with|0=>.tf|z+1=>.sl (z+1) [])
 |.es z=>some (.sl z [])
 |.vp cs=>some (.bx cs)
 |_=>none
def mq (g:Bool) (X Y:Prop):Prop:=match g with|true=>X|false=>Y
def Ct (xs:List PV) (i:Int) (K:PV->Prop):Prop:=∃x,0<=i/\xs[i.toNat]?=some x/\K x
def NN (es:List (PV×PV)) (k z:PV) (K:PV->Bool->Prop):Prop:=∃x b,qo k z es=(x,b)/\K x b
def Jm (p:PV×PV):PV:=.agg [p.1,p.2]
def ju (ns:List Int):ByteArray:=ns.foldl (fun r n=>r.push (UInt8.ofNat n.toNat)) ByteArray.empty
def KN (xs:List PV) (K:PV->Prop):Prop:=∃(ns:List Int) (y:PV),xs=ns.map (PV.i .u8)/\y=.s (ju ns)/\K y
def LY (s:ByteArray) (m:Int) (K:PV->Prop):Prop:=∃v,(0<=m/\m<s.size)/\v=.i .u8 ((s[m.toNat]?).getD 0).toNat/\K v
def dF (c:Prop) (K:Prop):Prop:=c/\K
def ah (_why:String):Prop:=False
def AV.force (v:AV) (K:AV->Prop):Prop:=match v with
 |.top=>K .top
 |.p x=>K (.p x)
 |.c x=>K (.c x)
 |.cx=>K .cx
 |.es a=>K (.es a)
 |.so a b=>K (.so a b)
 |.ptr a b=>K (.ptr a b)
 |.vp a=>K (.vp a)
 |.agg a=>K (.agg a)
 |.cI a=>K (.cI a)
 |.ar a=>K (.ar a)
 |.ap a b=>K (.ap a b)
 |.fn f x y=>K (.fn f x y)
 |.wM b=>K (.wM b)
theorem AV.force_eq (v:AV) (K:AV->Prop):v.force K=K v:=by cases v<;>rfl
def headD:List Nat->Nat
 | []=>1
 |a::_=>a
def jm:List AV->List Nat->Option (List PV)
 | [],_=>some []
 |v::r,z=>match v.mM (headD z),jm r z.tail with
  |some x,some l=>some (x::l)
  |_,_=>none
def ld:List AV->List AV
 | []=>[]
 |v::r=>v.copy::ld r
def qH (cs:List AV) (z:List Nat):AV:=match jm cs z with|some l=>.p (.agg l)|none=>.agg (ld cs)
def KX:List AV->Bool
 | []=>false
 |.cx::_=>true
 |_::r=>KX r
def sP (cs:List AV) (z:List Nat):AV:=match KX cs with|true=>.agg (ld cs)|false=>qH cs z
def AV.tE (z:List Nat):AV->Option PV
 |.agg cs=>match jm cs z with|some l=>some (.agg l)|none=>none
 |v=>v.mM (headD z)
def iK:List PV->List AV
 | []=>[]
 |v::r=>.p v::iK r
def AV.cells?:AV->Option (List AV)
 |.p (.agg xs)=>some (iK xs)
 |.agg cs=>some cs
 |.top=>none
 |.cI _=>none
 |v=>some [v]
def AV.lH:AV->Option (List AV)
 |.p (.agg xs)=>some (iK xs)
 |.agg cs=>some cs
 |_=>none
def dx:List Value->List AV
 | []=>[]
 |v::r=>jS v::dx r
def setAt {α:Type}:List α->Nat->List α->Option (List α)
 |l,_,[]=>some l
 | [],_,_::_=>none
 |_::r,0,y::ys=>match setAt r 0 ys with|some l=>some (y::l)|none=>none
 |x::r,n+1,ys=>match setAt r n ys with|some l=>some (x::l)|none=>none
def jy {α:Type}:List α->Nat->Nat->Option (List α)
 |_,_,0=>some []
 | [],_,_+1=>none
 |x::r,0,n+1=>match jy r 0 n with|some l=>some (x::l)|none=>none
 |_::r,o+1,n=>jy r o n
def qx:List Oper->Nat->Bool
 | [],_=>false
 |o::r,d=>match o.op with
  |.assign (.tmp t)=>match Nat.beq t d with|true=>true|false=>qx r d
  |.call { callee:=.builtin .append,args:=⟨.tmp t::_⟩,.. }=>match Nat.beq t d with|true=>true|false=>qx r d
  |.slice _ (.tmp t) _ none none=>match Nat.beq t d with|true=>true|false=>qx r d
  |_=>qx r d
structure eB where
 rd:List Nat
 ew:Env
 hw:Heap
abbrev AK:=eB->Prop
def imax (a b:Int):Int:=if a<b then b else a
def L3 (op:BinOp) (k:IntKind) (a b:Int):Int:=match op with
 |.and=>k.wrap (BitVec.ofInt k.bits a &&& BitVec.ofInt k.bits b).toNat
 |.or=>k.wrap (BitVec.ofInt k.bits a |||BitVec.ofInt k.bits b).toNat
 |.xor=>k.wrap (BitVec.ofInt k.bits a ^^^ BitVec.ofInt k.bits b).toNat
 |.andNot=>k.wrap (BitVec.ofInt k.bits a &&& ~~~ BitVec.ofInt k.bits b).toNat
 |_=>0
def Oa (op:BinOp) (k:IntKind) (a b:Int):Option PV:=
 match op with
 |.and=>some (.i k (L3 .and k a b))
 |.or=>some (.i k (L3 .or k a b))
 |.xor=>some (.i k (L3 .xor k a b))
 |.andNot=>some (.i k (L3 .andNot k a b))
 |.add=>some (.i k (k.wrap (a+b)))
 |.sub=>some (.i k (k.wrap (a-b)))
 |.mul=>some (.i k (k.wrap (a*b)))
 |.eql=>some (.b (a==b))
 |.neq=>some (.b (a != b))
 |.lss=>some (.b (a<b))
 |.leq=>some (.b (a<=b))
 |.gtr=>some (.b (a>b))
 |.geq=>some (.b (a>=b))
 |_=>none
def OJ (op:BinOp) (x y:ByteArray):Option PV:=
 match op with
 |.eql=>some (.b (x.toList==y.toList))
 |.neq=>some (.b (!(x.toList==y.toList)))
 |.lss=>some (.b (Op.bytesLess x.toList y.toList))
 |.leq=>some (.b (Op.bytesLess x.toList y.toList||x.toList==y.toList))
 |.gtr=>some (.b (!(Op.bytesLess x.toList y.toList||x.toList==y.toList)))
 |.geq=>some (.b (!(Op.bytesLess x.toList y.toList)))
 |_=>none
def B5:KD->PV->PV->Option Bool
 |.ki _,.i k a,.i k' b=>match decide (k=k') with|true=>some (a==b)|false=>none
 |.kb,.b a,.b b=>some (a==b)
 |.ks,.s a,.s b=>some (a.toList==b.toList)
 |_,_,_=>none
def iM:List KD->List PV->List PV->Option Bool
 | [],[],[]=>some true
 |k::ks,x::xs,y::ys=>match B5 k x y with
  |some q1=>match iM ks xs ys with|some q=>some (q1&&q)|none=>none
  |none=>none
 |_,_,_=>none
section
variable (ty:Nat->Option TI) (call:Nat->List AV->Heap->(List Nat->Heap->AV->Prop)->Prop)
def GL (t:Nat):Nat:=match ty t with
 |some i=>match i.desc with
  |.slice el=>match ty el with|some j=>j.size|none=>0
  |_=>0
 |none=>0
def A2 (t:Nat) (cs:List AV):AV:=match ty t with
 |some i=>match jm cs i.csz with|some l=>.p (.agg l)|none=>.agg cs
 |none=>.agg cs
def N6 (t:Nat):Bool:=match ty t with
 |some i=>i.stk.contains 9999
 |none=>false
def gO (e:Env):List Operand->List Nat->List AV
 | [],_=>[]
 |x::r,ts=>(match ev e x with
  |.cx=>match N6 ty (headD ts) with|true=>.cx|false=>.p (.sl (GL ty (headD ts)) [])
  |.es sz=>.p (.sl sz [])
  |.so sz xs=>.p (.sl sz xs)
  |.agg cs=>A2 ty (headD ts) cs
  |v=>v)::gO e r ts.tail
def Hs (e:Env):List Operand->List AV
 | []=>[]
 |x::r=>(ev e x).copy::Hs e r
def ret (o:Oper) (v:AV) (K:AK):Prop:=match o.dst with
 |some d=>v.force fun v=>K ⟨[],[(d,v)],[]⟩
 |none=>K ⟨[],[],[]⟩
def Ao (o:Oper) (rd:List Nat) (hw:Heap) (v:AV) (K:AK):Prop:=match o.dst with
 |some d=>v.force fun v=>K ⟨rd,[(d,v)],hw⟩
 |none=>K ⟨rd,[],hw⟩
def pL (o:Oper) (l:Nat) (v:AV) (K:AK):Prop:=match o.dst with
 |some d=>v.force fun v=>K ⟨[l],[(d,v)],[]⟩
 |none=>K ⟨[l],[],[]⟩
def A1 (o:Oper) (e:Env) (t:Nat) (mv:Nat->Bool) (K:AK):Prop:=
 match aL e t with
 |.so sz xs=>match o.dst with
  |some d=>match mv d with
   |true=>K ⟨[],[(d,.so sz xs),(t,.p (.sl sz xs))],[]⟩
   |false=>K ⟨[],[(d,.p (.sl sz xs))],[]⟩
  |none=>ah "move"
 |v=>ret o v K
def Dz (o:Oper) (h:Heap) (t:Nat) (a:AV) (mv:Nat->Bool) (K:AK):Prop:=
 match ty t with
 |some i=>match a with
  |.ptr l off=>match aF h l with
   |some (.cells cs)=>match dA i.desc with
    |true=>match jy cs off i.size with
     |some l1=>pL o l (qH l1 i.csz) K
     |none=>ah "load"
    |false=>match cs[off]? with
     |some (.so sz xs)=>match o.dst with
      |some d=>match mv d with
       |true=>match setAt cs off [.p (.sl sz xs)] with
        |some cs'=>K ⟨[l],[(d,.so sz xs)],[(l,.cells cs')]⟩
        |none=>ah "load"
       |false=>K ⟨[l],[(d,.p (.sl sz xs))],[]⟩
      |none=>ah "load"
     |some v=>pL o l v K
     |none=>ah "load"
   |_=>ah "load"
  |.vp cs=>match dA i.desc with
   |true=>match jy cs 0 i.size with
    |some l1=>ret o (.p (.agg l1)) K
    |none=>ah "load"
   |false=>match cs with
    |v::_=>ret o (.p v) K
    | []=>ah "load"
  |.ap l n=>match aF h l with
   |some (.arr xs)=>match dA i.desc with
    |true=>ah "load"
    |false=>Ct xs n fun v=>pL o l (.p v) K
   |_=>ah "load"
  |_=>ah "load"
 |none=>ah "load"
def y7 (e:Env) (h:Heap) (t:Nat) (a:AV) (y:Operand) (K:AK):Prop:=
 match ty t with
 |some i=>match a with
  |.ptr l off=>match aF h l with
   |some (.cells cs)=>match ev e y,y with
    |.so sz xs,.tmp s=>match setAt cs off [.so sz xs] with
     |some cs'=>match Nat.beq i.size 1 with
      |true=>K ⟨[l],[(s,.p (.sl sz xs))],[(l,.cells cs')]⟩
      |false=>ah "store"
     |none=>ah "store"
    |v,_=>match v.cells? with
     |some ys=>match Nat.beq ys.length i.size,setAt cs off ys with
      |true,some cs'=>K ⟨[l],[],[(l,.cells cs')]⟩
      |_,_=>ah "store"
     |none=>ah "store"
   |_=>ah "store"
  |.ap l n=>match aF h l with
   |some (.arr xs)=>match ev e y,Nat.beq i.size 1 with
    |.p (.i k m),true=>dF (n<xs.length) (K ⟨[l],[],[(l,.arr (xs.set n (.i k m)))]⟩)
    |.p (.b m),true=>dF (n<xs.length) (K ⟨[l],[],[(l,.arr (xs.set n (.b m)))]⟩)
    |.p (.s m),true=>dF (n<xs.length) (K ⟨[l],[],[(l,.arr (xs.set n (.s m)))]⟩)
    |_,_=>ah "store"
   |_=>ah "store"
  |_=>ah "store"
 |none=>ah "store"
def gM (t f:Nat):Option Field:=match ty t with
 |some i=>match i.desc with
  |.struct fs=>fs.toList[f]?
  |_=>none
 |none=>none
def place (offs:Nat->Option (Nat×Nat)):List AV->List (Nat×AV)->Option (List AV)
 |cs,[]=>some cs
 |cs,(i,v)::r=>match offs i with
  |some (off,sz)=>match v.cells? with
   |some ys=>match Nat.beq ys.length sz,Nat.beq sz 0,setAt cs off ys with
    |true,false,some cs'=>place offs cs' r
    |_,_,_=>none
   |none=>none
  |none=>none
def gJ (e:Env):List (Nat×Operand)->List (Nat×AV)
 | []=>[]
 |(i,x)::r=>(i,(ev e x).copy)::gJ e r
def zU (o:Oper) (e:Env) (t:Nat) (parts:List (Nat×Operand)) (K:AK):Prop:=
 match ty t with
 |some i=>match i.desc with
  |.struct _=>match place (fun f=>match gM ty t f with|some x=>(match ty x.type with|some j=>some (x.offset,j.size)|none=>none)|none=>none) (dx i.zero) (gJ e parts) with
   |some cs=>ret o (sP cs i.csz) K
   |none=>ah "build"
  |.array _ el=>match ty el with
   |some j=>match place (fun k=>some (k*j.size,j.size)) (dx i.zero) (gJ e parts) with
    |some cs=>ret o (sP cs i.csz) K
    |none=>ah "build"
   |none=>ah "build"
  |_=>ah "build"
 |none=>ah "build"
def iV (sz:Nat) (z:List Nat) (e:Env):Nat->List (Nat×Operand)->Option (List PV)
 |_,[]=>some []
 |n,(i,x)::r=>match Nat.beq i n,(ev e x).tE z with
  |true,some v=>match Nat.beq v.cells.length sz,iV sz z e (n+1) r with
   |true,some l=>some (v::l)
   |_,_=>none
  |_,_=>none
def kq (o:Oper) (e:Env) (h:Heap) (t len:Nat) (parts:List (Nat×Operand)) (K:AK):Prop:=
 match ty t with
 |some i=>match i.desc with
  |.slice el=>match ty el with
   |some j=>match iV j.size j.csz e 0 parts with
    |some xs=>match Nat.beq xs.length len,Nat.ble (len*j.size) 16777216,Nat.beq j.size 0 with
     |true,true,false=>match o.dst with
      |some d=>K ⟨[],[(d,.so j.size xs)],[]⟩
      |none=>K ⟨[],[],[]⟩
     |_,_,_=>ah "buildSlice"
    |none=>ah "buildSlice"
   |none=>ah "buildSlice"
  |_=>ah "buildSlice"
 |none=>ah "buildSlice"
def Pm (o:Oper) (op:UnOp) (x:AV) (K:AK):Prop:=match op,x with
 |.not,.p (.b a)=>ret o (.p (.b (!a))) K
 |.neg,.p (.i k a)=>ret o (.p (.i k (k.wrap (0-a)))) K
 |_,_=>ah "unOp"
def tC (t:Nat):Bool:=match ty t with
 |some i=>match i.desc with|.bool=>true|_=>false
 |none=>false
def gE (t:Nat):Bool:=match ty t with
 |some i=>match i.desc with|.interface _=>true|_=>false
 |none=>false
def eF (t:Nat):Bool:=match ty t with
 |some i=>match i.desc with|.slice _=>true|_=>false
 |none=>false
def G8:AV->Option Bool
 |.cx=>some true
 |.es _=>some false
 |.p (.sl _ (_::_))=>some false
 |.so _ (_::_)=>some false
 |_=>none
def KW (o:Oper) (op:BinOp) (t:Nat) (x y:AV) (K:AK):Prop:=
 match x,y with
 |.p (.i k a),.p (.i k' b)=>match op with
  |.rem=>dF (k=k'/\b≠0) (ret o (.p (.i k (a.tmod b))) K)
  |.quo=>dF (k=k'/\b≠0) (ret o (.p (.i k (k.wrap (a.tdiv b)))) K)
  |op=>match Oa op k a b with
   |some v=>match decide (k=k') with
    |true=>ret o (.p v) K
    |false=>ah "binOp"
   |none=>ah "binOp"
 |.p (.s a),.p (.s b)=>match op with
  |.add=>dF (a.size+b.size<=9223372036854775807) (ret o (.p (.s (a++b))) K)
  |op=>match OJ op a b with
   |some v=>ret o (.p v) K
   |none=>ah "binOp"
 |x,.cx=>match G8 x,eF ty t,op with
  |some b,true,.eql=>ret o (.p (.b b)) K
  |some b,true,.neq=>ret o (.p (.b (!b))) K
  |_,_,_=>ah "binOp nil"
 |.p (.b a),.p (.b b)=>match op,tC ty t with
  |.eql,true=>ret o (.p (.b (a==b))) K
  |.neq,true=>ret o (.p (.b (!(a==b)))) K
  |_,_=>ah "binOp"
 |.p (.agg xs),.p (.agg ys)=>match ty t with
  |some i=>match i.eqs with
   |kd::ks=>match iM (kd::ks) xs ys,op with
    |some q,.eql=>ret o (.p (.b q)) K
    |some q,.neq=>ret o (.p (.b (!q))) K
    |_,_=>ah "binOp agg"
   | []=>ah "binOp agg"
  |none=>ah "binOp agg"
 |_,_=>ah "binOp"
def zb (i:TI):Option PV:=match dA i.desc with
 |true=>match jm (dx i.zero) i.csz with|some l=>some (.agg l)|none=>none
 |false=>match i.zero with
  |v::_=>(jS v).mM (headD i.csz)
  | []=>none
def xJ (ok:Bool) (x:PV) (b:Bool):AV:=match ok with|true=>.cI [.p x,.p (.b b)]|false=>.p x
def sy (o:Oper) (h:Heap) (t:Nat) (a b:AV) (K:AK):Prop:=match ty t,o.dst with
 |some i,some d=>match i.desc with
  |.slice el=>match ty el with
   |some j=>match zb j,a,b,fq h d,dA j.desc,Nat.beq j.bytes 0 with
    |some z,.p (.i _ x),.p (.i _ y),true,false,false=>dF (x=y/\0<=x/\x*j.bytes<=140737488355328) (K ⟨[],[(d,.ar d)],[(d,.arr (List.replicate x.toNat z))]⟩)
    |_,_,_,_,_,_=>ah "makeSlice"
   |none=>ah "makeSlice"
  |_=>ah "makeSlice"
 |_,_=>ah "makeSlice"
def zL (o:Oper) (t:Nat) (x ix:AV) (K:AK):Prop:=match ty t with
 |some i=>match i.desc,x,ix with
  |.string,.p (.s s),.p (.i _ m)=>LY s m fun v=>ret o (.p v) K
  |_,_,_=>ah "index"
 |none=>ah "index"
def lT (o:Oper) (t:Nat) (x ix:AV) (h:Heap) (K:AK):Prop:=
 match ty t with
 |some i=>match i.desc with
  |.slice el=>match ty el with
   |some j=>match x,ix with
    |.p (.sl sz xs),.p (.i _ n)=>match Nat.beq sz j.size with
     |true=>Ct xs n fun v=>ret o (.vp v.cells) K
     |false=>ah "indexAddr"
    |.ar l,.p (.i _ n)=>match aF h l with
     |some (.arr xs)=>match Nat.beq j.size 1 with
      |true=>dF (0<=n/\n.toNat<xs.length) (pL o l (.ap l n.toNat) K)
      |false=>ah "indexAddr"
     |some (.cells cs)=>match Nat.beq j.size 1 with
      |true=>dF (0<=n/\n.toNat<cs.length) (pL o l (.ptr l n.toNat) K)
      |false=>ah "indexAddr"
     |_=>ah "indexAddr"
    |_,_=>ah "indexAddr"
   |none=>ah "indexAddr"
  |.array len el=>match ty el with
   |some j=>match x,ix with
    |.vp cs,.p (.i _ m)=>dF (0<=m/\m<len) (ret o (.vp (cs.drop (m.toNat*j.size))) K)
    |.ptr l off,.p (.i _ m)=>dF (0<=m/\m<len) (ret o (.ptr l (off+m.toNat*j.size)) K)
    |_,_=>ah "indexAddr"
   |none=>ah "indexAddr"
  |_=>ah "indexAddr"
 |none=>ah "indexAddr"
def K9 (o:Oper) (t:Nat) (x:AV) (h:Heap) (K:AK):Prop:=
 match ty t with
 |some i=>match i.desc with
  |.slice _=>match x with
   |.p (.sl _ xs)=>ret o (.p (.i .i64 xs.length)) K
   |.so _ xs=>ret o (.p (.i .i64 xs.length)) K
   |.cx=>ret o (.p (.i .i64 0)) K
   |.es _=>ret o (.p (.i .i64 0)) K
   |.ar l=>match aF h l with
    |some (.arr xs)=>pL o l (.p (.i .i64 xs.length)) K
    |some (.cells cs)=>pL o l (.p (.i .i64 cs.length)) K
    |_=>ah "len"
   |_=>ah "len"
  |.string=>match x with
   |.p (.s x)=>ret o (.p (.i .i64 x.size)) K
   |_=>ah "len"
  |_=>ah "len"
 |none=>ah "len"
def NI (sz:Nat):AV->Option (List PV)
 |.p (.sl sz' ys)=>match Nat.beq sz sz' with|true=>some ys|false=>none
 |.so sz' ys=>match Nat.beq sz sz' with|true=>some ys|false=>none
 |.cx=>some []
 |.es _=>some []
 |_=>none
def tB (o:Oper) (e:Env) (h:Heap) (t t2:Nat) (x:Operand) (y:AV) (K:AK):Prop:=
 match ty t,eF ty t2 with
 |some i,true=>match i.desc with
  |.slice el=>match ty el with
   |some j=>match Nat.beq (j.size*j.bytes) 0,NI j.size y,o.dst with
    |false,some ys,some d=>match ev e x,x with
     |.cx,_=>dF (ys.length*j.bytes<=140737488355328) (K ⟨[],[(d,.so j.size ys)],[]⟩)
     |.so sz xs,.tmp s=>match Nat.beq sz j.size,Nat.beq s d with
      |true,false=>dF ((xs.length+ys.length)*j.bytes<=140737488355328) (K ⟨[],[(d,.so sz (xs++ys)),(s,.p (.sl sz xs))],[]⟩)
      |_,_=>ah "append"
     |_,_=>ah "append"
    |_,_,_=>ah "append"
   |none=>ah "append"
  |_=>ah "append"
 |_,_=>ah "append"
def fZ (e:Env) (dflt:Int):Option Operand->Option Int
 |none=>some dflt
 |some x=>match ev e x with
  |.p (.i _ n)=>some n
  |_=>none
def sx (o:Oper) (e:Env) (t:Nat) (x:AV) (lo hi:Option Operand) (K:AK):Prop:=
 match ty t with
 |some i=>match i.desc with
  |.slice el=>match ty el,x with
   |some j,.p (.sl sz xs)=>match Nat.beq sz j.size,fZ e 0 lo,fZ e xs.length hi with
    |true,some l,some u=>dF (0<=l/\l<=u/\u<=xs.length) (ret o (.p (.sl sz ((xs.take u.toNat).drop l.toNat))) K)
    |_,_,_=>ah "slice"
   |_,_=>ah "slice"
  |.string=>match x with
   |.p (.s s)=>match fZ e 0 lo,fZ e s.size hi with
    |some l,some u=>dF (0<=l/\l<=u/\u<=s.size) (ret o (.p (.s (s.extract l.toNat u.toNat))) K)
    |_,_=>ah "slice"
   |_=>ah "slice"
  |_=>ah "slice"
 |none=>ah "slice"
def tX (o:Oper) (e:Env) (t s sz:Nat) (xs:List PV) (lo:Option Operand) (K:AK):Prop:=
 match ty t,o.dst with
 |some i,some d=>match i.desc with
  |.slice el=>match ty el with
   |some j=>match Nat.beq sz j.size,Nat.beq s d,fZ e 0 lo with
    |true,false,some l=>dF (0<=l/\l<=xs.length) (K ⟨[],[(d,.so sz (xs.drop l.toNat)),(s,.p (.sl sz xs))],[]⟩)
    |_,_,_=>ah "slice"
   |none=>ah "slice"
  |_=>ah "slice"
 |_,_=>ah "slice"
def BE (o:Oper) (e:Env) (h:Heap) (t l:Nat) (u:Operand) (K:AK):Prop:=
 match ty t with
 |some i=>match i.desc with
  |.slice el=>match ty el,aF h l,ev e u with
   |some j,some (.arr xs),.p (.i _ k)=>match Nat.beq j.size 1 with
    |true=>dF (k=xs.length) (pL o l (.ar l) K)
    |false=>ah "slice"
   |_,_,_=>ah "slice"
  |_=>ah "slice"
 |_=>ah "slice"
def xO (o:Oper) (si i:TI) (v:AV) (K:AK):Prop:=match si.desc,i.desc,v.mM 1 with
 |.slice el,.string,some (.sl sz xs)=>match Nat.beq sz 1,ty el with
  |true,some j=>match j.desc with
   |.int .u8=>KN xs fun y=>ret o (.p y) K
   |_=>ah "convert"
  |_,_=>ah "convert"
 |_,_,_=>ah "convert"
def HW (name:String):List (String×Nat)->Option Nat
 | []=>none
 |(a,f)::r=>match a==name with|true=>some f|false=>HW name r
def Cd (T:Nat) (name:String):Option Nat:=match ty T with
 |some i=>HW name i.meth
 |none=>none
def LZ (mv:Nat->Bool) (o:Oper) (e:Env) (h:Heap) (K:AK):Prop:=
 match o.op with
 |.move (.tmp t)=>A1 o e t mv K
 |.move x=>ret o (ev e x) K
 |.assign (.tmp t)=>A1 o e t (fun _=>true) K
 |.assign x=>ret o (ev e x) K
 |.pick c a b=>match ev e c with
  |.p (.b g)=>mq g (ret o (ev e a).copy K) (ret o (ev e b).copy K)
  |_=>ah "pick"
 |.alloc t=>match ty t,o.dst with
  |some i,some d=>match fq h d with
   |true=>K ⟨[],[(d,.ptr d 0)],[(d,.cells (dx i.zero))]⟩
   |false=>ah "alloc"
  |_,_=>ah "alloc"
 |.box _ x=>match o.dst with
  |some d=>match fq h d with
   |true=>match (ev e x).copy.cells? with
    |some cs=>K ⟨[],[(d,.ptr d 0)],[(d,.cells cs)]⟩
    |none=>ah "box"
   |false=>ah "box"
  |_=>ah "box"
 |.build t ⟨parts⟩=>zU ty o e t parts K
 |.buildSlice t len ⟨parts⟩=>kq ty o e h t len parts K
 |.load t x=>Dz ty o h t (ev e x) mv K
 |.store t x y=>y7 ty e h t (ev e x) y K
 |.nilCheck x=>match ev e x with
  |.ptr l off=>ret o (.ptr l off) K
  |.vp cs=>ret o (.vp cs) K
  |.fn f a b=>ret o (.fn f a b) K
  |_=>ah "nilCheck"
 |.binOp op t x (.const .nilIface) _=>match ev e x with
  |.wM b=>match gE ty t,op with
   |true,.eql=>ret o (.p (.b (!b))) K
   |true,.neq=>ret o (.p (.b b)) K
   |_,_=>ah "binOp iface"
  |_=>ah "binOp iface"
 |.binOp op t x y _=>KW ty o op t (ev e x) (ev e y) K
 |.unOp op _ x=>Pm o op (ev e x) K
 |.convert src dst x=>match ty src,ty dst,ev e x with
  |some _,some i,.p (.i _ n)=>match i.desc with
   |.int k=>ret o (.p (.i k (k.wrap n))) K
   |_=>ah "convert"
  |some _,some i,.p (.s x)=>match i.desc with
   |.string=>ret o (.p (.s x)) K
   |_=>ah "convert"
  |some si,some i,v=>xO ty o si i v K
  |_,_,_=>ah "convert"
 |.makeFunc (.func f) ⟨first⟩ ⟨caps⟩=>ret o (.fn f (Hs e first) (Hs e caps)) K
 |.slice t (.tmp s) lo none none=>match aL e s with
  |.so sz xs=>tX ty o e t s sz xs lo K
  |v=>sx ty o e t v.copy lo none K
 |.slice t (.tmp s) none (some u) none=>match aL e s with
  |.ar l=>BE ty o e h t l u K
  |v=>sx ty o e t v.copy none (some u) K
 |.slice t x lo hi none=>sx ty o e t (ev e x).copy lo hi K
 |.fieldAddr s x f=>match gM ty s f with
  |some fd=>match ty fd.type with
   |some j=>match Nat.beq j.size 0,ev e x with
    |false,.ptr l off=>ret o (.ptr l (off+fd.offset)) K
    |false,.vp cs=>ret o (.vp (cs.drop fd.offset)) K
    |_,_=>ah "fieldAddr"
   |none=>ah "fieldAddr"
  |none=>ah "fieldAddr"
 |.field t x f=>match gM ty t f with
  |some fd=>match ty fd.type with
   |some j=>match (ev e x).lH with
    |some cs=>match dA j.desc with
     |true=>match jy cs fd.offset j.size with
      |some l=>ret o (qH l j.csz) K
      |none=>ah "field"
     |false=>match cs[fd.offset]? with
      |some v=>ret o v.copy K
      |none=>ah "field"
    |none=>ah "field"
   |none=>ah "field"
  |none=>ah "field"
 |.indexAddr t x ix=>lT ty o t (ev e x).copy (ev e ix) h K
 |.extract x n=>match ev e x with
  |.cI vs=>match vs[n]? with
   |some v=>ret o v.copy K
   |none=>ah "extract"
  |_=>ah "extract"
 |.call { callee:=.builtin .len,args:=⟨[x]⟩,argTypes:=⟨t::_⟩ }=>K9 ty o t (ev e x) h K
 |.call { callee:=.builtin .append,args:=⟨[x,y]⟩,argTypes:=⟨[t,t2]⟩ }=>tB ty o e h t t2 x (ev e y) K
 |.call { callee:=.builtin .min,args:=⟨[x,y]⟩,.. }=>match ev e x,ev e y with
  |.p (.i k a),.p (.i k' b)=>match decide (k=k') with
   |true=>ret o (.p (.i k (if b<a then b else a))) K
   |false=>ah "min"
  |_,_=>ah "min"
 |.call { callee:=.builtin .max,args:=⟨[x,y]⟩,.. }=>match ev e x,ev e y with
  |.p (.i k a),.p (.i k' b)=>match decide (k=k') with
   |true=>ret o (.p (.i k (if a<b then b else a))) K
   |false=>ah "max"
  |_,_=>ah "max"
 |.call { callee:=.builtin .max,args:=⟨[x,y,z]⟩,.. }=>match ev e x,ev e y,ev e z with
  |.p (.i k a),.p (.i k' b),.p (.i k2 c)=>match decide (k=k'),decide (k=k2) with
   |true,true=>ret o (.p (.i k (imax (imax a b) c))) K
   |_,_=>ah "max"
  |_,_,_=>ah "max"
 |.call { callee:=.value x,args:=⟨as⟩,argTypes:=⟨ts⟩ }=>match ev e x with
  |.fn f first caps=>call f (first++gO ty e as ts++caps) h fun rd hw r=>Ao o rd hw r K
  |_=>ah "call"
 |.call { callee:=.invoke x name,args:=⟨as⟩,argTypes:=⟨ts⟩ }=>match ev e x with
  |.p (.uY T y)=>match Cd ty T name with
   |some f=>call f ([.p y]++gO ty e as ts++[]) h fun rd hw r=>Ao o rd hw r K
   |none=>ah "invoke"
  |_=>ah "invoke"
 |.makeSlice t a b=>sy ty o h t (ev e a) (ev e b) K
 |.index t x ix=>zL ty o t (ev e x) (ev e ix) K
 |_=>ah "op"
def th (k:Nat):List (Nat×List PV)->Option (List PV)
 | []=>none
 |(a,xs)::r=>match Nat.beq a k with|true=>some xs|false=>th k r
def sset (k:Nat) (xs:List PV):List (Nat×List PV)->List (Nat×List PV)
 | []=>[]
 |(a,ys)::r=>match Nat.beq a k with|true=>(a,xs)::r|false=>(a,ys)::sset k xs r
def mX (k:Nat):List (Nat×List PV)->List (Nat×List PV)
 | []=>[]
 |(a,ys)::r=>match Nat.beq a k with|true=>r|false=>(a,ys)::mX k r
def QE (M:List (Nat×List PV)) (k:Nat) (K:List PV->Prop):Prop:=∃xs,th k M=some xs/\K xs
def MJ:Bool->Bool->Bool
 |true,b=>b
 |false,true=>false
 |false,false=>true
def Gz (T:Nat) (one:Bool):Heap->Option Nat
 | []=>none
 |(l,.store T' o _ _ _ _)::r=>match Nat.beq T' T,MJ o one with|true,true=>some l|_,_=>Gz T one r
 |_::r=>Gz T one r
def rE (T:Nat) (one:Bool) (h:Heap) (K:Nat->Nat->Nat->Nat->List (Nat×List PV)->Prop):Prop:=match Gz T one h with
 |some l=>match aF h l with
  |some (.store T' o sp nx sz M)=>match Nat.beq T' T,MJ o one with|true,true=>K l sp nx sz M|_,_=>ah "store"
  |_=>ah "store"
 |none=>ah "store"
def Ml (S:Nat):AV->Option (Nat×Bool×Nat×Nat×Nat×Nat×Nat)
 |.p (.bH s k)=>some (S,true,0,s,k,0,0)
 |.p (.pa T one sz s k n c)=>some (T,one,sz,s,k,n,c)
 |_=>none
def LP (v:PV) (c:Nat) (ys:List PV):Option PV:=match v with
 |.agg cs=>match setAt cs c ys with|some cs'=>some (.agg cs')|none=>none
 |_=>match c,ys with|0,[y]=>some y|_,_=>none
def JD:AV->Bool
 |.p (.bH _ _)=>true
 |.p (.pa _ _ _ _ _ _ _)=>true
 |.p (.bx _)=>true
 |_=>false
def Mh:AV->Bool
 |.p (.kE _ _ _)=>true
 |.p .tf=>true
 |_=>false
def Rd:AV->Bool
 |.p (.bH _ _)=>true
 |.p (.bx _)=>true
 |.p .gm=>true
 |_=>false
def Ke:AV->Bool
 |.p (.amp _ _)=>true
 |_=>false
def Ii (p:PV×PV):PV:=.agg [p.1,p.2,.gm]
def Pw (b:Bool) (p:PV×PV):PV:=match b with|true=>Ii p|false=>Jm p
def O9 (b:Bool) (x:PV):Prop:=match b with|false=>u9 x=some .ks|true=>∃s k,x=.bH s k
def Pn (M:List (Nat×List PV)) (k:Nat) (K:List (PV×PV)->Prop):Prop:=∃es,th k M=some (es.map Jm)/\K es
def EP:AV->Option Bool
 |.p (.uY _ _)=>some false
 |.p .wU=>some true
 |.c .nilIface=>some true
 |_=>none
def Dn (t d:Nat):Bool:=match ty t with
 |some i=>i.stk.contains (1000000+d)
 |none=>false
def EO (o:Oper) (f:Nat->Bool):Bool:=match o.dst with|some d=>f d|none=>false
def L2 (o:Oper) (e:Env):Bool:=match o.op with
 |.load _ x=>JD (ev e x)
 |.store _ x _=>JD (ev e x)
 |.alloc t=>EO o (Dn ty t)
 |.nilCheck x=>JD (ev e x)
 |.fieldAddr _ x _=>JD (ev e x)
 |.indexAddr _ x _=>Mh (ev e x)
 |.slice _ x none (some _) none=>Mh (ev e x)
 |.call { callee:=.builtin .len,args:=⟨[x]⟩,.. }=>Mh (ev e x)
 |.call { callee:=.builtin .append,args:=⟨[x,_]⟩,argTypes:=⟨t::_⟩ }=>match ev e x with
  |.cx=>EO o (Dn ty t)
  |v=>Mh v
 |.binOp _ _ x _ _=>match ev e x with
  |.p (.kE _ _ _)=>true
  |.p .tf=>true
  |v=>Rd v||(EP v).isSome
 |.buildSlice t _ _=>EO o (Dn ty t)
 |.makeInterface _ _=>true
 |.makeMap t none=>EO o (Dn ty t)
 |.lookup _ m _ _=>Ke (ev e m)
 |.mapUpdate _ m _ _=>Ke (ev e m)
 |.insert _ m _ _=>Ke (ev e m)
 |.box t _=>EO o (Dn ty t)
 |_=>false
def Ls (o:Oper) (h:Heap) (t:Nat) (a:AV) (K:AK):Prop:=match ty t with
 |some i=>match a with
  |.p (.bx cs)=>match dA i.desc with
   |true=>match jy cs 0 i.size with
    |some l1=>ret o (.p (.agg l1)) K
    |none=>ah "load"
   |false=>match cs with
    |v::_=>ret o (.p v) K
    | []=>ah "load"
  |a=>match Ml t a with
   |some (T,one,sz0,s,k,m,c)=>rE T one h fun l sp _ sz M=>dF (s=sp/\sz≠0/\(m=0\/sz0=sz)) (QE M k fun xs=>Ct xs m fun v=>match dA i.desc with
    |true=>match jy v.cells c i.size with
     |some l1=>pL o l (.p (.agg l1)) K
     |none=>ah "load"
    |false=>match v.cells[c]? with
     |some y=>pL o l (.p y) K
     |none=>ah "load")
   |none=>ah "load"
 |none=>ah "load"
def F3 (e:Env) (h:Heap) (t:Nat) (a:AV) (y:Operand) (K:AK):Prop:=match ty t with
 |some i=>match Ml t a,(ev e y).tE i.csz with
  |some (T,one,sz0,s,k,m,c),some v=>match Nat.beq v.cells.length i.size,Nat.beq i.size 0 with
   |true,false=>rE T one h fun l sp nx sz M=>dF (s=sp/\sz≠0/\(m=0\/sz0=sz)) (QE M k fun xs=>Ct xs m fun x=>match LP x c v.cells with
    |some x'=>K ⟨[l],[],[(l,.store T one sp nx sz (sset k (xs.set m x') M))]⟩
    |none=>ah "store")
   |_,_=>ah "store"
  |_,_=>ah "store"
 |none=>ah "store"
def Fw (o:Oper) (h:Heap) (t:Nat) (K:AK):Prop:=match ty t,o.dst with
 |some i,some d=>match dA i.desc,jm (dx i.zero) i.csz with
  |true,some zs=>rE t true h fun l sp nx sz M=>match Nat.beq sz i.size,Nat.beq sz 0 with
   |true,false=>K ⟨[l],[(d,.p (.bH sp nx))],[(l,.store t true sp (nx+1) sz ((nx,[.agg zs])::M))]⟩
   |_,_=>ah "alloc"
  |_,_=>ah "alloc"
 |_,_=>ah "alloc"
def On (o:Oper) (a:AV) (K:AK):Prop:=match a with
 |.p x=>match JD (.p x) with|true=>ret o (.p x) K|false=>ah "nilCheck"
 |_=>ah "nilCheck"
def Gu (o:Oper) (s f:Nat) (a:AV) (K:AK):Prop:=match gM ty s f with
 |some fd=>match ty fd.type,ty s with
  |some j,some i=>match Nat.beq j.size 0,a with
   |false,.p (.bx cs)=>ret o (.vp (cs.drop fd.offset)) K
   |false,.p (.bH sp k)=>ret o (.p (.pa s true i.size sp k 0 fd.offset)) K
   |false,.p (.pa T one sz sp k m c)=>ret o (.p (.pa T one sz sp k m (c+fd.offset))) K
   |_,_=>ah "fieldAddr"
  |_,_=>ah "fieldAddr"
 |none=>ah "fieldAddr"
def FL (o:Oper) (t:Nat) (x ix:AV) (K:AK):Prop:=match ty t with
 |some i=>match i.desc with
  |.slice el=>match ty el with
   |some j=>match x,ix with
    |.p (.kE s k m),.p (.i _ q)=>dF (0<=q/\q.toNat<m) (ret o (.p (.pa el false j.size s k q.toNat 0)) K)
    |_,_=>ah "indexAddr"
   |none=>ah "indexAddr"
  |_=>ah "indexAddr"
 |none=>ah "indexAddr"
def dLen (o:Oper) (t:Nat) (x:AV) (K:AK):Prop:=match eF ty t,x with
 |true,.p (.kE _ _ m)=>ret o (.p (.i .i64 m)) K
 |true,.p .tf=>ret o (.p (.i .i64 0)) K
 |_,_=>ah "len"
def GS (o:Oper) (e:Env) (t:Nat) (x:AV) (u:Operand) (K:AK):Prop:=match ty t with
 |some i=>match i.desc with
  |.slice el=>match ty el,x,ev e u with
   |some _,.p (.kE s k m),.p (.i _ q)=>dF (0<=q/\q<=m) (ret o (.p (.kE s k q.toNat)) K)
   |_,_,_=>ah "slice"
  |_=>ah "slice"
 |none=>ah "slice"
def BP (o:Oper) (e:Env) (h:Heap) (t t2:Nat) (x y:AV) (K:AK):Prop:=match ty t,eF ty t2 with
 |some i,true=>match i.desc with
  |.slice el=>match ty el with
   |some j=>match Nat.beq (j.size*j.bytes) 0,NI j.size y,o.dst with
    |false,some ys,some d=>rE el false h fun l sp nx sz M=>match Nat.beq sz j.size with
     |true=>match x with
      |.p (.kE s k m)=>dF (s=sp) (QE M k fun xs=>dF (m<=xs.length/\(m+ys.length)*j.bytes<=140737488355328)
        (K ⟨[l],[(d,.p (.kE sp nx (m+ys.length)))],[(l,.store el false sp (nx+1) sz ((nx,xs.take m++ys)::mX k M))]⟩))
      |.p .tf=>dF (0<ys.length/\ys.length*j.bytes<=140737488355328) (K ⟨[l],[(d,.p (.kE sp nx ys.length))],[(l,.store el false sp (nx+1) sz ((nx,ys)::M))]⟩)
      |.cx=>dF (0<ys.length/\ys.length*j.bytes<=140737488355328) (K ⟨[l],[(d,.p (.kE sp nx ys.length))],[(l,.store el false sp (nx+1) sz ((nx,ys)::M))]⟩)
      |_=>ah "append"
     |false=>ah "append"
    |_,_,_=>ah "append"
   |none=>ah "append"
  |_=>ah "append"
 |_,_=>ah "append"
def Fv (o:Oper) (e:Env) (h:Heap) (t len:Nat) (parts:List (Nat×Operand)) (K:AK):Prop:=match ty t with
 |some i=>match i.desc with
  |.slice el=>match ty el with
   |some j=>match iV j.size j.csz e 0 parts,o.dst with
    |some xs,some d=>match Nat.beq xs.length len,Nat.ble (len*j.size) 16777216,Nat.beq j.size 0 with
     |true,true,false=>rE el false h fun l sp nx sz M=>match Nat.beq sz j.size with
      |true=>K ⟨[l],[(d,.p (.kE sp nx len))],[(l,.store el false sp (nx+1) sz ((nx,xs)::M))]⟩
      |false=>ah "buildSlice"
     |_,_,_=>ah "buildSlice"
    |_,_=>ah "buildSlice"
   |none=>ah "buildSlice"
  |_=>ah "buildSlice"
 |none=>ah "buildSlice"
def yX (t:Nat):Bool:=match ty t with
 |some i=>match i.desc with|.pointer _=>true|_=>false
 |none=>false
def ptrEq:AV->AV->Option Bool
 |.p .gm,.c (.pointer none)=>some true
 |.p .gm,.p .gm=>some true
 |.p .gm,.p (.bH _ _)=>some false
 |.p .gm,.p (.bx _)=>some false
 |.p (.bH _ _),.c (.pointer none)=>some false
 |.p (.bH _ _),.p .gm=>some false
 |.p (.bx _),.c (.pointer none)=>some false
 |.p (.bx _),.p .gm=>some false
 |_,_=>none
def Oj (o:Oper) (h:Heap) (op:BinOp) (t:Nat) (x y:AV) (K:AK):Prop:=match x,y with
 |.p (.kE _ _ _),.cx=>match eF ty t,op with
  |true,.eql=>ret o (.p (.b false)) K
  |true,.neq=>ret o (.p (.b true)) K
  |_,_=>ah "binOp"
 |.p .tf,.cx=>match eF ty t,op with
  |true,.eql=>ret o (.p (.b true)) K
  |true,.neq=>ret o (.p (.b false)) K
  |_,_=>ah "binOp"
 |.p (.bH s k),.p (.bH s' k')=>match yX ty t,ty t with
  |true,some i=>match i.desc with
   |.pointer T=>match ty T with
    |some j=>match Nat.beq j.size 0 with
     |false=>rE T true h fun l sp _ sz M=>dF (s=sp/\s'=sp/\sz≠0/\(th k M).isSome=true/\(th k' M).isSome=true) (match op with
      |.eql=>pL o l (.p (.b (Nat.beq k k'))) K
      |.neq=>pL o l (.p (.b (!(Nat.beq k k')))) K
      |_=>ah "binOp")
     |true=>ah "binOp"
    |none=>ah "binOp"
   |_=>ah "binOp"
  |_,_=>ah "binOp"
 |x,y=>match yX ty t,ptrEq x y,op with
  |true,some b,.eql=>ret o (.p (.b b)) K
  |true,some b,.neq=>ret o (.p (.b (!b))) K
  |_,_,_=>ah "binOp"
def Rk (o:Oper) (T:Nat) (x:AV) (K:AK):Prop:=match ty T,x with
 |some i,.p y=>match i.desc with
  |.interface _=>ah "makeInterface"
  |_=>ret o (.p (.uY T y)) K
 |_,_=>ah "makeInterface"
def OL (o:Oper) (op:BinOp) (t:Nat) (x:AV) (K:AK):Prop:=match gE ty t,EP x,op with
 |true,some b,.eql=>ret o (.p (.b b)) K
 |true,some b,.neq=>ret o (.p (.b (!b))) K
 |_,_,_=>ah "binOp iface"
def Oi (o:Oper) (h:Heap) (t:Nat) (x:AV) (K:AK):Prop:=match ty t,o.dst with
 |some i,some d=>match x.tE i.csz with
  |some (.agg zs)=>rE t true h fun l sp nx sz M=>match Nat.beq zs.length sz,Nat.beq sz 0 with
   |true,false=>K ⟨[l],[(d,.p (.bH sp nx))],[(l,.store t true sp (nx+1) sz ((nx,[.agg zs])::M))]⟩
   |_,_=>ah "box"
  |_=>ah "box"
 |_,_=>ah "box"
def BY (sp:Nat) (M:List (Nat×List PV)) (es:List (PV×PV)):Prop:=∀x∈es,∃k,x.1=.bH sp k/\(th k M).isSome=true
def PN (M:List (Nat×List PV)) (q:Nat) (K:List (PV×PV)->Prop):Prop:=∃es,th q M=some (es.map Ii)/\K es
def Ft (o:Oper) (h:Heap) (t T2 s q s2 k2:Nat) (ok:Bool) (z:PV) (K:AK):Prop:=match ty T2 with
 |some j2=>match Nat.beq j2.size 0 with
  |false=>rE t true h fun l sp _ sz M=>rE T2 true h fun l2 sp2 _ sz2 M2=>dF (s=sp/\sz=0/\s2=sp2/\sz2≠0/\(th k2 M2).isSome=true) (PN M q fun es=>dF (BY sp2 M2 es) (NN es (.bH s2 k2) z fun x b=>Ao o [l,l2] [] (xJ ok x b) K))
  |true=>ah "lookup"
 |none=>ah "lookup"
def Lu (h:Heap) (t T2 s q s2 k2:Nat) (v:PV) (K:AK):Prop:=match ty T2 with
 |some j2=>match Nat.beq j2.size 0 with
  |false=>rE t true h fun l sp nx sz M=>rE T2 true h fun l2 sp2 _ sz2 M2=>dF (s=sp/\sz=0/\s2=sp2/\sz2≠0/\(th k2 M2).isSome=true) (PN M q fun es=>dF (BY sp2 M2 es/\kg (.bH s2 k2) es=none) (K ⟨[l,l2],[],[(l,.store t true sp nx sz (sset q ((es++[(PV.bH s2 k2,v)]).map Ii) M))]⟩))
  |true=>ah "mapUpdate"
 |none=>ah "mapUpdate"
def mapKey:TypeDesc->Bool
 |.string=>true
 |.pointer _=>true
 |_=>false
def yS (o:Oper) (h:Heap) (t:Nat) (K:AK):Prop:=match ty t,o.dst with
 |some i,some d=>match i.desc with
  |.map kt _=>match ty kt with
   |some j=>match mapKey j.desc with
    |true=>rE t true h fun l sp nx sz M=>match Nat.beq sz 0 with
     |true=>K ⟨[l],[(d,.p (.amp sp nx))],[(l,.store t true sp (nx+1) sz ((nx,[])::M))]⟩
     |false=>ah "makeMap"
    |false=>ah "makeMap"
   |none=>ah "makeMap"
  |_=>ah "makeMap"
 |_,_=>ah "makeMap"
def CQ (o:Oper) (h:Heap) (t:Nat) (m k:AV) (ok:Bool) (K:AK):Prop:=match ty t with
 |some i=>match i.desc with
  |.map kt et=>match ty kt,ty et with
   |some jk,some je=>match zb je,m,k with
    |some z,.p (.amp s q),.p (.bH s2 k2)=>match jk.desc with
     |.pointer T2=>Ft ty o h t T2 s q s2 k2 ok z K
     |_=>ah "lookup"
    |some z,.p (.amp s q),.p k=>match Mf jk.desc,u9 k with
     |some .ks,some .ks=>rE t true h fun l sp _ sz M=>dF (s=sp/\sz=0) (Pn M q fun es=>NN es k z fun x b=>pL o l (xJ ok x b) K)
     |_,_=>ah "lookup"
    |_,_,_=>ah "lookup"
   |_,_=>ah "lookup"
  |_=>ah "lookup"
 |none=>ah "lookup"
def oB (h:Heap) (t:Nat) (m k v:AV) (K:AK):Prop:=match ty t with
 |some i=>match i.desc with
  |.map kt et=>match ty kt,ty et with
   |some jk,some je=>match m,k,v.tE je.csz with
    |.p (.amp s q),.p (.bH s2 k2),some v=>match jk.desc with
     |.pointer T2=>Lu ty h t T2 s q s2 k2 v K
     |_=>ah "mapUpdate"
    |.p (.amp s q),.p k,some v=>match Mf jk.desc,u9 k with
     |some .ks,some .ks=>rE t true h fun l sp nx sz M=>dF (s=sp/\sz=0) (Pn M q fun es=>K ⟨[l],[],[(l,.store t true sp nx sz (sset q ((td k v es).map Jm) M))]⟩)
     |_,_=>ah "mapUpdate"
    |_,_,_=>ah "mapUpdate"
   |_,_=>ah "mapUpdate"
  |_=>ah "mapUpdate"
 |none=>ah "mapUpdate"
def Oh (o:Oper) (e:Env) (h:Heap) (K:AK):Prop:=match o.op with
 |.load t x=>Ls ty o h t (ev e x) K
 |.store t x y=>F3 ty e h t (ev e x) y K
 |.alloc t=>Fw ty o h t K
 |.nilCheck x=>On o (ev e x) K
 |.fieldAddr s x f=>Gu ty o s f (ev e x) K
 |.indexAddr t x ix=>FL ty o t (ev e x) (ev e ix) K
 |.slice t x none (some u) none=>GS ty o e t (ev e x) u K
 |.call { callee:=.builtin .len,args:=⟨[x]⟩,argTypes:=⟨t::_⟩ }=>dLen ty o t (ev e x) K
 |.call { callee:=.builtin .append,args:=⟨[x,y]⟩,argTypes:=⟨[t,t2]⟩ }=>BP ty o e h t t2 (ev e x) (ev e y) K
 |.buildSlice t len ⟨parts⟩=>Fv ty o e h t len parts K
 |.makeInterface t x=>Rk ty o t (ev e x) K
 |.makeMap t none=>yS ty o h t K
 |.lookup t m k ok=>CQ ty o h t (ev e m) (ev e k) ok K
 |.mapUpdate t m k v=>oB ty h t (ev e m) (ev e k) (ev e v) K
 |.insert t m k v=>oB ty h t (ev e m) (ev e k) (ev e v) K
 |.box t x=>Oi ty o h t (ev e x) K
 |.binOp op t x (.const .nilIface) _=>OL ty o op t (ev e x) K
 |.binOp op t x y _=>Oj ty o h op t (ev e x) (ev e y) K
 |_=>ah "dynamic"
def Nl (mv:Nat->Bool) (o:Oper) (e:Env) (h:Heap) (K:AK):Prop:=match L2 ty o e with
 |true=>Oh ty o e h K
 |false=>LZ ty call mv o e h K
def guardOf (ops:List Oper) (o:Oper) (e:Env) (S:Env->Prop) (X:Env->Prop):Prop:=
 match o.guard with
 |none=>X e
 |some (j,want)=>match ops[j]? with
  |some og=>match og.dst with
   |some d=>match aL e d with
    |.p (.b g)=>mq g (match want with|true=>X ((d,.p (.b true))::e)|false=>S ((d,.p (.b true))::e)) (match want with|true=>S ((d,.p (.b false))::e)|false=>X ((d,.p (.b false))::e))
    |.cI []=>S e
    |_=>ah "guard"
   |none=>ah "guard"
  |none=>ah "guard"
def yR (o:Oper) (e:Env) (K:Env->Prop):Prop:=match o.dst with
 |some d=>K ((d,.cI [])::e)
 |none=>K e
def x8:Env->Env->(Env->Prop)->Prop
 | [],e,K=>K e
 |(d,v)::r,e,K=>x8 r ((d,v)::e) K
def yh:Heap->Heap->(Heap->Prop)->Prop
 | [],e,K=>K e
 |(d,v)::r,e,K=>yh r ((d,v)::e) K
noncomputable def Ae (all:List Oper) (l:List Oper):Env->Heap->(Env->Heap->Prop)->Prop:=
 @List.rec Oper (fun _=>Env->Heap->(Env->Heap->Prop)->Prop)
  (fun e h K=>K e h)
  (fun o _ ih e h K=>guardOf all o e (fun e=>yR o e fun e=>ih e h K) fun e=>
    Nl ty call (qx all) o e h fun f=>x8 f.ew e fun e=>yh f.hw h fun h=>ih e h K) l
noncomputable def zG (all:List Oper) (l:List Oper):Env->Heap->List (Option eB)->(Env->Heap->List (Option eB)->Prop)->Prop:=
 @List.rec Oper (fun _=>Env->Heap->List (Option eB)->(Env->Heap->List (Option eB)->Prop)->Prop)
  (fun e h rs K=>K e h rs)
  (fun o _ ih e h rs K=>guardOf all o e (fun e=>yR o e fun e=>ih e h (none::rs) K) fun e=>
    Nl ty call (qx all) o e h fun f=>x8 f.ew e fun e=>yh f.hw h fun h=>ih e h (some f::rs) K) l
theorem qS (all:List Oper) (o:Oper) (r:List Oper) (e:Env) (h:Heap) (K:Env->Heap->Prop):Ae ty call all (o::r) e h K=
 guardOf all o e (fun e=>yR o e fun e=>Ae ty call all r e h K) fun e=>Nl ty call (qx all) o e h fun f=>x8 f.ew e fun e=>yh f.hw h fun h=>Ae ty call all r e h K:=rfl
theorem sZ (all:List Oper) (o:Oper) (r:List Oper) (e:Env) (h:Heap) (rs:List (Option eB)) (K:Env->Heap->List (Option eB)->Prop):zG ty call all (o::r) e h rs K=
 guardOf all o e (fun e=>yR o e fun e=>zG ty call all r e h (none::rs) K) fun e=>Nl ty call (qx all) o e h fun f=>x8 f.ew e fun e=>yh f.hw h fun h=>zG ty call all r e h (some f::rs) K:=rfl
def slotsOf (o:Oper):List Nat:=o.op.operands.toList.filterMap fun|.tmp t=>some t|_=>none
def iW (all:List Oper) (o:Oper):List Nat:=match o.guard with
 |none=>[]
 |some (j,_)=>match all[j]? with
  |some og=>match og.dst with|some d=>[d]|none=>[]
  |none=>[]
def yj (o:Oper):Option eB->Env
 |some f=>f.ew
 |none=>match o.dst with|some d=>[(d,.cI [])]|none=>[]
def rC:Option eB->Heap
 |some f=>f.hw
 |none=>[]
def Nq:Option eB->List Nat
 |some f=>f.rd++f.hw.map (·.1)
 |none=>[]
def vB (a b:List Nat):Bool:=a.all fun x=>b.all fun y=>!Nat.beq x y
def Oz (acc:List Nat) (o:Oper):Nat:=o.after.toList.foldl (fun s x=>if Region.binds .any x then s |||2 ^ x.on |||(acc[x.on]?.getD 0) else s) 0
def masks:List Oper->List Nat->List Nat
 | [],acc=>acc
 |o::r,acc=>masks r (acc++[Oz acc o])
def vh (all:List Oper) (o1:Oper) (f1:Option eB) (o2:Oper) (f2:Option eB):Bool:=
 vB ((yj o1 f1).map (·.1)) (slotsOf o2++iW all o2++(yj o2 f2).map (·.1))&&vB (slotsOf o1++iW all o1) ((yj o2 f2).map (·.1))&&
 vB ((rC f1).map (·.1)) (Nq f2)&&vB (Nq f1) ((rC f2).map (·.1))
def NH (ops:List Oper):Bool:=ops.zipIdx.all fun x=>x.1.after.toList.all fun y=>!Region.binds .any y||Nat.blt y.on x.2
def JZ (ops:List Oper) (rs:List (Option eB)):Bool:=
 let ms:=masks ops []
 let l:=(ops.zip rs.reverse).zipIdx
 NH ops&&l.all fun x=>l.all fun y=>!Nat.blt x.2 y.2||((ms[y.2]?.getD 0).testBit x.2)||vh ops x.1.1 x.1.2 y.1.1 y.1.2
def lJ (all:List Oper) (o1:Oper) (f1:Option eB) (o2:Oper) (f2:Option eB):Bool:=
 vB ((yj o1 f1).map (·.1)) (slotsOf o2++iW all o2++(yj o2 f2).map (·.1))&&vB (slotsOf o1++iW all o1) ((yj o2 f2).map (·.1))&&
 vB ((rC f1).map (·.1)) (Nq f2)
def QC (i j:Nat):List (Nat×Nat)->Bool
 | []=>false
 |p::r=>(Nat.beq p.1 i&&Nat.beq p.2 j)||QC i j r
def D9:List (Nat×Nat)->Bool
 | []=>true
 |p::r=>r.all (fun q=>!Nat.beq q.1 p.1||Nat.beq q.2 p.2)&&D9 r
def xZ (W:List (Nat×Nat)) (ops:List Oper) (rs:List (Option eB)):Bool:=
 let ms:=masks ops []
 let l:=(ops.zip rs.reverse).zipIdx
 NH ops&&D9 W&&l.all fun x=>l.all fun y=>!Nat.blt x.2 y.2||((ms[y.2]?.getD 0).testBit x.2)||vh ops x.1.1 x.1.2 y.1.1 y.1.2||(QC x.2 y.2 W&&lJ ops x.1.1 x.1.2 y.1.1 y.1.2)
def RH (ops:List Oper) (fs:List (Option eB)) (i j:Nat) (o:Oper) (f fj:eB):Bool:=
 Nat.blt i j&&f.hw.isEmpty&&(ops.zip fs).zipIdx.all fun x=>Nat.blt x.2 i||(vB ((yj x.1.1 x.1.2).map (·.1)) (slotsOf o)&&
  (Nat.beq x.2 j||vB ((rC x.1.2).map (·.1)) (f.rd.filter fun l=>!(fj.hw.any fun y=>Nat.beq y.1 l))))
def Lm (ops:List Oper) (fs:List (Option eB)) (e:Env) (h:Heap):List (Nat×Nat)->Prop
 | []=>True
 |p::r=>(match ops[p.1]?,fs[p.1]?,fs[p.2]? with
  |some o,some (some f),some (some fj)=>RH ops fs p.1 p.2 o f fj=true/\Nl ty call (qx ops) o e (fj.hw.reverse++h) (fun f'=>f'=f)
  |_,_,_=>False)/\Lm ops fs e h r
def P4 (ops:List Oper) (rs:List (Option eB)) (e:Env) (h:Heap):Prop:=JZ ops rs=true\/∃W,xZ W ops rs=true/\Lm ty call ops rs.reverse e h W
variable (lp:Code->(Exit->Env->Heap->Prop)->Env->Heap->Prop)
noncomputable def D7 (c:Code):(Exit->Env->Heap->Prop)->Env->Heap->Prop:=
 @Code.rec (fun _=>(Exit->Env->Heap->Prop)->Env->Heap->Prop)
  (fun K e h=>K .normal e h)
  (fun _ ops draw K e h=>match draw with
    |false=>Ae ty call ops.toList ops.toList e h fun e h=>K .normal e h
    |true=>zG ty call ops.toList ops.toList e h [] fun e h rs=>dF (P4 ty call ops.toList rs e h) (K .normal e h))
  (fun _ _ iha ihb K e h=>iha (fun x e h=>match x with|.normal=>ihb K e h|x=>K x e h) e h)
  (fun c _ _ iha ihb K e h=>match ev e c with
    |.p (.b g)=>mq g (iha K e h) (ihb K e h)
    |_=>ah "cond")
  (fun id _ ih K e h=>ih (fun x e h=>match x with
    |.exit i=>match Nat.beq i id with|true=>K .normal e h|false=>K (.exit i) e h
    |x=>K x e h) e h)
  (fun c _ K e h=>lp c K e h)
  (fun _ _ _ _ _ _ _ _ _=>ah "rangeFunc")
  (fun id K e h=>K (.exit id) e h)
  (fun _ _ _ _ _=>ah "scope")
  (fun _ _ _ _=>ah "label")
  (fun _ _ _ _=>ah "goto")
  (fun K e h=>K .ret e h)
  (fun _ _ _ _=>ah "refuse") c
end
end Go.AM
