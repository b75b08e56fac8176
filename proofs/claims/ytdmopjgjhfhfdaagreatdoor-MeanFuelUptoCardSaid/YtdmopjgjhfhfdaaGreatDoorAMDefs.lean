/- Part of a machine over plain values. No conditions. -/
import Derived.Laws.Cells
import Derived.Calls
import Derived.Orders
set_option linter.all false
namespace Go.AM
inductive PV where
 |b (x:Bool)
 |i (k:IntKind) (n:Int)
 |s (x:ByteArray)
 |sl (sz:Nat) (xs:List PV)
 |agg (xs:List PV)
 |fW
 |sj
 |bH (s k:Nat)
 |jR (s k n:Nat)
 |bx (cs:List PV)
 |pa (T:Nat) (one:Bool) (sz s k n c:Nat)
 |uq (T:Nat) (x:PV)
 |vO
 |amp (s k:Nat)
 deriving Inhabited
def PV.cells:PV→List PV
 |.agg xs=>xs
 |v=>[v]
inductive AV where
 |top
 |p (v:PV)
 |c (v:Value)
 |cu
 |es (sz:Nat)
 |so (sz:Nat) (xs:List PV)
 |ptr (l off:Nat)
 |vp (cs:List PV)
 |agg (cs:List AV)
 |cA (vs:List AV)
 |ar (l:Nat)
 |ap (l i:Nat)
 |fn (f:Nat) (first caps:List AV)
 |v7 (b:Bool)
 deriving Inhabited
mutual
def AV.free:AV→Bool
 |.agg cs=>AV.oq cs
 |.cA cs=>AV.oq cs
 |.fn _ a b=>AV.oq a&&AV.oq b
 |.so _ _=>false
 |.ptr _ _=>false
 |.ar _=>false
 |.ap _ _=>false
 |_=>true
def AV.oq:List AV→Bool
 | []=>true
 |v::r=>AV.free v&&AV.oq r
end
inductive KD where
 |kb
 |ki (k:IntKind)
 |ks
 deriving Inhabited,DecidableEq
inductive br where
 |cells (cs:List AV)
 |arr (xs:List PV)
 |bK (b:Nat) (vs:List Value)
 |store (T:Nat) (one:Bool) (sp nx sz:Nat) (M:List (Nat×List PV))
 deriving Inhabited
def br.dK:br→Bool
 |.bK _ _=>false
 |.store _ _ _ _ _ _=>false
 |_=>true
structure TI where
 desc:TypeDesc
 size:Nat
 bytes:Nat
 zero:List Value
 csz:List Nat
 eqs:List KD
 stk:List Nat:=[]
 meth:List (String×Nat):=[]
def dr:TypeDesc→Bool
 |.struct _=>true
 |.array _ _=>true
 |_=>false
abbrev Env:=List (Nat×AV)
abbrev Heap:=List (Nat×br)
def aL:Env→Nat→AV
 | [],_=>.top
 |(k,v)::r,i=>match Nat.beq k i with|true=>v|false=>aL r i
def aG:Heap→Nat→Option br
 | [],_=>none
 |(k,v)::r,i=>match Nat.beq k i with|true=>some v|false=>aG r i
def bP:Nat:=1000000000
def fh (h:Heap) (d:Nat):Bool:=match aG h d with|none=>Nat.blt d bP|some _=>false
def uu:PV→Option KD
 |.b _=>some .kb
 |.i k _=>some (.ki k)
 |.s _=>some .ks
 |_=>none
def K4:TypeDesc→Option KD
 |.bool=>some .kb
 |.int k=>some (.ki k)
 |.string=>some .ks
 |_=>none
def tc:PV→PV→Bool
 |.b a,.b b=>a==b
 |.i _ a,.i _ b=>a==b
 |.s a,.s b=>a==b
 |.bH _ a,.bH _ b=>Nat.beq a b
 |_,_=>false
def j9 (k:PV):List (PV×PV)→Option PV
 | []=>none
 |(a,v)::r=>match tc k a with|true=>some v|false=>j9 k r
def sr (k v:PV):List (PV×PV)→List (PV×PV)
 | []=>[(k,v)]
 |(a,u)::r=>match tc k a with|true=>(k,v)::r|false=>(a,u)::sr k v r
def pV (k z:PV) (es:List (PV×PV)):PV×Bool:=match j9 k es with|some x=>(x,true)|none=>(z,false)
def mY:Value→AV
 |.bool x=>.p (.b x)
 |.int k n=>.p (.i k n)
 |.string x=>.p (.s x)
 |.slice none 0 0=>.cu
 |.pointer none=>.p .fW
 |.map none=>.c (.map none)
 |.nilFunc=>.c .nilFunc
 |.nilIface=>.c .nilIface
 |_=>.top
def gx:List Value→List AV
 | []=>[]
 |v::r=>mY v::gx r
def um:List Value→Bool
 | []=>true
 |v::r=>v.oneCell'&&um r
def jE:Value→AV
 |.agg ⟨cs⟩=>match um cs with|true=>.agg (gx cs)|false=>.top
 |v=>mY v
def ev (e:Env):Operand→AV
 |.tmp t=>aL e t
 |.const v=>jE v
 |.func f=>.fn f [] []
 |.global _=>.top
def AV.copy:AV→AV
 |.so sz xs=>.p (.sl sz xs)
 |v=>v
def AV.lS (sz:Nat):AV→Option PV
 |.p v=>some v
 |.so sz xs=>some (.sl sz xs)
 |.cu=>some (match sz with|0=>.sj|z+1=>.sl (z+1) [])
 |.es z=>some (.sl z [])
 |.vp cs=>some (.bx cs)
 |_=>none
def kR (g:Bool) (X Y:Prop):Prop:=match g with|true=>X|false=>Y
def Bc (xs:List PV) (i:Int) (K:PV→Prop):Prop:=∃x,0≤i∧xs[i.toNat]?=some x∧K x
def Mj (es:List (PV×PV)) (k z:PV) (K:PV→Bool→Prop):Prop:=∃x b,pV k z es=(x,b)∧K x b
def IM (p:PV×PV):PV:=.agg [p.1,p.2]
def iZ (ns:List Int):ByteArray:=ns.foldl (fun r n=>r.push (UInt8.ofNat n.toNat)) ByteArray.empty
def KJ (xs:List PV) (K:PV→Prop):Prop:=∃(ns:List Int) (y:PV),xs=ns.map (PV.i .u8)∧y=.s (iZ ns)∧K y
def KV (s:ByteArray) (m:Int) (K:PV→Prop):Prop:=∃v,(0≤m∧m<s.size)∧v=.i .u8 ((s[m.toNat]?).getD 0).toNat∧K v
def dz (c:Prop) (K:Prop):Prop:=c∧K
def ai (_why:String):Prop:=False
def AV.force (v:AV) (K:AV→Prop):Prop:=match v with
 |.top=>K .top
 |.p x=>K (.p x)
 |.c x=>K (.c x)
 |.cu=>K .cu
 |.es a=>K (.es a)
 |.so a b=>K (.so a b)
 |.ptr a b=>K (.ptr a b)
 |.vp a=>K (.vp a)
 |.agg a=>K (.agg a)
 |.cA a=>K (.cA a)
 |.ar a=>K (.ar a)
 |.ap a b=>K (.ap a b)
 |.fn f x y=>K (.fn f x y)
 |.v7 b=>K (.v7 b)
theorem AV.force_eq (v:AV) (K:AV→Prop):v.force K=K v:=by cases v<;>rfl
def headD:List Nat→Nat
 | []=>1
 |a::_=>a
def iL:List AV→List Nat→Option (List PV)
 | [],_=>some []
 |v::r,z=>match v.lS (headD z),iL r z.tail with
  |some x,some l=>some (x::l)
  |_,_=>none
def kz:List AV→List AV
 | []=>[]
 |v::r=>v.copy::kz r
def oX (cs:List AV) (z:List Nat):AV:=match iL cs z with|some l=>.p (.agg l)|none=>.agg (kz cs)
def Kt:List AV→Bool
 | []=>false
 |.cu::_=>true
 |_::r=>Kt r
def rB (cs:List AV) (z:List Nat):AV:=match Kt cs with|true=>.agg (kz cs)|false=>oX cs z
def AV.tP (z:List Nat):AV→Option PV
 |.agg cs=>match iL cs z with|some l=>some (.agg l)|none=>none
 |v=>v.lS (headD z)
def gY:List PV→List AV
 | []=>[]
 |v::r=>.p v::gY r
def AV.cells?:AV→Option (List AV)
 |.p (.agg xs)=>some (gY xs)
 |.agg cs=>some cs
 |.top=>none
 |.cA _=>none
 |v=>some [v]
def AV.kN:AV→Option (List AV)
 |.p (.agg xs)=>some (gY xs)
 |.agg cs=>some cs
 |_=>none
def dh:List Value→List AV
 | []=>[]
 |v::r=>jE v::dh r
def setAt {α:Type}:List α→Nat→List α→Option (List α)
 |l,_,[]=>some l
 | [],_,_::_=>none
 |_::r,0,y::ys=>match setAt r 0 ys with|some l=>some (y::l)|none=>none
 |x::r,n+1,ys=>match setAt r n ys with|some l=>some (x::l)|none=>none
def jb {α:Type}:List α→Nat→Nat→Option (List α)
 |_,_,0=>some []
 | [],_,_+1=>none
 |x::r,0,n+1=>match jb r 0 n with|some l=>some (x::l)|none=>none
 |_::r,o+1,n=>jb r o n
def pO:List Oper→Nat→Bool
 | [],_=>false
 |o::r,d=>match o.op with
  |.assign (.tmp t)=>match Nat.beq t d with|true=>true|false=>pO r d
  |.call { callee:=.builtin .append,args:=⟨.tmp t::_⟩,.. }=>match Nat.beq t d with|true=>true|false=>pO r d
  |.slice _ (.tmp t) _ none none=>match Nat.beq t d with|true=>true|false=>pO r d
  |_=>pO r d
structure ei where
 rd:List Nat
 ew:Env
 hw:Heap
abbrev AK:=ei→Prop
def imax (a b:Int):Int:=if a<b then b else a
def Jh (op:BinOp) (k:IntKind) (a b:Int):Int:=match op with
 |.and=>k.wrap (BitVec.ofInt k.bits a &&& BitVec.ofInt k.bits b).toNat
 |.or=>k.wrap (BitVec.ofInt k.bits a |||BitVec.ofInt k.bits b).toNat
 |.xor=>k.wrap (BitVec.ofInt k.bits a ^^^ BitVec.ofInt k.bits b).toNat
 |.andNot=>k.wrap (BitVec.ofInt k.bits a &&& ~~~ BitVec.ofInt k.bits b).toNat
 |_=>0
def NP (op:BinOp) (k:IntKind) (a b:Int):Option PV:=
 match op with
 |.and=>some (.i k (Jh .and k a b))
 |.or=>some (.i k (Jh .or k a b))
 |.xor=>some (.i k (Jh .xor k a b))
 |.andNot=>some (.i k (Jh .andNot k a b))
 |.add=>some (.i k (k.wrap (a+b)))
 |.sub=>some (.i k (k.wrap (a-b)))
 |.mul=>some (.i k (k.wrap (a*b)))
 |.eql=>some (.b (a==b))
 |.neq=>some (.b (a != b))
 |.lss=>some (.b (a<b))
 |.leq=>some (.b (a≤b))
 |.gtr=>some (.b (a>b))
 |.geq=>some (.b (a≥b))
 |_=>none
def M8 (op:BinOp) (x y:ByteArray):Option PV:=
 match op with
 |.eql=>some (.b (x.toList==y.toList))
 |.neq=>some (.b (!(x.toList==y.toList)))
 |.lss=>some (.b (Op.bytesLess x.toList y.toList))
 |.leq=>some (.b (Op.bytesLess x.toList y.toList||x.toList==y.toList))
 |.gtr=>some (.b (!(Op.bytesLess x.toList y.toList||x.toList==y.toList)))
 |.geq=>some (.b (!(Op.bytesLess x.toList y.toList)))
 |_=>none
def BB:KD→PV→PV→Option Bool
 |.ki _,.i k a,.i k' b=>match decide (k=k') with|true=>some (a==b)|false=>none
 |.kb,.b a,.b b=>some (a==b)
 |.ks,.s a,.s b=>some (a.toList==b.toList)
 |_,_,_=>none
def ic:List KD→List PV→List PV→Option Bool
 | [],[],[]=>some true
 |k::ks,x::xs,y::ys=>match BB k x y with
  |some q1=>match ic ks xs ys with|some q=>some (q1&&q)|none=>none
  |none=>none
 |_,_,_=>none
section
variable (ty:Nat→Option TI) (call:Nat→List AV→Heap→(List Nat→Heap→AV→Prop)→Prop)
def FR (t:Nat):Nat:=match ty t with
 |some i=>match i.desc with
  |.slice el=>match ty el with|some j=>j.size|none=>0
  |_=>0
 |none=>0
def Ag (t:Nat) (cs:List AV):AV:=match ty t with
 |some i=>match iL cs i.csz with|some l=>.p (.agg l)|none=>.agg cs
 |none=>.agg cs
def MA (t:Nat):Bool:=match ty t with
 |some i=>i.stk.contains 9999
 |none=>false
def gI (e:Env):List Operand→List Nat→List AV
 | [],_=>[]
 |x::r,ts=>(match ev e x with
  |.cu=>match MA ty (headD ts) with|true=>.cu|false=>.p (.sl (FR ty (headD ts)) [])
  |.es sz=>.p (.sl sz [])
  |.so sz xs=>.p (.sl sz xs)
  |.agg cs=>Ag ty (headD ts) cs
  |v=>v)::gI e r ts.tail
def Gf (e:Env):List Operand→List AV
 | []=>[]
 |x::r=>(ev e x).copy::Gf e r
def ret (o:Oper) (v:AV) (K:AK):Prop:=match o.dst with
 |some d=>v.force fun v=>K ⟨[],[(d,v)],[]⟩
 |none=>K ⟨[],[],[]⟩
def zO (o:Oper) (rd:List Nat) (hw:Heap) (v:AV) (K:AK):Prop:=match o.dst with
 |some d=>v.force fun v=>K ⟨rd,[(d,v)],hw⟩
 |none=>K ⟨rd,[],hw⟩
def oD (o:Oper) (l:Nat) (v:AV) (K:AK):Prop:=match o.dst with
 |some d=>v.force fun v=>K ⟨[l],[(d,v)],[]⟩
 |none=>K ⟨[l],[],[]⟩
def Ab (o:Oper) (e:Env) (t:Nat) (mv:Nat→Bool) (K:AK):Prop:=
 match aL e t with
 |.so sz xs=>match o.dst with
  |some d=>match mv d with
   |true=>K ⟨[],[(d,.so sz xs),(t,.p (.sl sz xs))],[]⟩
   |false=>K ⟨[],[(d,.p (.sl sz xs))],[]⟩
  |none=>ai "move"
 |v=>ret o v K
def CS (o:Oper) (h:Heap) (t:Nat) (a:AV) (mv:Nat→Bool) (K:AK):Prop:=
 match ty t with
 |some i=>match a with
  |.ptr l off=>match aG h l with
   |some (.cells cs)=>match dr i.desc with
    |true=>match jb cs off i.size with
     |some l1=>oD o l (oX l1 i.csz) K
     |none=>ai "load"
    |false=>match cs[off]? with
     |some (.so sz xs)=>match o.dst with
      |some d=>match mv d with
       |true=>match setAt cs off [.p (.sl sz xs)] with
        |some cs'=>K ⟨[l],[(d,.so sz xs)],[(l,.cells cs')]⟩
        |none=>ai "load"
       |false=>K ⟨[l],[(d,.p (.sl sz xs))],[]⟩
      |none=>ai "load"
     |some v=>oD o l v K
     |none=>ai "load"
   |_=>ai "load"
  |.vp cs=>match dr i.desc with
   |true=>match jb cs 0 i.size with
    |some l1=>ret o (.p (.agg l1)) K
    |none=>ai "load"
   |false=>match cs with
    |v::_=>ret o (.p v) K
    | []=>ai "load"
  |.ap l n=>match aG h l with
   |some (.arr xs)=>match dr i.desc with
    |true=>ai "load"
    |false=>Bc xs n fun v=>oD o l (.p v) K
   |_=>ai "load"
  |_=>ai "load"
 |none=>ai "load"
def xP (e:Env) (h:Heap) (t:Nat) (a:AV) (y:Operand) (K:AK):Prop:=
 match ty t with
 |some i=>match a with
  |.ptr l off=>match aG h l with
   |some (.cells cs)=>match ev e y,y with
    |.so sz xs,.tmp s=>match setAt cs off [.so sz xs] with
     |some cs'=>match Nat.beq i.size 1 with
      |true=>K ⟨[l],[(s,.p (.sl sz xs))],[(l,.cells cs')]⟩
      |false=>ai "store"
     |none=>ai "store"
    |v,_=>match v.cells? with
     |some ys=>match Nat.beq ys.length i.size,setAt cs off ys with
      |true,some cs'=>K ⟨[l],[],[(l,.cells cs')]⟩
      |_,_=>ai "store"
     |none=>ai "store"
   |_=>ai "store"
  |.ap l n=>match aG h l with
   |some (.arr xs)=>match ev e y,Nat.beq i.size 1 with
    |.p (.i k m),true=>dz (n<xs.length) (K ⟨[l],[],[(l,.arr (xs.set n (.i k m)))]⟩)
    |.p (.b m),true=>dz (n<xs.length) (K ⟨[l],[],[(l,.arr (xs.set n (.b m)))]⟩)
    |.p (.s m),true=>dz (n<xs.length) (K ⟨[l],[],[(l,.arr (xs.set n (.s m)))]⟩)
    |_,_=>ai "store"
   |_=>ai "store"
  |_=>ai "store"
 |none=>ai "store"
def gE (t f:Nat):Option Field:=match ty t with
 |some i=>match i.desc with
  |.struct fs=>fs.toList[f]?
  |_=>none
 |none=>none
def place (offs:Nat→Option (Nat×Nat)):List AV→List (Nat×AV)→Option (List AV)
 |cs,[]=>some cs
 |cs,(i,v)::r=>match offs i with
  |some (off,sz)=>match v.cells? with
   |some ys=>match Nat.beq ys.length sz,Nat.beq sz 0,setAt cs off ys with
    |true,false,some cs'=>place offs cs' r
    |_,_,_=>none
   |none=>none
  |none=>none
def gD (e:Env):List (Nat×Operand)→List (Nat×AV)
 | []=>[]
 |(i,x)::r=>(i,(ev e x).copy)::gD e r
def yh (o:Oper) (e:Env) (t:Nat) (parts:List (Nat×Operand)) (K:AK):Prop:=
 match ty t with
 |some i=>match i.desc with
  |.struct _=>match place (fun f=>match gE ty t f with|some x=>(match ty x.type with|some j=>some (x.offset,j.size)|none=>none)|none=>none) (dh i.zero) (gD e parts) with
   |some cs=>ret o (rB cs i.csz) K
   |none=>ai "build"
  |.array _ el=>match ty el with
   |some j=>match place (fun k=>some (k*j.size,j.size)) (dh i.zero) (gD e parts) with
    |some cs=>ret o (rB cs i.csz) K
    |none=>ai "build"
   |none=>ai "build"
  |_=>ai "build"
 |none=>ai "build"
def iF (sz:Nat) (z:List Nat) (e:Env):Nat→List (Nat×Operand)→Option (List PV)
 |_,[]=>some []
 |n,(i,x)::r=>match Nat.beq i n,(ev e x).tP z with
  |true,some v=>match Nat.beq v.cells.length sz,iF sz z e (n+1) r with
   |true,some l=>some (v::l)
   |_,_=>none
  |_,_=>none
def jI (o:Oper) (e:Env) (h:Heap) (t len:Nat) (parts:List (Nat×Operand)) (K:AK):Prop:=
 match ty t with
 |some i=>match i.desc with
  |.slice el=>match ty el with
   |some j=>match iF j.size j.csz e 0 parts with
    |some xs=>match Nat.beq xs.length len,Nat.ble (len*j.size) 16777216,Nat.beq j.size 0 with
     |true,true,false=>match o.dst with
      |some d=>K ⟨[],[(d,.so j.size xs)],[]⟩
      |none=>K ⟨[],[],[]⟩
     |_,_,_=>ai "buildSlice"
    |none=>ai "buildSlice"
   |none=>ai "buildSlice"
  |_=>ai "buildSlice"
 |none=>ai "buildSlice"
def On (o:Oper) (op:UnOp) (x:AV) (K:AK):Prop:=match op,x with
 |.not,.p (.b a)=>ret o (.p (.b (!a))) K
 |.neg,.p (.i k a)=>ret o (.p (.i k (k.wrap (0-a)))) K
 |_,_=>ai "unOp"
def sM (t:Nat):Bool:=match ty t with
 |some i=>match i.desc with|.bool=>true|_=>false
 |none=>false
def gi (t:Nat):Bool:=match ty t with
 |some i=>match i.desc with|.interface _=>true|_=>false
 |none=>false
def ez (t:Nat):Bool:=match ty t with
 |some i=>match i.desc with|.slice _=>true|_=>false
 |none=>false
def G9:AV→Option Bool
 |.cu=>some true
 |.es _=>some false
 |.p (.sl _ (_::_))=>some false
 |.so _ (_::_)=>some false
 |_=>none
def I4 (o:Oper) (op:BinOp) (t:Nat) (x y:AV) (K:AK):Prop:=
 match x,y with
 |.p (.i k a),.p (.i k' b)=>match op with
  |.rem=>dz (k=k'∧b≠0) (ret o (.p (.i k (a.tmod b))) K)
  |.quo=>dz (k=k'∧b≠0) (ret o (.p (.i k (k.wrap (a.tdiv b)))) K)
  |op=>match NP op k a b with
   |some v=>match decide (k=k') with
    |true=>ret o (.p v) K
    |false=>ai "binOp"
   |none=>ai "binOp"
 |.p (.s a),.p (.s b)=>match op with
  |.add=>dz (a.size+b.size≤9223372036854775807) (ret o (.p (.s (a++b))) K)
  |op=>match M8 op a b with
   |some v=>ret o (.p v) K
   |none=>ai "binOp"
 |x,.cu=>match G9 x,ez ty t,op with
  |some b,true,.eql=>ret o (.p (.b b)) K
  |some b,true,.neq=>ret o (.p (.b (!b))) K
  |_,_,_=>ai "binOp nil"
 |.p (.b a),.p (.b b)=>match op,sM ty t with
  |.eql,true=>ret o (.p (.b (a==b))) K
  |.neq,true=>ret o (.p (.b (!(a==b)))) K
  |_,_=>ai "binOp"
 |.p (.agg xs),.p (.agg ys)=>match ty t with
  |some i=>match i.eqs with
   |kd::ks=>match ic (kd::ks) xs ys,op with
    |some q,.eql=>ret o (.p (.b q)) K
    |some q,.neq=>ret o (.p (.b (!q))) K
    |_,_=>ai "binOp agg"
   | []=>ai "binOp agg"
  |none=>ai "binOp agg"
 |_,_=>ai "binOp"
def xy (i:TI):Option PV:=match dr i.desc with
 |true=>match iL (dh i.zero) i.csz with|some l=>some (.agg l)|none=>none
 |false=>match i.zero with
  |v::_=>(jE v).lS (headD i.csz)
  | []=>none
def wq (ok:Bool) (x:PV) (b:Bool):AV:=match ok with|true=>.cA [.p x,.p (.b b)]|false=>.p x
def rP (o:Oper) (h:Heap) (t:Nat) (a b:AV) (K:AK):Prop:=match ty t,o.dst with
 |some i,some d=>match i.desc with
  |.slice el=>match ty el with
   |some j=>match xy j,a,b,fh h d,dr j.desc,Nat.beq j.bytes 0 with
    |some z,.p (.i _ x),.p (.i _ y),true,false,false=>dz (x=y∧0≤x∧x*j.bytes≤140737488355328) (K ⟨[],[(d,.ar d)],[(d,.arr (List.replicate x.toNat z))]⟩)
    |_,_,_,_,_,_=>ai "makeSlice"
   |none=>ai "makeSlice"
  |_=>ai "makeSlice"
 |_,_=>ai "makeSlice"
def y7 (o:Oper) (t:Nat) (x ix:AV) (K:AK):Prop:=match ty t with
 |some i=>match i.desc,x,ix with
  |.string,.p (.s s),.p (.i _ m)=>KV s m fun v=>ret o (.p v) K
  |_,_,_=>ai "index"
 |none=>ai "index"
def kX (o:Oper) (t:Nat) (x ix:AV) (h:Heap) (K:AK):Prop:=
 match ty t with
 |some i=>match i.desc with
  |.slice el=>match ty el with
   |some j=>match x,ix with
    |.p (.sl sz xs),.p (.i _ n)=>match Nat.beq sz j.size with
     |true=>Bc xs n fun v=>ret o (.vp v.cells) K
     |false=>ai "indexAddr"
    |.ar l,.p (.i _ n)=>match aG h l with
     |some (.arr xs)=>match Nat.beq j.size 1 with
      |true=>dz (0≤n∧n.toNat<xs.length) (oD o l (.ap l n.toNat) K)
      |false=>ai "indexAddr"
     |some (.cells cs)=>match Nat.beq j.size 1 with
      |true=>dz (0≤n∧n.toNat<cs.length) (oD o l (.ptr l n.toNat) K)
      |false=>ai "indexAddr"
     |_=>ai "indexAddr"
    |_,_=>ai "indexAddr"
   |none=>ai "indexAddr"
  |.array len el=>match ty el with
   |some j=>match x,ix with
    |.vp cs,.p (.i _ m)=>dz (0≤m∧m<len) (ret o (.vp (cs.drop (m.toNat*j.size))) K)
    |.ptr l off,.p (.i _ m)=>dz (0≤m∧m<len) (ret o (.ptr l (off+m.toNat*j.size)) K)
    |_,_=>ai "indexAddr"
   |none=>ai "indexAddr"
  |_=>ai "indexAddr"
 |none=>ai "indexAddr"
def JB (o:Oper) (t:Nat) (x:AV) (h:Heap) (K:AK):Prop:=
 match ty t with
 |some i=>match i.desc with
  |.slice _=>match x with
   |.p (.sl _ xs)=>ret o (.p (.i .i64 xs.length)) K
   |.so _ xs=>ret o (.p (.i .i64 xs.length)) K
   |.cu=>ret o (.p (.i .i64 0)) K
   |.es _=>ret o (.p (.i .i64 0)) K
   |.ar l=>match aG h l with
    |some (.arr xs)=>oD o l (.p (.i .i64 xs.length)) K
    |some (.cells cs)=>oD o l (.p (.i .i64 cs.length)) K
    |_=>ai "len"
   |_=>ai "len"
  |.string=>match x with
   |.p (.s x)=>ret o (.p (.i .i64 x.size)) K
   |_=>ai "len"
  |_=>ai "len"
 |none=>ai "len"
def Mr (sz:Nat):AV→Option (List PV)
 |.p (.sl sz' ys)=>match Nat.beq sz sz' with|true=>some ys|false=>none
 |.so sz' ys=>match Nat.beq sz sz' with|true=>some ys|false=>none
 |.cu=>some []
 |.es _=>some []
 |_=>none
def tU (o:Oper) (e:Env) (h:Heap) (t t2:Nat) (x:Operand) (y:AV) (K:AK):Prop:=
 match ty t,ez ty t2 with
 |some i,true=>match i.desc with
  |.slice el=>match ty el with
   |some j=>match Nat.beq (j.size*j.bytes) 0,Mr j.size y,o.dst with
    |false,some ys,some d=>match ev e x,x with
     |.cu,_=>dz (ys.length*j.bytes≤140737488355328) (K ⟨[],[(d,.so j.size ys)],[]⟩)
     |.so sz xs,.tmp s=>match Nat.beq sz j.size,Nat.beq s d with
      |true,false=>dz ((xs.length+ys.length)*j.bytes≤140737488355328) (K ⟨[],[(d,.so sz (xs++ys)),(s,.p (.sl sz xs))],[]⟩)
      |_,_=>ai "append"
     |_,_=>ai "append"
    |_,_,_=>ai "append"
   |none=>ai "append"
  |_=>ai "append"
 |_,_=>ai "append"
def fU (e:Env) (dflt:Int):Option Operand→Option Int
 |none=>some dflt
 |some x=>match ev e x with
  |.p (.i _ n)=>some n
  |_=>none
def rX (o:Oper) (e:Env) (t:Nat) (x:AV) (lo hi:Option Operand) (K:AK):Prop:=
 match ty t with
 |some i=>match i.desc with
  |.slice el=>match ty el,x with
   |some j,.p (.sl sz xs)=>match Nat.beq sz j.size,fU e 0 lo,fU e xs.length hi with
    |true,some l,some u=>dz (0≤l∧l≤u∧u≤xs.length) (ret o (.p (.sl sz ((xs.take u.toNat).drop l.toNat))) K)
    |_,_,_=>ai "slice"
   |_,_=>ai "slice"
  |.string=>match x with
   |.p (.s s)=>match fU e 0 lo,fU e s.size hi with
    |some l,some u=>dz (0≤l∧l≤u∧u≤s.size) (ret o (.p (.s (s.extract l.toNat u.toNat))) K)
    |_,_=>ai "slice"
   |_=>ai "slice"
  |_=>ai "slice"
 |none=>ai "slice"
def tX (o:Oper) (e:Env) (t s sz:Nat) (xs:List PV) (lo:Option Operand) (K:AK):Prop:=
 match ty t,o.dst with
 |some i,some d=>match i.desc with
  |.slice el=>match ty el with
   |some j=>match Nat.beq sz j.size,Nat.beq s d,fU e 0 lo with
    |true,false,some l=>dz (0≤l∧l≤xs.length) (K ⟨[],[(d,.so sz (xs.drop l.toNat)),(s,.p (.sl sz xs))],[]⟩)
    |_,_,_=>ai "slice"
   |none=>ai "slice"
  |_=>ai "slice"
 |_,_=>ai "slice"
def Bj (o:Oper) (e:Env) (h:Heap) (t l:Nat) (u:Operand) (K:AK):Prop:=
 match ty t with
 |some i=>match i.desc with
  |.slice el=>match ty el,aG h l,ev e u with
   |some j,some (.arr xs),.p (.i _ k)=>match Nat.beq j.size 1 with
    |true=>dz (k=xs.length) (oD o l (.ar l) K)
    |false=>ai "slice"
   |_,_,_=>ai "slice"
  |_=>ai "slice"
 |_=>ai "slice"
def xW (o:Oper) (si i:TI) (v:AV) (K:AK):Prop:=match si.desc,i.desc,v.lS 1 with
 |.slice el,.string,some (.sl sz xs)=>match Nat.beq sz 1,ty el with
  |true,some j=>match j.desc with
   |.int .u8=>KJ xs fun y=>ret o (.p y) K
   |_=>ai "convert"
  |_,_=>ai "convert"
 |_,_,_=>ai "convert"
def Gw (name:String):List (String×Nat)→Option Nat
 | []=>none
 |(a,f)::r=>match a==name with|true=>some f|false=>Gw name r
def Ci (T:Nat) (name:String):Option Nat:=match ty T with
 |some i=>Gw name i.meth
 |none=>none
def JI (mv:Nat→Bool) (o:Oper) (e:Env) (h:Heap) (K:AK):Prop:=
 match o.op with
 |.move (.tmp t)=>Ab o e t mv K
 |.move x=>ret o (ev e x) K
 |.assign (.tmp t)=>Ab o e t (fun _=>true) K
 |.assign x=>ret o (ev e x) K
 |.pick c a b=>match ev e c with
  |.p (.b g)=>kR g (ret o (ev e a).copy K) (ret o (ev e b).copy K)
  |_=>ai "pick"
 |.alloc t=>match ty t,o.dst with
  |some i,some d=>match fh h d with
   |true=>K ⟨[],[(d,.ptr d 0)],[(d,.cells (dh i.zero))]⟩
   |false=>ai "alloc"
  |_,_=>ai "alloc"
 |.box _ x=>match o.dst with
  |some d=>match fh h d with
   |true=>match (ev e x).copy.cells? with
    |some cs=>K ⟨[],[(d,.ptr d 0)],[(d,.cells cs)]⟩
    |none=>ai "box"
   |false=>ai "box"
  |_=>ai "box"
 |.build t ⟨parts⟩=>yh ty o e t parts K
 |.buildSlice t len ⟨parts⟩=>jI ty o e h t len parts K
 |.load t x=>CS ty o h t (ev e x) mv K
 |.store t x y=>xP ty e h t (ev e x) y K
 |.nilCheck x=>match ev e x with
  |.ptr l off=>ret o (.ptr l off) K
  |.vp cs=>ret o (.vp cs) K
  |.fn f a b=>ret o (.fn f a b) K
  |_=>ai "nilCheck"
 |.binOp op t x (.const .nilIface) _=>match ev e x with
  |.v7 b=>match gi ty t,op with
   |true,.eql=>ret o (.p (.b (!b))) K
   |true,.neq=>ret o (.p (.b b)) K
   |_,_=>ai "binOp iface"
  |_=>ai "binOp iface"
 |.binOp op t x y _=>I4 ty o op t (ev e x) (ev e y) K
 |.unOp op _ x=>On o op (ev e x) K
 |.convert src dst x=>match ty src,ty dst,ev e x with
  |some _,some i,.p (.i _ n)=>match i.desc with
   |.int k=>ret o (.p (.i k (k.wrap n))) K
   |_=>ai "convert"
  |some _,some i,.p (.s x)=>match i.desc with
   |.string=>ret o (.p (.s x)) K
   |_=>ai "convert"
  |some si,some i,v=>xW ty o si i v K
  |_,_,_=>ai "convert"
 |.makeFunc (.func f) ⟨first⟩ ⟨caps⟩=>ret o (.fn f (Gf e first) (Gf e caps)) K
 |.slice t (.tmp s) lo none none=>match aL e s with
  |.so sz xs=>tX ty o e t s sz xs lo K
  |v=>rX ty o e t v.copy lo none K
 |.slice t (.tmp s) none (some u) none=>match aL e s with
  |.ar l=>Bj ty o e h t l u K
  |v=>rX ty o e t v.copy none (some u) K
 |.slice t x lo hi none=>rX ty o e t (ev e x).copy lo hi K
 |.fieldAddr s x f=>match gE ty s f with
  |some fd=>match ty fd.type with
   |some j=>match Nat.beq j.size 0,ev e x with
    |false,.ptr l off=>ret o (.ptr l (off+fd.offset)) K
    |false,.vp cs=>ret o (.vp (cs.drop fd.offset)) K
    |_,_=>ai "fieldAddr"
   |none=>ai "fieldAddr"
  |none=>ai "fieldAddr"
 |.field t x f=>match gE ty t f with
  |some fd=>match ty fd.type with
   |some j=>match (ev e x).kN with
    |some cs=>match dr j.desc with
     |true=>match jb cs fd.offset j.size with
      |some l=>ret o (oX l j.csz) K
      |none=>ai "field"
     |false=>match cs[fd.offset]? with
      |some v=>ret o v.copy K
      |none=>ai "field"
    |none=>ai "field"
   |none=>ai "field"
  |none=>ai "field"
 |.indexAddr t x ix=>kX ty o t (ev e x).copy (ev e ix) h K
 |.extract x n=>match ev e x with
  |.cA vs=>match vs[n]? with
   |some v=>ret o v.copy K
   |none=>ai "extract"
  |_=>ai "extract"
 |.call { callee:=.builtin .len,args:=⟨[x]⟩,argTypes:=⟨t::_⟩ }=>JB ty o t (ev e x) h K
 |.call { callee:=.builtin .append,args:=⟨[x,y]⟩,argTypes:=⟨[t,t2]⟩ }=>tU ty o e h t t2 x (ev e y) K
 |.call { callee:=.builtin .min,args:=⟨[x,y]⟩,.. }=>match ev e x,ev e y with
  |.p (.i k a),.p (.i k' b)=>match decide (k=k') with
   |true=>ret o (.p (.i k (if b<a then b else a))) K
   |false=>ai "min"
  |_,_=>ai "min"
 |.call { callee:=.builtin .max,args:=⟨[x,y]⟩,.. }=>match ev e x,ev e y with
  |.p (.i k a),.p (.i k' b)=>match decide (k=k') with
   |true=>ret o (.p (.i k (if a<b then b else a))) K
   |false=>ai "max"
  |_,_=>ai "max"
 |.call { callee:=.builtin .max,args:=⟨[x,y,z]⟩,.. }=>match ev e x,ev e y,ev e z with
  |.p (.i k a),.p (.i k' b),.p (.i k2 c)=>match decide (k=k'),decide (k=k2) with
   |true,true=>ret o (.p (.i k (imax (imax a b) c))) K
   |_,_=>ai "max"
  |_,_,_=>ai "max"
 |.call { callee:=.value x,args:=⟨as⟩,argTypes:=⟨ts⟩ }=>match ev e x with
  |.fn f first caps=>call f (first++gI ty e as ts++caps) h fun rd hw r=>zO o rd hw r K
  |_=>ai "call"
 |.call { callee:=.invoke x name,args:=⟨as⟩,argTypes:=⟨ts⟩ }=>match ev e x with
  |.p (.uq T y)=>match Ci ty T name with
   |some f=>call f ([.p y]++gI ty e as ts++[]) h fun rd hw r=>zO o rd hw r K
   |none=>ai "invoke"
  |_=>ai "invoke"
 |.makeSlice t a b=>rP ty o h t (ev e a) (ev e b) K
 |.index t x ix=>y7 ty o t (ev e x) (ev e ix) K
 |_=>ai "op"
def rD (k:Nat):List (Nat×List PV)→Option (List PV)
 | []=>none
 |(a,xs)::r=>match Nat.beq a k with|true=>some xs|false=>rD k r
def sset (k:Nat) (xs:List PV):List (Nat×List PV)→List (Nat×List PV)
 | []=>[]
 |(a,ys)::r=>match Nat.beq a k with|true=>(a,xs)::r|false=>(a,ys)::sset k xs r
def mH (k:Nat):List (Nat×List PV)→List (Nat×List PV)
 | []=>[]
 |(a,ys)::r=>match Nat.beq a k with|true=>r|false=>(a,ys)::mH k r
def Pg (M:List (Nat×List PV)) (k:Nat) (K:List PV→Prop):Prop:=∃xs,rD k M=some xs∧K xs
def Lg:Bool→Bool→Bool
 |true,b=>b
 |false,true=>false
 |false,false=>true
def ES (T:Nat) (one:Bool):Heap→Option Nat
 | []=>none
 |(l,.store T' o _ _ _ _)::r=>match Nat.beq T' T,Lg o one with|true,true=>some l|_,_=>ES T one r
 |_::r=>ES T one r
def qJ (T:Nat) (one:Bool) (h:Heap) (K:Nat→Nat→Nat→Nat→List (Nat×List PV)→Prop):Prop:=match ES T one h with
 |some l=>match aG h l with
  |some (.store T' o sp nx sz M)=>match Nat.beq T' T,Lg o one with|true,true=>K l sp nx sz M|_,_=>ai "store"
  |_=>ai "store"
 |none=>ai "store"
def LJ (S:Nat):AV→Option (Nat×Bool×Nat×Nat×Nat×Nat×Nat)
 |.p (.bH s k)=>some (S,true,0,s,k,0,0)
 |.p (.pa T one sz s k n c)=>some (T,one,sz,s,k,n,c)
 |_=>none
def KB (v:PV) (c:Nat) (ys:List PV):Option PV:=match v with
 |.agg cs=>match setAt cs c ys with|some cs'=>some (.agg cs')|none=>none
 |_=>match c,ys with|0,[y]=>some y|_,_=>none
def HT:AV→Bool
 |.p (.bH _ _)=>true
 |.p (.pa _ _ _ _ _ _ _)=>true
 |.p (.bx _)=>true
 |_=>false
def L6:AV→Bool
 |.p (.jR _ _ _)=>true
 |.p .sj=>true
 |_=>false
def P4:AV→Bool
 |.p (.bH _ _)=>true
 |.p (.bx _)=>true
 |.p .fW=>true
 |_=>false
def KX:AV→Bool
 |.p (.amp _ _)=>true
 |_=>false
def Ho (p:PV×PV):PV:=.agg [p.1,p.2,.fW]
def Of (b:Bool) (p:PV×PV):PV:=match b with|true=>Ho p|false=>IM p
def MU (b:Bool) (x:PV):Prop:=match b with|false=>uu x=some .ks|true=>∃s k,x=.bH s k
def N4 (M:List (Nat×List PV)) (k:Nat) (K:List (PV×PV)→Prop):Prop:=∃es,rD k M=some (es.map IM)∧K es
def CY:AV→Option Bool
 |.p (.uq _ _)=>some false
 |.p .vO=>some true
 |.c .nilIface=>some true
 |_=>none
def CK (t d:Nat):Bool:=match ty t with
 |some i=>i.stk.contains (1000000+d)
 |none=>false
def DT (o:Oper) (f:Nat→Bool):Bool:=match o.dst with|some d=>f d|none=>false
def Jg (o:Oper) (e:Env):Bool:=match o.op with
 |.load _ x=>HT (ev e x)
 |.store _ x _=>HT (ev e x)
 |.alloc t=>DT o (CK ty t)
 |.nilCheck x=>HT (ev e x)
 |.fieldAddr _ x _=>HT (ev e x)
 |.indexAddr _ x _=>L6 (ev e x)
 |.slice _ x none (some _) none=>L6 (ev e x)
 |.call { callee:=.builtin .len,args:=⟨[x]⟩,.. }=>L6 (ev e x)
 |.call { callee:=.builtin .append,args:=⟨[x,_]⟩,argTypes:=⟨t::_⟩ }=>match ev e x with
  |.cu=>DT o (CK ty t)
  |v=>L6 v
 |.binOp _ _ x _ _=>match ev e x with
  |.p (.jR _ _ _)=>true
  |.p .sj=>true
  |v=>P4 v||(CY v).isSome
 |.buildSlice t _ _=>DT o (CK ty t)
 |.makeInterface _ _=>true
 |.makeMap t none=>DT o (CK ty t)
 |.lookup _ m _ _=>KX (ev e m)
 |.mapUpdate _ m _ _=>KX (ev e m)
 |.insert _ m _ _=>KX (ev e m)
 |.box t _=>DT o (CK ty t)
 |_=>false
def KO (o:Oper) (h:Heap) (t:Nat) (a:AV) (K:AK):Prop:=match ty t with
 |some i=>match a with
  |.p (.bx cs)=>match dr i.desc with
   |true=>match jb cs 0 i.size with
    |some l1=>ret o (.p (.agg l1)) K
    |none=>ai "load"
   |false=>match cs with
    |v::_=>ret o (.p v) K
    | []=>ai "load"
  |a=>match LJ t a with
   |some (T,one,sz0,s,k,m,c)=>qJ T one h fun l sp _ sz M=>dz (s=sp∧sz≠0∧(m=0∨sz0=sz)) (Pg M k fun xs=>Bc xs m fun v=>match dr i.desc with
    |true=>match jb v.cells c i.size with
     |some l1=>oD o l (.p (.agg l1)) K
     |none=>ai "load"
    |false=>match v.cells[c]? with
     |some y=>oD o l (.p y) K
     |none=>ai "load")
   |none=>ai "load"
 |none=>ai "load"
def EP (e:Env) (h:Heap) (t:Nat) (a:AV) (y:Operand) (K:AK):Prop:=match ty t with
 |some i=>match LJ t a,(ev e y).tP i.csz with
  |some (T,one,sz0,s,k,m,c),some v=>match Nat.beq v.cells.length i.size,Nat.beq i.size 0 with
   |true,false=>qJ T one h fun l sp nx sz M=>dz (s=sp∧sz≠0∧(m=0∨sz0=sz)) (Pg M k fun xs=>Bc xs m fun x=>match KB x c v.cells with
    |some x'=>K ⟨[l],[],[(l,.store T one sp nx sz (sset k (xs.set m x') M))]⟩
    |none=>ai "store")
   |_,_=>ai "store"
  |_,_=>ai "store"
 |none=>ai "store"
def EH (o:Oper) (h:Heap) (t:Nat) (K:AK):Prop:=match ty t,o.dst with
 |some i,some d=>match dr i.desc,iL (dh i.zero) i.csz with
  |true,some zs=>qJ t true h fun l sp nx sz M=>match Nat.beq sz i.size,Nat.beq sz 0 with
   |true,false=>K ⟨[l],[(d,.p (.bH sp nx))],[(l,.store t true sp (nx+1) sz ((nx,[.agg zs])::M))]⟩
   |_,_=>ai "alloc"
  |_,_=>ai "alloc"
 |_,_=>ai "alloc"
def M6 (o:Oper) (a:AV) (K:AK):Prop:=match a with
 |.p x=>match HT (.p x) with|true=>ret o (.p x) K|false=>ai "nilCheck"
 |_=>ai "nilCheck"
def Fo (o:Oper) (s f:Nat) (a:AV) (K:AK):Prop:=match gE ty s f with
 |some fd=>match ty fd.type,ty s with
  |some j,some i=>match Nat.beq j.size 0,a with
   |false,.p (.bx cs)=>ret o (.vp (cs.drop fd.offset)) K
   |false,.p (.bH sp k)=>ret o (.p (.pa s true i.size sp k 0 fd.offset)) K
   |false,.p (.pa T one sz sp k m c)=>ret o (.p (.pa T one sz sp k m (c+fd.offset))) K
   |_,_=>ai "fieldAddr"
  |_,_=>ai "fieldAddr"
 |none=>ai "fieldAddr"
def Er (o:Oper) (t:Nat) (x ix:AV) (K:AK):Prop:=match ty t with
 |some i=>match i.desc with
  |.slice el=>match ty el with
   |some j=>match x,ix with
    |.p (.jR s k m),.p (.i _ q)=>dz (0≤q∧q.toNat<m) (ret o (.p (.pa el false j.size s k q.toNat 0)) K)
    |_,_=>ai "indexAddr"
   |none=>ai "indexAddr"
  |_=>ai "indexAddr"
 |none=>ai "indexAddr"
def dLen (o:Oper) (t:Nat) (x:AV) (K:AK):Prop:=match ez ty t,x with
 |true,.p (.jR _ _ m)=>ret o (.p (.i .i64 m)) K
 |true,.p .sj=>ret o (.p (.i .i64 0)) K
 |_,_=>ai "len"
def EI (o:Oper) (e:Env) (t:Nat) (x:AV) (u:Operand) (K:AK):Prop:=match ty t with
 |some i=>match i.desc with
  |.slice el=>match ty el,x,ev e u with
   |some _,.p (.jR s k m),.p (.i _ q)=>dz (0≤q∧q≤m) (ret o (.p (.jR s k q.toNat)) K)
   |_,_,_=>ai "slice"
  |_=>ai "slice"
 |none=>ai "slice"
def A9 (o:Oper) (e:Env) (h:Heap) (t t2:Nat) (x y:AV) (K:AK):Prop:=match ty t,ez ty t2 with
 |some i,true=>match i.desc with
  |.slice el=>match ty el with
   |some j=>match Nat.beq (j.size*j.bytes) 0,Mr j.size y,o.dst with
    |false,some ys,some d=>qJ el false h fun l sp nx sz M=>match Nat.beq sz j.size with
     |true=>match x with
      |.p (.jR s k m)=>dz (s=sp) (Pg M k fun xs=>dz (m≤xs.length∧(m+ys.length)*j.bytes≤140737488355328)
        (K ⟨[l],[(d,.p (.jR sp nx (m+ys.length)))],[(l,.store el false sp (nx+1) sz ((nx,xs.take m++ys)::mH k M))]⟩))
      |.p .sj=>dz (0<ys.length∧ys.length*j.bytes≤140737488355328) (K ⟨[l],[(d,.p (.jR sp nx ys.length))],[(l,.store el false sp (nx+1) sz ((nx,ys)::M))]⟩)
      |.cu=>dz (0<ys.length∧ys.length*j.bytes≤140737488355328) (K ⟨[l],[(d,.p (.jR sp nx ys.length))],[(l,.store el false sp (nx+1) sz ((nx,ys)::M))]⟩)
      |_=>ai "append"
     |false=>ai "append"
    |_,_,_=>ai "append"
   |none=>ai "append"
  |_=>ai "append"
 |_,_=>ai "append"
def FX (o:Oper) (e:Env) (h:Heap) (t len:Nat) (parts:List (Nat×Operand)) (K:AK):Prop:=match ty t with
 |some i=>match i.desc with
  |.slice el=>match ty el with
   |some j=>match iF j.size j.csz e 0 parts,o.dst with
    |some xs,some d=>match Nat.beq xs.length len,Nat.ble (len*j.size) 16777216,Nat.beq j.size 0 with
     |true,true,false=>qJ el false h fun l sp nx sz M=>match Nat.beq sz j.size with
      |true=>K ⟨[l],[(d,.p (.jR sp nx len))],[(l,.store el false sp (nx+1) sz ((nx,xs)::M))]⟩
      |false=>ai "buildSlice"
     |_,_,_=>ai "buildSlice"
    |_,_=>ai "buildSlice"
   |none=>ai "buildSlice"
  |_=>ai "buildSlice"
 |none=>ai "buildSlice"
def xY (t:Nat):Bool:=match ty t with
 |some i=>match i.desc with|.pointer _=>true|_=>false
 |none=>false
def ptrEq:AV→AV→Option Bool
 |.p .fW,.c (.pointer none)=>some true
 |.p .fW,.p .fW=>some true
 |.p .fW,.p (.bH _ _)=>some false
 |.p .fW,.p (.bx _)=>some false
 |.p (.bH _ _),.c (.pointer none)=>some false
 |.p (.bH _ _),.p .fW=>some false
 |.p (.bx _),.c (.pointer none)=>some false
 |.p (.bx _),.p .fW=>some false
 |_,_=>none
def Ny (o:Oper) (h:Heap) (op:BinOp) (t:Nat) (x y:AV) (K:AK):Prop:=match x,y with
 |.p (.jR _ _ _),.cu=>match ez ty t,op with
  |true,.eql=>ret o (.p (.b false)) K
  |true,.neq=>ret o (.p (.b true)) K
  |_,_=>ai "binOp"
 |.p .sj,.cu=>match ez ty t,op with
  |true,.eql=>ret o (.p (.b true)) K
  |true,.neq=>ret o (.p (.b false)) K
  |_,_=>ai "binOp"
 |.p (.bH s k),.p (.bH s' k')=>match xY ty t,ty t with
  |true,some i=>match i.desc with
   |.pointer T=>match ty T with
    |some j=>match Nat.beq j.size 0 with
     |false=>qJ T true h fun l sp _ sz M=>dz (s=sp∧s'=sp∧sz≠0∧(rD k M).isSome=true∧(rD k' M).isSome=true) (match op with
      |.eql=>oD o l (.p (.b (Nat.beq k k'))) K
      |.neq=>oD o l (.p (.b (!(Nat.beq k k')))) K
      |_=>ai "binOp")
     |true=>ai "binOp"
    |none=>ai "binOp"
   |_=>ai "binOp"
  |_,_=>ai "binOp"
 |x,y=>match xY ty t,ptrEq x y,op with
  |true,some b,.eql=>ret o (.p (.b b)) K
  |true,some b,.neq=>ret o (.p (.b (!b))) K
  |_,_,_=>ai "binOp"
def PC (o:Oper) (T:Nat) (x:AV) (K:AK):Prop:=match ty T,x with
 |some i,.p y=>match i.desc with
  |.interface _=>ai "makeInterface"
  |_=>ret o (.p (.uq T y)) K
 |_,_=>ai "makeInterface"
def NV (o:Oper) (op:BinOp) (t:Nat) (x:AV) (K:AK):Prop:=match gi ty t,CY x,op with
 |true,some b,.eql=>ret o (.p (.b b)) K
 |true,some b,.neq=>ret o (.p (.b (!b))) K
 |_,_,_=>ai "binOp iface"
def M1 (o:Oper) (h:Heap) (t:Nat) (x:AV) (K:AK):Prop:=match ty t,o.dst with
 |some i,some d=>match x.tP i.csz with
  |some (.agg zs)=>qJ t true h fun l sp nx sz M=>match Nat.beq zs.length sz,Nat.beq sz 0 with
   |true,false=>K ⟨[l],[(d,.p (.bH sp nx))],[(l,.store t true sp (nx+1) sz ((nx,[.agg zs])::M))]⟩
   |_,_=>ai "box"
  |_=>ai "box"
 |_,_=>ai "box"
def BE (sp:Nat) (M:List (Nat×List PV)) (es:List (PV×PV)):Prop:=∀x∈es,∃k,x.1=.bH sp k∧(rD k M).isSome=true
def OG (M:List (Nat×List PV)) (q:Nat) (K:List (PV×PV)→Prop):Prop:=∃es,rD q M=some (es.map Ho)∧K es
def F1 (o:Oper) (h:Heap) (t T2 s q s2 k2:Nat) (ok:Bool) (z:PV) (K:AK):Prop:=match ty T2 with
 |some j2=>match Nat.beq j2.size 0 with
  |false=>qJ t true h fun l sp _ sz M=>qJ T2 true h fun l2 sp2 _ sz2 M2=>dz (s=sp∧sz=0∧s2=sp2∧sz2≠0∧(rD k2 M2).isSome=true) (OG M q fun es=>dz (BE sp2 M2 es) (Mj es (.bH s2 k2) z fun x b=>zO o [l,l2] [] (wq ok x b) K))
  |true=>ai "lookup"
 |none=>ai "lookup"
def JF (h:Heap) (t T2 s q s2 k2:Nat) (v:PV) (K:AK):Prop:=match ty T2 with
 |some j2=>match Nat.beq j2.size 0 with
  |false=>qJ t true h fun l sp nx sz M=>qJ T2 true h fun l2 sp2 _ sz2 M2=>dz (s=sp∧sz=0∧s2=sp2∧sz2≠0∧(rD k2 M2).isSome=true) (OG M q fun es=>dz (BE sp2 M2 es∧j9 (.bH s2 k2) es=none) (K ⟨[l,l2],[],[(l,.store t true sp nx sz (sset q ((es++[(PV.bH s2 k2,v)]).map Ho) M))]⟩))
  |true=>ai "mapUpdate"
 |none=>ai "mapUpdate"
def mapKey:TypeDesc→Bool
 |.string=>true
 |.pointer _=>true
 |_=>false
def yD (o:Oper) (h:Heap) (t:Nat) (K:AK):Prop:=match ty t,o.dst with
 |some i,some d=>match i.desc with
  |.map kt _=>match ty kt with
   |some j=>match mapKey j.desc with
    |true=>qJ t true h fun l sp nx sz M=>match Nat.beq sz 0 with
     |true=>K ⟨[l],[(d,.p (.amp sp nx))],[(l,.store t true sp (nx+1) sz ((nx,[])::M))]⟩
     |false=>ai "makeMap"
    |false=>ai "makeMap"
   |none=>ai "makeMap"
  |_=>ai "makeMap"
 |_,_=>ai "makeMap"
def Bq (o:Oper) (h:Heap) (t:Nat) (m k:AV) (ok:Bool) (K:AK):Prop:=match ty t with
 |some i=>match i.desc with
  |.map kt et=>match ty kt,ty et with
   |some jk,some je=>match xy je,m,k with
    |some z,.p (.amp s q),.p (.bH s2 k2)=>match jk.desc with
     |.pointer T2=>F1 ty o h t T2 s q s2 k2 ok z K
     |_=>ai "lookup"
    |some z,.p (.amp s q),.p k=>match K4 jk.desc,uu k with
     |some .ks,some .ks=>qJ t true h fun l sp _ sz M=>dz (s=sp∧sz=0) (N4 M q fun es=>Mj es k z fun x b=>oD o l (wq ok x b) K)
     |_,_=>ai "lookup"
    |_,_,_=>ai "lookup"
   |_,_=>ai "lookup"
  |_=>ai "lookup"
 |none=>ai "lookup"
def nM (h:Heap) (t:Nat) (m k v:AV) (K:AK):Prop:=match ty t with
 |some i=>match i.desc with
  |.map kt et=>match ty kt,ty et with
   |some jk,some je=>match m,k,v.tP je.csz with
    |.p (.amp s q),.p (.bH s2 k2),some v=>match jk.desc with
     |.pointer T2=>JF ty h t T2 s q s2 k2 v K
     |_=>ai "mapUpdate"
    |.p (.amp s q),.p k,some v=>match K4 jk.desc,uu k with
     |some .ks,some .ks=>qJ t true h fun l sp nx sz M=>dz (s=sp∧sz=0) (N4 M q fun es=>K ⟨[l],[],[(l,.store t true sp nx sz (sset q ((sr k v es).map IM) M))]⟩)
     |_,_=>ai "mapUpdate"
    |_,_,_=>ai "mapUpdate"
   |_,_=>ai "mapUpdate"
  |_=>ai "mapUpdate"
 |none=>ai "mapUpdate"
def No (o:Oper) (e:Env) (h:Heap) (K:AK):Prop:=match o.op with
 |.load t x=>KO ty o h t (ev e x) K
 |.store t x y=>EP ty e h t (ev e x) y K
 |.alloc t=>EH ty o h t K
 |.nilCheck x=>M6 o (ev e x) K
 |.fieldAddr s x f=>Fo ty o s f (ev e x) K
 |.indexAddr t x ix=>Er ty o t (ev e x) (ev e ix) K
 |.slice t x none (some u) none=>EI ty o e t (ev e x) u K
 |.call { callee:=.builtin .len,args:=⟨[x]⟩,argTypes:=⟨t::_⟩ }=>dLen ty o t (ev e x) K
 |.call { callee:=.builtin .append,args:=⟨[x,y]⟩,argTypes:=⟨[t,t2]⟩ }=>A9 ty o e h t t2 (ev e x) (ev e y) K
 |.buildSlice t len ⟨parts⟩=>FX ty o e h t len parts K
 |.makeInterface t x=>PC ty o t (ev e x) K
 |.makeMap t none=>yD ty o h t K
 |.lookup t m k ok=>Bq ty o h t (ev e m) (ev e k) ok K
 |.mapUpdate t m k v=>nM ty h t (ev e m) (ev e k) (ev e v) K
 |.insert t m k v=>nM ty h t (ev e m) (ev e k) (ev e v) K
 |.box t x=>M1 ty o h t (ev e x) K
 |.binOp op t x (.const .nilIface) _=>NV ty o op t (ev e x) K
 |.binOp op t x y _=>Ny ty o h op t (ev e x) (ev e y) K
 |_=>ai "dynamic"
def LM (mv:Nat→Bool) (o:Oper) (e:Env) (h:Heap) (K:AK):Prop:=match Jg ty o e with
 |true=>No ty o e h K
 |false=>JI ty call mv o e h K
def guardOf (ops:List Oper) (o:Oper) (e:Env) (S:Env→Prop) (X:Env→Prop):Prop:=
 match o.guard with
 |none=>X e
 |some (j,want)=>match ops[j]? with
  |some og=>match og.dst with
   |some d=>match aL e d with
    |.p (.b g)=>kR g (match want with|true=>X ((d,.p (.b true))::e)|false=>S ((d,.p (.b true))::e)) (match want with|true=>S ((d,.p (.b false))::e)|false=>X ((d,.p (.b false))::e))
    |.cA []=>S e
    |_=>ai "guard"
   |none=>ai "guard"
  |none=>ai "guard"
def xB (o:Oper) (e:Env) (K:Env→Prop):Prop:=match o.dst with
 |some d=>K ((d,.cA [])::e)
 |none=>K e
def xj:Env→Env→(Env→Prop)→Prop
 | [],e,K=>K e
 |(d,v)::r,e,K=>xj r ((d,v)::e) K
def y9:Heap→Heap→(Heap→Prop)→Prop
 | [],e,K=>K e
 |(d,v)::r,e,K=>y9 r ((d,v)::e) K
noncomputable def zZ (all:List Oper) (l:List Oper):Env→Heap→(Env→Heap→Prop)→Prop:=
 @List.rec Oper (fun _=>Env→Heap→(Env→Heap→Prop)→Prop)
  (fun e h K=>K e h)
  (fun o _ ih e h K=>guardOf all o e (fun e=>xB o e fun e=>ih e h K) fun e=>
    LM ty call (pO all) o e h fun f=>xj f.ew e fun e=>y9 f.hw h fun h=>ih e h K) l
noncomputable def yJ (all:List Oper) (l:List Oper):Env→Heap→List (Option ei)→(Env→Heap→List (Option ei)→Prop)→Prop:=
 @List.rec Oper (fun _=>Env→Heap→List (Option ei)→(Env→Heap→List (Option ei)→Prop)→Prop)
  (fun e h rs K=>K e h rs)
  (fun o _ ih e h rs K=>guardOf all o e (fun e=>xB o e fun e=>ih e h (none::rs) K) fun e=>
    LM ty call (pO all) o e h fun f=>xj f.ew e fun e=>y9 f.hw h fun h=>ih e h (some f::rs) K) l
theorem qf (all:List Oper) (o:Oper) (r:List Oper) (e:Env) (h:Heap) (K:Env→Heap→Prop):zZ ty call all (o::r) e h K=
 guardOf all o e (fun e=>xB o e fun e=>zZ ty call all r e h K) fun e=>LM ty call (pO all) o e h fun f=>xj f.ew e fun e=>y9 f.hw h fun h=>zZ ty call all r e h K:=rfl
theorem rY (all:List Oper) (o:Oper) (r:List Oper) (e:Env) (h:Heap) (rs:List (Option ei)) (K:Env→Heap→List (Option ei)→Prop):yJ ty call all (o::r) e h rs K=
 guardOf all o e (fun e=>xB o e fun e=>yJ ty call all r e h (none::rs) K) fun e=>LM ty call (pO all) o e h fun f=>xj f.ew e fun e=>y9 f.hw h fun h=>yJ ty call all r e h (some f::rs) K:=rfl
def slotsOf (o:Oper):List Nat:=o.op.operands.toList.filterMap fun|.tmp t=>some t|_=>none
def iz (all:List Oper) (o:Oper):List Nat:=match o.guard with
 |none=>[]
 |some (j,_)=>match all[j]? with
  |some og=>match og.dst with|some d=>[d]|none=>[]
  |none=>[]
def x8 (o:Oper):Option ei→Env
 |some f=>f.ew
 |none=>match o.dst with|some d=>[(d,.cA [])]|none=>[]
def qg:Option ei→Heap
 |some f=>f.hw
 |none=>[]
def Ma:Option ei→List Nat
 |some f=>f.rd++f.hw.map (·.1)
 |none=>[]
def uF (a b:List Nat):Bool:=a.all fun x=>b.all fun y=>!Nat.beq x y
def NG (acc:List Nat) (o:Oper):Nat:=o.after.toList.foldl (fun s x=>if Region.binds .any x then s |||2 ^ x.on |||(acc[x.on]?.getD 0) else s) 0
def masks:List Oper→List Nat→List Nat
 | [],acc=>acc
 |o::r,acc=>masks r (acc++[NG acc o])
def uV (all:List Oper) (o1:Oper) (f1:Option ei) (o2:Oper) (f2:Option ei):Bool:=
 uF ((x8 o1 f1).map (·.1)) (slotsOf o2++iz all o2++(x8 o2 f2).map (·.1))&&uF (slotsOf o1++iz all o1) ((x8 o2 f2).map (·.1))&&
 uF ((qg f1).map (·.1)) (Ma f2)&&uF (Ma f1) ((qg f2).map (·.1))
def Mg (ops:List Oper):Bool:=ops.zipIdx.all fun x=>x.1.after.toList.all fun y=>!Region.binds .any y||Nat.blt y.on x.2
def JG (ops:List Oper) (rs:List (Option ei)):Bool:=
 let ms:=masks ops []
 let l:=(ops.zip rs.reverse).zipIdx
 Mg ops&&l.all fun x=>l.all fun y=>!Nat.blt x.2 y.2||((ms[y.2]?.getD 0).testBit x.2)||uV ops x.1.1 x.1.2 y.1.1 y.1.2
def lz (all:List Oper) (o1:Oper) (f1:Option ei) (o2:Oper) (f2:Option ei):Bool:=
 uF ((x8 o1 f1).map (·.1)) (slotsOf o2++iz all o2++(x8 o2 f2).map (·.1))&&uF (slotsOf o1++iz all o1) ((x8 o2 f2).map (·.1))&&
 uF ((qg f1).map (·.1)) (Ma f2)
def Pf (i j:Nat):List (Nat×Nat)→Bool
 | []=>false
 |p::r=>(Nat.beq p.1 i&&Nat.beq p.2 j)||Pf i j r
def CC:List (Nat×Nat)→Bool
 | []=>true
 |p::r=>r.all (fun q=>!Nat.beq q.1 p.1||Nat.beq q.2 p.2)&&CC r
def yo (W:List (Nat×Nat)) (ops:List Oper) (rs:List (Option ei)):Bool:=
 let ms:=masks ops []
 let l:=(ops.zip rs.reverse).zipIdx
 Mg ops&&CC W&&l.all fun x=>l.all fun y=>!Nat.blt x.2 y.2||((ms[y.2]?.getD 0).testBit x.2)||uV ops x.1.1 x.1.2 y.1.1 y.1.2||(Pf x.2 y.2 W&&lz ops x.1.1 x.1.2 y.1.1 y.1.2)
def Qi (ops:List Oper) (fs:List (Option ei)) (i j:Nat) (o:Oper) (f fj:ei):Bool:=
 Nat.blt i j&&f.hw.isEmpty&&(ops.zip fs).zipIdx.all fun x=>Nat.blt x.2 i||(uF ((x8 x.1.1 x.1.2).map (·.1)) (slotsOf o)&&
  (Nat.beq x.2 j||uF ((qg x.1.2).map (·.1)) (f.rd.filter fun l=>!(fj.hw.any fun y=>Nat.beq y.1 l))))
def Jw (ops:List Oper) (fs:List (Option ei)) (e:Env) (h:Heap):List (Nat×Nat)→Prop
 | []=>True
 |p::r=>(match ops[p.1]?,fs[p.1]?,fs[p.2]? with
  |some o,some (some f),some (some fj)=>Qi ops fs p.1 p.2 o f fj=true∧LM ty call (pO ops) o e (fj.hw.reverse++h) (fun f'=>f'=f)
  |_,_,_=>False)∧Jw ops fs e h r
def OO (ops:List Oper) (rs:List (Option ei)) (e:Env) (h:Heap):Prop:=JG ops rs=true∨∃W,yo W ops rs=true∧Jw ty call ops rs.reverse e h W
variable (lp:Code→(Exit→Env→Heap→Prop)→Env→Heap→Prop)
noncomputable def FN (c:Code):(Exit→Env→Heap→Prop)→Env→Heap→Prop:=
 @Code.rec (fun _=>(Exit→Env→Heap→Prop)→Env→Heap→Prop)
  (fun K e h=>K .normal e h)
  (fun _ ops draw K e h=>match draw with
    |false=>zZ ty call ops.toList ops.toList e h fun e h=>K .normal e h
    |true=>yJ ty call ops.toList ops.toList e h [] fun e h rs=>dz (OO ty call ops.toList rs e h) (K .normal e h))
  (fun _ _ iha ihb K e h=>iha (fun x e h=>match x with|.normal=>ihb K e h|x=>K x e h) e h)
  (fun c _ _ iha ihb K e h=>match ev e c with
    |.p (.b g)=>kR g (iha K e h) (ihb K e h)
    |_=>ai "cond")
  (fun id _ ih K e h=>ih (fun x e h=>match x with
    |.exit i=>match Nat.beq i id with|true=>K .normal e h|false=>K (.exit i) e h
    |x=>K x e h) e h)
  (fun c _ K e h=>lp c K e h)
  (fun _ _ _ _ _ _ _ _ _=>ai "rangeFunc")
  (fun id K e h=>K (.exit id) e h)
  (fun _ _ _ _ _=>ai "scope")
  (fun _ _ _ _=>ai "label")
  (fun _ _ _ _=>ai "goto")
  (fun K e h=>K .ret e h)
  (fun _ _ _ _=>ai "refuse") c
end
end Go.AM
