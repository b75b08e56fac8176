/- Part of a machine over plain values. No conditions. -/
import Derived.Test.YtldppkdekklpkaaGreatDoorAMDefs
import Derived.Test.YtldppkdekklpkaaGreatDoorTKD
set_option linter.all false
section
namespace Go.AM
def xret (o:Oper) (v:AV):Option Eff:=match o.dst with
 |some d=>some ⟨[],[(d,v)],[]⟩
 |none=>some ⟨[],[],[]⟩
def xretM (o:Oper) (rd:List Nat) (hw:Heap) (v:AV):Option Eff:=match o.dst with
 |some d=>some ⟨rd,[(d,v)],hw⟩
 |none=>some ⟨rd,[],hw⟩
def xretR (o:Oper) (l:Nat) (v:AV):Option Eff:=match o.dst with
 |some d=>some ⟨[l],[(d,v)],[]⟩
 |none=>some ⟨[l],[],[]⟩
def xidx (xs:List PV) (i:Int):Option PV:=match i with
 |.ofNat n=>xs[n]?
 |.negSucc _=>none
def xstr:ByteArray→Int→Option PV
 |⟨⟨l⟩⟩,.ofNat n=>match l[n]? with
  |some c=>some (.i .u8 c.toNat)
  |none=>none
 |_,_=>none
def beqL:List UInt8→List UInt8→Bool
 | [],[]=>true
 |a::r,b::r'=>match Nat.beq a.toNat b.toNat with
  |true=>beqL r r'
  |false=>false
 |_,_=>false
def ltL:List UInt8→List UInt8→Bool
 | [],[]=>false
 | [],_::_=>true
 |_::_,[]=>false
 |a::r,b::r'=>match Nat.blt a.toNat b.toNat with
  |true=>true
  |false=>match Nat.beq a.toNat b.toNat with
   |true=>ltL r r'
   |false=>false
def xbinS (op:BinOp) (x y:ByteArray):Option PV:=match op,x,y with
 |.eql,⟨⟨a⟩⟩,⟨⟨b⟩⟩=>some (.b (beqL a b))
 |.neq,⟨⟨a⟩⟩,⟨⟨b⟩⟩=>some (.b (!beqL a b))
 |.lss,⟨⟨a⟩⟩,⟨⟨b⟩⟩=>some (.b (ltL a b))
 |.gtr,⟨⟨a⟩⟩,⟨⟨b⟩⟩=>some (.b (!(ltL a b||beqL a b)))
 |_,_,_=>none
def xext (s:ByteArray) (i j:Nat):ByteArray:=match s with
 |⟨⟨l⟩⟩=>⟨⟨(l.drop i).take (j-i)⟩⟩
def u8s:List PV→Option (List Int)
 | []=>some []
 |.i .u8 n::r=>match u8s r with|some l=>some (n::l)|none=>none
 |_::_=>none
def xbytes (xs:List PV):Option PV:=match u8s xs with
 |some ns=>some (.s (bytesS ns))
 |none=>none
def xneed (c:Bool) (X:Option Eff):Option Eff:=match c with|true=>X|false=>none
section
variable (ty:Nat→Option TI) (call:Nat→List AV→Heap→Option (List Nat×Heap×AV))
def xMove (o:Oper) (e:Env) (t:Nat) (mv:Nat→Bool):Option Eff:=
 match eget e t with
 |.so sz xs=>match o.dst with
  |some d=>match mv d with
   |true=>some ⟨[],[(d,.so sz xs),(t,.p (.sl sz xs))],[]⟩
   |false=>some ⟨[],[(d,.p (.sl sz xs))],[]⟩
  |none=>none
 |v=>xret o v
def xLoad (o:Oper) (h:Heap) (t:Nat) (a:AV) (mv:Nat→Bool):Option Eff:=
 match ty t with
 |some i=>match a with
  |.ptr l off=>match hget h l with
   |some (.cells cs)=>match isAggD i.desc with
    |true=>match getAt cs off i.size with
     |some l1=>xretR o l (mkAgg l1 i.csz)
     |none=>none
    |false=>match cs[off]? with
     |some (.so sz xs)=>match o.dst with
      |some d=>match mv d with
       |true=>match setAt cs off [.p (.sl sz xs)] with
        |some cs'=>some ⟨[l],[(d,.so sz xs)],[(l,.cells cs')]⟩
        |none=>none
       |false=>some ⟨[l],[(d,.p (.sl sz xs))],[]⟩
      |none=>none
     |some v=>xretR o l v
     |none=>none
   |_=>none
  |.vp cs=>match isAggD i.desc with
   |true=>match getAt cs 0 i.size with
    |some l1=>xret o (.p (.agg l1))
    |none=>none
   |false=>match cs with
    |v::_=>xret o (.p v)
    | []=>none
  |.ap l n=>match hget h l with
   |some (.arr xs)=>match isAggD i.desc with
    |true=>none
    |false=>(match xidx xs n with|some v=>xretR o l (.p v)|none=>none)
   |_=>none
  |_=>none
 |none=>none
def xStore (e:Env) (h:Heap) (t:Nat) (a:AV) (y:Operand):Option Eff:=
 match ty t with
 |some i=>match a with
  |.ptr l off=>match hget h l with
   |some (.cells cs)=>match ev e y,y with
    |.so sz xs,.tmp s=>match setAt cs off [.so sz xs] with
     |some cs'=>match Nat.beq i.size 1 with
      |true=>some ⟨[l],[(s,.p (.sl sz xs))],[(l,.cells cs')]⟩
      |false=>none
     |none=>none
    |v,_=>match v.cells? with
     |some ys=>match Nat.beq ys.length i.size,setAt cs off ys with
      |true,some cs'=>some ⟨[l],[],[(l,.cells cs')]⟩
      |_,_=>none
     |none=>none
   |_=>none
  |.ap l n=>match hget h l with
   |some (.arr xs)=>match ev e y,Nat.beq i.size 1 with
    |.p (.i k m),true=>xneed (decide (n<xs.length)) (some ⟨[l],[],[(l,.arr (xs.set n (.i k m)))]⟩)
    |.p (.b m),true=>xneed (decide (n<xs.length)) (some ⟨[l],[],[(l,.arr (xs.set n (.b m)))]⟩)
    |.p (.s m),true=>xneed (decide (n<xs.length)) (some ⟨[l],[],[(l,.arr (xs.set n (.s m)))]⟩)
    |_,_=>none
   |_=>none
  |_=>none
 |none=>none
def xBuild (o:Oper) (e:Env) (t:Nat) (parts:List (Nat×Operand)):Option Eff:=
 match ty t with
 |some i=>match i.desc with
  |.struct _=>match place (fun f=>match fieldOf ty t f with|some x=>(match ty x.type with|some j=>some (x.offset,j.size)|none=>none)|none=>none) (constAVs i.zero) (evParts e parts) with
   |some cs=>xret o (mkAggN cs i.csz)
   |none=>none
  |.array _ el=>match ty el with
   |some j=>match place (fun k=>some (k*j.size,j.size)) (constAVs i.zero) (evParts e parts) with
    |some cs=>xret o (mkAggN cs i.csz)
    |none=>none
   |none=>none
  |_=>none
 |none=>none
def xBuildFns (o:Oper) (e:Env) (h:Heap) (j:TI) (len:Nat) (parts:List (Nat×Operand)):Option Eff:=match fnParts e 0 parts,o.dst with
 |some cs,some d=>match Nat.beq cs.length len,Nat.ble 1 len&&Nat.ble len 16777216,Nat.beq j.size 1,freshId h d with
  |true,true,true,true=>some ⟨[],[(d,.ar d)],[(d,.cells cs)]⟩
  |_,_,_,_=>none
 |_,_=>none
def xBuildSlice (o:Oper) (e:Env) (h:Heap) (t len:Nat) (parts:List (Nat×Operand)):Option Eff:=
 match ty t with
 |some i=>match i.desc with
  |.slice el=>match ty el with
   |some j=>match partsPure j.size j.csz e 0 parts with
    |some xs=>match Nat.beq xs.length len,Nat.ble (len*j.size) 16777216,Nat.beq j.size 0 with
     |true,true,false=>match o.dst with
      |some d=>match i.stk.contains d with
       |false=>some ⟨[],[(d,.so j.size xs)],[]⟩
       |true=>none
      |none=>some ⟨[],[],[]⟩
     |_,_,_=>none
    |none=>xBuildFns o e h j len parts
   |none=>none
  |_=>none
 |none=>none
def xUn (o:Oper) (op:UnOp) (x:AV):Option Eff:=match op,x with
 |.not,.p (.b a)=>xret o (.p (.b (!a)))
 |.neg,.p (.i k a)=>xret o (.p (.i k (k.wrap (0-a))))
 |_,_=>none
def xBin (o:Oper) (op:BinOp) (t:Nat) (x y:AV):Option Eff:=
 match x,y with
 |.p (.i k a),.p (.i k' b)=>match op with
  |.rem=>xneed (decide (k=k'∧b≠0)) (xret o (.p (.i k (a.tmod b))))
  |.quo=>xneed (decide (k=k'∧b≠0)) (xret o (.p (.i k (k.wrap (a.tdiv b)))))
  |op=>match binI op k a b with
   |some v=>match decide (k=k') with
    |true=>xret o (.p v)
    |false=>none
   |none=>none
 |.p (.s a),.p (.s b)=>match op with
  |.add=>xneed (decide (a.size+b.size≤9223372036854775807)) (xret o (.p (.s (a++b))))
  |op=>match xbinS op a b with
   |some v=>xret o (.p v)
   |none=>none
 |x,.nilS=>match nilEq x,isSliceT ty t,op with
  |some b,true,.eql=>xret o (.p (.b b))
  |some b,true,.neq=>xret o (.p (.b (!b)))
  |_,_,_=>none
 |.p (.b a),.p (.b b)=>match op,isBoolT ty t with
  |.eql,true=>xret o (.p (.b (a==b)))
  |.neq,true=>xret o (.p (.b (!(a==b))))
  |_,_=>none
 |.p (.agg xs),.p (.agg ys)=>match ty t with
  |some i=>match i.eqs with
   |kd::ks=>match flatEq (kd::ks) xs ys,op with
    |some q,.eql=>xret o (.p (.b q))
    |some q,.neq=>xret o (.p (.b (!q)))
    |_,_=>none
   | []=>none
  |none=>none
 |_,_=>none
def xIndex (o:Oper) (t:Nat) (x ix:AV):Option Eff:=match ty t with
 |some i=>match i.desc,x,ix with
  |.string,.p (.s s),.p (.i _ m)=>(match xstr s m with|some v=>xret o (.p v)|none=>none)
  |_,_,_=>none
 |none=>none
def xIndexAddr (o:Oper) (t:Nat) (x ix:AV) (h:Heap):Option Eff:=
 match ty t with
 |some i=>match i.desc with
  |.slice el=>match ty el with
   |some j=>match x,ix with
    |.p (.sl sz xs),.p (.i _ n)=>match Nat.beq sz j.size with
     |true=>(match xidx xs n with|some v=>xret o (.vp v.cells)|none=>none)
     |false=>none
    |.ar l,.p (.i _ n)=>match hget h l with
     |some (.arr xs)=>match Nat.beq j.size 1 with
      |true=>xneed (decide (0≤n∧n.toNat<xs.length)) (xretR o l (.ap l n.toNat))
      |false=>none
     |some (.cells cs)=>match Nat.beq j.size 1 with
      |true=>xneed (decide (0≤n∧n.toNat<cs.length)) (xretR o l (.ptr l n.toNat))
      |false=>none
     |_=>none
    |_,_=>none
   |none=>none
  |.array len el=>match ty el with
   |some j=>match x,ix with
    |.vp cs,.p (.i _ m)=>xneed (decide (0≤m∧m<len)) (xret o (.vp (cs.drop (m.toNat*j.size))))
    |.ptr l off,.p (.i _ m)=>xneed (decide (0≤m∧m<len)) (xret o (.ptr l (off+m.toNat*j.size)))
    |_,_=>none
   |none=>none
  |_=>none
 |none=>none
def xLen (o:Oper) (t:Nat) (x:AV) (h:Heap):Option Eff:=
 match ty t with
 |some i=>match i.desc with
  |.slice _=>match x with
   |.p (.sl _ xs)=>xret o (.p (.i .i64 xs.length))
   |.so _ xs=>xret o (.p (.i .i64 xs.length))
   |.nilS=>xret o (.p (.i .i64 0))
   |.es _=>xret o (.p (.i .i64 0))
   |.ar l=>match hget h l with
    |some (.arr xs)=>xretR o l (.p (.i .i64 xs.length))
    |some (.cells cs)=>xretR o l (.p (.i .i64 cs.length))
    |_=>none
   |_=>none
  |.map _ _=>match x with
   |.mp l=>match hget h l with
    |some (.map _ es)=>xretR o l (.p (.i .i64 es.length))
    |_=>none
   |_=>none
  |.string=>match x with
   |.p (.s x)=>xret o (.p (.i .i64 x.size))
   |_=>none
  |_=>none
 |none=>none
def xAppend (o:Oper) (e:Env) (h:Heap) (t t2:Nat) (x:Operand) (y:AV):Option Eff:=
 match ty t,isSliceT ty t2 with
 |some i,true=>match i.desc with
  |.slice el=>match ty el with
   |some j=>match Nat.beq (j.size*j.bytes) 0,aYs j.size y,o.dst with
    |false,some ys,some d=>match ev e x,x with
     |.nilS,_=>match i.stk.contains d with
      |false=>xneed (decide (ys.length*j.bytes≤140737488355328)) (some ⟨[],[(d,.so j.size ys)],[]⟩)
      |true=>none
     |.so sz xs,.tmp s=>match Nat.beq sz j.size,Nat.beq s d with
      |true,false=>xneed (decide ((xs.length+ys.length)*j.bytes≤140737488355328)) (some ⟨[],[(d,.so sz (xs++ys)),(s,.p (.sl sz xs))],[]⟩)
      |_,_=>none
     |_,_=>none
    |_,_,_=>none
   |none=>none
  |_=>none
 |_,_=>none
def xSlice (o:Oper) (e:Env) (t:Nat) (x:AV) (lo hi:Option Operand):Option Eff:=
 match ty t with
 |some i=>match i.desc with
  |.slice el=>match ty el,x with
   |some j,.p (.sl sz xs)=>match Nat.beq sz j.size,boundOf e 0 lo,boundOf e xs.length hi with
    |true,some l,some u=>xneed (decide (0≤l∧l≤u∧u≤xs.length)) (xret o (.p (.sl sz ((xs.take u.toNat).drop l.toNat))))
    |_,_,_=>none
   |_,_=>none
  |.string=>match x with
   |.p (.s s)=>match boundOf e 0 lo,boundOf e s.size hi with
    |some l,some u=>xneed (decide (0≤l∧l≤u∧u≤s.size)) (xret o (.p (.s (xext s l.toNat u.toNat))))
    |_,_=>none
   |_=>none
  |_=>none
 |none=>none
def xSliceO (o:Oper) (e:Env) (t s sz:Nat) (xs:List PV) (lo:Option Operand):Option Eff:=
 match ty t,o.dst with
 |some i,some d=>match i.desc with
  |.slice el=>match ty el with
   |some j=>match Nat.beq sz j.size,Nat.beq s d,boundOf e 0 lo with
    |true,false,some l=>xneed (decide (0≤l∧l≤xs.length)) (some ⟨[],[(d,.so sz (xs.drop l.toNat)),(s,.p (.sl sz xs))],[]⟩)
    |_,_,_=>none
   |none=>none
  |_=>none
 |_,_=>none
def xConvB (o:Oper) (si i:TI) (v:AV):Option Eff:=match si.desc,i.desc,v.pure? 1 with
 |.slice el,.string,some (.sl sz xs)=>match Nat.beq sz 1,ty el with
  |true,some j=>match j.desc with
   |.int .u8=>(match xbytes xs with|some y=>xret o (.p y)|none=>none)
   |_=>none
  |_,_=>none
 |_,_,_=>none
def xMakeMap (o:Oper) (h:Heap) (t:Nat):Option Eff:=match ty t,o.dst with
 |some i,some d=>match i.desc with
  |.map kt _=>match ty kt with
   |some j=>match kdD j.desc,freshId h d with
    |some kd,true=>some ⟨[],[(d,.mp d)],[(d,.map kd [])]⟩
    |_,_=>none
   |none=>none
  |_=>none
 |_,_=>none
def xLookup (o:Oper) (h:Heap) (t:Nat) (m k:AV) (ok:Bool):Option Eff:=match ty t with
 |some i=>match i.desc with
  |.map kt et=>match ty kt,ty et with
   |some jk,some je=>match zeroPV je,m,k with
    |some z,.mp l,.p k=>match hget h l with
     |some (.map kd es)=>match kdD jk.desc,kdOf k with
      |some a,some b=>match KD.eq a kd,KD.eq b kd with
       |true,true=>xretR o l (lookRes ok (mlook k z es).1 (mlook k z es).2)
       |_,_=>none
      |_,_=>none
     |_=>none
    |some z,.c (.map none),.p k=>match kdD jk.desc,kdOf k with
     |some a,some b=>match KD.eq a b with
      |true=>xret o (lookRes ok z false)
      |false=>none
     |_,_=>none
    |_,_,_=>none
   |_,_=>none
  |_=>none
 |none=>none
def xMapUpdate (h:Heap) (t:Nat) (m k v:AV):Option Eff:=match ty t with
 |some i=>match i.desc with
  |.map kt et=>match ty kt,ty et with
   |some jk,some je=>match m,k,v.pureL je.csz with
    |.mp l,.p k,some v=>match hget h l with
     |some (.map kd es)=>match kdD jk.desc,kdOf k with
      |some a,some b=>match KD.eq a kd,KD.eq b kd with
       |true,true=>some ⟨[l],[],[(l,.map kd (mput k v es))]⟩
       |_,_=>none
      |_,_=>none
     |_=>none
    |_,_,_=>none
   |_,_=>none
  |_=>none
 |none=>none
def xMakeSlice (o:Oper) (h:Heap) (t:Nat) (a b:AV):Option Eff:=match ty t,o.dst with
 |some i,some d=>match i.desc with
  |.slice el=>match ty el with
   |some j=>match zeroPV j,a,b,freshId h d,isAggD j.desc,Nat.beq j.bytes 0 with
    |some z,.p (.i _ x),.p (.i _ y),true,false,false=>xneed (decide (x=y∧0≤x∧x*j.bytes≤140737488355328)) (some ⟨[],[(d,.ar d)],[(d,.arr (List.replicate x.toNat z))]⟩)
    |_,_,_,_,_,_=>none
   |none=>none
  |_=>none
 |_,_=>none
def xopO (mv:Nat→Bool) (o:Oper) (e:Env) (h:Heap):Option Eff:=
 match o.op with
 |.move (.tmp t)=>xMove o e t mv
 |.move x=>xret o (ev e x)
 |.assign (.tmp t)=>xMove o e t (fun _=>true)
 |.assign x=>xret o (ev e x)
 |.pick c a b=>match ev e c with
  |.p (.b g)=>(match g with|true=>xret o (ev e a).copy|false=>xret o (ev e b).copy)
  |_=>none
 |.alloc t=>match ty t,o.dst with
  |some i,some d=>match freshId h d with
   |true=>match i.stk.contains d with
    |false=>some ⟨[],[(d,.ptr d 0)],[(d,.cells (constAVs i.zero))]⟩
    |true=>none
   |false=>none
  |_,_=>none
 |.box _ x=>match o.dst with
  |some d=>match freshId h d with
   |true=>match (ev e x).copy.cells? with
    |some cs=>some ⟨[],[(d,.ptr d 0)],[(d,.cells cs)]⟩
    |none=>none
   |false=>none
  |_=>none
 |.build t ⟨parts⟩=>xBuild ty o e t parts
 |.buildSlice t len ⟨parts⟩=>xBuildSlice ty o e h t len parts
 |.load t x=>xLoad ty o h t (ev e x) mv
 |.store t x y=>xStore ty e h t (ev e x) y
 |.nilCheck x=>match ev e x with
  |.ptr l off=>xret o (.ptr l off)
  |.vp cs=>xret o (.vp cs)
  |.fn f a b=>xret o (.fn f a b)
  |_=>none
 |.binOp op t x (.const .nilIface) _=>match ev e x with
  |.ifc b=>match isIfaceT ty t,op with
   |true,.eql=>xret o (.p (.b (!b)))
   |true,.neq=>xret o (.p (.b b))
   |_,_=>none
  |_=>none
 |.binOp op t x y _=>xBin ty o op t (ev e x) (ev e y)
 |.unOp op _ x=>xUn o op (ev e x)
 |.convert src dst x=>match ty src,ty dst,ev e x with
  |some _,some i,.p (.i _ n)=>match i.desc with
   |.int k=>xret o (.p (.i k (k.wrap n)))
   |_=>none
  |some _,some i,.p (.s x)=>match i.desc with
   |.string=>xret o (.p (.s x))
   |_=>none
  |some si,some i,v=>xConvB ty o si i v
  |_,_,_=>none
 |.makeFunc (.func f) ⟨first⟩ ⟨caps⟩=>xret o (.fn f (evs e first) (evs e caps))
 |.slice t (.tmp s) lo none none=>match eget e s with
  |.so sz xs=>xSliceO ty o e t s sz xs lo
  |.al true l sz m=>none
  |v=>xSlice ty o e t v.copy lo none
 |.slice t (.tmp s) none (some u) none=>match eget e s with
  |.al true l sz m=>none
  |.ar l=>none
  |v=>xSlice ty o e t v.copy none (some u)
 |.slice t x lo hi none=>xSlice ty o e t (ev e x).copy lo hi
 |.fieldAddr s x f=>match fieldOf ty s f with
  |some fd=>match ty fd.type with
   |some j=>match Nat.beq j.size 0,ev e x with
    |false,.ptr l off=>xret o (.ptr l (off+fd.offset))
    |false,.vp cs=>xret o (.vp (cs.drop fd.offset))
    |_,_=>none
   |none=>none
  |none=>none
 |.field t x f=>match fieldOf ty t f with
  |some fd=>match ty fd.type with
   |some j=>match (ev e x).aggCells? with
    |some cs=>match isAggD j.desc with
     |true=>match getAt cs fd.offset j.size with
      |some l=>xret o (mkAgg l j.csz)
      |none=>none
     |false=>match cs[fd.offset]? with
      |some v=>xret o v.copy
      |none=>none
    |none=>none
   |none=>none
  |none=>none
 |.indexAddr t x ix=>xIndexAddr ty o t (ev e x).copy (ev e ix) h
 |.extract x n=>match ev e x with
  |.tup vs=>match vs[n]? with
   |some v=>xret o v.copy
   |none=>none
  |_=>none
 |.call { callee:=.builtin .len,args:=⟨[x]⟩,argTypes:=⟨t::_⟩ }=>xLen ty o t (ev e x) h
 |.call { callee:=.builtin .append,args:=⟨[x,y]⟩,argTypes:=⟨[t,t2]⟩ }=>xAppend ty o e h t t2 x (ev e y)
 |.call { callee:=.builtin .min,args:=⟨[x,y]⟩,.. }=>match ev e x,ev e y with
  |.p (.i k a),.p (.i k' b)=>match decide (k=k') with
   |true=>xret o (.p (.i k (if b<a then b else a)))
   |false=>none
  |_,_=>none
 |.call { callee:=.builtin .max,args:=⟨[x,y]⟩,.. }=>match ev e x,ev e y with
  |.p (.i k a),.p (.i k' b)=>match decide (k=k') with
   |true=>xret o (.p (.i k (if a<b then b else a)))
   |false=>none
  |_,_=>none
 |.call { callee:=.builtin .max,args:=⟨[x,y,z]⟩,.. }=>match ev e x,ev e y,ev e z with
  |.p (.i k a),.p (.i k' b),.p (.i k2 c)=>match decide (k=k'),decide (k=k2) with
   |true,true=>xret o (.p (.i k (imax (imax a b) c)))
   |_,_=>none
  |_,_,_=>none
 |.call { callee:=.value x,args:=⟨az⟩,argTypes:=⟨ts⟩ }=>match ev e x with
  |.fn f first caps=>(match call f (first++argOf ty e az ts++caps) h with|some (rd,hw,r)=>xretM o rd hw r|none=>none)
  |_=>none
 |.call { callee:=.invoke x name,args:=⟨az⟩,argTypes:=⟨ts⟩ }=>match ev e x with
  |.p (.ifv T y)=>match methOf ty T name with
   |some f=>(match call f ([.p y]++argOf ty e az ts++[]) h with|some (rd,hw,r)=>xretM o rd hw r|none=>none)
   |none=>none
  |_=>none
 |.makeMap t none=>xMakeMap ty o h t
 |.lookup t m k ok=>xLookup ty o h t (ev e m) (ev e k) ok
 |.mapUpdate t m k v=>xMapUpdate ty h t (ev e m) (ev e k) (ev e v)
 |.insert t m k v=>xMapUpdate ty h t (ev e m) (ev e k) (ev e v)
 |.makeSlice t a b=>xMakeSlice ty o h t (ev e a) (ev e b)
 |.index t x ix=>xIndex ty o t (ev e x) (ev e ix)
 |_=>none
end
theorem xret_ok {o:Oper} {v:AV} {f:Eff} {K:AK} (h:xret o v=some f) (hk:K f):ret o v K:=by
 unfold xret at h;unfold ret;split at h<;>cases h<;>simp_all [AV.force_eq]
theorem xretM_ok {o:Oper} {rd:List Nat} {hw:Heap} {v:AV} {f:Eff} {K:AK} (h:xretM o rd hw v=some f) (hk:K f):retM o rd hw v K:=by
 unfold xretM at h;unfold retM;split at h<;>cases h<;>simp_all [AV.force_eq]
theorem xretR_ok {o:Oper} {l:Nat} {v:AV} {f:Eff} {K:AK} (h:xretR o l v=some f) (hk:K f):retR o l v K:=by
 unfold xretR at h;unfold retR;split at h<;>cases h<;>simp_all [AV.force_eq]
theorem xneed_ok {c:Prop} [Decidable c] {X:Option Eff} {f:Eff} (h:xneed (decide c) X=some f):c∧X=some f:=by
 unfold xneed at h;split at h
 ·rename_i hd;exact⟨of_decide_eq_true hd,h⟩
 ·cases h
theorem xidx_ok {xs:List PV} {i:Int} {v:PV} {K:PV→Prop} (h:xidx xs i=some v) (hk:K v):AIdx xs i K:=by
 unfold xidx at h;split at h
 ·exact⟨v,Int.natCast_nonneg _,h,hk⟩
 ·cases h
theorem xstr_ok {s:ByteArray} {m:Int} {v:PV} {K:PV→Prop} (h:xstr s m=some v) (hk:K v):AStrI s m K:=by
 unfold xstr at h;split at h
 ·rename_i l n
  split at h
  ·rename_i c hc;cases h;exact asix (l:=l) (k:=n) rfl hc hk
  ·cases h
 ·cases h
theorem beqL_eq:∀(a b:List UInt8),beqL a b=(a==b)
 | [],[]=>rfl
 | [],_::_=>rfl
 |_::_,[]=>rfl
 |a::r,b::r'=>by
  rw[beqL,List.cons_beq_cons,←beqL_eq r r']
  cases h:Nat.beq a.toNat b.toNat with
  |true=>
   have:a=b:=UInt8.toNat_inj.1 (Nat.eq_of_beq_eq_true h);subst this;simp
  |false=>
   have:(a==b)=false:=by rw[beq_eq_false_iff_ne];intro q;subst q;simp at h
   rw[this];rfl
theorem toList_mk (a:List UInt8):ByteArray.toList ⟨⟨a⟩⟩=a:=by rw[ByteArray.toList_eq]
theorem ltL_eq:∀(a b:List UInt8),ltL a b=Op.bytesLess a b
 | [],[]=>rfl
 | [],_::_=>rfl
 |_::_,[]=>rfl
 |a::r,b::r'=>by
  rw[ltL,Op.bytesLess,←ltL_eq r r']
  cases h:Nat.blt a.toNat b.toNat with
  |true=>
   have:a<b:=UInt8.lt_iff_toNat_lt.2 (by simpa[Nat.blt_eq] using h);simp[this]
  |false=>
   have h0:¬a<b:=fun q=>by have:=UInt8.lt_iff_toNat_lt.1 q;rw[←Nat.blt_eq,h]at this;cases this
   cases h2:Nat.beq a.toNat b.toNat with
   |true=>
    have:a=b:=UInt8.toNat_inj.1 (Nat.eq_of_beq_eq_true h2);subst this;simp
   |false=>
    have:(a==b)=false:=by rw[beq_eq_false_iff_ne];intro q;subst q;simp at h2
    simp[this,h0]
theorem xbinS_eq {op:BinOp} {x y:ByteArray} {v:PV} (h:xbinS op x y=some v):binS op x y=some v:=by
 unfold xbinS at h;split at h
 ·rename_i a b;cases h;rw[beqL_eq,←B_beq];rfl
 ·rename_i a b;cases h;rw[beqL_eq,←B_beq];rfl
 ·rename_i a b;cases h;rw[ltL_eq,binS];simp only[toList_mk]
 ·rename_i a b;cases h;rw[ltL_eq,beqL_eq,binS];simp only[toList_mk]
 ·cases h
theorem xext_eq (s:ByteArray) (i j:Nat):xext s i j=s.extract i j:=by
 obtain⟨⟨l⟩⟩:=s;exact(B_ext l i j).symm
theorem u8s_ok:∀{xs:List PV} {ns:List Int},u8s xs=some ns→xs=ns.map (PV.i .u8)
 | [],_,h=>by cases h;rfl
 |x::r,ns,h=>by
  unfold u8s at h;split at h
  ·cases ‹_::_=[]›
  ·rename_i n r' he
   cases he;split at h
   ·rename_i l hl
    cases h;rw[u8s_ok hl];rfl
   ·cases h
  ·cases h
theorem xbytes_ok {xs:List PV} {v:PV} {K:PV→Prop} (h:xbytes xs=some v) (hk:K v):ABytes xs K:=by
 unfold xbytes at h;split at h
 ·rename_i ns hn;cases h;exact⟨ns,_,u8s_ok hn,rfl,hk⟩
 ·cases h
end Go.AM
end
section
namespace Go.AM
section
variable {ty:Nat→Option TI} {f:Eff} {K:AK}
theorem xMove_ok {o:Oper} {e:Env} {t:Nat} {mv:Nat→Bool} (hx:xMove o e t mv=some f) (hk:K f):aMove o e t mv K:=by
 unfold xMove at hx;unfold aMove
 repeat' split at hx
 all_goals (try (cases hx;done))
 all_goals (try simp only[*])
 all_goals first|exact hk|(cases hx;exact hk)|exact xret_ok hx hk|exact xretR_ok hx hk|exact⟨(xneed_ok hx).1,xret_ok (xneed_ok hx).2 hk⟩|exact⟨(xneed_ok hx).1,xretR_ok (xneed_ok hx).2 hk⟩|(have h2:=(xneed_ok hx).2;cases h2;exact⟨(xneed_ok hx).1,hk⟩)|exact xidx_ok (by assumption) (xret_ok hx hk)|exact xidx_ok (by assumption) (xretR_ok hx hk)|exact xstr_ok (by assumption) (xret_ok hx hk)|exact xbytes_ok (by assumption) (xret_ok hx hk)|(rename_i l1 he;erw [he];exact xret_ok hx hk)|(rename_i v he;erw [xbinS_eq he];exact xret_ok hx hk)
theorem xLoad_ok {o:Oper} {h:Heap} {t:Nat} {a:AV} {mv:Nat→Bool} (hx:xLoad ty o h t a mv=some f) (hk:K f):aLoad ty o h t a mv K:=by
 unfold xLoad at hx;unfold aLoad
 repeat' split at hx
 all_goals (try (cases hx;done))
 all_goals (try simp only[*])
 all_goals first|exact hk|(cases hx;exact hk)|exact xret_ok hx hk|exact xretR_ok hx hk|exact⟨(xneed_ok hx).1,xret_ok (xneed_ok hx).2 hk⟩|exact⟨(xneed_ok hx).1,xretR_ok (xneed_ok hx).2 hk⟩|(have h2:=(xneed_ok hx).2;cases h2;exact⟨(xneed_ok hx).1,hk⟩)|exact xidx_ok (by assumption) (xret_ok hx hk)|exact xidx_ok (by assumption) (xretR_ok hx hk)|exact xstr_ok (by assumption) (xret_ok hx hk)|exact xbytes_ok (by assumption) (xret_ok hx hk)|(rename_i l1 he;erw [he];exact xret_ok hx hk)|(rename_i v he;erw [xbinS_eq he];exact xret_ok hx hk)
theorem xStore_ok {e:Env} {h:Heap} {t:Nat} {a:AV} {y:Operand} (hx:xStore ty e h t a y=some f) (hk:K f):aStore ty e h t a y K:=by
 unfold xStore at hx;unfold aStore
 repeat' split at hx
 all_goals (try (cases hx;done))
 all_goals (try simp only[*])
 all_goals first|exact hk|(cases hx;exact hk)|exact xret_ok hx hk|exact xretR_ok hx hk|exact⟨(xneed_ok hx).1,xret_ok (xneed_ok hx).2 hk⟩|exact⟨(xneed_ok hx).1,xretR_ok (xneed_ok hx).2 hk⟩|(have h2:=(xneed_ok hx).2;cases h2;exact⟨(xneed_ok hx).1,hk⟩)|exact xidx_ok (by assumption) (xret_ok hx hk)|exact xidx_ok (by assumption) (xretR_ok hx hk)|exact xstr_ok (by assumption) (xret_ok hx hk)|exact xbytes_ok (by assumption) (xret_ok hx hk)|(rename_i l1 he;erw [he];exact xret_ok hx hk)|(rename_i v he;erw [xbinS_eq he];exact xret_ok hx hk)
theorem xBuild_ok {o:Oper} {e:Env} {t:Nat} {parts:List (Nat×Operand)} (hx:xBuild ty o e t parts=some f) (hk:K f):aBuild ty o e t parts K:=by
 unfold xBuild at hx;unfold aBuild
 repeat' split at hx
 all_goals (try (cases hx;done))
 all_goals (try simp only[*])
 all_goals first|exact hk|(cases hx;exact hk)|exact xret_ok hx hk|exact xretR_ok hx hk|exact⟨(xneed_ok hx).1,xret_ok (xneed_ok hx).2 hk⟩|exact⟨(xneed_ok hx).1,xretR_ok (xneed_ok hx).2 hk⟩|(have h2:=(xneed_ok hx).2;cases h2;exact⟨(xneed_ok hx).1,hk⟩)|exact xidx_ok (by assumption) (xret_ok hx hk)|exact xidx_ok (by assumption) (xretR_ok hx hk)|exact xstr_ok (by assumption) (xret_ok hx hk)|exact xbytes_ok (by assumption) (xret_ok hx hk)|(rename_i l1 he;erw [he];exact xret_ok hx hk)|(rename_i v he;erw [xbinS_eq he];exact xret_ok hx hk)
theorem xBuildFns_ok {o:Oper} {e:Env} {h:Heap} {j:TI} {len:Nat} {parts:List (Nat×Operand)} (hx:xBuildFns o e h j len parts=some f) (hk:K f):aBuildFns o e h j len parts K:=by
 unfold xBuildFns at hx;unfold aBuildFns
 repeat' split at hx
 all_goals (try (cases hx;done))
 all_goals (try simp only[*])
 all_goals first|exact hk|(cases hx;exact hk)|exact xret_ok hx hk|exact xretR_ok hx hk|exact⟨(xneed_ok hx).1,xret_ok (xneed_ok hx).2 hk⟩|exact⟨(xneed_ok hx).1,xretR_ok (xneed_ok hx).2 hk⟩|(have h2:=(xneed_ok hx).2;cases h2;exact⟨(xneed_ok hx).1,hk⟩)|exact xidx_ok (by assumption) (xret_ok hx hk)|exact xidx_ok (by assumption) (xretR_ok hx hk)|exact xstr_ok (by assumption) (xret_ok hx hk)|exact xbytes_ok (by assumption) (xret_ok hx hk)|(rename_i l1 he;erw [he];exact xret_ok hx hk)|(rename_i v he;erw [xbinS_eq he];exact xret_ok hx hk)
theorem xBuildSlice_ok {o:Oper} {e:Env} {h:Heap} {t len:Nat} {parts:List (Nat×Operand)} (hx:xBuildSlice ty o e h t len parts=some f) (hk:K f):aBuildSlice ty o e h t len parts K:=by
 unfold xBuildSlice at hx;unfold aBuildSlice
 repeat' split at hx
 all_goals (try (cases hx;done))
 all_goals (try simp only[*])
 all_goals first|exact xBuildFns_ok hx hk|exact hk|(cases hx;exact hk)|exact xret_ok hx hk|exact xretR_ok hx hk|exact⟨(xneed_ok hx).1,xret_ok (xneed_ok hx).2 hk⟩|exact⟨(xneed_ok hx).1,xretR_ok (xneed_ok hx).2 hk⟩|(have h2:=(xneed_ok hx).2;cases h2;exact⟨(xneed_ok hx).1,hk⟩)|exact xidx_ok (by assumption) (xret_ok hx hk)|exact xidx_ok (by assumption) (xretR_ok hx hk)|exact xstr_ok (by assumption) (xret_ok hx hk)|exact xbytes_ok (by assumption) (xret_ok hx hk)|(rename_i l1 he;erw [he];exact xret_ok hx hk)|(rename_i v he;erw [xbinS_eq he];exact xret_ok hx hk)
theorem xUn_ok {o:Oper} {op:UnOp} {x:AV} (hx:xUn o op x=some f) (hk:K f):aUn o op x K:=by
 unfold xUn at hx;unfold aUn
 repeat' split at hx
 all_goals (try (cases hx;done))
 all_goals (try simp only[*])
 all_goals first|exact hk|(cases hx;exact hk)|exact xret_ok hx hk|exact xretR_ok hx hk|exact⟨(xneed_ok hx).1,xret_ok (xneed_ok hx).2 hk⟩|exact⟨(xneed_ok hx).1,xretR_ok (xneed_ok hx).2 hk⟩|(have h2:=(xneed_ok hx).2;cases h2;exact⟨(xneed_ok hx).1,hk⟩)|exact xidx_ok (by assumption) (xret_ok hx hk)|exact xidx_ok (by assumption) (xretR_ok hx hk)|exact xstr_ok (by assumption) (xret_ok hx hk)|exact xbytes_ok (by assumption) (xret_ok hx hk)|(rename_i l1 he;erw [he];exact xret_ok hx hk)|(rename_i v he;erw [xbinS_eq he];exact xret_ok hx hk)
theorem xBin_ok {o:Oper} {op:BinOp} {t:Nat} {x y:AV} (hx:xBin ty o op t x y=some f) (hk:K f):aBin ty o op t x y K:=by
 unfold xBin at hx;unfold aBin
 repeat' split at hx
 all_goals (try (cases hx;done))
 all_goals (try simp only[*])
 all_goals first|exact hk|(cases hx;exact hk)|exact xret_ok hx hk|exact xretR_ok hx hk|exact⟨(xneed_ok hx).1,xret_ok (xneed_ok hx).2 hk⟩|exact⟨(xneed_ok hx).1,xretR_ok (xneed_ok hx).2 hk⟩|(have h2:=(xneed_ok hx).2;cases h2;exact⟨(xneed_ok hx).1,hk⟩)|exact xidx_ok (by assumption) (xret_ok hx hk)|exact xidx_ok (by assumption) (xretR_ok hx hk)|exact xstr_ok (by assumption) (xret_ok hx hk)|exact xbytes_ok (by assumption) (xret_ok hx hk)|(rename_i l1 he;erw [he];exact xret_ok hx hk)|(rename_i v he;erw [xbinS_eq he];exact xret_ok hx hk)
theorem xIndex_ok {o:Oper} {t:Nat} {x ix:AV} (hx:xIndex ty o t x ix=some f) (hk:K f):aIndex ty o t x ix K:=by
 unfold xIndex at hx;unfold aIndex
 repeat' split at hx
 all_goals (try (cases hx;done))
 all_goals (try simp only[*])
 all_goals first|exact hk|(cases hx;exact hk)|exact xret_ok hx hk|exact xretR_ok hx hk|exact⟨(xneed_ok hx).1,xret_ok (xneed_ok hx).2 hk⟩|exact⟨(xneed_ok hx).1,xretR_ok (xneed_ok hx).2 hk⟩|(have h2:=(xneed_ok hx).2;cases h2;exact⟨(xneed_ok hx).1,hk⟩)|exact xidx_ok (by assumption) (xret_ok hx hk)|exact xidx_ok (by assumption) (xretR_ok hx hk)|exact xstr_ok (by assumption) (xret_ok hx hk)|exact xbytes_ok (by assumption) (xret_ok hx hk)|(rename_i l1 he;erw [he];exact xret_ok hx hk)|(rename_i v he;erw [xbinS_eq he];exact xret_ok hx hk)
theorem xIndexAddr_ok {o:Oper} {t:Nat} {x ix:AV} {h:Heap} (hx:xIndexAddr ty o t x ix h=some f) (hk:K f):aIndexAddr ty o t x ix h K:=by
 unfold xIndexAddr at hx;unfold aIndexAddr
 repeat' split at hx
 all_goals (try (cases hx;done))
 all_goals (try simp only[*])
 all_goals first|exact hk|(cases hx;exact hk)|exact xret_ok hx hk|exact xretR_ok hx hk|exact⟨(xneed_ok hx).1,xret_ok (xneed_ok hx).2 hk⟩|exact⟨(xneed_ok hx).1,xretR_ok (xneed_ok hx).2 hk⟩|(have h2:=(xneed_ok hx).2;cases h2;exact⟨(xneed_ok hx).1,hk⟩)|exact xidx_ok (by assumption) (xret_ok hx hk)|exact xidx_ok (by assumption) (xretR_ok hx hk)|exact xstr_ok (by assumption) (xret_ok hx hk)|exact xbytes_ok (by assumption) (xret_ok hx hk)|(rename_i l1 he;erw [he];exact xret_ok hx hk)|(rename_i v he;erw [xbinS_eq he];exact xret_ok hx hk)
theorem xLen_ok {o:Oper} {t:Nat} {x:AV} {h:Heap} (hx:xLen ty o t x h=some f) (hk:K f):aLen ty o t x h K:=by
 unfold xLen at hx;unfold aLen
 repeat' split at hx
 all_goals (try (cases hx;done))
 all_goals (try simp only[*])
 all_goals first|exact hk|(cases hx;exact hk)|exact xret_ok hx hk|exact xretR_ok hx hk|exact⟨(xneed_ok hx).1,xret_ok (xneed_ok hx).2 hk⟩|exact⟨(xneed_ok hx).1,xretR_ok (xneed_ok hx).2 hk⟩|(have h2:=(xneed_ok hx).2;cases h2;exact⟨(xneed_ok hx).1,hk⟩)|exact xidx_ok (by assumption) (xret_ok hx hk)|exact xidx_ok (by assumption) (xretR_ok hx hk)|exact xstr_ok (by assumption) (xret_ok hx hk)|exact xbytes_ok (by assumption) (xret_ok hx hk)|(rename_i l1 he;erw [he];exact xret_ok hx hk)|(rename_i v he;erw [xbinS_eq he];exact xret_ok hx hk)
theorem xAppend_ok {o:Oper} {e:Env} {h:Heap} {t t2:Nat} {x:Operand} {y:AV} (hx:xAppend ty o e h t t2 x y=some f) (hk:K f):aAppend ty o e h t t2 x y K:=by
 unfold xAppend at hx;unfold aAppend
 repeat' split at hx
 all_goals (try (cases hx;done))
 all_goals (try simp only[*])
 all_goals first|exact hk|(cases hx;exact hk)|exact xret_ok hx hk|exact xretR_ok hx hk|exact⟨(xneed_ok hx).1,xret_ok (xneed_ok hx).2 hk⟩|exact⟨(xneed_ok hx).1,xretR_ok (xneed_ok hx).2 hk⟩|(have h2:=(xneed_ok hx).2;cases h2;exact⟨(xneed_ok hx).1,hk⟩)|exact xidx_ok (by assumption) (xret_ok hx hk)|exact xidx_ok (by assumption) (xretR_ok hx hk)|exact xstr_ok (by assumption) (xret_ok hx hk)|exact xbytes_ok (by assumption) (xret_ok hx hk)|(rename_i l1 he;erw [he];exact xret_ok hx hk)|(rename_i v he;erw [xbinS_eq he];exact xret_ok hx hk)
theorem xSlice_ok {o:Oper} {e:Env} {t:Nat} {x:AV} {lo hi:Option Operand} (hx:xSlice ty o e t x lo hi=some f) (hk:K f):aSlice ty o e t x lo hi K:=by
 unfold xSlice at hx;unfold aSlice;simp only[xext_eq]at hx
 repeat' split at hx
 all_goals (try (cases hx;done))
 all_goals (try simp only[*])
 all_goals first|exact hk|(cases hx;exact hk)|exact xret_ok hx hk|exact xretR_ok hx hk|exact⟨(xneed_ok hx).1,xret_ok (xneed_ok hx).2 hk⟩|exact⟨(xneed_ok hx).1,xretR_ok (xneed_ok hx).2 hk⟩|(have h2:=(xneed_ok hx).2;cases h2;exact⟨(xneed_ok hx).1,hk⟩)|exact xidx_ok (by assumption) (xret_ok hx hk)|exact xidx_ok (by assumption) (xretR_ok hx hk)|exact xstr_ok (by assumption) (xret_ok hx hk)|exact xbytes_ok (by assumption) (xret_ok hx hk)|(rename_i l1 he;erw [he];exact xret_ok hx hk)|(rename_i v he;erw [xbinS_eq he];exact xret_ok hx hk)
theorem xSliceO_ok {o:Oper} {e:Env} {t s sz:Nat} {xs:List PV} {lo:Option Operand} (hx:xSliceO ty o e t s sz xs lo=some f) (hk:K f):aSliceO ty o e t s sz xs lo K:=by
 unfold xSliceO at hx;unfold aSliceO
 repeat' split at hx
 all_goals (try (cases hx;done))
 all_goals (try simp only[*])
 all_goals first|exact hk|(cases hx;exact hk)|exact xret_ok hx hk|exact xretR_ok hx hk|exact⟨(xneed_ok hx).1,xret_ok (xneed_ok hx).2 hk⟩|exact⟨(xneed_ok hx).1,xretR_ok (xneed_ok hx).2 hk⟩|(have h2:=(xneed_ok hx).2;cases h2;exact⟨(xneed_ok hx).1,hk⟩)|exact xidx_ok (by assumption) (xret_ok hx hk)|exact xidx_ok (by assumption) (xretR_ok hx hk)|exact xstr_ok (by assumption) (xret_ok hx hk)|exact xbytes_ok (by assumption) (xret_ok hx hk)|(rename_i l1 he;erw [he];exact xret_ok hx hk)|(rename_i v he;erw [xbinS_eq he];exact xret_ok hx hk)
theorem xConvB_ok {o:Oper} {si i:TI} {v:AV} (hx:xConvB ty o si i v=some f) (hk:K f):aConvB ty o si i v K:=by
 unfold xConvB at hx;unfold aConvB
 repeat' split at hx
 all_goals (try (cases hx;done))
 all_goals (try simp only[*])
 all_goals first|exact hk|(cases hx;exact hk)|exact xret_ok hx hk|exact xretR_ok hx hk|exact⟨(xneed_ok hx).1,xret_ok (xneed_ok hx).2 hk⟩|exact⟨(xneed_ok hx).1,xretR_ok (xneed_ok hx).2 hk⟩|(have h2:=(xneed_ok hx).2;cases h2;exact⟨(xneed_ok hx).1,hk⟩)|exact xidx_ok (by assumption) (xret_ok hx hk)|exact xidx_ok (by assumption) (xretR_ok hx hk)|exact xstr_ok (by assumption) (xret_ok hx hk)|exact xbytes_ok (by assumption) (xret_ok hx hk)|(rename_i l1 he;erw [he];exact xret_ok hx hk)|(rename_i v he;erw [xbinS_eq he];exact xret_ok hx hk)
theorem xMakeMap_ok {o:Oper} {h:Heap} {t:Nat} (hx:xMakeMap ty o h t=some f) (hk:K f):aMakeMap ty o h t K:=by
 unfold xMakeMap at hx;unfold aMakeMap
 repeat' split at hx
 all_goals (try (cases hx;done))
 all_goals (try simp only[*])
 all_goals first|exact hk|(cases hx;exact hk)|exact xret_ok hx hk|exact xretR_ok hx hk|exact⟨(xneed_ok hx).1,xret_ok (xneed_ok hx).2 hk⟩|exact⟨(xneed_ok hx).1,xretR_ok (xneed_ok hx).2 hk⟩|(have h2:=(xneed_ok hx).2;cases h2;exact⟨(xneed_ok hx).1,hk⟩)|exact xidx_ok (by assumption) (xret_ok hx hk)|exact xidx_ok (by assumption) (xretR_ok hx hk)|exact xstr_ok (by assumption) (xret_ok hx hk)|exact xbytes_ok (by assumption) (xret_ok hx hk)|(rename_i l1 he;erw [he];exact xret_ok hx hk)|(rename_i v he;erw [xbinS_eq he];exact xret_ok hx hk)
theorem xMapUpdate_ok {h:Heap} {t:Nat} {m k v:AV} (hx:xMapUpdate ty h t m k v=some f) (hk:K f):aMapUpdate ty h t m k v K:=by
 unfold xMapUpdate at hx;unfold aMapUpdate
 repeat' split at hx
 all_goals (try (cases hx;done))
 all_goals (try simp only[*])
 all_goals first|exact hk|(cases hx;exact hk)|exact xret_ok hx hk|exact xretR_ok hx hk|exact⟨(xneed_ok hx).1,xret_ok (xneed_ok hx).2 hk⟩|exact⟨(xneed_ok hx).1,xretR_ok (xneed_ok hx).2 hk⟩|(have h2:=(xneed_ok hx).2;cases h2;exact⟨(xneed_ok hx).1,hk⟩)|exact xidx_ok (by assumption) (xret_ok hx hk)|exact xidx_ok (by assumption) (xretR_ok hx hk)|exact xstr_ok (by assumption) (xret_ok hx hk)|exact xbytes_ok (by assumption) (xret_ok hx hk)|(rename_i l1 he;erw [he];exact xret_ok hx hk)|(rename_i v he;erw [xbinS_eq he];exact xret_ok hx hk)
theorem xMakeSlice_ok {o:Oper} {h:Heap} {t:Nat} {a b:AV} (hx:xMakeSlice ty o h t a b=some f) (hk:K f):aMakeSlice ty o h t a b K:=by
 unfold xMakeSlice at hx;unfold aMakeSlice
 repeat' split at hx
 all_goals (try (cases hx;done))
 all_goals (try simp only[*])
 all_goals first|exact hk|(cases hx;exact hk)|exact xret_ok hx hk|exact xretR_ok hx hk|exact⟨(xneed_ok hx).1,xret_ok (xneed_ok hx).2 hk⟩|exact⟨(xneed_ok hx).1,xretR_ok (xneed_ok hx).2 hk⟩|(have h2:=(xneed_ok hx).2;cases h2;exact⟨(xneed_ok hx).1,hk⟩)|exact xidx_ok (by assumption) (xret_ok hx hk)|exact xidx_ok (by assumption) (xretR_ok hx hk)|exact xstr_ok (by assumption) (xret_ok hx hk)|exact xbytes_ok (by assumption) (xret_ok hx hk)|(rename_i l1 he;erw [he];exact xret_ok hx hk)|(rename_i v he;erw [xbinS_eq he];exact xret_ok hx hk)
theorem xLookup_ok {o:Oper} {h:Heap} {t:Nat} {m k:AV} {ok:Bool} (hx:xLookup ty o h t m k ok=some f) (hk:K f):aLookup ty o h t m k ok K:=by
 unfold xLookup at hx;unfold aLookup
 repeat' split at hx
 all_goals (try (cases hx;done))
 all_goals (try simp only[*])
 ·exact⟨_,_,rfl,xretR_ok hx hk⟩
 ·exact xret_ok hx hk
end
end Go.AM
end
section
namespace Go.AM
section
variable {ty:Nat→Option TI} {call:Nat→List AV→Heap→Option (List Nat×Heap×AV)} {pc:Nat→List AV→Heap→(List Nat→Heap→AV→Prop)→Prop} {f:Eff} {K:AK}
theorem xopO_ok (hc:∀g l H rd hw r,call g l H=some (rd,hw,r)→∀K:List Nat→Heap→AV→Prop,K rd hw r→pc g l H K) {mv:Nat→Bool} {o:Oper} {e:Env} {h:Heap} (hx:xopO ty call mv o e h=some f) (hk:K f):aopO ty pc mv o e h K:=by
 unfold xopO at hx;unfold aopO;split at hx
 all_goals (try (cases hx;done))
 all_goals (rename_i ho)
 all_goals (try simp only[ho])
 all_goals first|exact xMakeMap_ok hx hk|exact xLookup_ok hx hk|exact xMapUpdate_ok hx hk|exact xMakeSlice_ok hx hk|exact xMove_ok hx hk|exact xret_ok hx hk|exact xBuild_ok hx hk|exact xBuildSlice_ok hx hk|exact xLoad_ok hx hk|exact xStore_ok hx hk|exact xBin_ok hx hk|exact xUn_ok hx hk|exact xIndexAddr_ok hx hk|exact xLen_ok hx hk|exact xAppend_ok hx hk|exact xIndex_ok hx hk|exact xSlice_ok hx hk|skip
 all_goals (repeat' split at hx)
 all_goals (try (cases hx;done))
 all_goals (try simp only[*])
 all_goals first|exact hk|(cases hx;exact hk)|exact xret_ok hx hk|exact xConvB_ok hx hk|exact xSliceO_ok hx hk|exact xSlice_ok hx hk|exact hc _ _ _ _ _ _ (by assumption) _ (xretM_ok hx hk)|skip
end
end Go.AM
end
