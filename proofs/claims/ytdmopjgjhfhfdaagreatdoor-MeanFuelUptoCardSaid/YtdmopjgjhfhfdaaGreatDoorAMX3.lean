/- Part of a machine over plain values. No conditions. -/
import Derived.Test.YtdmopjgjhfhfdaaGreatDoorAMRec
import Derived.Test.YtdmopjgjhfhfdaaGreatDoorAMDefs
import Derived.Test.YtdmopjgjhfhfdaaGreatDoorMN5
set_option linter.all false
section
open Go Go.AM Go.Proofs TK TR
set_option maxRecDepth 100000
namespace PA
def xQ (x:oH×Int×Int):AV:=.cA [.p (kW x.1),.p (.i .i64 x.2.1),.p (.i .i64 x.2.2)]
def hE (ev:Value):Heap:=[(1000000000,.bK 2 [ev])]
def L2 (ev:Value) (r:AV) (c2:List AV) (c3 c4:AV):Prop:=
 match lO (jQ Tryz.prog) Tryz.f23.results.toList Tryz.f23.resultTypes.toList [(2,.ptr 2 0),(3,.ptr 3 0),(4,.ptr 4 0)] [(2,.cells c2),(3,.cells [c3]),(4,.cells [c4]),(1000000000,.bK 2 [ev])] with
  |some v=>xU v r∧mC [(2,.cells c2),(3,.cells [c3]),(4,.cells [c4]),(1000000000,.bK 2 [ev])] (hE ev)
  |none=>False
theorem KY (ev:Value) (pg:oH) (x e:Int):L2 ev (xQ (pg,x,e)) (wG pg) (.p (.i .i64 x)) (.p (.i .i64 e)):=by
 unfold L2;(conv=>whnf);exact⟨.inl rfl,⟨rfl,rfl⟩,trivial⟩
def jK:AV→Prop
 |.p _=>True
 |.cu=>True
 |_=>False
theorem KE {g g':Gh} {w w':World} {dom dom':Nat→Prop} {ow ow':Option aY} {v:Value} {x:AV} (hx:jK x) (hi:∀b o v,bR g w b o=some v→bR g' w' b o=some v) (hs:∀s k a,g.σ s k=some a→g'.σ s k=some a) (r:aH g w dom ow v x):aH g' w' dom' ow' v x:=by
 cases r with
 |p _ _ _ h=>exact .p _ _ _ (h.mono hi hs)
 |cu=>exact .cu _
 |_=>exact hx.elim
theorem rG {g g':Gh} {w w':World} {dom dom':Nat→Prop} {l l':Nat} {cs:List AV} (hf:∀c∈cs,jK c) (hi:∀b o v,bR g w b o=some v→bR g' w' b o=some v) (hs:∀s k a,g.σ s k=some a→g'.σ s k=some a) (hb:w'.heap[g'.ρ l']?=w.heap[g.ρ l]?) (r:gG g w dom l (.cells cs)):gG g' w' dom' l' (.cells cs):=by
 cases r with
 |cells _ vs E h1 h2 h3 h4=>exact .cells _ vs E (hb.trans h1) h2 (fun j v c q1 q2=>KE (hf c (List.mem_of_getElem? q2)) hi hs (h3 j v c q1 q2)) h4
def AP (ev:Value) (c2:List AV) (c3 c4:AV):List br:=[.cells c2,.cells [c3],.cells [c4],.bK 2 [ev]]
def NF:List AV:=[.ptr 2 0,.ptr 3 0,.ptr 4 0]
def MJ:List AV:=[.ptr 1000000000 0,.ptr 1000000001 0,.ptr 1000000002 0]
theorem B9 (pg:oH):∀c∈wG pg,jK c:=by
 intro c hc;simp only[wG,List.mem_cons,List.not_mem_nil,or_false]at hc;rcases hc with rfl|rfl|rfl|rfl|rfl|rfl|rfl|rfl<;>trivial
theorem Qa {ev:Value} {g0 g gX:Gh} {w0 w wX:World} {hX:Heap} {tm:Array Value} {c2:List AV} {c3 c4:AV} {r:AV} (hr:(r.within (bB (aO (hE ev)))&&mD (bB (aO (hE ev))) (hE ev))=true)
 (hH:gj g0 w0 (hE ev)) (hE0:Ext g0 w0 g w) (hEX:Ext (g.jg [2,3,4,1000000000]) w gX wX) (hHX:gj gX wX hX) (q2:aG hX 1000000000=some (.cells c2)) (q3:aG hX 1000000001=some (.cells [c3])) (q4:aG hX 1000000002=some (.cells [c4]))
 (f2:∀c∈c2,jK c) (f3:jK c3) (f4:jK c4) (t2:tm.getD 2 undef=.pointer (some ⟨gX.ρ 1000000000,0,none⟩)) (t3:tm.getD 3 undef=.pointer (some ⟨gX.ρ 1000000001,0,none⟩)) (t4:tm.getD 4 undef=.pointer (some ⟨gX.ρ 1000000002,0,none⟩)) (hend:L2 ev r c2 c3 c4):
 ∃v,(results Tryz.f23 tm).run Tryz.prog wX=.ok v wX∧(∃v1 g',Ending.returned v=.returned v1∧aH g' wX (aF (hE ev)) (some .ret) v1 r∧gj g' wX (hE ev)∧(∀b ow,g'.own b=some ow→b<wX.heap.size)∧Ext g0 w0 g' wX):=by
 have o2:=hHX.own _ _ q2 rfl;have o3:=hHX.own _ _ q3 rfl;have o4:=hHX.own _ _ q4 rfl;have r2:=hHX.obj _ _ q2;have r3:=hHX.obj _ _ q3;have r4:=hHX.obj _ _ q4;have n23:gX.ρ 1000000000≠gX.ρ 1000000001:=fun q=>by rw[q,o3]at o2;cases o2
 have n24:gX.ρ 1000000000≠gX.ρ 1000000002:=fun q=>by rw[q,o4]at o2;cases o2
 have n34:gX.ρ 1000000001≠gX.ρ 1000000002:=fun q=>by rw[q,o4]at o3;cases o3
 have pr2:=hHX.pre _ _ q2 rfl;have pr3:=hHX.pre _ _ q3 rfl;have pr4:=hHX.pre _ _ q4 rfl
 obtain⟨gl1,Eg,frg,gl2⟩:g0.own 2=none∧∃(E:TypeId) (fr:Nat×Nat),w0.heap[2]?=some (.cells #[ev] E fr):=by
  have:=hH.obj 1000000000 _ rfl
  cases this with
  |bK _ _ h=>exact h
 have hkept:∀b,b<w0.heap.size→g0.own b=none→wX.heap[b]?=w0.heap[b]?∧gX.pre b=g0.pre b:=fun b hb ho=>by
  obtain⟨k1,k2,k3⟩:=hE0.kept b hb ho;obtain⟨k4,k5,_⟩:=hEX.kept b (Nat.lt_of_lt_of_le hb hE0.size) (by show cw _ (g.own b)=none;rw[k3];rfl);exact⟨k4.trans k1,k5.trans k2⟩
 have hk2:=hkept 2 (Array.getElem?_eq_some_iff.1 gl2).1 gl1
 have lt:∀{l:Nat} {cs:List AV},gG gX wX (aF hX) l (.cells cs)→gX.ρ l<wX.heap.size:=fun r=>by
  cases r with
  |cells _ vs E h1 _ _ _=>exact(Array.getElem?_eq_some_iff.1 h1).1
 -- the blocks are not there at the start
 have hnew:∀b,b<w0.heap.size→g0.own b=none→b≠gX.ρ 1000000000∧b≠gX.ρ 1000000001∧b≠gX.ρ 1000000002:=fun b hb ho=>by
  obtain⟨k1,k2,k3⟩:=hE0.kept b hb ho;obtain⟨k4,k5,k6⟩:=hEX.kept b (Nat.lt_of_lt_of_le hb hE0.size) (by show cw _ (g.own b)=none;rw[k3];rfl);refine⟨fun q=>?_,fun q=>?_,fun q=>?_⟩
  ·rw[q,o2]at k6;cases k6
  ·rw[q,o3]at k6;cases k6
  ·rw[q,o4]at k6;cases k6
 let gF:Gh:={ pre:=gX.pre,own:=fun b=>if b=gX.ρ 1000000000 then some (.obj 2) else if b=gX.ρ 1000000001 then some (.obj 3) else if b=gX.ρ 1000000002 then some (.obj 4) else none,
              ρ:=fun l=>if l=2 then gX.ρ 1000000000 else if l=3 then gX.ρ 1000000001 else if l=4 then gX.ρ 1000000002 else g0.ρ l,σ:=gX.σ,sown:=g0.sown }
 have e2:gF.ρ 2=gX.ρ 1000000000:=rfl;have e3:gF.ρ 3=gX.ρ 1000000001:=rfl;have e4:gF.ρ 4=gX.ρ 1000000002:=rfl;have hsame:∀b o v,bR gX wX b o=some v→bR gF wX b o=some v:=fun _ _ _ h=>h
 have hF:Ext g0 w0 gF wX:=by
  refine⟨Nat.le_trans hE0.size hEX.size,hEX.os.trans hE0.os,hEX.out.trans hE0.out,fun b o v hv=>hEX.bR b o v (hE0.bR b o v hv),fun b hb ho=>?_,⟨fun s k a q=>hEX.tj.1 s k a (hE0.tj.1 s k a q),rfl,fun s q k=>(hEX.tj.2.2 s (by show sV _ (g.sown s)=none;rw[hE0.tj.2.1,q];rfl) k).trans (hE0.tj.2.2 s q k)⟩,fun a ha=>?_,fun l hl=>?_,fun b cs E hb=>?_⟩
  ·obtain⟨k1,k2⟩:=hkept b hb ho
   obtain⟨k3,k4,k5⟩:=hnew b hb ho;refine⟨k1,k2,?_⟩;show(if b=gX.ρ 1000000000 then some (aY.obj 2) else if b=gX.ρ 1000000001 then some (.obj 3) else if b=gX.ρ 1000000002 then some (.obj 4) else none)=none;rw[if_neg k3,if_neg k4,if_neg k5]
  ·rw[hEX.frz' a (Nat.lt_of_lt_of_le ha hE0.size)];exact hE0.frz' a ha
  ·have hl:1000000000≤l:=hl
   show(if l=2 then _ else if l=3 then _ else if l=4 then _ else g0.ρ l)=g0.ρ l;rw[if_neg (by omega),if_neg (by omega),if_neg (by omega)]
  ·obtain⟨cs1,E1,k1,k2⟩:=hE0.siz b cs E hb
   obtain⟨cs2,E2,k3,k4⟩:=hEX.siz b cs1 E1 k1;exact⟨cs2,E2,k3,k4.trans k2⟩
 have f3':∀c∈[c3],jK c:=fun c hc=>by rw[List.mem_singleton]at hc;subst hc;exact f3
 have f4':∀c∈[c4],jK c:=fun c hc=>by rw[List.mem_singleton]at hc;subst hc;exact f4
 have hcase:∀l o,aG [(2,.cells c2),(3,.cells [c3]),(4,.cells [c4]),(1000000000,.bK 2 [ev])] l=some o→(l=2∧o=.cells c2)∨(l=3∧o=.cells [c3])∨(l=4∧o=.cells [c4])∨(l=1000000000∧o=.bK 2 [ev]):=by
  intro l o h
  by_cases h2:2=l
  ·subst h2;rw[aP]at h;cases h;exact .inl ⟨rfl,rfl⟩
  rw[aT h2]at h
  by_cases h3:3=l
  ·subst h3;rw[aP]at h;cases h;exact .inr (.inl ⟨rfl,rfl⟩)
  rw[aT h3]at h
  by_cases h4:4=l
  ·subst h4;rw[aP]at h;cases h;exact .inr (.inr (.inl ⟨rfl,rfl⟩))
  rw[aT h4]at h
  by_cases h5:1000000000=l
  ·subst h5;rw[aP]at h;cases h;exact .inr (.inr (.inr ⟨rfl,rfl⟩))
  rw[aT h5]at h;cases h
 have sF:cp gF wX tm.size ⟨tm,[]⟩ [(2,.ptr 2 0),(3,.ptr 3 0),(4,.ptr 4 0)] [(2,.cells c2),(3,.cells [c3]),(4,.cells [c4]),(1000000000,.bK 2 [ev])]:=by
  refine⟨rfl,rfl,fun i=>?_,⟨fun l o h=>?_,fun l o h hs=>?_,fun l o h hs=>?_⟩,fun b o h=>?_⟩
  ·by_cases h2:2=i
   ·subst h2;show aH _ _ _ _ (tm.getD 2 undef) _;rw[t2,bw,←e2];exact .ptr _ _ _ rfl
   by_cases h3:3=i
   ·subst h3;show aH _ _ _ _ (tm.getD 3 undef) _;rw[t3,←e3];exact .ptr _ _ _ rfl
   by_cases h4:4=i
   ·subst h4;show aH _ _ _ _ (tm.getD 4 undef) _;rw[t4,←e4];exact .ptr _ _ _ rfl
   rw[bN h2,bN h3,bN h4];exact .top _ _
  ·rcases hcase l o h with⟨rfl,rfl⟩|⟨rfl,rfl⟩|⟨rfl,rfl⟩|⟨rfl,rfl⟩
   ·exact rG f2 hsame (fun _ _ _ q=>q) rfl r2
   ·exact rG f3' hsame (fun _ _ _ q=>q) rfl r3
   ·exact rG f4' hsame (fun _ _ _ q=>q) rfl r4
   ·refine .bK _ _ ⟨?_,Eg,frg,hk2.1.trans gl2⟩
    have:=hnew 2 (Array.getElem?_eq_some_iff.1 gl2).1 gl1;show(if 2=gX.ρ 1000000000 then some (aY.obj 2) else if 2=gX.ρ 1000000001 then some (.obj 3) else if 2=gX.ρ 1000000002 then some (.obj 4) else none)=none;rw[if_neg this.1,if_neg this.2.1,if_neg this.2.2]
  ·rcases hcase l o h with⟨rfl,rfl⟩|⟨rfl,rfl⟩|⟨rfl,rfl⟩|⟨rfl,rfl⟩
   ·show(if gX.ρ 1000000000=gX.ρ 1000000000 then some (aY.obj 2) else _)=_
    rw[if_pos rfl]
   ·show(if gX.ρ 1000000001=gX.ρ 1000000000 then some (aY.obj 2) else if gX.ρ 1000000001=gX.ρ 1000000001 then some (.obj 3) else _)=_
    rw[if_neg (Ne.symm n23),if_pos rfl]
   ·show(if gX.ρ 1000000002=gX.ρ 1000000000 then some (aY.obj 2) else if gX.ρ 1000000002=gX.ρ 1000000001 then some (.obj 3) else if gX.ρ 1000000002=gX.ρ 1000000002 then some (.obj 4) else _)=_
    rw[if_neg (Ne.symm n24),if_neg (Ne.symm n34),if_pos rfl]
   ·cases hs
  ·rcases hcase l o h with⟨rfl,rfl⟩|⟨rfl,rfl⟩|⟨rfl,rfl⟩|⟨rfl,rfl⟩
   ·exact pr2
   ·exact pr3
   ·exact pr4
   ·cases hs
  ·have h:(if b=gX.ρ 1000000000 then some (aY.obj 2) else if b=gX.ρ 1000000001 then some (.obj 3) else if b=gX.ρ 1000000002 then some (.obj 4) else none)=some o:=h
   by_cases k2:b=gX.ρ 1000000000
   ·rw[k2];exact lt r2
   by_cases k3:b=gX.ρ 1000000001
   ·rw[k3];exact lt r3
   by_cases k4:b=gX.ρ 1000000002
   ·rw[k4];exact lt r4
   rw[if_neg k2,if_neg k3,if_neg k4]at h;cases h
 exact J4 (ah Tryz.prog) (fn:=Tryz.f23) hr sF hF hend
end PA
end
section
namespace Go.AM
def dG (o:Oper) (v:AV):Option ei:=match o.dst with
 |some d=>some ⟨[],[(d,v)],[]⟩
 |none=>some ⟨[],[],[]⟩
def G1 (o:Oper) (rd:List Nat) (hw:Heap) (v:AV):Option ei:=match o.dst with
 |some d=>some ⟨rd,[(d,v)],hw⟩
 |none=>some ⟨rd,[],hw⟩
def tw (o:Oper) (l:Nat) (v:AV):Option ei:=match o.dst with
 |some d=>some ⟨[l],[(d,v)],[]⟩
 |none=>some ⟨[l],[],[]⟩
def LC (xs:List PV) (i:Int):Option PV:=match i with
 |.ofNat n=>xs[n]?
 |.negSucc _=>none
def NS:ByteArray→Int→Option PV
 |⟨⟨l⟩⟩,.ofNat n=>match l[n]? with
  |some c=>some (.i .u8 c.toNat)
  |none=>none
 |_,_=>none
def Kk:List UInt8→List UInt8→Bool
 | [],[]=>true
 |a::r,b::r'=>match Nat.beq a.toNat b.toNat with
  |true=>Kk r r'
  |false=>false
 |_,_=>false
def Kn (op:BinOp) (x y:ByteArray):Option PV:=match op,x,y with
 |.eql,⟨⟨a⟩⟩,⟨⟨b⟩⟩=>some (.b (Kk a b))
 |.neq,⟨⟨a⟩⟩,⟨⟨b⟩⟩=>some (.b (!Kk a b))
 |_,_,_=>none
def OA (s:ByteArray) (i j:Nat):ByteArray:=match s with
 |⟨⟨l⟩⟩=>⟨⟨(l.drop i).take (j-i)⟩⟩
def Pe:List PV→Option (List Int)
 | []=>some []
 |.i .u8 n::r=>match Pe r with|some l=>some (n::l)|none=>none
 |_::_=>none
def EW (xs:List PV):Option PV:=match Pe xs with
 |some ns=>some (.s (iZ ns))
 |none=>none
def jL (c:Bool) (X:Option ei):Option ei:=match c with|true=>X|false=>none
section
variable (ty:Nat→Option TI) (call:Nat→List AV→Heap→Option (List Nat×Heap×AV))
def Hj (o:Oper) (e:Env) (t:Nat) (mv:Nat→Bool):Option ei:=
 match aL e t with
 |.so sz xs=>match o.dst with
  |some d=>match mv d with
   |true=>some ⟨[],[(d,.so sz xs),(t,.p (.sl sz xs))],[]⟩
   |false=>some ⟨[],[(d,.p (.sl sz xs))],[]⟩
  |none=>none
 |v=>dG o v
def KA (o:Oper) (h:Heap) (t:Nat) (a:AV) (mv:Nat→Bool):Option ei:=
 match ty t with
 |some i=>match a with
  |.ptr l off=>match aG h l with
   |some (.cells cs)=>match dr i.desc with
    |true=>match jb cs off i.size with
     |some l1=>tw o l (oX l1 i.csz)
     |none=>none
    |false=>match cs[off]? with
     |some (.so sz xs)=>match o.dst with
      |some d=>match mv d with
       |true=>match setAt cs off [.p (.sl sz xs)] with
        |some cs'=>some ⟨[l],[(d,.so sz xs)],[(l,.cells cs')]⟩
        |none=>none
       |false=>some ⟨[l],[(d,.p (.sl sz xs))],[]⟩
      |none=>none
     |some v=>tw o l v
     |none=>none
   |_=>none
  |.vp cs=>match dr i.desc with
   |true=>match jb cs 0 i.size with
    |some l1=>dG o (.p (.agg l1))
    |none=>none
   |false=>match cs with
    |v::_=>dG o (.p v)
    | []=>none
  |.ap l n=>match aG h l with
   |some (.arr xs)=>match dr i.desc with
    |true=>none
    |false=>(match LC xs n with|some v=>tw o l (.p v)|none=>none)
   |_=>none
  |_=>none
 |none=>none
def FT (e:Env) (h:Heap) (t:Nat) (a:AV) (y:Operand):Option ei:=
 match ty t with
 |some i=>match a with
  |.ptr l off=>match aG h l with
   |some (.cells cs)=>match ev e y,y with
    |.so sz xs,.tmp s=>match setAt cs off [.so sz xs] with
     |some cs'=>match Nat.beq i.size 1 with
      |true=>some ⟨[l],[(s,.p (.sl sz xs))],[(l,.cells cs')]⟩
      |false=>none
     |none=>none
    |v,_=>match v.cells? with
     |some ys=>match Nat.beq ys.length i.size,setAt cs off ys with
      |true,some cs'=>some ⟨[l],[],[(l,.cells cs')]⟩
      |_,_=>none
     |none=>none
   |_=>none
  |.ap l n=>match aG h l with
   |some (.arr xs)=>match ev e y,Nat.beq i.size 1 with
    |.p (.i k m),true=>jL (decide (n<xs.length)) (some ⟨[l],[],[(l,.arr (xs.set n (.i k m)))]⟩)
    |.p (.b m),true=>jL (decide (n<xs.length)) (some ⟨[l],[],[(l,.arr (xs.set n (.b m)))]⟩)
    |.p (.s m),true=>jL (decide (n<xs.length)) (some ⟨[l],[],[(l,.arr (xs.set n (.s m)))]⟩)
    |_,_=>none
   |_=>none
  |_=>none
 |none=>none
def FH (o:Oper) (e:Env) (t:Nat) (parts:List (Nat×Operand)):Option ei:=
 match ty t with
 |some i=>match i.desc with
  |.struct _=>match place (fun f=>match gE ty t f with|some x=>(match ty x.type with|some j=>some (x.offset,j.size)|none=>none)|none=>none) (dh i.zero) (gD e parts) with
   |some cs=>dG o (rB cs i.csz)
   |none=>none
  |.array _ el=>match ty el with
   |some j=>match place (fun k=>some (k*j.size,j.size)) (dh i.zero) (gD e parts) with
    |some cs=>dG o (rB cs i.csz)
    |none=>none
   |none=>none
  |_=>none
 |none=>none
def o9 (o:Oper) (e:Env) (h:Heap) (t len:Nat) (parts:List (Nat×Operand)):Option ei:=
 match ty t with
 |some i=>match i.desc with
  |.slice el=>match ty el with
   |some j=>match iF j.size j.csz e 0 parts with
    |some xs=>match Nat.beq xs.length len,Nat.ble (len*j.size) 16777216,Nat.beq j.size 0 with
     |true,true,false=>match o.dst with
      |some d=>some ⟨[],[(d,.so j.size xs)],[]⟩
      |none=>some ⟨[],[],[]⟩
     |_,_,_=>none
    |none=>none
   |none=>none
  |_=>none
 |none=>none
def P5 (o:Oper) (op:UnOp) (x:AV):Option ei:=match op,x with
 |.not,.p (.b a)=>dG o (.p (.b (!a)))
 |.neg,.p (.i k a)=>dG o (.p (.i k (k.wrap (0-a))))
 |_,_=>none
def NU (o:Oper) (op:BinOp) (t:Nat) (x y:AV):Option ei:=
 match x,y with
 |.p (.i k a),.p (.i k' b)=>match op with
  |.rem=>jL (decide (k=k'∧b≠0)) (dG o (.p (.i k (a.tmod b))))
  |.quo=>jL (decide (k=k'∧b≠0)) (dG o (.p (.i k (k.wrap (a.tdiv b)))))
  |op=>match NP op k a b with
   |some v=>match decide (k=k') with
    |true=>dG o (.p v)
    |false=>none
   |none=>none
 |.p (.s a),.p (.s b)=>match op with
  |.add=>jL (decide (a.size+b.size≤9223372036854775807)) (dG o (.p (.s (a++b))))
  |op=>match Kn op a b with
   |some v=>dG o (.p v)
   |none=>none
 |x,.cu=>match G9 x,ez ty t,op with
  |some b,true,.eql=>dG o (.p (.b b))
  |some b,true,.neq=>dG o (.p (.b (!b)))
  |_,_,_=>none
 |.p (.b a),.p (.b b)=>match op,sM ty t with
  |.eql,true=>dG o (.p (.b (a==b)))
  |.neq,true=>dG o (.p (.b (!(a==b))))
  |_,_=>none
 |.p (.agg xs),.p (.agg ys)=>match ty t with
  |some i=>match i.eqs with
   |kd::ks=>match ic (kd::ks) xs ys,op with
    |some q,.eql=>dG o (.p (.b q))
    |some q,.neq=>dG o (.p (.b (!q)))
    |_,_=>none
   | []=>none
  |none=>none
 |_,_=>none
def Ey (o:Oper) (t:Nat) (x ix:AV):Option ei:=match ty t with
 |some i=>match i.desc,x,ix with
  |.string,.p (.s s),.p (.i _ m)=>(match NS s m with|some v=>dG o (.p v)|none=>none)
  |_,_,_=>none
 |none=>none
def rJ (o:Oper) (t:Nat) (x ix:AV) (h:Heap):Option ei:=
 match ty t with
 |some i=>match i.desc with
  |.slice el=>match ty el with
   |some j=>match x,ix with
    |.p (.sl sz xs),.p (.i _ n)=>match Nat.beq sz j.size with
     |true=>(match LC xs n with|some v=>dG o (.vp v.cells)|none=>none)
     |false=>none
    |.ar l,.p (.i _ n)=>match aG h l with
     |some (.arr xs)=>match Nat.beq j.size 1 with
      |true=>jL (decide (0≤n∧n.toNat<xs.length)) (tw o l (.ap l n.toNat))
      |false=>none
     |some (.cells cs)=>match Nat.beq j.size 1 with
      |true=>jL (decide (0≤n∧n.toNat<cs.length)) (tw o l (.ptr l n.toNat))
      |false=>none
     |_=>none
    |_,_=>none
   |none=>none
  |.array len el=>match ty el with
   |some j=>match x,ix with
    |.vp cs,.p (.i _ m)=>jL (decide (0≤m∧m<len)) (dG o (.vp (cs.drop (m.toNat*j.size))))
    |.ptr l off,.p (.i _ m)=>jL (decide (0≤m∧m<len)) (dG o (.ptr l (off+m.toNat*j.size)))
    |_,_=>none
   |none=>none
  |_=>none
 |none=>none
def M7 (o:Oper) (t:Nat) (x:AV) (h:Heap):Option ei:=
 match ty t with
 |some i=>match i.desc with
  |.slice _=>match x with
   |.p (.sl _ xs)=>dG o (.p (.i .i64 xs.length))
   |.so _ xs=>dG o (.p (.i .i64 xs.length))
   |.cu=>dG o (.p (.i .i64 0))
   |.es _=>dG o (.p (.i .i64 0))
   |.ar l=>match aG h l with
    |some (.arr xs)=>tw o l (.p (.i .i64 xs.length))
    |some (.cells cs)=>tw o l (.p (.i .i64 cs.length))
    |_=>none
   |_=>none
  |.string=>match x with
   |.p (.s x)=>dG o (.p (.i .i64 x.size))
   |_=>none
  |_=>none
 |none=>none
def BY (o:Oper) (e:Env) (h:Heap) (t t2:Nat) (x:Operand) (y:AV):Option ei:=
 match ty t,ez ty t2 with
 |some i,true=>match i.desc with
  |.slice el=>match ty el with
   |some j=>match Nat.beq (j.size*j.bytes) 0,Mr j.size y,o.dst with
    |false,some ys,some d=>match ev e x,x with
     |.cu,_=>jL (decide (ys.length*j.bytes≤140737488355328)) (some ⟨[],[(d,.so j.size ys)],[]⟩)
     |.so sz xs,.tmp s=>match Nat.beq sz j.size,Nat.beq s d with
      |true,false=>jL (decide ((xs.length+ys.length)*j.bytes≤140737488355328)) (some ⟨[],[(d,.so sz (xs++ys)),(s,.p (.sl sz xs))],[]⟩)
      |_,_=>none
     |_,_=>none
    |_,_,_=>none
   |none=>none
  |_=>none
 |_,_=>none
def wW (o:Oper) (e:Env) (t:Nat) (x:AV) (lo hi:Option Operand):Option ei:=
 match ty t with
 |some i=>match i.desc with
  |.slice el=>match ty el,x with
   |some j,.p (.sl sz xs)=>match Nat.beq sz j.size,fU e 0 lo,fU e xs.length hi with
    |true,some l,some u=>jL (decide (0≤l∧l≤u∧u≤xs.length)) (dG o (.p (.sl sz ((xs.take u.toNat).drop l.toNat))))
    |_,_,_=>none
   |_,_=>none
  |.string=>match x with
   |.p (.s s)=>match fU e 0 lo,fU e s.size hi with
    |some l,some u=>jL (decide (0≤l∧l≤u∧u≤s.size)) (dG o (.p (.s (OA s l.toNat u.toNat))))
    |_,_=>none
   |_=>none
  |_=>none
 |none=>none
def BF (o:Oper) (e:Env) (t s sz:Nat) (xs:List PV) (lo:Option Operand):Option ei:=
 match ty t,o.dst with
 |some i,some d=>match i.desc with
  |.slice el=>match ty el with
   |some j=>match Nat.beq sz j.size,Nat.beq s d,fU e 0 lo with
    |true,false,some l=>jL (decide (0≤l∧l≤xs.length)) (some ⟨[],[(d,.so sz (xs.drop l.toNat)),(s,.p (.sl sz xs))],[]⟩)
    |_,_,_=>none
   |none=>none
  |_=>none
 |_,_=>none
def FW (o:Oper) (si i:TI) (v:AV):Option ei:=match si.desc,i.desc,v.lS 1 with
 |.slice el,.string,some (.sl sz xs)=>match Nat.beq sz 1,ty el with
  |true,some j=>match j.desc with
   |.int .u8=>(match EW xs with|some y=>dG o (.p y)|none=>none)
   |_=>none
  |_,_=>none
 |_,_,_=>none
def MV (mv:Nat→Bool) (o:Oper) (e:Env) (h:Heap):Option ei:=
 match o.op with
 |.move (.tmp t)=>Hj o e t mv
 |.move x=>dG o (ev e x)
 |.assign (.tmp t)=>Hj o e t (fun _=>true)
 |.assign x=>dG o (ev e x)
 |.pick c a b=>match ev e c with
  |.p (.b g)=>(match g with|true=>dG o (ev e a).copy|false=>dG o (ev e b).copy)
  |_=>none
 |.alloc t=>match ty t,o.dst with
  |some i,some d=>match fh h d with
   |true=>some ⟨[],[(d,.ptr d 0)],[(d,.cells (dh i.zero))]⟩
   |false=>none
  |_,_=>none
 |.box _ x=>match o.dst with
  |some d=>match fh h d with
   |true=>match (ev e x).copy.cells? with
    |some cs=>some ⟨[],[(d,.ptr d 0)],[(d,.cells cs)]⟩
    |none=>none
   |false=>none
  |_=>none
 |.build t ⟨parts⟩=>FH ty o e t parts
 |.buildSlice t len ⟨parts⟩=>o9 ty o e h t len parts
 |.load t x=>KA ty o h t (ev e x) mv
 |.store t x y=>FT ty e h t (ev e x) y
 |.nilCheck x=>match ev e x with
  |.ptr l off=>dG o (.ptr l off)
  |.vp cs=>dG o (.vp cs)
  |.fn f a b=>dG o (.fn f a b)
  |_=>none
 |.binOp op t x (.const .nilIface) _=>match ev e x with
  |.v7 b=>match gi ty t,op with
   |true,.eql=>dG o (.p (.b (!b)))
   |true,.neq=>dG o (.p (.b b))
   |_,_=>none
  |_=>none
 |.binOp op t x y _=>NU ty o op t (ev e x) (ev e y)
 |.unOp op _ x=>P5 o op (ev e x)
 |.convert src dst x=>match ty src,ty dst,ev e x with
  |some _,some i,.p (.i _ n)=>match i.desc with
   |.int k=>dG o (.p (.i k (k.wrap n)))
   |_=>none
  |some _,some i,.p (.s x)=>match i.desc with
   |.string=>dG o (.p (.s x))
   |_=>none
  |some si,some i,v=>FW ty o si i v
  |_,_,_=>none
 |.makeFunc (.func f) ⟨first⟩ ⟨caps⟩=>dG o (.fn f (Gf e first) (Gf e caps))
 |.slice t (.tmp s) lo none none=>match aL e s with
  |.so sz xs=>BF ty o e t s sz xs lo
  |v=>wW ty o e t v.copy lo none
 |.slice t (.tmp s) none (some u) none=>match aL e s with
  |.ar l=>none
  |v=>wW ty o e t v.copy none (some u)
 |.slice t x lo hi none=>wW ty o e t (ev e x).copy lo hi
 |.fieldAddr s x f=>match gE ty s f with
  |some fd=>match ty fd.type with
   |some j=>match Nat.beq j.size 0,ev e x with
    |false,.ptr l off=>dG o (.ptr l (off+fd.offset))
    |false,.vp cs=>dG o (.vp (cs.drop fd.offset))
    |_,_=>none
   |none=>none
  |none=>none
 |.field t x f=>match gE ty t f with
  |some fd=>match ty fd.type with
   |some j=>match (ev e x).kN with
    |some cs=>match dr j.desc with
     |true=>match jb cs fd.offset j.size with
      |some l=>dG o (oX l j.csz)
      |none=>none
     |false=>match cs[fd.offset]? with
      |some v=>dG o v.copy
      |none=>none
    |none=>none
   |none=>none
  |none=>none
 |.indexAddr t x ix=>rJ ty o t (ev e x).copy (ev e ix) h
 |.extract x n=>match ev e x with
  |.cA vs=>match vs[n]? with
   |some v=>dG o v.copy
   |none=>none
  |_=>none
 |.call { callee:=.builtin .len,args:=⟨[x]⟩,argTypes:=⟨t::_⟩ }=>M7 ty o t (ev e x) h
 |.call { callee:=.builtin .append,args:=⟨[x,y]⟩,argTypes:=⟨[t,t2]⟩ }=>BY ty o e h t t2 x (ev e y)
 |.call { callee:=.builtin .min,args:=⟨[x,y]⟩,.. }=>match ev e x,ev e y with
  |.p (.i k a),.p (.i k' b)=>match decide (k=k') with
   |true=>dG o (.p (.i k (if b<a then b else a)))
   |false=>none
  |_,_=>none
 |.call { callee:=.builtin .max,args:=⟨[x,y]⟩,.. }=>match ev e x,ev e y with
  |.p (.i k a),.p (.i k' b)=>match decide (k=k') with
   |true=>dG o (.p (.i k (if a<b then b else a)))
   |false=>none
  |_,_=>none
 |.call { callee:=.builtin .max,args:=⟨[x,y,z]⟩,.. }=>match ev e x,ev e y,ev e z with
  |.p (.i k a),.p (.i k' b),.p (.i k2 c)=>match decide (k=k'),decide (k=k2) with
   |true,true=>dG o (.p (.i k (imax (imax a b) c)))
   |_,_=>none
  |_,_,_=>none
 |.call { callee:=.value x,args:=⟨az⟩,argTypes:=⟨ts⟩ }=>match ev e x with
  |.fn f first caps=>(match call f (first++gI ty e az ts++caps) h with|some (rd,hw,r)=>G1 o rd hw r|none=>none)
  |_=>none
 |.call { callee:=.invoke x name,args:=⟨az⟩,argTypes:=⟨ts⟩ }=>match ev e x with
  |.p (.uq T y)=>match Ci ty T name with
   |some f=>(match call f ([.p y]++gI ty e az ts++[]) h with|some (rd,hw,r)=>G1 o rd hw r|none=>none)
   |none=>none
  |_=>none
 |.makeSlice t a b=>none
 |.index t x ix=>Ey ty o t (ev e x) (ev e ix)
 |_=>none
end
theorem aE {o:Oper} {v:AV} {f:ei} {K:AK} (h:dG o v=some f) (hk:K f):ret o v K:=by
 unfold dG at h;unfold ret;split at h<;>cases h<;>simp_all [AV.force_eq]
theorem JW {o:Oper} {rd:List Nat} {hw:Heap} {v:AV} {f:ei} {K:AK} (h:G1 o rd hw v=some f) (hk:K f):zO o rd hw v K:=by
 unfold G1 at h;unfold zO;split at h<;>cases h<;>simp_all [AV.force_eq]
theorem bg {o:Oper} {l:Nat} {v:AV} {f:ei} {K:AK} (h:tw o l v=some f) (hk:K f):oD o l v K:=by
 unfold tw at h;unfold oD;split at h<;>cases h<;>simp_all [AV.force_eq]
theorem aD {c:Prop} [Decidable c] {X:Option ei} {f:ei} (h:jL (decide c) X=some f):c∧X=some f:=by
 unfold jL at h;split at h
 ·rename_i hd;exact⟨of_decide_eq_true hd,h⟩
 ·cases h
theorem cv {xs:List PV} {i:Int} {v:PV} {K:PV→Prop} (h:LC xs i=some v) (hk:K v):Bc xs i K:=by
 unfold LC at h;split at h
 ·exact⟨v,Int.natCast_nonneg _,h,hk⟩
 ·cases h
theorem fT {s:ByteArray} {m:Int} {v:PV} {K:PV→Prop} (h:NS s m=some v) (hk:K v):KV s m K:=by
 unfold NS at h;split at h
 ·rename_i l n
  split at h
  ·rename_i c hc;cases h;exact Oz (l:=l) (k:=n) rfl hc hk
  ·cases h
 ·cases h
theorem B7:∀(a b:List UInt8),Kk a b=(a==b)
 | [],[]=>rfl
 | [],_::_=>rfl
 |_::_,[]=>rfl
 |a::r,b::r'=>by
  rw[Kk,List.cons_beq_cons,←B7 r r']
  cases h:Nat.beq a.toNat b.toNat with
  |true=>
   have:a=b:=UInt8.toNat_inj.1 (Nat.eq_of_beq_eq_true h);subst this;simp
  |false=>
   have:(a==b)=false:=by rw[beq_eq_false_iff_ne];intro q;subst q;simp at h
   rw[this];rfl
theorem ey {op:BinOp} {x y:ByteArray} {v:PV} (h:Kn op x y=some v):M8 op x y=some v:=by
 unfold Kn at h;split at h
 ·rename_i a b;cases h;rw[B7,←s8];rfl
 ·rename_i a b;cases h;rw[B7,←s8];rfl
 ·cases h
theorem LZ (s:ByteArray) (i j:Nat):OA s i j=s.extract i j:=by
 obtain⟨⟨l⟩⟩:=s;exact(Jz l i j).symm
theorem IS:∀{xs:List PV} {ns:List Int},Pe xs=some ns→xs=ns.map (PV.i .u8)
 | [],_,h=>by cases h;rfl
 |x::r,ns,h=>by
  unfold Pe at h;split at h
  ·cases ‹_::_=[]›
  ·rename_i n r' he
   cases he;split at h
   ·rename_i l hl
    cases h;rw[IS hl];rfl
   ·cases h
  ·cases h
theorem dH {xs:List PV} {v:PV} {K:PV→Prop} (h:EW xs=some v) (hk:K v):KJ xs K:=by
 unfold EW at h;split at h
 ·rename_i ns hn;cases h;exact⟨ns,_,IS hn,rfl,hk⟩
 ·cases h
end Go.AM
end
section
namespace Go.AM
section
variable {ty:Nat→Option TI} {f:ei} {K:AK}
theorem KT {o:Oper} {e:Env} {t:Nat} {mv:Nat→Bool} (hx:Hj o e t mv=some f) (hk:K f):Ab o e t mv K:=by
 unfold Hj at hx;unfold Ab
 repeat' split at hx
 all_goals (try (cases hx;done))
 all_goals (try simp only[*])
 all_goals first|exact hk|(cases hx;exact hk)|exact aE hx hk|exact bg hx hk|exact⟨(aD hx).1,aE (aD hx).2 hk⟩|exact⟨(aD hx).1,bg (aD hx).2 hk⟩|(have h2:=(aD hx).2;cases h2;exact⟨(aD hx).1,hk⟩)|exact cv (by assumption) (aE hx hk)|exact cv (by assumption) (bg hx hk)|exact fT (by assumption) (aE hx hk)|exact dH (by assumption) (aE hx hk)|(rename_i l1 he;erw [he];exact aE hx hk)|(rename_i v he;erw [ey he];exact aE hx hk)
theorem IW {o:Oper} {h:Heap} {t:Nat} {a:AV} {mv:Nat→Bool} (hx:KA ty o h t a mv=some f) (hk:K f):CS ty o h t a mv K:=by
 unfold KA at hx;unfold CS
 repeat' split at hx
 all_goals (try (cases hx;done))
 all_goals (try simp only[*])
 all_goals first|exact hk|(cases hx;exact hk)|exact aE hx hk|exact bg hx hk|exact⟨(aD hx).1,aE (aD hx).2 hk⟩|exact⟨(aD hx).1,bg (aD hx).2 hk⟩|(have h2:=(aD hx).2;cases h2;exact⟨(aD hx).1,hk⟩)|exact cv (by assumption) (aE hx hk)|exact cv (by assumption) (bg hx hk)|exact fT (by assumption) (aE hx hk)|exact dH (by assumption) (aE hx hk)|(rename_i l1 he;erw [he];exact aE hx hk)|(rename_i v he;erw [ey he];exact aE hx hk)
theorem HM {e:Env} {h:Heap} {t:Nat} {a:AV} {y:Operand} (hx:FT ty e h t a y=some f) (hk:K f):xP ty e h t a y K:=by
 unfold FT at hx;unfold xP
 repeat' split at hx
 all_goals (try (cases hx;done))
 all_goals (try simp only[*])
 all_goals first|exact hk|(cases hx;exact hk)|exact aE hx hk|exact bg hx hk|exact⟨(aD hx).1,aE (aD hx).2 hk⟩|exact⟨(aD hx).1,bg (aD hx).2 hk⟩|(have h2:=(aD hx).2;cases h2;exact⟨(aD hx).1,hk⟩)|exact cv (by assumption) (aE hx hk)|exact cv (by assumption) (bg hx hk)|exact fT (by assumption) (aE hx hk)|exact dH (by assumption) (aE hx hk)|(rename_i l1 he;erw [he];exact aE hx hk)|(rename_i v he;erw [ey he];exact aE hx hk)
theorem HC {o:Oper} {e:Env} {t:Nat} {parts:List (Nat×Operand)} (hx:FH ty o e t parts=some f) (hk:K f):yh ty o e t parts K:=by
 unfold FH at hx;unfold yh
 repeat' split at hx
 all_goals (try (cases hx;done))
 all_goals (try simp only[*])
 all_goals first|exact hk|(cases hx;exact hk)|exact aE hx hk|exact bg hx hk|exact⟨(aD hx).1,aE (aD hx).2 hk⟩|exact⟨(aD hx).1,bg (aD hx).2 hk⟩|(have h2:=(aD hx).2;cases h2;exact⟨(aD hx).1,hk⟩)|exact cv (by assumption) (aE hx hk)|exact cv (by assumption) (bg hx hk)|exact fT (by assumption) (aE hx hk)|exact dH (by assumption) (aE hx hk)|(rename_i l1 he;erw [he];exact aE hx hk)|(rename_i v he;erw [ey he];exact aE hx hk)
theorem xD {o:Oper} {e:Env} {h:Heap} {t len:Nat} {parts:List (Nat×Operand)} (hx:o9 ty o e h t len parts=some f) (hk:K f):jI ty o e h t len parts K:=by
 unfold o9 at hx;unfold jI
 repeat' split at hx
 all_goals (try (cases hx;done))
 all_goals (try simp only[*])
 all_goals first|exact hk|(cases hx;exact hk)|exact aE hx hk|exact bg hx hk|exact⟨(aD hx).1,aE (aD hx).2 hk⟩|exact⟨(aD hx).1,bg (aD hx).2 hk⟩|(have h2:=(aD hx).2;cases h2;exact⟨(aD hx).1,hk⟩)|exact cv (by assumption) (aE hx hk)|exact cv (by assumption) (bg hx hk)|exact fT (by assumption) (aE hx hk)|exact dH (by assumption) (aE hx hk)|(rename_i l1 he;erw [he];exact aE hx hk)|(rename_i v he;erw [ey he];exact aE hx hk)
theorem NH {o:Oper} {op:UnOp} {x:AV} (hx:P5 o op x=some f) (hk:K f):On o op x K:=by
 unfold P5 at hx;unfold On
 repeat' split at hx
 all_goals (try (cases hx;done))
 all_goals (try simp only[*])
 all_goals first|exact hk|(cases hx;exact hk)|exact aE hx hk|exact bg hx hk|exact⟨(aD hx).1,aE (aD hx).2 hk⟩|exact⟨(aD hx).1,bg (aD hx).2 hk⟩|(have h2:=(aD hx).2;cases h2;exact⟨(aD hx).1,hk⟩)|exact cv (by assumption) (aE hx hk)|exact cv (by assumption) (bg hx hk)|exact fT (by assumption) (aE hx hk)|exact dH (by assumption) (aE hx hk)|(rename_i l1 he;erw [he];exact aE hx hk)|(rename_i v he;erw [ey he];exact aE hx hk)
theorem LH {o:Oper} {op:BinOp} {t:Nat} {x y:AV} (hx:NU ty o op t x y=some f) (hk:K f):I4 ty o op t x y K:=by
 unfold NU at hx;unfold I4
 repeat' split at hx
 all_goals (try (cases hx;done))
 all_goals (try simp only[*])
 all_goals first|exact hk|(cases hx;exact hk)|exact aE hx hk|exact bg hx hk|exact⟨(aD hx).1,aE (aD hx).2 hk⟩|exact⟨(aD hx).1,bg (aD hx).2 hk⟩|(have h2:=(aD hx).2;cases h2;exact⟨(aD hx).1,hk⟩)|exact cv (by assumption) (aE hx hk)|exact cv (by assumption) (bg hx hk)|exact fT (by assumption) (aE hx hk)|exact dH (by assumption) (aE hx hk)|(rename_i l1 he;erw [he];exact aE hx hk)|(rename_i v he;erw [ey he];exact aE hx hk)
theorem Iz {o:Oper} {t:Nat} {x ix:AV} (hx:Ey ty o t x ix=some f) (hk:K f):y7 ty o t x ix K:=by
 unfold Ey at hx;unfold y7
 repeat' split at hx
 all_goals (try (cases hx;done))
 all_goals (try simp only[*])
 all_goals first|exact hk|(cases hx;exact hk)|exact aE hx hk|exact bg hx hk|exact⟨(aD hx).1,aE (aD hx).2 hk⟩|exact⟨(aD hx).1,bg (aD hx).2 hk⟩|(have h2:=(aD hx).2;cases h2;exact⟨(aD hx).1,hk⟩)|exact cv (by assumption) (aE hx hk)|exact cv (by assumption) (bg hx hk)|exact fT (by assumption) (aE hx hk)|exact dH (by assumption) (aE hx hk)|(rename_i l1 he;erw [he];exact aE hx hk)|(rename_i v he;erw [ey he];exact aE hx hk)
theorem zQ {o:Oper} {t:Nat} {x ix:AV} {h:Heap} (hx:rJ ty o t x ix h=some f) (hk:K f):kX ty o t x ix h K:=by
 unfold rJ at hx;unfold kX
 repeat' split at hx
 all_goals (try (cases hx;done))
 all_goals (try simp only[*])
 all_goals first|exact hk|(cases hx;exact hk)|exact aE hx hk|exact bg hx hk|exact⟨(aD hx).1,aE (aD hx).2 hk⟩|exact⟨(aD hx).1,bg (aD hx).2 hk⟩|(have h2:=(aD hx).2;cases h2;exact⟨(aD hx).1,hk⟩)|exact cv (by assumption) (aE hx hk)|exact cv (by assumption) (bg hx hk)|exact fT (by assumption) (aE hx hk)|exact dH (by assumption) (aE hx hk)|(rename_i l1 he;erw [he];exact aE hx hk)|(rename_i v he;erw [ey he];exact aE hx hk)
theorem Lh {o:Oper} {t:Nat} {x:AV} {h:Heap} (hx:M7 ty o t x h=some f) (hk:K f):JB ty o t x h K:=by
 unfold M7 at hx;unfold JB
 repeat' split at hx
 all_goals (try (cases hx;done))
 all_goals (try simp only[*])
 all_goals first|exact hk|(cases hx;exact hk)|exact aE hx hk|exact bg hx hk|exact⟨(aD hx).1,aE (aD hx).2 hk⟩|exact⟨(aD hx).1,bg (aD hx).2 hk⟩|(have h2:=(aD hx).2;cases h2;exact⟨(aD hx).1,hk⟩)|exact cv (by assumption) (aE hx hk)|exact cv (by assumption) (bg hx hk)|exact fT (by assumption) (aE hx hk)|exact dH (by assumption) (aE hx hk)|(rename_i l1 he;erw [he];exact aE hx hk)|(rename_i v he;erw [ey he];exact aE hx hk)
theorem Fg {o:Oper} {e:Env} {h:Heap} {t t2:Nat} {x:Operand} {y:AV} (hx:BY ty o e h t t2 x y=some f) (hk:K f):tU ty o e h t t2 x y K:=by
 unfold BY at hx;unfold tU
 repeat' split at hx
 all_goals (try (cases hx;done))
 all_goals (try simp only[*])
 all_goals first|exact hk|(cases hx;exact hk)|exact aE hx hk|exact bg hx hk|exact⟨(aD hx).1,aE (aD hx).2 hk⟩|exact⟨(aD hx).1,bg (aD hx).2 hk⟩|(have h2:=(aD hx).2;cases h2;exact⟨(aD hx).1,hk⟩)|exact cv (by assumption) (aE hx hk)|exact cv (by assumption) (bg hx hk)|exact fT (by assumption) (aE hx hk)|exact dH (by assumption) (aE hx hk)|(rename_i l1 he;erw [he];exact aE hx hk)|(rename_i v he;erw [ey he];exact aE hx hk)
theorem AA {o:Oper} {e:Env} {t:Nat} {x:AV} {lo hi:Option Operand} (hx:wW ty o e t x lo hi=some f) (hk:K f):rX ty o e t x lo hi K:=by
 unfold wW at hx;unfold rX;simp only[LZ]at hx
 repeat' split at hx
 all_goals (try (cases hx;done))
 all_goals (try simp only[*])
 all_goals first|exact hk|(cases hx;exact hk)|exact aE hx hk|exact bg hx hk|exact⟨(aD hx).1,aE (aD hx).2 hk⟩|exact⟨(aD hx).1,bg (aD hx).2 hk⟩|(have h2:=(aD hx).2;cases h2;exact⟨(aD hx).1,hk⟩)|exact cv (by assumption) (aE hx hk)|exact cv (by assumption) (bg hx hk)|exact fT (by assumption) (aE hx hk)|exact dH (by assumption) (aE hx hk)|(rename_i l1 he;erw [he];exact aE hx hk)|(rename_i v he;erw [ey he];exact aE hx hk)
theorem Fp {o:Oper} {e:Env} {t s sz:Nat} {xs:List PV} {lo:Option Operand} (hx:BF ty o e t s sz xs lo=some f) (hk:K f):tX ty o e t s sz xs lo K:=by
 unfold BF at hx;unfold tX
 repeat' split at hx
 all_goals (try (cases hx;done))
 all_goals (try simp only[*])
 all_goals first|exact hk|(cases hx;exact hk)|exact aE hx hk|exact bg hx hk|exact⟨(aD hx).1,aE (aD hx).2 hk⟩|exact⟨(aD hx).1,bg (aD hx).2 hk⟩|(have h2:=(aD hx).2;cases h2;exact⟨(aD hx).1,hk⟩)|exact cv (by assumption) (aE hx hk)|exact cv (by assumption) (bg hx hk)|exact fT (by assumption) (aE hx hk)|exact dH (by assumption) (aE hx hk)|(rename_i l1 he;erw [he];exact aE hx hk)|(rename_i v he;erw [ey he];exact aE hx hk)
theorem Ig {o:Oper} {si i:TI} {v:AV} (hx:FW ty o si i v=some f) (hk:K f):xW ty o si i v K:=by
 unfold FW at hx;unfold xW
 repeat' split at hx
 all_goals (try (cases hx;done))
 all_goals (try simp only[*])
 all_goals first|exact hk|(cases hx;exact hk)|exact aE hx hk|exact bg hx hk|exact⟨(aD hx).1,aE (aD hx).2 hk⟩|exact⟨(aD hx).1,bg (aD hx).2 hk⟩|(have h2:=(aD hx).2;cases h2;exact⟨(aD hx).1,hk⟩)|exact cv (by assumption) (aE hx hk)|exact cv (by assumption) (bg hx hk)|exact fT (by assumption) (aE hx hk)|exact dH (by assumption) (aE hx hk)|(rename_i l1 he;erw [he];exact aE hx hk)|(rename_i v he;erw [ey he];exact aE hx hk)
end
end Go.AM
end
section
namespace Go.AM
section
variable {ty:Nat→Option TI} {call:Nat→List AV→Heap→Option (List Nat×Heap×AV)} {pc:Nat→List AV→Heap→(List Nat→Heap→AV→Prop)→Prop} {f:ei} {K:AK}
theorem LV (hc:∀g l H rd hw r,call g l H=some (rd,hw,r)→∀K:List Nat→Heap→AV→Prop,K rd hw r→pc g l H K) {mv:Nat→Bool} {o:Oper} {e:Env} {h:Heap} (hx:MV ty call mv o e h=some f) (hk:K f):JI ty pc mv o e h K:=by
 unfold MV at hx;unfold JI;split at hx
 all_goals (try (cases hx;done))
 all_goals (rename_i ho)
 all_goals (try simp only[ho])
 all_goals first|exact KT hx hk|exact aE hx hk|exact HC hx hk|exact xD hx hk|exact IW hx hk|exact HM hx hk|exact LH hx hk|exact NH hx hk|exact zQ hx hk|exact Lh hx hk|exact Fg hx hk|exact Iz hx hk|exact AA hx hk|skip
 all_goals (repeat' split at hx)
 all_goals (try (cases hx;done))
 all_goals (try simp only[*])
 all_goals first|exact hk|(cases hx;exact hk)|exact aE hx hk|exact Ig hx hk|exact Fp hx hk|exact AA hx hk|exact hc _ _ _ _ _ _ (by assumption) _ (JW hx hk)|skip
end
end Go.AM
end
