/- Contracts, and the law, for every input. No conditions. -/
import Derived.Test.YtldppkdekklpkaaGreatDoorAMUse
import Derived.Test.YtldppkdekklpkaaGreatDoorChecked
import Derived.Lib.Bytealg
set_option linter.all false
section
namespace Go.AM
theorem list_map {α β:Type} {enc:β→α} {Q:β→Prop}:∀(xs:List α),(∀x∈xs,∃d,x=enc d∧Q d)→∃l:List β,xs=l.map enc∧∀d∈l,Q d
 | [],_=>⟨[],rfl,by simp⟩
 |x::r,h=>by
  obtain⟨d,rfl,hq⟩:=h x (by simp);obtain⟨l,rfl,hl⟩:=list_map r (fun y hy=>h y (by simp[hy]));refine⟨d::l,rfl,fun y hy=>?_⟩;rcases List.mem_cons.1 hy with rfl|hy
  ·exact hq
  ·exact hl y hy
def isI64 (P:Program) (t:Nat) (k:IntKind):Bool:=match P.underlying t with|some (.int j)=>j==k|_=>false
def isStrT (P:Program) (t:Nat):Bool:=match P.underlying t with|some .string=>true|_=>false
def sliceT (P:Program) (t e cells bytes:Nat) (agg:Bool):Bool:=match P.underlying t with|some (.slice e')=>Nat.beq e' e&&Nat.beq (P.cellsOf e) cells&&Nat.beq (P.bytesOf e) bytes&&(aggT P e==agg)|_=>false
def structT (P:Program) (t n:Nat) (l:List (Nat×Nat×Nat)):Bool:=match P.underlying t with|some (.struct fs)=>Nat.beq (P.cellsOf t) n&&(fs.toList.map (fun f=>(f.offset,f.type,P.cellsOf f.type))==l)|_=>false
theorem tp_int {P:Program} {t:Nat} {k:IntKind} {x:List PV} (hu:isI64 P t k=true) (h:TP P t x):∃m,x=[.i k m]∧(Lit.int k m).wf=true:=by
 unfold isI64 at hu
 cases h with
 |int _ k' m h hw=>rw[h]at hu;simp only[beq_iff_eq]at hu;subst hu;exact⟨m,rfl,hw⟩
 |bool _ _ h=>rw[h]at hu;cases hu
 |str _ _ h=>rw[h]at hu;cases hu
 |sl _ _ _ h=>rw[h]at hu;cases hu
 |struct _ _ _ h=>rw[h]at hu;cases hu
 |array _ _ _ _ h=>rw[h]at hu;cases hu
theorem tp_str {P:Program} {t:Nat} {x:List PV} (hu:isStrT P t=true) (h:TP P t x):∃s,x=[.s s]∧s.size≤140737488351232:=by
 unfold isStrT at hu
 cases h with
 |str _ s h hb=>exact⟨s,rfl,hb⟩
 |bool _ _ h=>rw[h]at hu;cases hu
 |int _ _ _ h=>rw[h]at hu;cases hu
 |sl _ _ _ h=>rw[h]at hu;cases hu
 |struct _ _ _ h=>rw[h]at hu;cases hu
 |array _ _ _ _ h=>rw[h]at hu;cases hu
theorem tp_slice {P:Program} {t e c b:Nat} {agg:Bool} {x:List PV} (hu:sliceT P t e c b agg=true) (h:TP P t x):
 ∃xs,x=[.sl c xs]∧xs.length*b≤140737488351232∧(∀y∈xs,TP P e y.cells)∧∀y∈xs,(agg=true→∃cs,y=.agg cs)∧(agg=false→y.cells=[y]):=by
 unfold sliceT at hu
 cases h with
 |sl _ e' xs h hb hc ha=>
  rw[h]at hu;simp only[Bool.and_eq_true,beq_iff_eq]at hu;obtain⟨⟨⟨h1,h2⟩,h3⟩,h4⟩:=hu;obtain rfl:=Nat.eq_of_beq_eq_true h1;obtain rfl:=Nat.eq_of_beq_eq_true h2;obtain rfl:=Nat.eq_of_beq_eq_true h3;subst h4;exact⟨xs,rfl,hb,hc,ha⟩
 |bool _ _ h=>rw[h]at hu;cases hu
 |int _ _ _ h=>rw[h]at hu;cases hu
 |str _ _ h=>rw[h]at hu;cases hu
 |struct _ _ _ h=>rw[h]at hu;cases hu
 |array _ _ _ _ h=>rw[h]at hu;cases hu
theorem tp_struct {P:Program} {t n:Nat} {l:List (Nat×Nat×Nat)} {x:List PV} (hu:structT P t n l=true) (h:TP P t x):
 x.length=n∧∀p∈l,TP P p.2.1 ((x.drop p.1).take p.2.2):=by
 unfold structT at hu
 cases h with
 |struct _ fs xs h hl hf=>
  rw[h]at hu;simp only[Bool.and_eq_true,beq_iff_eq]at hu;obtain⟨h1,rfl⟩:=hu;obtain rfl:=Nat.eq_of_beq_eq_true h1;refine⟨hl,fun p hp=>?_⟩;obtain⟨f,hfm,rfl⟩:=List.mem_map.1 hp;exact hf f hfm
 |bool _ _ h=>rw[h]at hu;cases hu
 |int _ _ _ h=>rw[h]at hu;cases hu
 |str _ _ h=>rw[h]at hu;cases hu
 |sl _ _ _ h=>rw[h]at hu;cases hu
 |array _ _ _ _ h=>rw[h]at hu;cases hu
theorem tp_list {P:Program} {t e c b:Nat} {x:List PV} {β:Type} {enc:β→PV} {Q:β→Prop} (hu:sliceT P t e c b true=true) (h:TP P t x)
 (hd:∀cs,TP P e cs→∃d,PV.agg cs=enc d∧Q d):∃l:List β,x=[.sl c (l.map enc)]∧l.length*b≤140737488351232∧∀d∈l,Q d:=by
 obtain⟨xs,rfl,hb,hc,ha⟩:=tp_slice hu h
 obtain⟨l,rfl,hq⟩:=list_map (enc:=enc) (Q:=Q) xs (fun y hy=>by
  obtain⟨cs,rfl⟩:=(ha y hy).1 rfl;exact hd cs (hc _ hy))
 exact⟨l,rfl,by simpa using hb,hq⟩
theorem tp_list1 {P:Program} {t e c b:Nat} {x:List PV} {β:Type} {enc:β→PV} {Q:β→Prop} (hu:sliceT P t e c b false=true) (h:TP P t x)
 (hd:∀y,TP P e [y]→∃d,y=enc d∧Q d):∃l:List β,x=[.sl c (l.map enc)]∧l.length*b≤140737488351232∧∀d∈l,Q d:=by
 obtain⟨xs,rfl,hb,hc,ha⟩:=tp_slice hu h;obtain⟨l,rfl,hq⟩:=list_map (enc:=enc) (Q:=Q) xs (fun y hy=>hd y ((ha y hy).2 rfl ▸ hc y hy));exact⟨l,rfl,by simpa using hb,hq⟩
end Go.AM
namespace Go.AM
def plainTypes (P:Program):Nat→List Nat→List Nat→List Nat
 |0,_,acc=>acc
 |_+1,[],acc=>acc
 |n+1,t::r,acc=>if acc.contains t then plainTypes P n r acc else
  plainTypes P n ((match P.underlying t with
   |some (.slice e)=>[e]
   |some (.array _ e)=>[e]
   |some (.struct fs)=>fs.toList.map (·.type)
   |_=>[])++r) (acc++[t])
end Go.AM
end
section
namespace Go.AM
def slook {α:Type} (k:ByteArray):List (ByteArray×α)→Option α
 | []=>none
 |(a,v)::r=>bif k==a then some v else slook k r
def sput {α:Type} (k:ByteArray) (v:α):List (ByteArray×α)→List (ByteArray×α)
 | []=>[(k,v)]
 |(a,u)::r=>bif k==a then (k,v)::r else (a,u)::sput k v r
def eM {α:Type} (f:α→PV) (m:List (ByteArray×α)):List (PV×PV):=m.map fun p=>(.s p.1,f p.2)
theorem mfind_eM {α:Type} (f:α→PV) (k:ByteArray):∀(m:List (ByteArray×α)),mfind (.s k) (eM f m)=(slook k m).map f
 | []=>rfl
 |(a,v)::r=>by
  have ih:=mfind_eM f k r;simp only[eM,List.map_cons,mfind,pvEq,slook]at ih ⊢;cases k==a<;>simp[ih]
theorem mput_eM {α:Type} (f:α→PV) (k:ByteArray) (v:α):∀(m:List (ByteArray×α)),mput (.s k) (f v) (eM f m)=eM f (sput k v m)
 | []=>rfl
 |(a,u)::r=>by
  have ih:=mput_eM f k v r;simp only[eM,List.map_cons,mput,pvEq,sput]at ih ⊢;cases k==a<;>simp[ih]
def vB (b:Bool):PV:=.b b
theorem mlook_B (k:ByteArray) (m:List (ByteArray×Bool)):mlook (.s k) (.b false) (eM vB m)=(.b ((slook k m).getD false),(slook k m).isSome):=by
 unfold mlook;rw[mfind_eM];cases slook k m<;>rfl
theorem beq_bytes (a b:ByteArray):(a==b)=true↔a=b:=MapKept.bytes_beq a b
theorem bl_iff (a b:ByteArray):(a.toList==b.toList)=(a==b):=(beq_toListBytes a b).symm
end Go.AM
namespace Go.AM
abbrev Bs:=List UInt8
def B (l:Bs):ByteArray:=⟨l.toArray⟩
theorem B_size (l:Bs):(B l).size=l.length:=by simp[B,ByteArray.size]
theorem B_data (l:Bs):(B l).data.toList=l:=by simp[B]
theorem B_inj {a b:Bs} (h:B a=B b):a=b:=by have:=congrArg (fun s=>s.data.toList) h;simpa[B] using this
theorem B_get (l:Bs) (k:Nat):((B l)[k]?).getD 0=(l[k]?).getD 0:=by
 by_cases h:k<l.length
 ·have h1:k<(B l).size:=by rw[B_size];exact h
  rw[getElem?_pos (B l) k h1,List.getElem?_eq_getElem h];rfl
 ·have h1:¬k<(B l).size:=by rw[B_size];exact h
  rw[getElem?_neg (B l) k h1,List.getElem?_eq_none (by omega)]
theorem B_ext (l:Bs) (i j:Nat):(B l).extract i j=B ((l.drop i).take (j-i)):=by
 apply ByteArray.ext
 simp only[ByteArray.data_extract,B]
 apply Array.ext'
 simp[List.extract_eq_take_drop]
theorem B_beq (a b:Bs):((B a).toList==(B b).toList)=(a==b):=by
 rw[bl_iff]
 cases h:a==b with
 |true=>rw[beq_iff_eq]at h;rw[h];exact(beq_bytes _ _).2 rfl
 |false=>
  cases hq:B a==B b with
  |false=>rfl
  |true=>have:=B_inj ((beq_bytes _ _).1 hq);rw[this]at h;simp at h
def vU (b:UInt8):PV:=.i .u8 b.toNat
theorem asix {l:Bs} {m:Int} {k:Nat} {c:UInt8} {K:PV→Prop} (hm:m=k) (h:l[k]?=some c) (hk:K (vU c)):AStrI (B l) m K:=by
 obtain⟨h1,_⟩:=List.getElem?_eq_some_iff.1 h;subst hm;refine⟨vU c,⟨by omega,by rw[B_size];omega⟩,?_,hk⟩;rw[Int.toNat_natCast,B_get,h];rfl
end Go.AM
end
section
namespace Go.AM
def sw (x y l:Nat):Nat:=match Nat.beq l x with|true=>y|false=>match Nat.beq l y with|true=>x|false=>l
theorem sw_x (x y:Nat):sw x y x=y:=by simp[sw]
theorem sw_y (x y:Nat):sw x y y=x:=by
 by_cases h:y=x
 ·subst h;simp[sw]
 ·have:Nat.beq y x=false:=by cases hq:Nat.beq y x with|false=>rfl|true=>exact absurd (Nat.eq_of_beq_eq_true hq) h
  simp[sw,this]
theorem sw_o {x y l:Nat} (h1:l≠x) (h2:l≠y):sw x y l=l:=by
 have e1:Nat.beq l x=false:=by cases hq:Nat.beq l x with|false=>rfl|true=>exact absurd (Nat.eq_of_beq_eq_true hq) h1
 have e2:Nat.beq l y=false:=by cases hq:Nat.beq l y with|false=>rfl|true=>exact absurd (Nat.eq_of_beq_eq_true hq) h2
 simp[sw,e1,e2]
theorem sw_sw (x y l:Nat):sw x y (sw x y l)=l:=by
 by_cases h1:l=x
 ·subst h1;rw[sw_x,sw_y]
 ·by_cases h2:l=y
  ·subst h2;rw[sw_y,sw_x]
  ·rw[sw_o h1 h2,sw_o h1 h2]
def Owner.ren (σ:Nat→Nat):Owner→Owner
 |.obj l=>.obj (σ l)
 |.cell l j=>.cell (σ l) j
 |o=>o
def Gh.sw (g:Gh) (x y:Nat):Gh:=⟨g.pre,fun b=>(g.own b).map (Owner.ren (AM.sw x y)),fun l=>g.ρ (AM.sw x y l),g.σ,g.sown⟩
mutual
theorem within_ren (σ:Nat→Nat) (d:Nat→Bool):∀(x:AV),(x.ren σ).within d=x.within (fun l=>d (σ l))
 |.agg cs=>by simp only[AV.ren,AV.within];exact withins_ren σ d cs
 |.tup cs=>by simp only[AV.ren,AV.within];exact withins_ren σ d cs
 |.fn f a b=>by simp only[AV.ren,AV.within,withins_ren σ d a,withins_ren σ d b]
 |.ptr l off=>by simp[AV.ren,AV.within]
 |.mp l=>by simp[AV.ren,AV.within]
 |.ar l=>by simp[AV.ren,AV.within]
 |.ap l i=>by simp[AV.ren,AV.within]
 |.al _ l _ _=>by simp[AV.ren,AV.within]
 |.ep l _ _ _=>by simp[AV.ren,AV.within]
 |.tl l _ _ _=>by simp[AV.ren,AV.within]
 |.ifc _=>rfl
 |.top=>rfl
 |.p _=>rfl
 |.c _=>rfl
 |.nilS=>rfl
 |.es _=>rfl
 |.so _ _=>rfl
 |.vp _=>rfl
theorem withins_ren (σ:Nat→Nat) (d:Nat→Bool):∀(xs:List AV),AV.withins d (AV.rens σ xs)=AV.withins (fun l=>d (σ l)) xs
 | []=>rfl
 |x::r=>by simp only[AV.rens,AV.withins,within_ren σ d x,withins_ren σ d r]
end
theorem hget_zipF:∀(ll:List Nat) (f:Nat→Option AObj) (objs:List AObj),ll.map f=objs.map some→(∀l o,hget (ll.zip objs) l=some o→f l=some o∧∃j:Nat,objs[j]?=some o)∧∀l,l∈ll→(hget (ll.zip objs) l).isSome=true
 | [],h,[],_=>⟨fun l o q=>by simp[hget]at q,fun l hl=>by cases hl⟩
 | [],h,_::_,hh=>by simp at hh
 |x::r,h,[],hh=>by simp at hh
 |x::r,h,o::objs,hh=>by
  simp only[List.map_cons,List.cons.injEq]at hh;obtain⟨k1,k2⟩:=hget_zipF r h objs hh.2;simp only[List.zip_cons_cons];refine⟨fun l o' q=>?_,fun l hl=>?_⟩
  ·by_cases e1:x=l
   ·subst e1;rw[hget_self]at q;cases q;exact⟨hh.1,0,rfl⟩
   ·rw[hget_ne e1]at q
    obtain⟨q1,j,q2⟩:=k1 l o' q;exact⟨q1,j+1,by simpa using q2⟩
  ·by_cases e1:x=l
   ·subst e1;rw[hget_self];rfl
   ·rw[hget_ne e1]
    rcases List.mem_cons.1 hl with rfl|hl
    ·exact absurd rfl e1
    ·exact k2 l hl
def renO (σ:Nat→Nat):Option AObj→Option AObj
 |some o=>some (o.ren σ)
 |none=>none
def AtvR (x y:Nat) (lv ll:List Nat) (vals:List AV) (objs:List AObj) (e:Env) (h:Heap):Prop:=
 ll.map (fun l=>renO (sw x y) (hget h (sw x y l)))=objs.map some∧lv.map (fun i=>(eget e i).ren (sw x y))=vals∧AV.withins (memB ll) vals=true∧withinObjs (memB ll) objs=true∧((Nat.blt x bigId&&Nat.blt y bigId)&&!(stO (hget h x)||stO (hget h y)))=true
theorem Sim.swap {g:Gh} {w:World} {n:Nat} {a:Act} {e:Env} {h:Heap} (s:Sim g w n a e h) {x y:Nat} {lv ll:List Nat} {vals:List AV} {objs:List AObj} (ht:AtvR x y lv ll vals objs e h):
 Sim (g.sw x y) w n a (lv.zip vals) (ll.zip objs)∧Ext g w (g.sw x y) w:=by
 obtain⟨ho,hv,h1,h2,hb⟩:=ht;subst hv;rw[Bool.and_eq_true,Bool.not_eq_true',Bool.or_eq_false_iff]at hb;have hst0:=hb.2;replace hb:=hb.1;simp only[Bool.and_eq_true]at hb;have hx:x<bigId:=by have:=hb.1;simp[Nat.blt]at this;omega
 have hy:y<bigId:=by have:=hb.2;simp[Nat.blt]at this;omega
 obtain⟨k1,k2⟩:=hget_zipF ll (fun l=>renO (sw x y) (hget h (sw x y l))) objs ho;have hd:∀l,memB ll l=true→domOf (ll.zip objs) l:=fun l hl=>k2 l (memB_mem ll l hl)
 have turn:∀{ow ow2:Option Owner} {v:Value} {z:AV},(∀o,ow=some o→ow2=some (o.ren (sw x y)))→VRel g w (domOf h) ow v z→(z.ren (sw x y)).within (memB ll)=true→VRel (g.sw x y) w (domOf (ll.zip objs)) ow2 v (z.ren (sw x y)):=by
  intro ow ow2 v z how r hz;rw[within_ren]at hz;refine VRel.ren (g:=g) (g2:=g.sw x y) (sw x y) (fun l=>memB ll (sw x y l)) (fun _ _ _ q=>q) (fun l _ hl=>⟨hd _ hl,?_⟩) (fun o b e1 e2=>⟨_,how o e1,?_,rfl⟩) r hz
  ·show g.ρ (sw x y (sw x y l))=g.ρ l
   rw[sw_sw]
  ·show(g.own b).map _=_
   rw[e2];rfl
 refine⟨⟨s.defers,s.size,fun i=>?_,⟨fun l o hl=>?_,fun l o hl hsl=>?_,fun l o hl hsl=>?_⟩,fun b o hbo=>?_⟩,?_⟩
 ·rcases eget_zip lv (fun i=>(eget e i).ren (sw x y)) i with q|q
  ·rcases eget_zip_mem lv (lv.map (fun i=>(eget e i).ren (sw x y))) i with q'|⟨j,hj⟩
   ·rw[q'];exact .top _ _
   ·rw[q]at hj ⊢
    exact turn (fun o ho=>by cases ho;rfl) (s.env i) (withins_get _ _ h1 j _ hj)
  ·rw[q];exact .top _ _
 ·obtain⟨q1,j,q2⟩:=k1 l o hl
  have hw:=withinObjs_get _ _ h2 j o q2
  cases hg:hget h (sw x y l) with
  |none=>simp[hg,renO]at q1
  |some ob=>
   simp only[hg,renO,Option.some.injEq]at q1;subst q1
   cases s.heap.obj _ ob hg with
   |cells cs vs E hb hlen hx' h1'=>
    refine .cells _ vs E hb (by rw[rens_length];exact hlen) (fun j v c r1 r2=>?_) h1';rw[rens_get]at r2
    cases hq:cs[j]? with
    |none=>simp[hq]at r2
    |some c0=>
     simp only[hq,Option.map_some,Option.some.injEq]at r2;subst r2;refine turn (fun o ho=>by cases ho;simp[Owner.ren,sw_sw]) (hx' j v c0 r1 hq) (withins_get _ _ (show AV.withins (memB ll) (AV.rens (sw x y) cs)=true from hw) j _ (by rw[rens_get,hq];rfl))
   |arr xs vs E hb hlen hx' h1'=>exact .arr xs vs E hb hlen hx' h1'
   |map kd xs es clock hb hx' hc=>exact .map kd xs es clock hb hx' hc
   |gr st sz xs hgr=>exact .gr st sz xs fun q=>(hgr q).mono (fun _ _ _ hv=>hv) (fun _ _ hv=>hv)
   |dead=>exact .dead
   |bld T E2 bs2 hbl=>exact ORel.bldM hbl rfl rfl (fun bb hb2=>⟨by show(g.own bb).map _=_;rw[hb2];simp[Owner.ren,sw_sw],rfl,rfl⟩)
   |store T3 o3 sp3 nx3 z3 M3 hst=>
    have n1:sw x y l≠x:=fun q=>by rw[q]at hg;rw[hg]at hst0;cases hst0.1
    have n2:sw x y l≠y:=fun q=>by rw[q]at hg;rw[hg]at hst0;cases hst0.2
    have e2:sw x y l=l:=by have:=sw_o n1 n2;rw[sw_sw]at this;exact this.symm
    rw[e2]at hst;exact .store T3 o3 sp3 nx3 z3 M3 (hst.mono (fun _ _ _ q=>q) (fun bb hb2=>⟨by show(g.own bb).map _=_;rw[hb2];simp[Owner.ren,e2],rfl,rfl⟩) hst.sown)
   |glob gb gvs hgl=>exact ORel.globM hgl (fun h1 _ _=>⟨rfl,by show(g.own gb).map _=none;rw[h1];rfl⟩)
 ·obtain⟨q1,j,q2⟩:=k1 l o hl
  cases hg:hget h (sw x y l) with
  |none=>simp[hg,renO]at q1
  |some ob=>
   simp only[hg,renO,Option.some.injEq]at q1;subst q1;show(g.own (g.ρ (sw x y l))).map _=_;rw[s.heap.own _ ob hg (by rw[AObj.solid_ren]at hsl;exact hsl)];simp[Owner.ren,sw_sw]
 ·obtain⟨q1,j,q2⟩:=k1 l o hl
  cases hg:hget h (sw x y l) with
  |none=>simp[hg,renO]at q1
  |some ob=>
   simp only[hg,renO,Option.some.injEq]at q1;subst q1;exact s.heap.pre _ ob hg (by rw[AObj.solid_ren]at hsl;exact hsl)
 ·have hbo:(g.own b).map (Owner.ren (sw x y))=some o:=hbo
  cases hq:g.own b with
  |none=>simp[hq]at hbo
  |some o'=>exact s.bnd b o' hq
 ·refine⟨Nat.le_refl _,rfl,rfl,fun _ _ _ q=>q,fun b _ hn=>⟨rfl,rfl,?_⟩,SgLe.of rfl rfl,fun _ _=>rfl,fun l hl=>?_,fun b cs E hb=>⟨cs,E,hb,rfl⟩⟩
  ·show(g.own b).map _=none
   rw[hn];rfl
  ·show g.ρ (sw x y l)=g.ρ l
   rw[sw_o (by omega) (by omega)]
theorem loopR {P:Program} {ty:Nat→Option TI} {nt:Nat} (hty:TyOK P ty) (hmix:P.follows .mixedOrders=true) {c:Code} (hok:codeOK nt c=true) {K:Exit→Env→Heap→Prop} {σ:Type} (x y n:Nat) (lv ll:List Nat) (V:Nat→σ→List AV) (O:Nat→σ→List AObj) (Q:Nat→σ→Prop)
 {e:Env} {h:Heap} (s0:σ) (h0:Atv lv ll (V 0 s0) (O 0 s0) e h) (hQ:Q 0 s0)
 (round:∀k s,k≤n→Q k s→awp ty (pcall P) (lpOf P nt) c (fun ex e' h'=>match ex with|.normal=>k<n∧∃s',AtvR x y lv ll (V (k+1) s') (O (k+1) s') e' h'∧Q (k+1) s'|ex=>K ex e' h') (lv.zip (V k s)) (ll.zip (O k s))):lpOf P nt c K e h:=by
 have mask:∀{k s e h},Atv lv ll (V k s) (O k s) e h→∀g w a,Sim g w nt a e h→∃g2,Sim g2 w nt a (lv.zip (V k s)) (ll.zip (O k s))∧Ext g w g2 w:=by
  intro k s e h ha g w a hs;have:=hs.mask (lv:=lv) (ll:=ll) ha.1 (by rw[ha.2.1];exact ha.2.2.1) ha.2.2.2;rw[ha.2.1]at this;exact⟨g,this,Ext.refl g w⟩
 refine AWp.loop (K:=K) (fun m e h=>∃k s,m+k=n∧Q k s∧∀g w a,Sim g w nt a e h→∃g2,Sim g2 w nt a (lv.zip (V k s)) (ll.zip (O k s))∧Ext g w g2 w) (m:=n) ⟨0,s0,rfl,hQ,mask h0⟩ ?_;rintro m e h ⟨k,s,hk,hq,hsim⟩ g0 w0 g w a hs hE;obtain⟨g2,hs2,hE2⟩:=hsim g w a hs;refine wp_mono (awp_sound hty hmix c _ _ _ hok (round k s (by omega) hq) g0 w0 g2 w a hs2 (hE.trans hE2)) ?_;rintro ex a' w' ⟨g',e',h',hk',s'',hE'⟩;refine⟨g',e',h',?_,s'',hE'⟩
 cases ex with
 |normal=>
  obtain⟨hlt,s',ha,hq'⟩:=hk';exact⟨m-1,by omega,k+1,s',by omega,hq',fun g w a hs=>⟨_,hs.swap ha⟩⟩
 |_=>exact hk'
end Go.AM
end
section
open Go Go.AM Go.Proofs
namespace TR
theorem hmix:Tryz.prog.follows .mixedOrders=true:=by kernel_rfl
inductive Ty where
 |mk (kind:Int) (name:ByteArray) (args:List Ty)
inductive Pt where
 |mk (kind num:Int) (text:ByteArray) (args:List Pt)
mutual
inductive Ex where
 |mk (kind num:Int) (text:ByteArray) (names:List ByteArray) (types:List Ty) (args:List Ex) (arms:List Arm) (pos:Int)
inductive Arm where
 |mk (pat:Pt) (body:Ex)
end
def Ty.kind:Ty→Int|.mk k _ _=>k
def Ty.name:Ty→ByteArray|.mk _ n _=>n
def Ty.args:Ty→List Ty|.mk _ _ a=>a
def Pt.kind:Pt→Int|.mk k _ _ _=>k
def Pt.text:Pt→ByteArray|.mk _ _ t _=>t
def Pt.args:Pt→List Pt|.mk _ _ _ a=>a
def Ex.kind:Ex→Int|.mk k _ _ _ _ _ _ _=>k
def Ex.text:Ex→ByteArray|.mk _ _ t _ _ _ _ _=>t
def Ex.args:Ex→List Ex|.mk _ _ _ _ _ a _ _=>a
def Ex.arms:Ex→List Arm|.mk _ _ _ _ _ _ a _=>a
def Arm.pat:Arm→Pt|.mk p _=>p
def Arm.body:Arm→Ex|.mk _ e=>e
theorem Ty.ind {Q:Ty→Prop} (h:∀k n xs,(∀a∈xs,Q a)→Q (.mk k n xs)) (t:Ty):Q t:=
 Ty.rec (motive_1:=Q) (motive_2:=fun l=>∀a∈l,Q a) (fun k n xs ih=>h k n xs ih) (fun _ hb=>by cases hb) (fun a r h1 h2 b hb=>by
  rcases List.mem_cons.1 hb with hb|hb
  ·rw[hb];exact h1
  ·exact h2 b hb) t
theorem Pt.ind {Q:Pt→Prop} (h:∀k n t xs,(∀a∈xs,Q a)→Q (.mk k n t xs)) (t:Pt):Q t:=
 Pt.rec (motive_1:=Q) (motive_2:=fun l=>∀a∈l,Q a) (fun k n t xs ih=>h k n t xs ih) (fun _ hb=>by cases hb) (fun a r h1 h2 b hb=>by
  rcases List.mem_cons.1 hb with hb|hb
  ·rw[hb];exact h1
  ·exact h2 b hb) t
theorem Ex.ind {Q:Ex→Prop} (h:∀k n t ns ts xs ms p,(∀a∈xs,Q a)→(∀a∈ms,Q a.body)→Q (.mk k n t ns ts xs ms p)) (e:Ex):Q e:=
 Ex.rec (motive_1:=Q) (motive_2:=fun a=>Q a.body) (motive_3:=fun l=>∀a∈l,Q a) (motive_4:=fun l=>∀a∈l,Q a.body) (fun k n t ns ts xs ms p h1 h2=>h k n t ns ts xs ms p h1 h2) (fun _ _ h=>h)
  (fun _ hb=>by cases hb) (fun a r h1 h2 b hb=>by
    rcases List.mem_cons.1 hb with hb|hb
    ·rw[hb];exact h1
    ·exact h2 b hb)
  (fun _ hb=>by cases hb) (fun a r h1 h2 b hb=>by
    rcases List.mem_cons.1 hb with hb|hb
    ·rw[hb];exact h1
    ·exact h2 b hb) e
def eStr (s:ByteArray):PV:=.s s
mutual
def eT:Ty→PV
 |.mk k n xs=>.agg [.i .i64 k,.s n,.sl 3 (eTs xs)]
def eTs:List Ty→List PV
 | []=>[]
 |t::r=>eT t::eTs r
end
mutual
def eP:Pt→PV
 |.mk k n t xs=>.agg [.i .i64 k,.i .i64 n,.s t,.sl 4 (ePs xs)]
def ePs:List Pt→List PV
 | []=>[]
 |t::r=>eP t::ePs r
end
mutual
def eE:Ex→PV
 |.mk k n t ns ts xs ms p=>.agg [.i .i64 k,.i .i64 n,.s t,.sl 1 (ns.map eStr),.sl 3 (eTs ts),.sl 8 (eEs xs),.sl 12 (eAs ms),.i .i64 p]
def eA:Arm→PV
 |.mk p e=>.agg ((eP p).cells++(eE e).cells)
def eEs:List Ex→List PV
 | []=>[]
 |t::r=>eE t::eEs r
def eAs:List Arm→List PV
 | []=>[]
 |t::r=>eA t::eAs r
end
theorem eTs_map (l:List Ty):eTs l=l.map eT:=by
 induction l with
 |nil=>rfl
 |cons t r ih=>simp[eTs,ih]
theorem ePs_map (l:List Pt):ePs l=l.map eP:=by
 induction l with
 |nil=>rfl
 |cons t r ih=>simp[ePs,ih]
theorem eEs_map (l:List Ex):eEs l=l.map eE:=by
 induction l with
 |nil=>rfl
 |cons t r ih=>simp[eEs,ih]
theorem eAs_map (l:List Arm):eAs l=l.map eA:=by
 induction l with
 |nil=>rfl
 |cons t r ih=>simp[eAs,ih]
theorem eTs_get {l:List Ty} {k:Nat} {t:Ty} (h:l[k]?=some t):(eTs l)[k]?=some (eT t):=by rw[eTs_map];simp[h]
theorem eEs_get {l:List Ex} {k:Nat} {t:Ex} (h:l[k]?=some t):(eEs l)[k]?=some (eE t):=by rw[eEs_map];simp[h]
theorem eAs_get {l:List Arm} {k:Nat} {t:Arm} (h:l[k]?=some t):(eAs l)[k]?=some (eA t):=by rw[eAs_map];simp[h]
theorem eTs_len (l:List Ty):(eTs l).length=l.length:=by rw[eTs_map];simp
theorem eEs_len (l:List Ex):(eEs l).length=l.length:=by rw[eEs_map];simp
theorem eAs_len (l:List Arm):(eAs l).length=l.length:=by rw[eAs_map];simp
theorem eEs_app (l r:List Ex):eEs (l++r)=eEs l++eEs r:=by simp[eEs_map]
theorem wts_mem {x:PV}:∀{l:List PV},x∈l→PV.wt x≤PV.wts l
 | [],h=>by cases h
 |y::r,h=>by
  simp only[PV.wts];rcases List.mem_cons.1 h with rfl|h
  ·omega
  ·have:=wts_mem h;omega
theorem wts_len:∀{l:List PV},(∀x∈l,1≤PV.wt x)→l.length≤PV.wts l
 | [],_=>by simp[PV.wts]
 |y::r,h=>by
  have h1:=h y (by simp);have h2:=wts_len (l:=r) (fun x hx=>h x (by simp[hx]));simp only[PV.wts,List.length_cons];omega
theorem wt_cells (x:PV):PV.wts x.cells=PV.wt x:=by cases x<;>simp[PV.cells,PV.wts,PV.wt]
def wT (t:Ty):Nat:=PV.wt (eT t)
def wP (t:Pt):Nat:=PV.wt (eP t)
def wE (t:Ex):Nat:=PV.wt (eE t)
def wA (t:Arm):Nat:=PV.wt (eA t)
theorem wT_mk (k:Int) (n:ByteArray) (xs:List Ty):wT (.mk k n xs)=n.size+3+PV.wts (eTs xs):=by simp[wT,eT,PV.wt,PV.wts];omega
theorem wP_mk (k m:Int) (n:ByteArray) (xs:List Pt):wP (.mk k m n xs)=n.size+4+PV.wts (ePs xs):=by simp[wP,eP,PV.wt,PV.wts];omega
theorem wE_mk (k n:Int) (t:ByteArray) (ns:List ByteArray) (ts:List Ty) (xs:List Ex) (ms:List Arm) (p:Int):wE (.mk k n t ns ts xs ms p)=t.size+8+PV.wts (ns.map eStr)+PV.wts (eTs ts)+PV.wts (eEs xs)+PV.wts (eAs ms):=by
 simp[wE,eE,PV.wt,PV.wts];omega
theorem wA_mk (p:Pt) (e:Ex):wA (.mk p e)=wP p+wE e:=by simp[wA,eA,PV.wt,PV.wts_append,wt_cells,wP,wE]
theorem wE_pos (e:Ex):8≤wE e:=by cases e;rw[wE_mk];omega
theorem wP_pos (e:Pt):4≤wP e:=by cases e;rw[wP_mk];omega
theorem wT_pos (e:Ty):3≤wT e:=by cases e;rw[wT_mk];omega
theorem wA_pos (e:Arm):12≤wA e:=by obtain⟨p,e⟩:=e;rw[wA_mk];have:=wP_pos p;have:=wE_pos e;omega
theorem wEs_mem {x:Ex} {l:List Ex} (h:x∈l):wE x≤PV.wts (eEs l):=by rw[eEs_map];exact wts_mem (List.mem_map.2 ⟨x,h,rfl⟩)
theorem wTs_mem {x:Ty} {l:List Ty} (h:x∈l):wT x≤PV.wts (eTs l):=by rw[eTs_map];exact wts_mem (List.mem_map.2 ⟨x,h,rfl⟩)
theorem wAs_mem {x:Arm} {l:List Arm} (h:x∈l):wA x≤PV.wts (eAs l):=by rw[eAs_map];exact wts_mem (List.mem_map.2 ⟨x,h,rfl⟩)
theorem wEs_len (l:List Ex):l.length≤PV.wts (eEs l):=by
 have:=wts_len (l:=eEs l) (fun x hx=>by rw[eEs_map]at hx;obtain⟨y,_,rfl⟩:=List.mem_map.1 hx;have:=wE_pos y;unfold wE at this;omega)
 rwa [eEs_len]at this
theorem wTs_len (l:List Ty):l.length≤PV.wts (eTs l):=by
 have:=wts_len (l:=eTs l) (fun x hx=>by rw[eTs_map]at hx;obtain⟨y,_,rfl⟩:=List.mem_map.1 hx;have:=wT_pos y;unfold wT at this;omega)
 rwa [eTs_len]at this
theorem wAs_len (l:List Arm):l.length≤PV.wts (eAs l):=by
 have:=wts_len (l:=eAs l) (fun x hx=>by rw[eAs_map]at hx;obtain⟨y,_,rfl⟩:=List.mem_map.1 hx;have:=wA_pos y;unfold wA at this;omega)
 rwa [eAs_len]at this
theorem wSs_len (l:List ByteArray):l.length≤PV.wts (l.map eStr):=by
 have:=wts_len (l:=l.map eStr) (fun x hx=>by obtain⟨y,_,rfl⟩:=List.mem_map.1 hx;simp[eStr,PV.wt]);simpa using this
theorem wE_args {k n:Int} {t:ByteArray} {ns:List ByteArray} {ts:List Ty} {xs:List Ex} {ms:List Arm} {p:Int} {a:Ex} (h:a∈xs):wE a+8≤wE (.mk k n t ns ts xs ms p):=by have:=wEs_mem h;rw[wE_mk];omega
theorem wE_arms {k n:Int} {t:ByteArray} {ns:List ByteArray} {ts:List Ty} {xs:List Ex} {ms:List Arm} {p:Int} {a:Arm} (h:a∈ms):wA a+8≤wE (.mk k n t ns ts xs ms p):=by have:=wAs_mem h;rw[wE_mk];omega
theorem wA_body (a:Arm):wP a.pat+wE a.body=wA a:=by obtain⟨p,e⟩:=a;rw[wA_mk];rfl
theorem wE_body {k n:Int} {t:ByteArray} {ns:List ByteArray} {ts:List Ty} {xs:List Ex} {ms:List Arm} {p:Int} {a:Arm} (h:a∈ms):wP a.pat+wE a.body+8≤wE (.mk k n t ns ts xs ms p):=by rw[wA_body];exact wE_arms h
theorem wE_lens (k n:Int) (t:ByteArray) (ns:List ByteArray) (ts:List Ty) (xs:List Ex) (ms:List Arm) (p:Int):t.size+ns.length+ts.length+xs.length+ms.length+8≤wE (.mk k n t ns ts xs ms p):=by
 have:=wSs_len ns;have:=wTs_len ts;have:=wEs_len xs;have:=wAs_len ms;rw[wE_mk];omega
mutual
def psizeF:Pt→Nat
 |.mk _ _ _ xs=>1+psizeFs xs
def psizeFs:List Pt→Nat
 | []=>0
 |p::r=>psizeF p+psizeFs r
end
mutual
def walkF:Ex→List Ex
 |.mk k n t ns ts xs ms p=>.mk k n t ns ts xs ms p::(walkFs xs++walkFa ms)
def walkFs:List Ex→List Ex
 | []=>[]
 |e::r=>walkF e++walkFs r
def walkFa:List Arm→List Ex
 | []=>[]
 |.mk _ e::r=>walkF e++walkFa r
end
mutual
def sizeF:Ex→Nat
 |.mk _ _ _ _ _ xs ms _=>1+(sizeFs xs+sizeFa ms)
def sizeFs:List Ex→Nat
 | []=>0
 |e::r=>sizeF e+sizeFs r
def sizeFa:List Arm→Nat
 | []=>0
 |.mk p e::r=>psizeF p+sizeF e+sizeFa r
end
theorem walkFs_app (l r:List Ex):walkFs (l++r)=walkFs l++walkFs r:=by
 induction l with
 |nil=>simp[walkFs]
 |cons a l ih=>simp[walkFs,ih]
theorem walkFa_map (l:List Arm):walkFa l=walkFs (l.map Arm.body):=by
 induction l with
 |nil=>rfl
 |cons a l ih=>obtain⟨p,e⟩:=a;simp[walkFa,walkFs,ih,Arm.body]
mutual
theorem psize_le:∀(p:Pt),psizeF p≤wP p
 |.mk k n t xs=>by rw[psizeF,wP_mk];have:=psizes_le xs;omega
theorem psizes_le:∀(l:List Pt),psizeFs l≤PV.wts (ePs l)
 | []=>by simp[psizeFs]
 |p::r=>by have h1:=psize_le p;have h2:=psizes_le r;unfold wP at h1;simp only[psizeFs,ePs,PV.wts];omega
end
mutual
theorem size_le:∀(e:Ex),sizeF e≤wE e
 |.mk k n t ns ts xs ms p=>by rw[sizeF,wE_mk];have:=sizes_le xs;have:=sizea_le ms;omega
theorem sizes_le:∀(l:List Ex),sizeFs l≤PV.wts (eEs l)
 | []=>by simp[sizeFs]
 |p::r=>by have h1:=size_le p;have h2:=sizes_le r;unfold wE at h1;simp only[sizeFs,eEs,PV.wts];omega
theorem sizea_le:∀(l:List Arm),sizeFa l≤PV.wts (eAs l)
 | []=>by simp[sizeFa]
 |.mk p e::r=>by
  have h1:=size_le e;have h2:=sizea_le r;have h3:=psize_le p;have h4:=wA_mk p e;unfold wA at h4;simp only[sizeFa,eAs,PV.wts];omega
end
mutual
theorem walk_le:∀(e:Ex),(walkF e).length≤sizeF e
 |.mk k n t ns ts xs ms p=>by rw[walkF,sizeF];have:=walks_le xs;have:=walka_le ms;simp;omega
theorem walks_le:∀(l:List Ex),(walkFs l).length≤sizeFs l
 | []=>by simp[walkFs]
 |p::r=>by have h1:=walk_le p;have h2:=walks_le r;simp only[sizeFs,walkFs,List.length_append];omega
theorem walka_le:∀(l:List Arm),(walkFa l).length≤sizeFa l
 | []=>by simp[walkFa]
 |.mk p e::r=>by have h1:=walk_le e;have h2:=walka_le r;simp only[sizeFa,walkFa,List.length_append];omega
end
end TR
end
section
open Go Go.AM Go.Proofs
set_option maxRecDepth 100000
end
section
open Go Go.AM Go.Proofs
set_option maxRecDepth 100000
end
section
open Go Go.AM Go.Proofs
set_option maxRecDepth 100000
namespace TR
theorem cloneE_spec (l:List Ex) (h:l.length≤1048576):APure Tryz.prog 222 [.p (.sl 8 (eEs l))] (.so 8 (eEs l)):=by
 cases l with
 |nil=>
  refine APure.nilOrNot (pre:=[]) (post:=[]) (sz:=8) ?_ ?_
  ·refine APure.intro (tyOf_ok Tryz.prog) hmix Tryz.func222 rfl (by rfl) (by kernel_rfl) (by show 1≤_;decide) rfl ?_
   (conv=>whnf);exact .inl rfl
  ·refine APure.intro (tyOf_ok Tryz.prog) hmix Tryz.func222 rfl (by rfl) (by kernel_rfl) (by show 1≤_;decide) rfl ?_
   (conv=>whnf);refine aneed (by decide) ?_;(conv=>whnf);exact .inl rfl
 |cons a r=>
  refine APure.intro (tyOf_ok Tryz.prog) hmix Tryz.func222 rfl (by rfl) (by kernel_rfl) (by show 1≤_;decide) rfl ?_;(conv=>whnf);refine aneed (show(([]:List PV).length+(eEs (a::r)).length)*136≤140737488355328 by rw[eEs_len];simp at h ⊢;omega) ?_;(conv=>whnf);exact .inl rfl
def partsF (e:Ex):List Ex:=e.args++e.arms.map Arm.body
theorem parts_spec (e:Ex) (he:wE e≤1048576):APure Tryz.prog 175 [.p (eE e)] (.p (.sl 8 (eEs (partsF e)))):=by
 obtain⟨k0,n0,t0,ns0,ts0,as0,ms0,p0⟩:=e;have hl:=wE_lens k0 n0 t0 ns0 ts0 as0 ms0 p0;have hcl:=cloneE_spec as0 (by omega);refine APure.intro (tyOf_ok Tryz.prog) hmix Tryz.func175 rfl (by rfl) (by kernel_rfl) (by show 1≤_;decide) rfl ?_;(conv=>whnf);refine apc hcl ?_;(conv=>whnf);refine loopS (tyOf_ok _) hmix (by kernel_rfl) ms0.length [3,10,11,12] [] (fun k (s:List Ex)=>[.so 8 (eEs s),.p (.sl 12 (eAs ms0)),.p (.i .i64 (eAs ms0).length),.p (.i .i64 (ix k))]) (fun _ _=>[]) (fun k s=>s=as0++(ms0.map Arm.body).take k) as0 ⟨rfl,rfl,rfl,rfl⟩ (by simp) ?_;intro k s hk hs;have hsl:s.length≤2097152:=by rw[hs];simp;omega
 (conv=>whnf);refine asplit ?_ ?_<;>intro h1<;>conv=>whnf
 ·have hk1:=ix_tt h1 (by rw[eAs_len]) hk (by omega)
  obtain⟨b,hb1⟩:∃b,ms0[k]?=some b:=⟨ms0[k],by simp[hk1]⟩
  refine aidxk (eAs_get hb1) (by omega) ?_;have hb2:(ms0.map Arm.body)[k]?=some b.body:=by rw[List.getElem?_map,hb1];rfl
  have hts:=take_snoc hb2;obtain⟨⟨ck,cn,ct,ca⟩,⟨c1,c2,c3,c4,c5,c6,c7,c8⟩⟩:=b;(conv=>whnf);refine aneed (show((eEs s).length+1)*136≤140737488355328 by rw[eEs_len];omega) ?_;(conv=>whnf);refine⟨hk1,s++[Ex.mk c1 c2 c3 c4 c5 c6 c7 c8],⟨rfl,?_,rfl,rfl⟩,by rw[hts,hs];simp[Arm.body]⟩;rw[eEs_app];rfl
 ·have hk1:=ix_ff h1 (by rw[eAs_len]) hk (by omega)
  have hs2:s=partsF (Ex.mk k0 n0 t0 ns0 ts0 as0 ms0 p0):=by rw[hs,hk1,List.take_of_length_le (by simp)];rfl
  subst hs2;exact .inr (.inl rfl)
def fnV:AV:=.fn 111 [] [.ptr 1000000000 0,.ptr 1000000001 0]
def WalkS (e:Ex):Prop:=∀xs:List Ex,xs.length+(walkF e).length≤1048576→AMem Tryz.prog 111 [.p (eE e),.ptr 1000000000 0,.ptr 1000000001 0] [(1000000000,.cells [.al false 1000000002 8 xs.length]),(1000000001,.cells [fnV]),(1000000002,.gr false 8 (eEs xs))] (.tup []) [(1000000000,.cells [.al false 12 8 (xs++walkF e).length]),(1000000001,.cells [fnV]),(1000000002,.dead),(12,.gr false 8 (eEs (xs++walkF e)))]
theorem walk1_all (e:Ex) (he:wE e≤1048576) (ih1:∀a∈e.args,WalkS a) (ih2:∀a∈e.arms,WalkS a.body):WalkS e:=by
 intro xs hxs;obtain⟨k0,n0,t0,ns0,ts0,as0,ms0,p0⟩:=e;have hl:=wE_lens k0 n0 t0 ns0 ts0 as0 ms0 p0;simp only[Ex.args,Ex.arms]at ih1 ih2;have hWe:walkF (Ex.mk k0 n0 t0 ns0 ts0 as0 ms0 p0)=Ex.mk k0 n0 t0 ns0 ts0 as0 ms0 p0::(walkFs as0++walkFs (ms0.map Arm.body)):=by rw[walkF,walkFa_map]
 rw[hWe]at hxs ⊢;simp only[List.length_cons,List.length_append]at hxs;refine AMem.intro (tyOf_ok Tryz.prog) hmix Tryz.func111 rfl (by rfl) (by kernel_rfl) (by show 3≤_;decide) rfl ?_;(conv=>whnf);refine aneed (show xs.length=(eEs xs).length∧((eEs xs).length+1)*136≤140737488355328 from⟨by rw[eEs_len],by rw[eEs_len];omega⟩) ?_;(conv=>whnf);refine aneed ⟨by omega,by simp⟩ ?_;(conv=>whnf);refine aneed (by simp[eEs_len]) ?_;(conv=>whnf)
 first|refine aneed (.inl (by kernel_rfl)) ?_|refine aneed (by kernel_rfl) ?_
 conv=>whnf
 refine loopR (tyOf_ok _) hmix (by kernel_rfl) 12 10012 as0.length [1,2,3,15,16,17] [1000000000,1000000001,1000000002,12,3] (fun k (s:List Ex)=>[.ptr 1000000000 0,.ptr 1000000001 0,.ptr 3 0,.p (.sl 8 (eEs as0)),.p (.i .i64 (eEs as0).length),.p (.i .i64 (ix k))])
  (fun k s=>[.cells [.al false 12 8 s.length],.cells [fnV],.dead,.gr false 8 (eEs s),.cells [.p (.i .i64 k0),.p (.i .i64 n0),.p (.s t0),.p (.sl 1 (ns0.map eStr)),.p (.sl 3 (eTs ts0)),.p (.sl 8 (eEs as0)),.p (.sl 12 (eAs ms0)),.p (.i .i64 p0)]]) (fun k s=>s=xs++[Ex.mk k0 n0 t0 ns0 ts0 as0 ms0 p0]++walkFs (as0.take k)) (xs++[Ex.mk k0 n0 t0 ns0 ts0 as0 ms0 p0]) ⟨?_,rfl,rfl,rfl⟩ (by simp[walkFs]) ?_
 ·show _=[some (AObj.cells [.al false 12 8 (xs++[Ex.mk k0 n0 t0 ns0 ts0 as0 ms0 p0]).length]),some (AObj.cells [fnV]),some AObj.dead,some (AObj.gr false 8 (eEs (xs++[Ex.mk k0 n0 t0 ns0 ts0 as0 ms0 p0]))),_]
  rw[show eEs (xs++[Ex.mk k0 n0 t0 ns0 ts0 as0 ms0 p0])=(eEs xs++[eE (Ex.mk 0 0 ⟨#[]⟩ [] [] [] [] 0)]).set xs.length (eE (Ex.mk k0 n0 t0 ns0 ts0 as0 ms0 p0)) by rw[eEs_app,←eEs_len xs];simp[eEs],List.length_append];rfl
 intro k s hk hs;(conv=>whnf);refine asplit ?_ ?_<;>intro h1<;>conv=>whnf
 ·have hk1:=ix_tt h1 (by rw[eEs_len]) hk (by omega)
  obtain⟨b,hb1⟩:∃b,as0[k]?=some b:=⟨as0[k],by simp[hk1]⟩
  refine aidxk (eEs_get hb1) (by omega) ?_;have hts:walkFs (as0.take (k+1))=walkFs (as0.take k)++walkF b:=by rw[take_snoc hb1,walkFs_app];simp[walkFs]
  have htl:(walkFs (as0.take (k+1))).length≤(walkFs as0).length:=by
   have:=walkFs_app (as0.take (k+1)) (as0.drop (k+1));rw[List.take_append_drop]at this;rw[this];simp
  have hc:=ih1 b (List.mem_of_getElem? hb1) s (by rw[hs];rw[hts]at htl;simp at htl ⊢;omega);generalize walkF b=wb at hc hts;obtain⟨b1,b2,b3,b4,b5,b6,b7,b8⟩:=b;(conv=>whnf);refine amc [1000000000,1000000001,12] 10000 hc ?_;(conv=>whnf);refine⟨hk1,s++wb,⟨rfl,rfl,rfl,rfl,rfl⟩,?_⟩;rw[hts,hs];simp
 ·have hk1:=ix_ff h1 (by rw[eEs_len]) hk (by omega)
  have hs2:s=xs++[Ex.mk k0 n0 t0 ns0 ts0 as0 ms0 p0]++walkFs as0:=by rw[hs,hk1,List.take_length]
  refine loopR (tyOf_ok _) hmix (by kernel_rfl) 12 10012 ms0.length [1,2,3,26,27,28] [1000000000,1000000001,1000000002,12,3] (fun k (s:List Ex)=>[.ptr 1000000000 0,.ptr 1000000001 0,.ptr 3 0,.p (.sl 12 (eAs ms0)),.p (.i .i64 (eAs ms0).length),.p (.i .i64 (ix k))])
   (fun k s=>[.cells [.al false 12 8 s.length],.cells [fnV],.dead,.gr false 8 (eEs s),.cells [.p (.i .i64 k0),.p (.i .i64 n0),.p (.s t0),.p (.sl 1 (ns0.map eStr)),.p (.sl 3 (eTs ts0)),.p (.sl 8 (eEs as0)),.p (.sl 12 (eAs ms0)),.p (.i .i64 p0)]]) (fun k s=>s=xs++[Ex.mk k0 n0 t0 ns0 ts0 as0 ms0 p0]++walkFs as0++walkFs ((ms0.map Arm.body).take k)) s ⟨rfl,rfl,rfl,rfl⟩ (by simp[walkFs,hs2]) ?_
  intro j s3 hj hs3;(conv=>whnf);refine asplit ?_ ?_<;>intro h2<;>conv=>whnf
  ·have hj1:=ix_tt h2 (by rw[eAs_len]) hj (by omega)
   obtain⟨b,hb1⟩:∃b,ms0[j]?=some b:=⟨ms0[j],by simp[hj1]⟩
   refine aidxk (eAs_get hb1) (by omega) ?_;have hb2:(ms0.map Arm.body)[j]?=some b.body:=by rw[List.getElem?_map,hb1];rfl
   have hts:walkFs ((ms0.map Arm.body).take (j+1))=walkFs ((ms0.map Arm.body).take j)++walkF b.body:=by rw[take_snoc hb2,walkFs_app];simp[walkFs]
   have htl:(walkFs ((ms0.map Arm.body).take (j+1))).length≤(walkFs (ms0.map Arm.body)).length:=by
    have:=walkFs_app ((ms0.map Arm.body).take (j+1)) ((ms0.map Arm.body).drop (j+1));rw[List.take_append_drop]at this;rw[this];simp
   have hc:=ih2 b (List.mem_of_getElem? hb1) s3 (by rw[hs3];rw[hts]at htl;simp at htl ⊢;omega);generalize walkF b.body=wb at hc hts;obtain⟨⟨ck,cn,ct,ca⟩,⟨c1,c2,c3,c4,c5,c6,c7,c8⟩⟩:=b;(conv=>whnf);refine amc [1000000000,1000000001,12] 10000 hc ?_;(conv=>whnf);refine⟨hj1,s3++wb,⟨rfl,rfl,rfl,rfl,rfl⟩,?_⟩;rw[hts,hs3];simp
  ·have hj1:=ix_ff h2 (by rw[eAs_len]) hj (by omega)
   have hs4:s3=xs++(Ex.mk k0 n0 t0 ns0 ts0 as0 ms0 p0::(walkFs as0++walkFs (ms0.map Arm.body))):=by rw[hs3,hj1,List.take_of_length_le (by simp)];simp
   subst hs4;exact⟨.inl rfl,⟨.inl rfl,trivial⟩,⟨.inl rfl,trivial⟩,trivial,⟨rfl,rfl,rfl⟩,trivial⟩
theorem walk1n_spec (e:Ex) (he:wE e≤1048576) (ih1:∀a∈e.args,WalkS a) (ih2:∀a∈e.arms,WalkS a.body) (hxs:(walkF e).length≤1048576):AMem Tryz.prog 111 [.p (eE e),.ptr 1000000000 0,.ptr 1000000001 0] [(1000000000,.cells [.nilS]),(1000000001,.cells [fnV])] (.tup []) [(1000000000,.cells [.al false 12 8 (walkF e).length]),(1000000001,.cells [fnV]),(12,.gr false 8 (eEs (walkF e)))]:=by
 obtain⟨k0,n0,t0,ns0,ts0,as0,ms0,p0⟩:=e;have hl:=wE_lens k0 n0 t0 ns0 ts0 as0 ms0 p0;simp only[Ex.args,Ex.arms]at ih1 ih2;have hWe:walkF (Ex.mk k0 n0 t0 ns0 ts0 as0 ms0 p0)=Ex.mk k0 n0 t0 ns0 ts0 as0 ms0 p0::(walkFs as0++walkFs (ms0.map Arm.body)):=by rw[walkF,walkFa_map]
 rw[hWe]at hxs ⊢;simp only[List.length_cons,List.length_append]at hxs;refine AMem.intro ((tyOf_ok Tryz.prog).hint 59 [12]) hmix Tryz.func111 rfl (by rfl) (by kernel_rfl) (by show 3≤_;decide) rfl ?_;(conv=>whnf);refine aneed (show 1*136≤140737488355328 by decide) ?_;(conv=>whnf);refine aneed ⟨by omega,by decide⟩ ?_;(conv=>whnf);refine aneed (by decide) ?_;(conv=>whnf)
 first|refine aneed (.inl (by kernel_rfl)) ?_|refine aneed (by kernel_rfl) ?_
 conv=>whnf
 refine loopR (tyOf_ok _) hmix (by kernel_rfl) 12 10012 as0.length [1,2,3,15,16,17] [1000000000,1000000001,12,3] (fun k (s:List Ex)=>[.ptr 1000000000 0,.ptr 1000000001 0,.ptr 3 0,.p (.sl 8 (eEs as0)),.p (.i .i64 (eEs as0).length),.p (.i .i64 (ix k))])
  (fun k s=>[.cells [.al false 12 8 s.length],.cells [fnV],.gr false 8 (eEs s),.cells [.p (.i .i64 k0),.p (.i .i64 n0),.p (.s t0),.p (.sl 1 (ns0.map eStr)),.p (.sl 3 (eTs ts0)),.p (.sl 8 (eEs as0)),.p (.sl 12 (eAs ms0)),.p (.i .i64 p0)]]) (fun k s=>s=([]:List Ex)++[Ex.mk k0 n0 t0 ns0 ts0 as0 ms0 p0]++walkFs (as0.take k)) (([]:List Ex)++[Ex.mk k0 n0 t0 ns0 ts0 as0 ms0 p0]) ⟨?_,rfl,rfl,rfl⟩ (by simp[walkFs]) ?_
 ·show _=[some (AObj.cells [.al false 12 8 (([]:List Ex)++[Ex.mk k0 n0 t0 ns0 ts0 as0 ms0 p0]).length]),some (AObj.cells [fnV]),some (AObj.gr false 8 (eEs (([]:List Ex)++[Ex.mk k0 n0 t0 ns0 ts0 as0 ms0 p0]))),_]
  rfl
 intro k s hk hs;(conv=>whnf);refine asplit ?_ ?_<;>intro h1<;>conv=>whnf
 ·have hk1:=ix_tt h1 (by rw[eEs_len]) hk (by omega)
  obtain⟨b,hb1⟩:∃b,as0[k]?=some b:=⟨as0[k],by simp[hk1]⟩
  refine aidxk (eEs_get hb1) (by omega) ?_;have hts:walkFs (as0.take (k+1))=walkFs (as0.take k)++walkF b:=by rw[take_snoc hb1,walkFs_app];simp[walkFs]
  have htl:(walkFs (as0.take (k+1))).length≤(walkFs as0).length:=by
   have:=walkFs_app (as0.take (k+1)) (as0.drop (k+1));rw[List.take_append_drop]at this;rw[this];simp
  have hc:=ih1 b (List.mem_of_getElem? hb1) s (by rw[hs];rw[hts]at htl;simp at htl ⊢;omega);generalize walkF b=wb at hc hts;obtain⟨b1,b2,b3,b4,b5,b6,b7,b8⟩:=b;(conv=>whnf);refine amc [1000000000,1000000001,12] 10000 hc ?_;(conv=>whnf);refine⟨hk1,s++wb,⟨rfl,rfl,rfl,rfl,rfl⟩,?_⟩;rw[hts,hs];simp
 ·have hk1:=ix_ff h1 (by rw[eEs_len]) hk (by omega)
  have hs2:s=([]:List Ex)++[Ex.mk k0 n0 t0 ns0 ts0 as0 ms0 p0]++walkFs as0:=by rw[hs,hk1,List.take_length]
  refine loopR (tyOf_ok _) hmix (by kernel_rfl) 12 10012 ms0.length [1,2,3,26,27,28] [1000000000,1000000001,12,3] (fun k (s:List Ex)=>[.ptr 1000000000 0,.ptr 1000000001 0,.ptr 3 0,.p (.sl 12 (eAs ms0)),.p (.i .i64 (eAs ms0).length),.p (.i .i64 (ix k))])
   (fun k s=>[.cells [.al false 12 8 s.length],.cells [fnV],.gr false 8 (eEs s),.cells [.p (.i .i64 k0),.p (.i .i64 n0),.p (.s t0),.p (.sl 1 (ns0.map eStr)),.p (.sl 3 (eTs ts0)),.p (.sl 8 (eEs as0)),.p (.sl 12 (eAs ms0)),.p (.i .i64 p0)]]) (fun k s=>s=([]:List Ex)++[Ex.mk k0 n0 t0 ns0 ts0 as0 ms0 p0]++walkFs as0++walkFs ((ms0.map Arm.body).take k)) s ⟨rfl,rfl,rfl,rfl⟩ (by simp[walkFs,hs2]) ?_
  intro j s3 hj hs3;(conv=>whnf);refine asplit ?_ ?_<;>intro h2<;>conv=>whnf
  ·have hj1:=ix_tt h2 (by rw[eAs_len]) hj (by omega)
   obtain⟨b,hb1⟩:∃b,ms0[j]?=some b:=⟨ms0[j],by simp[hj1]⟩
   refine aidxk (eAs_get hb1) (by omega) ?_;have hb2:(ms0.map Arm.body)[j]?=some b.body:=by rw[List.getElem?_map,hb1];rfl
   have hts:walkFs ((ms0.map Arm.body).take (j+1))=walkFs ((ms0.map Arm.body).take j)++walkF b.body:=by rw[take_snoc hb2,walkFs_app];simp[walkFs]
   have htl:(walkFs ((ms0.map Arm.body).take (j+1))).length≤(walkFs (ms0.map Arm.body)).length:=by
    have:=walkFs_app ((ms0.map Arm.body).take (j+1)) ((ms0.map Arm.body).drop (j+1));rw[List.take_append_drop]at this;rw[this];simp
   have hc:=ih2 b (List.mem_of_getElem? hb1) s3 (by rw[hs3];rw[hts]at htl;simp at htl ⊢;omega);generalize walkF b.body=wb at hc hts;obtain⟨⟨ck,cn,ct,ca⟩,⟨c1,c2,c3,c4,c5,c6,c7,c8⟩⟩:=b;(conv=>whnf);refine amc [1000000000,1000000001,12] 10000 hc ?_;(conv=>whnf);refine⟨hj1,s3++wb,⟨rfl,rfl,rfl,rfl,rfl⟩,?_⟩;rw[hts,hs3];simp
  ·have hj1:=ix_ff h2 (by rw[eAs_len]) hj (by omega)
   have hs4:s3=(Ex.mk k0 n0 t0 ns0 ts0 as0 ms0 p0::(walkFs as0++walkFs (ms0.map Arm.body))):=by rw[hs3,hj1,List.take_of_length_le (by simp)];simp
   subst hs4;exact⟨.inl rfl,⟨.inl rfl,trivial⟩,⟨.inl rfl,trivial⟩,⟨rfl,rfl,rfl⟩,trivial⟩
theorem walk1_spec (e:Ex):wE e≤1048576→WalkS e:=
 Ex.ind (Q:=fun e=>wE e≤1048576→WalkS e) (fun k n t ns ts xs ms p h1 h2 h=>walk1_all (.mk k n t ns ts xs ms p) h (fun a ha=>h1 a ha (by have:=wE_args (k:=k) (n:=n) (t:=t) (ns:=ns) (ts:=ts) (ms:=ms) (p:=p) (show a∈xs from ha);omega))
  (fun a ha=>h2 a ha (by have:=wE_body (k:=k) (n:=n) (t:=t) (ns:=ns) (ts:=ts) (xs:=xs) (p:=p) (show a∈ms from ha);omega))) e
theorem walk_spec (e:Ex) (he:wE e≤1048576):APure Tryz.prog 65 [.p (eE e)] (.p (.sl 8 (eEs (walkF e)))):=by
 have hw:=walk_le e;have hs:=size_le e
 have h1:=walk1n_spec e he (fun a ha=>walk1_spec a (by obtain⟨k,n,t,ns,ts,xs,ms,p⟩:=e;have:=wE_args (k:=k) (n:=n) (t:=t) (ns:=ns) (ts:=ts) (ms:=ms) (p:=p) (show a∈xs from ha);omega))
  (fun a ha=>walk1_spec a.body (by obtain⟨k,n,t,ns,ts,xs,ms,p⟩:=e;have:=wE_body (k:=k) (n:=n) (t:=t) (ns:=ns) (ts:=ts) (xs:=xs) (p:=p) (show a∈ms from ha);omega)) (by omega)
 generalize walkF e=W at h1;obtain⟨k0,n0,t0,ns0,ts0,as0,ms0,p0⟩:=e;refine APure.intro (tyOf_ok Tryz.prog) hmix Tryz.func65 rfl (by rfl) (by kernel_rfl) (by show 1≤_;decide) rfl ?_;(conv=>whnf);refine amc [3,4] 10000 h1 ?_;(conv=>whnf);exact .inr (.inr ⟨rfl,⟨by rw[eEs_len],trivial⟩⟩)
end TR
end
section
open Go Go.AM Go.Proofs
set_option maxRecDepth 100000
namespace TR
structure St where
 seen:List (ByteArray×Bool)
 bound:List (ByteArray×Int)
 out:List ByteArray
end TR
end
section
open Go Go.AM Go.Proofs
set_option maxRecDepth 100000
end
section
open Go Go.AM
set_option maxRecDepth 100000
namespace TK
def eStr (l:Bs):PV:=.s (B l)
def splitF (c:UInt8):Bs→List Bs
 | []=>[[]]
 |x::r=>bif x==c then []::splitF c r else match splitF c r with|p::ps=>(x::p)::ps | []=>[[x]]
def keysL:Bs:=[97,99,116,111,114,32,97,102,116,101,114,32,97,110,100,32,97,112,112,108,121,32,98,101,99,111,109,101,32,98,111,111,108,32,99,101,108,108,32,100,97,116,97,32,101,108,115,101,32,102,97,105,108,32,102,97,108,115,101,32,102,110,32,102,111,114,32,102,117,110,32,103,101,116,32,105,102,32,105,109,112,108,32,105,110,32,105,110,116,32,108,101,116,32,108,105,110,107,32,109,97,116,99,104,32,109,111,100,117,108,101,32,110,111,116,32,111,114,32,112,117,116,32,114,101,99,101,105,118,101,32,115,97,121,32,115,101,108,102,32,115,101,110,100,32,115,112,97,119,110,32,116,101,120,116,32,116,104,101,110,32,116,114,97,105,116,32,116,114,117,101,32,117,110,105,116,32,117,115,101,32,119,97,116,99,104]
def wordsL:List Bs:=splitF 32 keysL
def wordF (l:Bs):Bool:=!(l==[])&&wordsL.contains l
structure Tk where
 kind:Int
 text:Bs
 at_:Nat
def eTk (t:Tk):PV:=.agg [.i .i64 t.kind,.s (B t.text),.i .i64 t.at_]
end TK
end
