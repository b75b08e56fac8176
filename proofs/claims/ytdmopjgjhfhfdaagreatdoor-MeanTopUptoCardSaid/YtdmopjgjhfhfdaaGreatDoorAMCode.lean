/- Part of a machine over plain values. No conditions. -/
import Derived.Test.YtdmopjgjhfhfdaaGreatDoorAMAny
set_option linter.all false
set_option maxRecDepth 100000
namespace Go.AM
def bE (n:Nat):Code->Bool
 |.region _ ops _=>ops.toList.all (oD n)
 |.seq a b=>bE n a&&bE n b
 |.cond _ a b=>bE n a&&bE n b
 |.block _ c=>bE n c
 |.loop c=>bE n c
 |_=>true
def jh (P:Program) (n:Nat) (c:Code) (K:Exit->Env->Heap->Prop) (e:Env) (h:Heap):Prop:=
 ∀g0 w0 g w a,cw g w n a e h->Ext g0 w0 g w->c.wp P (C9 n K g0 w0) a w
def pK (P:Program) (n:Nat) (c:Code) (K:Exit->Env->Heap->Prop) (e:Env) (h:Heap):Prop:=jh P n (.loop c) K e h
section
variable {P:Program} {ty:Nat->Option TI} {n:Nat}
theorem HI (hty:bB P ty) {ops:List Oper} (hok:∀o∈ops,oD n o=true) {fs:List (Option eB)} {e e':Env} {h h':Heap} (hp:Path P n ops ops e h fs) (q4:∀i,aL e' i=aL (fW (xC ops fs) (fun _=>true) 0 e) i) (q5:∀i,aF h' i=aF (dz (vq fs) (fun _=>true) 0 h) i):
 ∀{W:List (Nat×Nat)},Lm ty (cU P) ops fs e' h' W->∀(i j:Nat) (o:Oper) (f fj:Option eB),(i,j)∈W->ops[i]?=some o->fs[i]?=some f->fs[j]?=some fj->i<j->rC f=[]/\gu P n ops o (fW (xC ops fs) (fun k=>decide (k<i)) 0 e) ((rC fj).reverse++dz (vq fs) (fun k=>decide (k<i)) 0 h) f
 | [],_,i,j,_,_,_,hm,_,_,_,_=>by cases hm
 |p::r,hw,i,j,o,f,fj,hm,ho,hf,hfj,hij=>by
  rcases List.mem_cons.1 hm with hm|hm
  ·cases hm
   have hw:=hw.1;simp only[ho,hf,hfj]at hw
   cases f with
   |none=>exact hw.elim
   |some f0=>
    cases fj with
    |none=>exact hw.elim
    |some fj0=>
     obtain⟨hb,ha⟩:=hw;simp only[RH,Bool.and_eq_true]at hb;obtain⟨⟨_,hemp⟩,hall⟩:=hb;have hemp:f0.hw=[]:=List.isEmpty_iff.1 hemp;have hoko:=hok o (List.mem_of_getElem? ho);obtain⟨f1,rfl,hop⟩:=ry hty (lN hoko) (oW hoko) (uM hoko) ha
     have key:∀{k:Nat} {ok:Oper} {fk:Option eB},ops[k]?=some ok->fs[k]?=some fk->¬k<i->vB ((yj ok fk).map (·.1)) (slotsOf o)=true/\(k=j\/vB ((rC fk).map (·.1)) (f1.rd.filter fun l=>!(fj0.hw.any fun y=>Nat.beq y.1 l))=true):=by
      intro k ok fk h1 h2 hk
      have z:((ok,fk),k)∈(ops.zip fs).zipIdx:=by
       rw[List.mem_zipIdx_iff_getElem?];simp[List.getElem?_zip_eq_some,h1,h2]
      have:=List.all_eq_true.1 hall _ z;simp only[Bool.or_eq_true,Bool.and_eq_true]at this;rcases this with this|⟨t1,t2⟩
      ·rw[Nat.blt_eq]at this;exact absurd this hk
      ·refine⟨t1,?_⟩
       rcases t2 with t2|t2
       ·exact .inl (Nat.eq_of_beq_eq_true t2)
       ·exact .inr t2
     have hst:=hp.at 0 i o (some f1) ho hf;simp only[Nat.zero_add]at hst;refine⟨hemp,hst.1,fun e2 h2 he2 hh2=>hop e2 h2 (fun t ht=>(he2 t ht).trans ?_) (fun l hl=>(hh2 l hl).trans ?_)⟩
     ·rw[q4 t]
      refine jH t _ _ _ 0 e e rfl (fun k X hk hx=>?_);obtain⟨ok,fk,h1,h2',rfl⟩:=xz hk;rw[Nat.zero_add]
      by_cases hki:k<i
      ·simp[hki]
      ·obtain⟨y,hy,hyt⟩:=hx
       exact(eX (key h1 h2' hki).1 (List.mem_map.2 ⟨y,hy,hyt⟩) ht).elim
     ·rw[hemp,List.map_nil,List.append_nil]at hl
      by_cases hx:∃y∈fj0.hw,y.1=l
      ·obtain⟨y,hy,hyl⟩:=hx
       exact jA _ _ _ _ ⟨y,by simpa[rC] using hy,hyl⟩
      ·rw[cX _ _ _ (fun y hy q=>hx ⟨y,by simpa[rC] using hy,q⟩),cX _ _ _ (fun y hy q=>hx ⟨y,by simpa using hy,q⟩),q5 l]
       refine gw l _ _ _ 0 h h rfl (fun k X hk hxk=>?_);obtain⟨fk,h2',rfl⟩:=rA hk;rw[Nat.zero_add]
       by_cases hki:k<i
       ·simp[hki]
       ·have hlen:k<ops.length\/¬k<ops.length:=Nat.lt_or_ge _ _ |>.imp id (fun q=>by omega)
        rcases hlen with hlen|hlen
        ·rcases (key (List.getElem?_eq_getElem hlen) h2' hki).2 with q|q
         ·subst q
          rw[hfj]at h2';cases h2';exact absurd hxk hx
         ·obtain⟨y,hy,hyl⟩:=hxk
          refine(eX q (List.mem_map.2 ⟨y,hy,hyl⟩) (List.mem_filter.2 ⟨hl,?_⟩)).elim
          cases hq:fj0.hw.any fun y=>Nat.beq y.1 l with
          |false=>rfl
          |true=>
           obtain⟨z,hz,hzl⟩:=List.any_eq_true.1 hq;exact absurd ⟨z,hz,Nat.eq_of_beq_eq_true hzl⟩ hx
        ·have:=hp.len
         have:=(List.getElem?_eq_some_iff.1 h2').1;omega
  ·exact HI hty hok hp q4 q5 hw.2 i j o f fj hm ho hf hfj hij
theorem EX (hty:bB P ty) {lp:Code->(Exit->Env->Heap->Prop)->Env->Heap->Prop} {id:Nat} {ops:Array Oper} {K:Exit->Env->Heap->Prop} {e:Env} {h:Heap} (hok':ops.toList.all (oD n)=true) (hk:D7 ty (cU P) lp (.region id ops true) K e h) {g0 g:Gh} {w0 w:World} {a:Act} (s:cw g w n a e h) (hE:Ext g0 w0 g w):wpAny P .any ops (C9 n K g0 w0) ops.size (Array.replicate ops.size false) a { w with drawn:=w.drawn+1 }:=by
 obtain⟨fs,e',h',q1,q2,⟨q3,q3'⟩,q4,q5⟩:=sn (n:=n) hty ops.toList e h [] e h (fun o ho=>List.all_eq_true.1 hok' o ho) hk (fun _=>rfl) (fun _=>rfl);simp only[List.append_nil]at q3;have hz:∀i,(Array.replicate ops.size false).getD i false=false:=fun i=>by simp[Array.getD_eq_getD_getElem?,Array.getElem?_replicate];split<;>rfl
 have hnoneE:∀(ws:List Env) (k:Nat) (e:Env),fW ws (fun _=>false) k e=e:=by
  intro ws;induction ws with
  |nil=>intros;rfl
  |cons W r ih=>intro k e;rw[fW];simp only[Bool.false_eq_true,if_false];exact ih _ _
 have hnoneH:∀(ws:List Heap) (k:Nat) (e:Heap),dz ws (fun _=>false) k e=e:=by
  intro ws;induction ws with
  |nil=>intros;rfl
  |cons W r ih=>intro k e;rw[dz];simp only[Bool.false_eq_true,if_false];exact ih _ _
 have hok2:∀o∈ops.toList,oD n o=true:=fun o ho=>List.all_eq_true.1 hok' o ho
 obtain⟨W,hind,hwk⟩:∃W,xZ W ops.toList fs.reverse=true/\∀(i j:Nat) (o:Oper) (f fj:Option eB),(i,j)∈W->ops.toList[i]?=some o->fs[i]?=some f->fs[j]?=some fj->i<j->rC f=[]/\gu P n ops.toList o (fW (xC ops.toList fs) (fun k=>decide (k<i)) 0 e) ((rC fj).reverse++dz (vq fs) (fun k=>decide (k<i)) 0 h) f:=by
  rcases q3 with q3|⟨W,r1,r2⟩
  ·exact⟨[],ON q3,fun _ _ _ _ _ q=>by cases q⟩
  ·rw[List.reverse_reverse]at r2
   exact⟨W,r1,HI hty hok2 q1 q4 q5 r2⟩
 refine DS hok' q1 q2 hind hwk (g0:=g0) (w0:=w0) (K:=K) (fun e2 h2 r1 r2=>⟨e',h',q3',fun i=>(q4 i).trans (r1 i).symm,fun i=>(q5 i).trans (r2 i).symm⟩) ops.size _ a _ (by simp) ?_ ?_ ⟨g,?_,hE.trans Ext.drew⟩
 ·unfold PR;simpa using List.length_filter_le (fun i=>!(Array.replicate ops.size false).getD i false) (List.range ops.size)
 ·intro j o ho hj;simp only[hz]at hj;cases hj
 ·simp only[hz,hnoneE,hnoneH];exact s.drew
theorem eY (hty:bB P ty) (av:P.follows .mixedOrders=true):∀(c:Code) (K:Exit->Env->Heap->Prop) (e:Env) (h:Heap),bE n c=true->D7 ty (cU P) (pK P n) c K e h->jh P n c K e h
 |.skip,K,e,h,_,hk=>fun g0 w0 g w a s hE=>wp_skip ⟨g,e,h,hk,s,hE⟩
 |.region id ops false,K,e,h,hok,hk=>fun g0 w0 g w a s hE=>by
  refine wp_region ?_;rw[List.range_eq_range'];have:=lV hty (by simpa[bE] using hok) ops.toList 0 e h g w a (fun j=>by simp) hk s hE;simpa using this
 |.region id ops true,K,e,h,hok,hk=>fun g0 w0 g w a s hE=>wp_region_any av (EX hty (by simpa[bE] using hok) hk s hE)
 |.seq x y,K,e,h,hok,hk=>fun g0 w0 g w a s hE=>by
  have hok:bE n x=true/\bE n y=true:=by simpa[bE] using hok
  refine wp_seq (wp_mono (eY hty av x _ e h hok.1 hk g0 w0 g w a s hE) ?_);rintro ex a' w' ⟨g',e',h',hk',s',hE'⟩
  cases ex with
  |normal=>exact eY hty av y K e' h' hok.2 hk' g0 w0 g' w' a' s' hE'
  |_=>exact⟨g',e',h',hk',s',hE'⟩
 |.cond c x y,K,e,h,hok,hk=>fun g0 w0 g w a s hE=>by
  have hok:bE n x=true/\bE n y=true:=by simpa[bE] using hok
  have hk:(match Go.AM.ev e c with|.p (.b g)=>mq g (D7 ty (cU P) (pK P n) x K e h) (D7 ty (cU P) (pK P n) y K e h)|_=>ah "cond"):=hk;split at hk
  ·rename_i b hb
   obtain⟨_,r⟩:=s.ev c;rw[hb]at r;refine wp_cond r.bool ?_
   cases b with
   |true=>exact eY hty av x K e h hok.1 hk g0 w0 g w a s hE
   |false=>exact eY hty av y K e h hok.2 hk g0 w0 g w a s hE
  ·exact hk.elim
 |.block id c,K,e,h,hok,hk=>fun g0 w0 g w a s hE=>by
  refine wp_block (wp_mono (eY hty av c _ e h (by simpa[bE] using hok) hk g0 w0 g w a s hE) ?_);rintro ex a' w' ⟨g',e',h',hk',s',hE'⟩
  cases ex with
  |exit i=>
   simp only[Exit.inBlock]
   by_cases q:i=id
   ·subst q
    rw[if_pos rfl];simp only[mj]at hk';exact⟨g',e',h',hk',s',hE'⟩
   ·rw[if_neg q]
    simp only[beq_false q]at hk';exact⟨g',e',h',hk',s',hE'⟩
  |_=>exact⟨g',e',h',hk',s',hE'⟩
 |.exit id,K,e,h,_,hk=>fun g0 w0 g w a s hE=>wp_exit ⟨g,e,h,hk,s,hE⟩
 |.ret,K,e,h,_,hk=>fun g0 w0 g w a s hE=>wp_ret ⟨g,e,h,hk,s,hE⟩
 |.loop c,K,e,h,_,hk=>hk
 |.rangeFunc ..,K,e,h,_,hk=>hk.elim
 |.scope _,K,e,h,_,hk=>hk.elim
 |.label _,K,e,h,_,hk=>hk.elim
 |.goto _,K,e,h,_,hk=>hk.elim
 |.refuse _,K,e,h,_,hk=>hk.elim
theorem J8 (p:Nat->Prop) (h:∃m,p m):∃m,p m/\∀k,p k->m<=k:=by
 obtain⟨m,hm⟩:=h
 induction m using Nat.strongRecOn with
 |_ m ih=>
  by_cases hx:∃k,k<m/\p k
  ·obtain⟨k,hk,hpk⟩:=hx;exact ih k hk hpk
  ·refine⟨m,hm,fun k hk=>?_⟩
   rcases Nat.lt_or_ge k m with q|q
   ·exact absurd ⟨k,q,hk⟩ hx
   ·exact q
theorem jh.loop {c:Code} {K:Exit->Env->Heap->Prop} (Inv:Nat->Env->Heap->Prop) {m:Nat} {e:Env} {h:Heap} (h0:Inv m e h)
 (round:∀m e h,Inv m e h->jh P n c (fun x e' h'=>match x with|.normal=>∃m',m'<m/\Inv m' e' h'|x=>K x e' h') e h):jh P n (.loop c) K e h:=by
 intro g0 w0 g w a s hE
 let p:Act->World->Nat->Prop:=fun a w m=>∃g e h,Inv m e h/\cw g w n a e h/\Ext g0 w0 g w
 have mu:∃μ:Act->World->Nat,∀a w,(∃m,p a w m)->p a w (μ a w)/\∀k,p a w k->μ a w<=k:=by
  exact⟨fun a w=>Classical.epsilon (fun m=>p a w m/\∀k,p a w k->m<=k),fun a w hx=>Classical.epsilon_spec (J8 _ hx)⟩
 obtain⟨μ,hμ⟩:=mu;refine wp_loop (fun a w=>∃m,p a w m) μ ⟨m,g,e,h,h0,s,hE⟩ (fun a w hx=>?_);obtain⟨⟨g1,e1,h1,hi,s1,hE1⟩,_⟩:=hμ a w hx;refine wp_mono (round _ e1 h1 hi g0 w0 g1 w a s1 hE1) ?_;rintro ex a' w' ⟨g',e',h',hk',s',hE'⟩
 cases ex with
 |normal=>
  obtain⟨m',hlt,hi'⟩:=hk';have hp:p a' w' m':=⟨g',e',h',hi',s',hE'⟩
  exact⟨⟨m',hp⟩,Nat.lt_of_le_of_lt ((hμ a' w' ⟨m',hp⟩).2 m' hp) hlt⟩
 |_=>exact⟨g',e',h',hk',s',hE'⟩
end
def l9 (d:Nat->Bool):List bu->Bool
 | []=>true
 |o::r=>o.within d&&l9 d r
theorem Eu:∀(lv:List Nat) (f:Nat->AV) (i:Nat),aL (lv.zip (lv.map f)) i=f i\/aL (lv.zip (lv.map f)) i=.top
 | [],f,i=>.inr rfl
 |x::r,f,i=>by
  simp only[List.map_cons,List.zip_cons_cons]
  by_cases q:x=i
  ·subst q;rw[bA];exact .inl rfl
  ·rw[bO q];exact Eu r f i
theorem uw:∀(lv:List Nat) (vals:List AV) (i:Nat),aL (lv.zip vals) i=.top\/∃j:Nat,vals[j]?=some (aL (lv.zip vals) i)
 | [],vals,i=>.inl rfl
 |x::r,[],i=>.inl rfl
 |x::r,v::vals,i=>by
  simp only[List.zip_cons_cons]
  by_cases q:x=i
  ·subst q;rw[bA];exact .inr ⟨0,rfl⟩
  ·rw[bO q]
   rcases uw r vals i with h|⟨j,hj⟩
   ·exact .inl h
   ·exact .inr ⟨j+1,by simpa using hj⟩
theorem DD:∀(ll:List Nat) (h:Heap) (objs:List bu),ll.map (aF h)=objs.map some->(∀l o,aF (ll.zip objs) l=some o->aF h l=some o/\∃j:Nat,objs[j]?=some o)/\∀l,l∈ll->(aF (ll.zip objs) l).isSome=true
 | [],h,[],_=>⟨fun l o q=>by simp[aF]at q,fun l hl=>by cases hl⟩
 | [],h,_::_,hh=>by simp at hh
 |x::r,h,[],hh=>by simp at hh
 |x::r,h,o::objs,hh=>by
  simp only[List.map_cons,List.cons.injEq]at hh;obtain⟨k1,k2⟩:=DD r h objs hh.2;simp only[List.zip_cons_cons];refine⟨fun l o' q=>?_,fun l hl=>?_⟩
  ·by_cases e1:x=l
   ·subst e1;rw[aQ]at q;cases q;exact⟨hh.1,0,rfl⟩
   ·rw[aT e1]at q
    obtain⟨q1,j,q2⟩:=k1 l o' q;exact⟨q1,j+1,by simpa using q2⟩
  ·by_cases e1:x=l
   ·subst e1;rw[aQ];rfl
   ·rw[aT e1]
    rcases List.mem_cons.1 hl with rfl|hl
    ·exact absurd rfl e1
    ·exact k2 l hl
theorem qg (d:Nat->Bool):∀(xs:List bu),l9 d xs=true->∀(j:Nat) (x:bu),xs[j]?=some x->x.within d=true
 | [],_,j,x,hx=>by simp at hx
 |y::r,h,j,x,hx=>by
  simp only[l9,Bool.and_eq_true]at h
  cases j with
  |zero=>simp at hx;subst hx;exact h.1
  |succ j=>simp at hx;exact qg d r h.2 j x hx
section
variable {P:Program} {ty:Nat->Option TI} {n:Nat}
theorem cw.mask {g:Gh} {w:World} {a:Act} {e:Env} {h:Heap} (s:cw g w n a e h) {lv ll:List Nat} {objs:List bu} (ho:ll.map (aF h)=objs.map some) (h1:AV.dH (aW ll) (lv.map (aL e))=true) (h2:l9 (aW ll) objs=true):
 cw g w n a (lv.zip (lv.map (aL e))) (ll.zip objs):=by
 obtain⟨k1,k2⟩:=DD ll h objs ho;have hd:∀l,aW ll l=true->aE (ll.zip objs) l:=fun l hl=>k2 l (jf ll l hl);refine⟨s.defers,s.size,fun i=>?_,⟨fun l o hl=>?_,fun l o hl=>s.heap.own l o (k1 l o hl).1,fun l o hl=>s.heap.pre l o (k1 l o hl).1⟩,s.bnd⟩
 ·rcases Eu lv (aL e) i with q|q
  ·rcases uw lv (lv.map (aL e)) i with q'|⟨j,hj⟩
   ·rw[q'];exact .top _ _
   ·rw[q]at hj ⊢
    exact(s.env i).within hd (bZ _ _ h1 j _ hj)
  ·rw[q];exact .top _ _
 ·obtain⟨q1,j,q2⟩:=k1 l o hl
  have hw:=qg _ _ h2 j o q2
  cases s.heap.obj l o q1 with
  |cells cs vs E hb hlen hx' h1'=>exact .cells cs vs E hb hlen (fun j v c r1 r2=>(hx' j v c r1 r2).within hd (bZ _ cs (by simpa[bu.within] using hw) j c r2)) h1'
  |arr xs vs E hb hlen hx' h1'=>exact .arr xs vs E hb hlen hx' h1'
  |store T3 o3 sp3 nx3 z3 M3 hst=>exact .store T3 o3 sp3 nx3 z3 M3 hst
  |bJ gb gvs hgl=>exact .bJ gb gvs hgl
def xB (ty:Nat->Option TI) (e:Env) (h:Heap) (a t:Nat):Option AV:=match ty t with
 |some i=>match aL e a with
  |.ptr l off=>match aF h l with
   |some (.cells cs)=>match dA i.desc with
    |true=>match jy cs off i.size with|some l1=>some (qH l1 i.csz)|none=>none
    |false=>match cs[off]? with|some v=>some v.copy|none=>none
   |_=>none
  |_=>none
 |none=>none
def rV (ty:Nat->Option TI) (e:Env) (h:Heap):List ResultVar->List Nat->Option (List AV)
 | [],_=>some []
 |.tmp t::r,ts=>match rV ty e h r ts.tail with
  |some l=>some ((match aL e t with
   |.cx=>.p (.sl (GL ty (headD ts)) [])
   |.so sz xs=>.p (.sl sz xs)
   |.agg cs=>A2 ty (headD ts) cs
   |v=>v)::l)
  |none=>none
 |.cell a t::r,ts=>match rV ty e h r ts.tail,xB ty e h a t with
  |some l,some v=>some (v::l)
  |_,_=>none
def mD (ty:Nat->Option TI) (rs:List ResultVar) (ts:List Nat) (e:Env) (h:Heap):Option AV:=match rs with
 | [.tmp t]=>match aL e t with
   |.cx=>match GL ty (headD ts) with
    |0=>none
    |k+1=>some (.so (k+1) [])
   |.agg cs=>some (A2 ty (headD ts) cs)
   |v=>some v
 | [.cell a t]=>xB ty e h a t
 |rs=>match rV ty e h rs ts with|some l=>some (.cI l)|none=>none
def Ej:AV->Bool
 |.so _ _=>true
 |v=>v.free
def xX (v r:AV):Prop:=v=r\/v.copy=r
def Qi (h:Heap) (v r:AV):Prop:=∃l xs,v=.ar l/\aF h l=some (.arr xs)/\r=.p (.sl 1 xs)
def CC (h:Heap) (v r:AV):Prop:=v=r\/v.copy=r\/Qi h v r
def Od (ty:Nat->Option TI) (rs:List ResultVar) (ts:List Nat) (r:AV):Exit->Env->Heap->Prop:=fun x e h=>match x with
 |.ret=>(match mD ty rs ts e h with|some v=>CC h v r|none=>False)
 |.normal=>(match mD ty rs ts e h with|some v=>CC h v r|none=>False)
 |_=>False
def jz:Nat->List AV->Env
 |_,[]=>[]
 |k,v::r=>(k,v)::jz (k+1) r
theorem aH.DK {g:Gh} {w:World} {dom:Nat->Prop} {ow:Option bg} {v:Value} {x:AV} (r:aH g w dom none v x):aH g w dom ow v x:=by
 cases x with
 |so sz xs=>cases r with
  |full _ a _ _ hz h=>exact .full _ a sz xs hz h
 |_=>exact r.bW (fun _ _ q=>by cases q)
theorem ye:∀(k:Nat) (args:List AV) (i:Nat),(i<k/\aL (jz k args) i=.top)\/(k<=i/\aL (jz k args) i=(args[i-k]?).getD .top)
 |k,[],i=>by
  rcases Nat.lt_or_ge i k with h|h
  ·exact .inl ⟨h,rfl⟩
  ·exact .inr ⟨h,by simp[jz,aL]⟩
 |k,v::r,i=>by
  rw[jz]
  by_cases q:k=i
  ·subst q;right;exact⟨Nat.le_refl _,by rw[bA];simp⟩
  ·rw[bO q]
   rcases ye (k+1) r i with⟨h1,h2⟩|⟨h1,h2⟩
   ·exact .inl ⟨by omega,h2⟩
   ·exact .inr ⟨by omega,by rw[h2,show i-k=(i-(k+1))+1 by omega];simp⟩
def rW (tmps:Array Value):ResultVar->Sem Value
 |.tmp t=>pure (tmps.getD t undef)
 |.cell a t=>do loadVar t (<-asAddr (tmps.getD a undef))
theorem Jc (x:AV) (sz:Nat) (xs:List PV):x.copy≠.so sz xs:=by cases x<;>simp[AV.copy]
theorem Fp (cs:List AV) (z:List Nat) (sz:Nat) (xs:List PV):qH cs z≠.so sz xs:=by
 unfold qH;split<;>simp
theorem v7 (hty:bB P ty) {g:Gh} {w:World} {a:Act} {e:Env} {h:Heap} (s:cw g w n a e h) {b t:Nat} {x:AV} (hx:xB ty e h b t=some x):
 ∃v,(rW a.tmps (.cell b t)).run P w=.ok v w/\aH g w (aE h) none v x/\∀sz xs,x≠.so sz xs:=by
 unfold xB at hx;split at hx
 ·rename_i i hi
  split at hx
  ·rename_i l off hp
   split at hx
   ·rename_i cs hl
    have hv:=s.env b;rw[hp]at hv;generalize hvv:a.tmps.getD b undef=v0 at hv
    cases hv with
    |ptr _ _ _ hd=>
     cases s.heap.obj l _ hl with
     |cells _ vs E hb hlen hxx h1=>
      have hcell:∀k,w.cell? ⟨g.ρ l,k,none⟩=vs[k]?:=fun k=>dB hb k
      have e0:∀u,(Instr.loadAt t (.pointer (some ⟨g.ρ l,off,none⟩))).run P w=.ok u w->(rW a.tmps (.cell b t)).run P w=.ok u w:=by
       intro u hu;simpa[rW,hvv,Instr.loadAt,Instr.sureAddr,asAddr] using hu
      split at hx
      ·rename_i hag
       split at hx
       ·rename_i l1 hl1
        cases hx;obtain⟨k1,k2⟩:=gz _ _ _ _ hl1
        have hle:i.size=0\/off+i.size<=vs.size:=by
         rcases Nat.eq_zero_or_pos i.size with h0|h0
         ·exact .inl h0
         ·right
          have:=k2 (i.size-1) (by omega)
          have hlt:off+(i.size-1)<cs.length:=by
           rcases Nat.lt_or_ge (off+(i.size-1)) cs.length with h2|h2
           ·exact h2
           ·rw[List.getElem?_eq_none h2,List.getElem?_eq_none_iff]at this;omega
          omega
        have hll:((vs.toList.drop off).take i.size).length=i.size:=by simp;omega
        have aF:∀(j:Nat) (v:Value),((vs.toList.drop off).take i.size)[j]?=some v->j<i.size/\vs[off+j]?=some v:=by
         intro j v hj;have hji:j<i.size:=by have:=(List.getElem?_eq_some_iff.1 hj).1;omega
         rw[List.getElem?_take,if_pos hji,List.getElem?_drop]at hj;exact⟨hji,by simpa using hj⟩
        refine⟨.agg ((vs.toList.drop off).take i.size).toArray,e0 _ ?_,qV _ _ _ (hll.trans k1.symm) (fun v hv=>h1 v (List.mem_of_mem_drop (List.mem_of_mem_take hv))) fun j v c hj hc=>?_,Fp _ _⟩
        ·exact lS hty hi rfl _ hll (fun j v hj=>by rw[dB hb];exact(aF j v hj).2) hag
        ·obtain⟨hji,hj'⟩:=aF j v hj
         rw[k2 j hji]at hc;exact⟨_,hxx _ _ _ hj' hc⟩
       ·cases hx
      ·rename_i hag
       split at hx
       ·rename_i c hc
        cases hx;have hlt:off<vs.size:=by rw[hlen];exact(List.getElem?_eq_some_iff.1 hc).1
        have hv:vs[off]?=some vs[off]:=Array.getElem?_eq_getElem hlt;exact⟨vs[off],e0 _ (ff hty hi rfl hag (by rw[dB hb];exact hv)),(hxx off _ c hv hc).copy,Jc c⟩
       ·cases hx
   ·cases hx
  ·cases hx
 ·cases hx
theorem sH (hty:bB P ty) {g:Gh} {w:World} {a:Act} {e:Env} {h:Heap} (s:cw g w n a e h):∀(rs:List ResultVar) (ts:List Nat) (l:List AV),rV ty e h rs ts=some l->
 ∃vs:List Value,(rs.mapM (rW a.tmps)).run P w=.ok vs w/\vs.length=l.length/\l.length=rs.length/\∀(j:Nat) (v:Value) (c:AV),vs[j]?=some v->l[j]?=some c->aH g w (aE h) none v c
 | [],ts,l,hl=>by
   simp[rV]at hl;subst hl;exact⟨[],by simp,rfl,rfl,by simp⟩
 |.tmp t::r,ts,l,hl=>by
  simp only[rV]at hl;split at hl
  ·rename_i l1 hl1
   cases hl;obtain⟨vs,h1,h2,h2',h3⟩:=sH hty s r ts.tail l1 hl1;refine⟨a.tmps.getD t undef::vs,by simp only[List.mapM_cons,Sem.run_bind,rW,Sem.run_pure,Result.andThen_ok,h1],by simp[h2],by simp[h2'],fun j v c hv hc=>?_⟩
   cases j with
   |zero=>
    simp only[List.getElem?_cons_zero,Option.some.injEq]at hv hc;subst hv;subst hc;have:=s.env t;split
    ·rename_i hq
     rw[hq]at this;generalize a.tmps.getD t undef=v at this
     cases this with
     |cx=>exact .p _ _ _ (.nil _)
    ·rename_i sz xs hq;rw[hq]at this;exact this.copy
    ·rename_i cs hq;rw[hq]at this;exact vO _ (this.bW (fun _ _ q=>by cases q))
    ·rename_i hq1 hq2 hq3;exact this.bW (fun sz xs q=>hq2 sz xs q)
   |succ j=>simp only[List.getElem?_cons_succ]at hv hc;exact h3 j v c hv hc
  ·cases hl
 |.cell b t::r,ts,l,hl=>by
  simp only[rV]at hl;split at hl
  ·rename_i l1 x hl1 hx
   cases hl;obtain⟨vs,h1,h2,h2',h3⟩:=sH hty s r ts.tail l1 hl1;obtain⟨v0,q1,q2,_⟩:=v7 (P:=P) hty s hx;refine⟨v0::vs,by simp only[List.mapM_cons,Sem.run_bind,q1,Sem.run_pure,Result.andThen_ok,h1],by simp[h2],by simp[h2'],fun j v c hv hc=>?_⟩
   cases j with
   |zero=>
    simp only[List.getElem?_cons_zero,Option.some.injEq]at hv hc;subst hv;subst hc;exact q2
   |succ j=>simp only[List.getElem?_cons_succ]at hv hc;exact h3 j v c hv hc
  ·cases hl
theorem nR (hty:bB P ty) {fn:Func} {g:Gh} {w:World} {a:Act} {e:Env} {h:Heap} (s:cw g w n a e h) {x:AV} (hx:mD ty fn.results.toList fn.resultTypes.toList e h=some x):
 ∃v,(results fn a.tmps).run P w=.ok v w/\∃t,aH g w (aE h) (some (.slot t)) v x:=by
 unfold mD at hx;split at hx
 ·rename_i t hrs
  have hres:fn.results=#[.tmp t]:=by apply Array.ext';rw[hrs]
  have hrun:(results fn a.tmps).run P w=.ok (a.tmps.getD t undef) w:=by simp[results,hres]
  have he:=s.env t;refine⟨_,hrun,t,?_⟩;split at hx
  ·rename_i hn
   rw[hn]at he;split at hx
   ·cases hx
   ·rename_i k hk
    cases hx;generalize a.tmps.getD t undef=u at he
    cases he with
    |cx=>exact .full _ none (k+1) [] (by omega) (.nil _)
  ·rename_i cs hn;rw[hn]at he;cases hx;exact vO _ he
  ·cases hx;exact he
 ·rename_i b t hrs
  have hres:fn.results=#[.cell b t]:=by apply Array.ext';rw[hrs]
  obtain⟨v,q1,q2,q3⟩:=v7 (P:=P) hty s hx;refine⟨v,?_,0,q2.DK⟩
  have e1:results fn a.tmps=(do let vs <-fn.results.mapM (rW a.tmps);pure (if h:vs.size=1 then vs[0] else .tuple vs)):=by
   unfold results
   congr 2
  rw[e1,Sem.run_bind,hres,Array.mapM_eq_mapM_toList,Sem.run_map];simp[q1]
 ·rename_i hne1 hne2
  split at hx
  ·rename_i l hl
   cases hx;obtain⟨us,k1,k2,k3,k4⟩:=sH (P:=P) hty s _ _ _ hl
   have hlen1:us.length≠1:=by
    intro q;have h1:fn.results.toList.length=1:=by omega
    match hrs:fn.results.toList,h1 with
    | [.tmp t],_=>exact hne1 t hrs
    | [.cell b t],_=>exact hne2 b t hrs
   refine⟨.tuple us.toArray,?_,0,.cI _ us l k2 k4⟩
   have e1:results fn a.tmps=(do let vs <-fn.results.mapM (rW a.tmps);pure (if h:vs.size=1 then vs[0] else .tuple vs)):=by
    unfold results
    congr 2
   rw[e1,Sem.run_bind,Array.mapM_eq_mapM_toList,Sem.run_map,k1];simp[hlen1]
  ·cases hx
theorem rj {g g1:Gh} {w w1:World} {h1:Heap} {t:Nat} {v:Value} {r:AV} (hno:∀b,g.own b=none) (hE:Ext g w g1 w1) (hr:Ej r=true) (hv:aH g1 w1 (aE h1) (some (.slot t)) v r):
 ∃g',aH g' w1 (fun _=>False) (some .ret) v r/\Ext g w g' w1:=by
 have ext:∀own':Nat->Option bg,(∀b,b<w.heap.size->own' b=none)->Ext g w { g1 with own:=own' } w1:=fun own' ho=>
  ⟨hE.size,hE.os,hE.out,hE.bT,fun b hb hn=>⟨(hE.kept b hb hn).1,(hE.kept b hb hn).2.1,ho b hb⟩,hE.uC,hE.frz',hE.ρk,hE.siz⟩
 cases r with
 |so sz xs=>
  cases hv with
  |full _ a _ _ hz hp=>exact⟨{ g1 with own:=fun _=>none },.full _ a sz xs hz hp,ext _ (fun _ _=>rfl)⟩
  |own _ a cap _ _ cs E hz hp ho hpre hb hs=>
   have hge:¬a.block<w.heap.size:=fun hlt=>by rw[(hE.kept _ hlt (hno _)).2.2]at ho;cases ho
   refine⟨{ g1 with own:=fun b=>if b=a.block then some .ret else none },.own .ret a cap sz xs cs E hz hp (by simp) hpre hb hs,ext _ (fun b hb=>?_)⟩;have:b≠a.block:=fun q=>hge (by omega);simp[this]
 |_=>exact⟨{ g1 with own:=fun _=>none },hv.KQ (by simpa[Ej] using hr) _ _,ext _ (fun _ _=>rfl)⟩
theorem cw.start {fn:Func} {g:Gh} {w:World} {vs:List Value} {args:List AV} {hs:Heap} (hlen:args.length<=fn.ntmps) (hH:gx g w hs) (hbn:∀b ow,g.own b=some ow->b<w.heap.size) (hl:vs.length=args.length)
 (hrel:∀(j:Nat) (v:Value) (x:AV),vs[j]?=some v->args[j]?=some x->aH g w (aE hs) none v x):
 cw g w fn.ntmps { tmps:=vs.toArray++Array.replicate (fn.ntmps-vs.toArray.size) undef,defers:=[] } (jz 0 args) hs:=by
 refine⟨rfl,by simp;omega,fun i=>?_,hH,hbn⟩;rcases ye 0 args i with⟨h1,_⟩|⟨_,h2⟩
 ·omega
 ·rw[h2,Nat.sub_zero]
  by_cases hi:i<args.length
  ·have hvi:vs[i]?=some vs[i]:=List.getElem?_eq_getElem (by omega)
   have hai:args[i]?=some args[i]:=List.getElem?_eq_getElem hi
   have hg:(vs.toArray++Array.replicate (fn.ntmps-vs.toArray.size) undef).getD i undef=vs[i]:=by
    rw[Array.getD_eq_getD_getElem?,Array.getElem?_append_left (by simp;omega),List.getElem?_toArray,hvi];rfl
   rw[hai,hg];exact(hrel i _ _ hvi hai).DK
  ·rw[List.getElem?_eq_none (by omega)];exact .top _ _
theorem aU.intro (hty:bB P ty) (av:P.follows .mixedOrders=true) {f:Nat} {fn:Func} {c:Code} {args:List AV} {r:AV} (hf:P.funcs[f]?=some fn) (hb:fn.body=some c) (hname:(fn.name== "runtime.NumGoroutine")=false)
 (hok:bE fn.ntmps c=true) (hlen:args.length<=fn.ntmps) (hr:Ej r=true)
 (hk:D7 ty (cU P) (pK P fn.ntmps) c (Od ty fn.results.toList fn.resultTypes.toList r) (jz 0 args) []):aU P f args r:=by
 refine⟨⟨fn,c,hf,hb,hname⟩,fun g w vs hno hsw hl hrel=>?_⟩
 have s0:=cw.start (fn:=fn) (hs:=[]) hlen (g:=g) (w:=w) ⟨fun l o q=>by simp[aF]at q,fun l o q=>by simp[aF]at q,fun l o q=>by simp[aF]at q⟩ (fun b o q=>by rw[hno b]at q;cases q) hl
  (fun j v x q1 q2=>(hrel j v x q1 q2).rH (fun _ q=>q.elim))
 refine calls_of_wp hf hb (wp_mono (eY hty av c _ _ _ hok hk g w g w _ s0 (Ext.refl _ _)) ?_);rintro ex a' w' ⟨g1,e1,h1,hk1,s1,hE1⟩
 have fin:(match mD ty fn.results.toList fn.resultTypes.toList e1 h1 with|some v=>CC h1 v r|none=>False)->a'.defers=[]/\∃v,(results fn a'.tmps).run P w'=.ok v w'/\(∃v1 g',Ending.returned v=.returned v1/\aH g' w' (fun _=>False) (some .ret) v1 r/\Ext g w g' w'):=by
  intro hq;refine⟨s1.defers,?_⟩;split at hq
  ·rename_i x hx
   obtain⟨v,hrun,t,hv⟩:=nR (P:=P) hty s1 hx;refine⟨v,hrun,?_⟩;rcases hq with rfl|rfl|⟨l,xs,rfl,hh,rfl⟩
   ·obtain⟨g',q1,q2⟩:=rj hno hE1 hr hv;exact⟨v,g',rfl,q1,q2⟩
   ·obtain⟨g',q1,q2⟩:=rj hno hE1 hr (t:=t) hv.copy;exact⟨v,g',rfl,q1,q2⟩
   ·refine⟨v,g1.lay w',rfl,.p _ _ _ (by cases hv with|ar _ _ m hdm hn=>exact EE s1.heap hh hn),hE1.size,hE1.os,hE1.out,fun b k u hu=>yI (hE1.bT b k u hu),fun b hb hn=>⟨(hE1.kept b hb hn).1,?_,rfl⟩,⟨hE1.uC.1,funext fun q=>(hsw q).symm,hE1.uC.2.2⟩,hE1.frz',hE1.ρk,hE1.siz⟩
    show oA g1 w' b=g.pre b;unfold oA;rw[(hE1.kept b hb hn).2.2];exact(hE1.kept b hb hn).2.1
  ·exact hq.elim
 cases ex with
 |normal=>exact fin hk1
 |ret=>exact fin hk1
 |_=>exact hk1.elim
def O7 (x y:AV):Prop:=x=y\/x.copy=y\/(x=.cx/\∃sz,y=.so (sz+1) [])
def Ka:List AV->List AV->Prop
 | [],[]=>True
 |x::r,y::r'=>O7 x y/\Ka r r'
 |_,_=>False
def wS:bu->bu->Prop
 |.cells cs,.cells cs'=>Ka cs cs'
 |.arr xs,.arr ys=>xs=ys
 |.bJ b vs,.bJ b' vs'=>b=b'/\vs=vs'
 |.store T o sp nx z M,.store T' o' sp' nx' z' M'=>T=T'/\o=o'/\sp=sp'/\nx=nx'/\z=z'/\M=M'
 |_,_=>False
theorem wS.dP {x y:bu} (h:wS x y) (hy:y.dP=true):x.dP=true:=by
 cases x<;>cases y<;>first|rfl|(cases hy;done)|exact h.elim|skip
def nc (h:Heap):Heap->Prop
 | []=>True
 |(l,ob)::r=>(match aF h l with|some ob0=>wS ob0 ob|none=>False)/\nc h r
def lR (d:Nat->Bool):Heap->Bool
 | []=>true
 |(_,ob)::r=>ob.within d&&lR d r
theorem aH.le {g:Gh} {w:World} {dom:Nat->Prop} {ow:Option bg} {v:Value} {x y:AV} (r:aH g w dom ow v x) (hl:O7 x y):aH g w dom ow v y:=by
 rcases hl with rfl|rfl|⟨rfl,sz,rfl⟩
 ·exact r
 ·exact r.copy
 ·cases r;exact .full _ none (sz+1) [] (by omega) (.nil _)
theorem Ka.get:∀(cs cs':List AV),Ka cs cs'->cs.length=cs'.length/\∀(j:Nat) (y:AV),cs'[j]?=some y->∃x,cs[j]?=some x/\O7 x y
 | [],[],_=>⟨rfl,by simp⟩
 |x::r,y::r',h=>by
  obtain⟨k1,k2⟩:=Ka.get r r' h.2;refine⟨by simp[k1],fun j z hz=>?_⟩
  cases j with
  |zero=>simp at hz;subst hz;exact⟨x,rfl,h.1⟩
  |succ j=>simp at hz;obtain⟨x',q1,q2⟩:=k2 j z hz;exact⟨x',by simpa using q1,q2⟩
 | [],_::_,h=>h.elim
 |_::_,[],h=>h.elim
theorem gN.le {g:Gh} {w:World} {dom:Nat->Prop} {l:Nat} {x y:bu} (r:gN g w dom l x) (hl:wS x y):gN g w dom l y:=by
 cases y with
 |bJ gb gvs=>
  cases r with
  |bJ b vs h=>obtain⟨rfl,rfl⟩:=hl;exact .bJ _ _ h
  |_=>exact hl.elim
 |store T0 o0 sp0 nx0 z0 M0=>
  cases r with
  |store _ _ _ _ _ _ h=>obtain⟨rfl,rfl,rfl,rfl,rfl,rfl⟩:=hl;exact .store _ _ _ _ _ _ h
  |_=>exact hl.elim
 |cells cs'=>
  cases r with
  |cells cs vs E hb hlen hx h1=>
   obtain⟨k1,k2⟩:=Ka.get cs cs' hl;refine .cells cs' vs E hb (by omega) (fun j v c q1 q2=>?_) h1;obtain⟨x',q3,q4⟩:=k2 j c q2;exact(hx j v x' q1 q3).le q4
  |_=>exact hl.elim
 |arr _=>
  cases r with
  |arr xs vs E hb hlen hx h1=>cases hl;exact .arr _ vs E hb hlen hx h1
  |_=>exact hl.elim
theorem eN {h:Heap}:∀(h':Heap),nc h h'->∀l ob,aF h' l=some ob->∃ob0,aF h l=some ob0/\wS ob0 ob
 | [],_,l,ob,hq=>by simp[aF]at hq
 |(k,x)::r,hh,l,ob,hq=>by
  by_cases e1:k=l
  ·subst e1;rw[aQ]at hq;cases hq
   have:=hh.1;split at this
   ·rename_i ob0 h0;exact⟨ob0,h0,this⟩
   ·exact this.elim
  ·rw[aT e1]at hq;exact eN r hh.2 l ob hq
theorem lY {d:Nat->Bool}:∀(h':Heap),lR d h'=true->∀l ob,aF h' l=some ob->ob.within d=true
 | [],_,l,ob,hq=>by simp[aF]at hq
 |(k,x)::r,hh,l,ob,hq=>by
  simp only[lR,Bool.and_eq_true]at hh
  by_cases e1:k=l
  ·subst e1;rw[aQ]at hq;cases hq;exact hh.1
  ·rw[aT e1]at hq;exact lY r hh.2 l ob hq
def bR (h':Heap) (t:Nat):Option bg->Option bg
 |some (.obj l)=>if l∈aO h' then some (.obj l) else none
 |some (.cell l j)=>if l∈aO h' then some (.cell l j) else none
 |some (.slot i)=>if i=t then some .ret else none
 |_=>none
def KZ (ty:Nat->Option TI) (rs:List ResultVar) (ts:List Nat) (r:AV) (h':Heap):Exit->Env->Heap->Prop:=fun x e h=>match x with
 |.ret=>(match mD ty rs ts e h with|some v=>xX v r/\nc h h'|none=>False)
 |.normal=>(match mD ty rs ts e h with|some v=>xX v r/\nc h h'|none=>False)
 |_=>False
theorem au.intro (hty:bB P ty) (av:P.follows .mixedOrders=true) {f:Nat} {fn:Func} {c:Code} {args:List AV} {hs:Heap} {r:AV} {h':Heap} (hf:P.funcs[f]?=some fn) (hb:fn.body=some c) (hname:(fn.name== "runtime.NumGoroutine")=false)
 (hok:bE fn.ntmps c=true) (hlen:args.length<=fn.ntmps) (hr:(r.within (aW (aO h'))&&lR (aW (aO h')) h'&&fD hs h')=true)
 (hk:D7 ty (cU P) (pK P fn.ntmps) c (KZ ty fn.results.toList fn.resultTypes.toList r h') (jz 0 args) hs):au P f args hs r h':=by
 simp only[Bool.and_eq_true]at hr;obtain⟨⟨hr1,hr2⟩,hr3⟩:=hr;refine⟨⟨⟨fn,c,hf,hb,hname⟩,hr3⟩,fun g w vs hH hbn hl hrel=>?_⟩;have s0:=cw.start (fn:=fn) hlen hH hbn hl hrel;refine calls_of_wp hf hb (wp_mono (eY hty av c _ _ _ hok hk g w g w _ s0 (Ext.refl _ _)) ?_);rintro ex a' w' ⟨g1,e1,h1,hk1,s1,hE1⟩
 have fin:(match mD ty fn.results.toList fn.resultTypes.toList e1 h1 with|some v=>xX v r/\nc h1 h'|none=>False)->a'.defers=[]/\∃v,(results fn a'.tmps).run P w'=.ok v w'/\
  (∃v1 g',Ending.returned v=.returned v1/\aH g' w' (aE h') (some .ret) v1 r/\gx g' w' h'/\(∀b ow,g'.own b=some ow->b<w'.heap.size)/\Ext g w g' w'):=by
  intro hq;refine⟨s1.defers,?_⟩;split at hq
  ·rename_i x hx
   obtain⟨hq,hheap⟩:=hq;obtain⟨v,hrun,t,hv⟩:=nR (P:=P) hty s1 hx
   have hv:aH g1 w' (aE h1) (some (.slot t)) v r:=by
    rcases hq with rfl|rfl
    ·exact hv
    ·exact hv.copy
   have hdom:∀l,aW (aO h') l=true->aE h' l:=fun l hl=>by
    obtain⟨ob,hob⟩:=dU h' l (jf _ _ hl);unfold aE;rw[hob];rfl
   let g':Gh:={ pre:=g1.pre,own:=fun b=>bR h' t (g1.own b),ρ:=g1.ρ,σ:=g1.σ,sown:=g1.sown }
   have conv:∀{ow:Option bg} {u:Value} {y:AV},(∀q,ow=some q->bR h' t (some q)=some q)->aH g1 w' (aE h1) ow u y->y.within (aW (aO h'))=true->aH g' w' (aE h') ow u y:=by
    intro ow u y hq r0 hin;have r1:=r0.within (dom':=aE h') hdom hin;exact aH.keep (g:=g1) (g':=g') (w:=w') (w':=w') (fun _ _ _ hv=>hv) (fun l hl=>⟨hl,rfl⟩) (fun l cs E _ hb=>⟨cs,E,hb,rfl⟩) (fun q b e1 ho=>⟨by show bR h' t (g1.own b)=some q;rw[ho];exact hq q e1,rfl,rfl⟩) r1
   refine⟨v,hrun,v,g',rfl,?_,⟨fun l ob hl=>?_,fun l ob hl hsl=>?_,fun l ob hl hsl=>?_⟩,fun b q hq=>?_,?_⟩
   ·cases r with
    |so sz xs=>
     cases hv with
     |full _ a _ _ hz hp=>exact .full _ a sz xs hz hp
     |own _ a cap _ _ cs E hz hp ho hpre hb' hs'=>exact .own .ret a cap sz xs cs E hz hp (by show bR h' t (g1.own a.block)=_;rw[ho];simp[bR]) hpre hb' hs'
    |_=>exact(conv (ow:=none) (fun _ q=>by cases q) (hv.bW (fun _ _ q=>by cases q)) hr1).bW (fun _ _ q=>by cases q)
   ·obtain⟨ob0,q1,q2⟩:=eN h' hheap l ob hl
    have hin:=lY h' hr2 l ob hl;have hkl:=eS _ _ _ hl
    cases (s1.heap.obj l ob0 q1).le q2 with
    |cells cs vs' E hb' hlen' hxx h1'=>exact .cells cs vs' E hb' hlen' (fun j u c q3 q4=>conv (fun q e1=>by cases e1;simp[bR,hkl]) (hxx j u c q3 q4) (bZ _ cs (by simpa[bu.within] using hin) j c q4)) h1'
    |arr xs vs' E hb' hlen' hxx h1'=>exact .arr xs vs' E hb' hlen' hxx h1'
    |store T3 o3 sp3 nx3 z3 M3 hst=>exact .store T3 o3 sp3 nx3 z3 M3 (hst.mono (fun _ _ _ q=>q) (fun bb hb2=>⟨by show bR h' t (g1.own bb)=_;rw[hb2];simp[bR,hkl],rfl,rfl⟩) hst.sown)
    |bJ gb gvs hgl=>exact gN.lM hgl (fun h1 _ _=>⟨rfl,by show bR h' t (g1.own gb)=none;rw[h1];rfl⟩)
   ·obtain⟨ob0,q1,q2⟩:=eN h' hheap l ob hl
    show bR h' t (g1.own (g1.ρ l))=_;rw[s1.heap.own l ob0 q1 (q2.dP hsl)];simp[bR,eS _ _ _ hl]
   ·obtain⟨ob0,q1,q2⟩:=eN h' hheap l ob hl
    exact s1.heap.pre l ob0 q1 (q2.dP hsl)
   ·have hq:bR h' t (g1.own b)=some q:=hq
    cases hg:g1.own b with
    |none=>rw[hg]at hq;simp[bR]at hq
    |some q'=>exact s1.bnd b q' hg
   ·exact⟨hE1.size,hE1.os,hE1.out,hE1.bT,fun b hb hn=>⟨(hE1.kept b hb hn).1,(hE1.kept b hb hn).2.1,by show bR h' t (g1.own b)=none;rw[(hE1.kept b hb hn).2.2];rfl⟩,hE1.uC,hE1.frz',hE1.ρk,hE1.siz⟩
  ·exact hq.elim
 cases ex with
 |normal=>exact fin hk1
 |ret=>exact fin hk1
 |_=>exact hk1.elim
def Cz:Heap->Heap->Prop
 | [],[]=>True
 |(l,a)::r,(l',b)::r'=>l=l'/\wS a b/\Cz r r'
 |_,_=>False
theorem iy:∀(h h':Heap),Cz h h'->∀l,(∀ob,aF h' l=some ob->∃ob0,aF h l=some ob0/\wS ob0 ob)/\(aE h l↔aE h' l)
 | [],[],_,l=>⟨fun ob q=>by simp[aF]at q,Iff.rfl⟩
 |(k,a)::r,(k',b)::r',hh,l=>by
  obtain⟨rfl,h2,h3⟩:=hh
  by_cases e1:k=l
  ·subst e1
   exact⟨fun ob q=>by rw[aQ]at q;cases q;exact⟨a,aQ _ _ _,h2⟩,by simp[aE,aQ]⟩
  ·obtain⟨q1,q2⟩:=iy r r' h3 l
   exact⟨fun ob q=>by rw[aT e1]at q ⊢;exact q1 ob q,by unfold aE at q2 ⊢;rw[aT e1,aT e1];exact q2⟩
 | [],_::_,hh,_=>hh.elim
 |_::_,[],hh,_=>hh.elim
theorem DP {hs hs':Heap} (hq:∀l b vs,aF hs' l=some (.bJ b vs)->∃vs',aF hs l=some (.bJ b vs')):∀(h':Heap),fD hs' h'=true->fD hs h'=true
 | [],_=>rfl
 |(l,ob)::r,hg=>by
  simp only[fD,Bool.and_eq_true]at hg ⊢;refine⟨?_,DP hq r hg.2⟩
  cases ob with
  |bJ b vs=>
   have h1:=hg.1;simp only at h1 ⊢;split at h1
   ·rename_i b' vs' h2
    obtain⟨vs2,h3⟩:=hq l b' vs' h2;rw[h3];exact h1
   ·cases h1
  |_=>rfl
theorem au.le {f:Nat} {args:List AV} {hs hs':Heap} {r:AV} {h':Heap} (h:au P f args hs' r h') (hl:Cz hs hs'):au P f args hs r h':=by
 refine⟨⟨h.1.1,DP (fun l b vs hq=>by obtain⟨ob0,k1,k2⟩:=(iy hs hs' hl l).1 _ hq;cases ob0<;>first|exact k2.elim|(obtain⟨rfl,rfl⟩:=k2;exact⟨_,k1⟩)) h' h.1.2⟩,fun g w vs hH hbn hlen hrel=>h.2 g w vs ⟨fun l ob hq=>?_,fun l ob hq hsl=>?_,fun l ob hq hsl=>?_⟩ hbn hlen (fun j v x q1 q2=>(hrel j v x q1 q2).rH (fun k hk=>((iy hs hs' hl k).2).1 hk))⟩
 ·obtain⟨ob0,q1,q2⟩:=(iy hs hs' hl l).1 ob hq
  have:=(hH.obj l ob0 q1).le q2
  cases this with
  |cells cs vs' E hb' hlen' hxx h1'=>exact .cells cs vs' E hb' hlen' (fun j u c q3 q4=>(hxx j u c q3 q4).rH (fun k hk=>((iy hs hs' hl k).2).1 hk)) h1'
  |arr xs vs' E hb' hlen' hxx h1'=>exact .arr xs vs' E hb' hlen' hxx h1'
  |store T3 o3 sp3 nx3 z3 M3 hst=>exact .store T3 o3 sp3 nx3 z3 M3 hst
  |bJ gb gvs hgl=>exact .bJ gb gvs hgl
 ·obtain⟨ob0,q1,q2⟩:=(iy hs hs' hl l).1 ob hq
  exact hH.own l ob0 q1 (q2.dP hsl)
 ·obtain⟨ob0,q1,q2⟩:=(iy hs hs' hl l).1 ob hq
  exact hH.pre l ob0 q1 (q2.dP hsl)
end
end Go.AM
