/- Part of a machine over plain values. No conditions. -/
import Derived.Test.YtldppkdekklpkaaGreatDoorAMAny
set_option linter.all false
namespace Go.AM
def codeOK (n:Nat):Code→Bool
 |.region _ ops _=>ops.toList.all (okOp n)
 |.seq a b=>codeOK n a&&codeOK n b
 |.cond _ a b=>codeOK n a&&codeOK n b
 |.block _ c=>codeOK n c
 |.loop c=>codeOK n c
 |_=>true
def AWp (P:Program) (n:Nat) (c:Code) (K:Exit→Env→Heap→Prop) (e:Env) (h:Heap):Prop:=
 ∀g0 w0 g w a,Sim g w n a e h→Ext g0 w0 g w→c.wp P (QOf n K g0 w0) a w
def lpOf (P:Program) (n:Nat) (c:Code) (K:Exit→Env→Heap→Prop) (e:Env) (h:Heap):Prop:=AWp P n (.loop c) K e h
section
variable {P:Program} {ty:Nat→Option TI} {n:Nat}
theorem wk_spec (hty:TyOK P ty) {ops:List Oper} (hok:∀o∈ops,okOp n o=true) {fs:List (Option Eff)} {e e':Env} {h h':Heap} (hp:Path P n ops ops e h fs) (q4:∀i,eget e' i=eget (envL (ewS ops fs) (fun _=>true) 0 e) i) (q5:∀i,hget h' i=hget (heapL (hwS fs) (fun _=>true) 0 h) i):
 ∀{W:List (Nat×Nat)},wkAll ty (pcall P) ops fs e' h' W→∀(i j:Nat) (o:Oper) (f fj:Option Eff),(i,j)∈W→ops[i]?=some o→fs[i]?=some f→fs[j]?=some fj→i<j→wrH f=[]∧StepOK P n ops o (envL (ewS ops fs) (fun k=>decide (k<i)) 0 e) ((wrH fj).reverse++heapL (hwS fs) (fun k=>decide (k<i)) 0 h) f
 | [],_,i,j,_,_,_,hm,_,_,_,_=>by cases hm
 |p::r,hw,i,j,o,f,fj,hm,ho,hf,hfj,hij=>by
  rcases List.mem_cons.1 hm with hm|hm
  ·cases hm
   have hw:=hw.1;simp only[ho,hf,hfj]at hw
   cases f with
   |none=>exact hw.elim
   |some f0=>
    cases fj with
    |none=>exact hw.elim
    |some fj0=>
     obtain⟨hb,ha⟩:=hw;simp only[wkB,Bool.and_eq_true]at hb;obtain⟨⟨_,hemp⟩,hall⟩:=hb;have hemp:f0.hw=[]:=List.isEmpty_iff.1 hemp;have hoko:=hok o (List.mem_of_getElem? ho);obtain⟨f1,rfl,hop⟩:=aop_sound hty (okOp_dst hoko) (okOp_store hoko) (okOp_map hoko) ha
     have key:∀{k:Nat} {ok:Oper} {fk:Option Eff},ops[k]?=some ok→fs[k]?=some fk→¬k<i→disj ((wrE ok fk).map (·.1)) (slotsOf o)=true∧(k=j∨disj ((wrH fk).map (·.1)) (f1.rd.filter fun l=>!(fj0.hw.any fun y=>Nat.beq y.1 l))=true):=by
      intro k ok fk h1 h2 hk
      have z:((ok,fk),k)∈(ops.zip fs).zipIdx:=by
       rw[List.mem_zipIdx_iff_getElem?];simp[List.getElem?_zip_eq_some,h1,h2]
      have:=List.all_eq_true.1 hall _ z;simp only[Bool.or_eq_true,Bool.and_eq_true]at this;rcases this with this|⟨t1,t2⟩
      ·rw[Nat.blt_eq]at this;exact absurd this hk
      ·refine⟨t1,?_⟩
       rcases t2 with t2|t2
       ·exact .inl (Nat.eq_of_beq_eq_true t2)
       ·exact .inr t2
     have hst:=hp.at 0 i o (some f1) ho hf;simp only[Nat.zero_add]at hst;refine⟨hemp,hst.1,fun e2 h2 he2 hh2=>hop e2 h2 (fun t ht=>(he2 t ht).trans ?_) (fun l hl=>(hh2 l hl).trans ?_)⟩
     ·rw[q4 t]
      refine envL_congr t _ _ _ 0 e e rfl (fun k X hk hx=>?_);obtain⟨ok,fk,h1,h2',rfl⟩:=ewS_get hk;rw[Nat.zero_add]
      by_cases hki:k<i
      ·simp[hki]
      ·obtain⟨y,hy,hyt⟩:=hx
       exact(disj_spec (key h1 h2' hki).1 (List.mem_map.2 ⟨y,hy,hyt⟩) ht).elim
     ·rw[hemp,List.map_nil,List.append_nil]at hl
      by_cases hx:∃y∈fj0.hw,y.1=l
      ·obtain⟨y,hy,hyl⟩:=hx
       exact hget_append_some _ _ _ _ ⟨y,by simpa[wrH] using hy,hyl⟩
      ·rw[hget_append_none _ _ _ (fun y hy q=>hx ⟨y,by simpa[wrH] using hy,q⟩),hget_append_none _ _ _ (fun y hy q=>hx ⟨y,by simpa using hy,q⟩),q5 l]
       refine heapL_congr l _ _ _ 0 h h rfl (fun k X hk hxk=>?_);obtain⟨fk,h2',rfl⟩:=hwS_get hk;rw[Nat.zero_add]
       by_cases hki:k<i
       ·simp[hki]
       ·have hlen:k<ops.length∨¬k<ops.length:=Nat.lt_or_ge _ _ |>.imp id (fun q=>by omega)
        rcases hlen with hlen|hlen
        ·rcases (key (List.getElem?_eq_getElem hlen) h2' hki).2 with q|q
         ·subst q
          rw[hfj]at h2';cases h2';exact absurd hxk hx
         ·obtain⟨y,hy,hyl⟩:=hxk
          refine(disj_spec q (List.mem_map.2 ⟨y,hy,hyl⟩) (List.mem_filter.2 ⟨hl,?_⟩)).elim
          cases hq:fj0.hw.any fun y=>Nat.beq y.1 l with
          |false=>rfl
          |true=>
           obtain⟨z,hz,hzl⟩:=List.any_eq_true.1 hq;exact absurd ⟨z,hz,Nat.eq_of_beq_eq_true hzl⟩ hx
        ·have:=hp.len
         have:=(List.getElem?_eq_some_iff.1 h2').1;omega
  ·exact wk_spec hty hok hp q4 q5 hw.2 i j o f fj hm ho hf hfj hij
theorem awp_sound (hty:TyOK P ty) (hmix:P.follows .mixedOrders=true):∀(c:Code) (K:Exit→Env→Heap→Prop) (e:Env) (h:Heap),codeOK n c=true→awp ty (pcall P) (lpOf P n) c K e h→AWp P n c K e h
 |.skip,K,e,h,_,hk=>fun g0 w0 g w a s hE=>wp_skip ⟨g,e,h,hk,s,hE⟩
 |.region id ops false,K,e,h,hok,hk=>fun g0 w0 g w a s hE=>by
  refine wp_region ?_;rw[List.range_eq_range'];have:=aops_sound hty (by simpa[codeOK] using hok) ops.toList 0 e h g w a (fun j=>by simp) hk s hE;simpa using this
 |.region id ops true,K,e,h,hok,hk=>fun g0 w0 g w a s hE=>by
  refine wp_region_any hmix ?_;have hok':ops.toList.all (okOp n)=true:=by simpa[codeOK] using hok
  obtain⟨fs,e',h',q1,q2,⟨q3,q3'⟩,q4,q5⟩:=aopsR_path (n:=n) hty ops.toList e h [] e h (fun o ho=>List.all_eq_true.1 hok' o ho) hk (fun _=>rfl) (fun _=>rfl);simp only[List.append_nil]at q3;have hz:∀i,(Array.replicate ops.size false).getD i false=false:=fun i=>by simp[Array.getD_eq_getD_getElem?,Array.getElem?_replicate];split<;>rfl
  have hnoneE:∀(ws:List Env) (k:Nat) (e:Env),envL ws (fun _=>false) k e=e:=by
   intro ws;induction ws with
   |nil=>intros;rfl
   |cons W r ih=>intro k e;rw[envL];simp only[Bool.false_eq_true,if_false];exact ih _ _
  have hnoneH:∀(ws:List Heap) (k:Nat) (e:Heap),heapL ws (fun _=>false) k e=e:=by
   intro ws;induction ws with
   |nil=>intros;rfl
   |cons W r ih=>intro k e;rw[heapL];simp only[Bool.false_eq_true,if_false];exact ih _ _
  have hok2:∀o∈ops.toList,okOp n o=true:=fun o ho=>List.all_eq_true.1 hok' o ho
  obtain⟨W,hind,hwk⟩:∃W,indW W ops.toList fs.reverse=true∧∀(i j:Nat) (o:Oper) (f fj:Option Eff),(i,j)∈W→ops.toList[i]?=some o→fs[i]?=some f→fs[j]?=some fj→i<j→wrH f=[]∧StepOK P n ops.toList o (envL (ewS ops.toList fs) (fun k=>decide (k<i)) 0 e) ((wrH fj).reverse++heapL (hwS fs) (fun k=>decide (k<i)) 0 h) f:=by
   rcases q3 with q3|⟨W,r1,r2⟩
   ·exact⟨[],indB_W q3,fun _ _ _ _ _ q=>by cases q⟩
   ·rw[List.reverse_reverse]at r2
    exact⟨W,r1,wk_spec hty hok2 q1 q4 q5 r2⟩
  refine region_anyW hok' q1 q2 hind hwk (g0:=g0) (w0:=w0) (K:=K) (fun e2 h2 r1 r2=>⟨e',h',q3',fun i=>(q4 i).trans (r1 i).symm,fun i=>(q5 i).trans (r2 i).symm⟩) ops.size _ a _ (by simp) ?_ ?_ ⟨g,?_,hE.trans Ext.drew⟩
  ·unfold unl;simpa using List.length_filter_le (fun i=>!(Array.replicate ops.size false).getD i false) (List.range ops.size)
  ·intro j o ho hj;simp only[hz]at hj;cases hj
  ·simp only[hz,hnoneE,hnoneH];exact s.drew
 |.seq x y,K,e,h,hok,hk=>fun g0 w0 g w a s hE=>by
  have hok:codeOK n x=true∧codeOK n y=true:=by simpa[codeOK] using hok
  refine wp_seq (wp_mono (awp_sound hty hmix x _ e h hok.1 hk g0 w0 g w a s hE) ?_);rintro ex a' w' ⟨g',e',h',hk',s',hE'⟩
  cases ex with
  |normal=>exact awp_sound hty hmix y K e' h' hok.2 hk' g0 w0 g' w' a' s' hE'
  |_=>exact⟨g',e',h',hk',s',hE'⟩
 |.cond c x y,K,e,h,hok,hk=>fun g0 w0 g w a s hE=>by
  have hok:codeOK n x=true∧codeOK n y=true:=by simpa[codeOK] using hok
  have hk:(match Go.AM.ev e c with|.p (.b g)=>ASplit g (awp ty (pcall P) (lpOf P n) x K e h) (awp ty (pcall P) (lpOf P n) y K e h)|_=>AStuck "cond"):=hk;split at hk
  ·rename_i b hb
   obtain⟨_,r⟩:=s.ev c;rw[hb]at r;refine wp_cond r.bool ?_
   cases b with
   |true=>exact awp_sound hty hmix x K e h hok.1 hk g0 w0 g w a s hE
   |false=>exact awp_sound hty hmix y K e h hok.2 hk g0 w0 g w a s hE
  ·exact hk.elim
 |.block id c,K,e,h,hok,hk=>fun g0 w0 g w a s hE=>by
  refine wp_block (wp_mono (awp_sound hty hmix c _ e h (by simpa[codeOK] using hok) hk g0 w0 g w a s hE) ?_);rintro ex a' w' ⟨g',e',h',hk',s',hE'⟩
  cases ex with
  |exit i=>
   simp only[Exit.inBlock]
   by_cases q:i=id
   ·subst q
    rw[if_pos rfl];simp only[beq_self]at hk';exact⟨g',e',h',hk',s',hE'⟩
   ·rw[if_neg q]
    simp only[beq_false q]at hk';exact⟨g',e',h',hk',s',hE'⟩
  |_=>exact⟨g',e',h',hk',s',hE'⟩
 |.exit id,K,e,h,_,hk=>fun g0 w0 g w a s hE=>wp_exit ⟨g,e,h,hk,s,hE⟩
 |.ret,K,e,h,_,hk=>fun g0 w0 g w a s hE=>wp_ret ⟨g,e,h,hk,s,hE⟩
 |.loop c,K,e,h,_,hk=>hk
 |.rangeFunc ..,K,e,h,_,hk=>hk.elim
 |.scope _,K,e,h,_,hk=>hk.elim
 |.label _,K,e,h,_,hk=>hk.elim
 |.goto _,K,e,h,_,hk=>hk.elim
 |.refuse _,K,e,h,_,hk=>hk.elim
theorem least_of (p:Nat→Prop) (h:∃m,p m):∃m,p m∧∀k,p k→m≤k:=by
 obtain⟨m,hm⟩:=h
 induction m using Nat.strongRecOn with
 |_ m ih=>
  by_cases hx:∃k,k<m∧p k
  ·obtain⟨k,hk,hpk⟩:=hx;exact ih k hk hpk
  ·refine⟨m,hm,fun k hk=>?_⟩
   rcases Nat.lt_or_ge k m with q|q
   ·exact absurd ⟨k,q,hk⟩ hx
   ·exact q
theorem AWp.loop {c:Code} {K:Exit→Env→Heap→Prop} (Inv:Nat→Env→Heap→Prop) {m:Nat} {e:Env} {h:Heap} (h0:Inv m e h)
 (round:∀m e h,Inv m e h→AWp P n c (fun x e' h'=>match x with|.normal=>∃m',m'<m∧Inv m' e' h'|x=>K x e' h') e h):AWp P n (.loop c) K e h:=by
 intro g0 w0 g w a s hE
 let p:Act→World→Nat→Prop:=fun a w m=>∃g e h,Inv m e h∧Sim g w n a e h∧Ext g0 w0 g w
 have mu:∃μ:Act→World→Nat,∀a w,(∃m,p a w m)→p a w (μ a w)∧∀k,p a w k→μ a w≤k:=by
  exact⟨fun a w=>Classical.epsilon (fun m=>p a w m∧∀k,p a w k→m≤k),fun a w hx=>Classical.epsilon_spec (least_of _ hx)⟩
 obtain⟨μ,hμ⟩:=mu;refine wp_loop (fun a w=>∃m,p a w m) μ ⟨m,g,e,h,h0,s,hE⟩ (fun a w hx=>?_);obtain⟨⟨g1,e1,h1,hi,s1,hE1⟩,_⟩:=hμ a w hx;refine wp_mono (round _ e1 h1 hi g0 w0 g1 w a s1 hE1) ?_;rintro ex a' w' ⟨g',e',h',hk',s',hE'⟩
 cases ex with
 |normal=>
  obtain⟨m',hlt,hi'⟩:=hk';have hp:p a' w' m':=⟨g',e',h',hi',s',hE'⟩
  exact⟨⟨m',hp⟩,Nat.lt_of_le_of_lt ((hμ a' w' ⟨m',hp⟩).2 m' hp) hlt⟩
 |_=>exact⟨g',e',h',hk',s',hE'⟩
end
def withinObjs (d:Nat→Bool):List AObj→Bool
 | []=>true
 |o::r=>o.within d&&withinObjs d r
def At (lv ll:List Nat) (J:List AV→List AObj→Prop) (e:Env) (h:Heap):Prop:=
 ∃objs,ll.map (hget h)=objs.map some∧AV.withins (memB ll) (lv.map (eget e))=true∧withinObjs (memB ll) objs=true∧J (lv.map (eget e)) objs
theorem eget_zip:∀(lv:List Nat) (f:Nat→AV) (i:Nat),eget (lv.zip (lv.map f)) i=f i∨eget (lv.zip (lv.map f)) i=.top
 | [],f,i=>.inr rfl
 |x::r,f,i=>by
  simp only[List.map_cons,List.zip_cons_cons]
  by_cases q:x=i
  ·subst q;rw[eget_self];exact .inl rfl
  ·rw[eget_ne q];exact eget_zip r f i
theorem eget_zip_mem:∀(lv:List Nat) (vals:List AV) (i:Nat),eget (lv.zip vals) i=.top∨∃j:Nat,vals[j]?=some (eget (lv.zip vals) i)
 | [],vals,i=>.inl rfl
 |x::r,[],i=>.inl rfl
 |x::r,v::vals,i=>by
  simp only[List.zip_cons_cons]
  by_cases q:x=i
  ·subst q;rw[eget_self];exact .inr ⟨0,rfl⟩
  ·rw[eget_ne q]
   rcases eget_zip_mem r vals i with h|⟨j,hj⟩
   ·exact .inl h
   ·exact .inr ⟨j+1,by simpa using hj⟩
theorem hget_zip:∀(ll:List Nat) (h:Heap) (objs:List AObj),ll.map (hget h)=objs.map some→(∀l o,hget (ll.zip objs) l=some o→hget h l=some o∧∃j:Nat,objs[j]?=some o)∧∀l,l∈ll→(hget (ll.zip objs) l).isSome=true
 | [],h,[],_=>⟨fun l o q=>by simp[hget]at q,fun l hl=>by cases hl⟩
 | [],h,_::_,hh=>by simp at hh
 |x::r,h,[],hh=>by simp at hh
 |x::r,h,o::objs,hh=>by
  simp only[List.map_cons,List.cons.injEq]at hh;obtain⟨k1,k2⟩:=hget_zip r h objs hh.2;simp only[List.zip_cons_cons];refine⟨fun l o' q=>?_,fun l hl=>?_⟩
  ·by_cases e1:x=l
   ·subst e1;rw[hget_self]at q;cases q;exact⟨hh.1,0,rfl⟩
   ·rw[hget_ne e1]at q
    obtain⟨q1,j,q2⟩:=k1 l o' q;exact⟨q1,j+1,by simpa using q2⟩
  ·by_cases e1:x=l
   ·subst e1;rw[hget_self];rfl
   ·rw[hget_ne e1]
    rcases List.mem_cons.1 hl with rfl|hl
    ·exact absurd rfl e1
    ·exact k2 l hl
theorem withinObjs_get (d:Nat→Bool):∀(xs:List AObj),withinObjs d xs=true→∀(j:Nat) (x:AObj),xs[j]?=some x→x.within d=true
 | [],_,j,x,hx=>by simp at hx
 |y::r,h,j,x,hx=>by
  simp only[withinObjs,Bool.and_eq_true]at h
  cases j with
  |zero=>simp at hx;subst hx;exact h.1
  |succ j=>simp at hx;exact withinObjs_get d r h.2 j x hx
section
variable {P:Program} {ty:Nat→Option TI} {n:Nat}
theorem Sim.mask {g:Gh} {w:World} {a:Act} {e:Env} {h:Heap} (s:Sim g w n a e h) {lv ll:List Nat} {objs:List AObj} (ho:ll.map (hget h)=objs.map some) (h1:AV.withins (memB ll) (lv.map (eget e))=true) (h2:withinObjs (memB ll) objs=true):
 Sim g w n a (lv.zip (lv.map (eget e))) (ll.zip objs):=by
 obtain⟨k1,k2⟩:=hget_zip ll h objs ho;have hd:∀l,memB ll l=true→domOf (ll.zip objs) l:=fun l hl=>k2 l (memB_mem ll l hl);refine⟨s.defers,s.size,fun i=>?_,⟨fun l o hl=>?_,fun l o hl=>s.heap.own l o (k1 l o hl).1,fun l o hl=>s.heap.pre l o (k1 l o hl).1⟩,s.bnd⟩
 ·rcases eget_zip lv (eget e) i with q|q
  ·rcases eget_zip_mem lv (lv.map (eget e)) i with q'|⟨j,hj⟩
   ·rw[q'];exact .top _ _
   ·rw[q]at hj ⊢
    exact(s.env i).within hd (withins_get _ _ h1 j _ hj)
  ·rw[q];exact .top _ _
 ·obtain⟨q1,j,q2⟩:=k1 l o hl
  have hw:=withinObjs_get _ _ h2 j o q2
  cases s.heap.obj l o q1 with
  |cells cs vs E hb hlen hx' h1'=>exact .cells cs vs E hb hlen (fun j v c r1 r2=>(hx' j v c r1 r2).within hd (withins_get _ cs (by simpa[AObj.within] using hw) j c r2)) h1'
  |arr xs vs E hb hlen hx' h1'=>exact .arr xs vs E hb hlen hx' h1'
  |map kd xs es clock hb hx' hc=>exact .map kd xs es clock hb hx' hc
  |gr st sz xs hg=>exact .gr st sz xs hg
  |dead=>exact .dead
  |bld T E2 bs2 hbl=>exact .bld T E2 bs2 hbl
  |store T3 o3 sp3 nx3 z3 M3 hst=>exact .store T3 o3 sp3 nx3 z3 M3 hst
  |glob gb gvs hgl=>exact .glob gb gvs hgl
theorem loopM (hty:TyOK P ty) (hmix:P.follows .mixedOrders=true) {c:Code} (hok:codeOK n c=true) {K:Exit→Env→Heap→Prop} (lv ll:List Nat) (I:Nat→List AV→List AObj→Prop) {e:Env} {h:Heap} (m:Nat) (h0:At lv ll (I m) e h)
 (round:∀m vals objs,I m vals objs→awp ty (pcall P) (lpOf P n) c (fun x e' h'=>match x with|.normal=>∃m',m'<m∧At lv ll (I m') e' h'|x=>K x e' h') (lv.zip vals) (ll.zip objs)):lpOf P n c K e h:=by
 intro g0 w0 g w a s hE;obtain⟨objs,q1,q2,q3,q4⟩:=h0
 refine AWp.loop (K:=K) (fun m e h=>∃e0 h0,At lv ll (I m) e0 h0∧(∀g w a,Sim g w n a e h→∃objs,ll.map (hget h0)=objs.map some∧I m (lv.map (eget e0)) objs∧Sim g w n a (lv.zip (lv.map (eget e0))) (ll.zip objs))) (m:=m) (e:=e) (h:=h)
  ⟨e,h,⟨objs,q1,q2,q3,q4⟩,fun g w a s=>⟨objs,q1,q4,s.mask q1 q2 q3⟩⟩ ?_ g0 w0 g w a s hE
 rintro m e h ⟨e0,h0,hAt,hsim⟩ g0 w0 g w a s hE;obtain⟨objs,r1,r2,s'⟩:=hsim g w a s;refine wp_mono (awp_sound hty hmix c _ _ _ hok (round m _ objs r2) g0 w0 g w a s' hE) ?_;rintro ex a' w' ⟨g',e',h',hk',s'',hE'⟩;refine⟨g',e',h',?_,s'',hE'⟩
 cases ex with
 |normal=>
  obtain⟨m',hlt,hAt'⟩:=hk';refine⟨m',hlt,e',h',hAt',fun g w a s=>?_⟩;obtain⟨objs',t1,t2,t3,t4⟩:=hAt';exact⟨objs',t1,t4,s.mask t1 t2 t3⟩
 |_=>exact hk'
def loadRes (ty:Nat→Option TI) (e:Env) (h:Heap) (a t:Nat):Option AV:=match ty t with
 |some i=>match eget e a with
  |.ptr l off=>match hget h l with
   |some (.cells cs)=>match isAggD i.desc with
    |true=>match getAt cs off i.size with|some l1=>some (mkAgg l1 i.csz)|none=>none
    |false=>match cs[off]? with|some v=>some v.copy|none=>none
   |_=>none
  |_=>none
 |none=>none
def resTup (ty:Nat→Option TI) (e:Env) (h:Heap):List ResultVar→List Nat→Option (List AV)
 | [],_=>some []
 |.tmp t::r,ts=>match resTup ty e h r ts.tail with
  |some l=>some ((match eget e t with
   |.nilS=>.p (.sl (elemSz ty (headD ts)) [])
   |.so sz xs=>.p (.sl sz xs)
   |.agg cs=>aggTy ty (headD ts) cs
   |v=>v)::l)
  |none=>none
 |.cell a t::r,ts=>match resTup ty e h r ts.tail,loadRes ty e h a t with
  |some l,some v=>some (v::l)
  |_,_=>none
def resOf (ty:Nat→Option TI) (rs:List ResultVar) (ts:List Nat) (e:Env) (h:Heap):Option AV:=match rs with
 | [.tmp t]=>match eget e t with
   |.nilS=>match elemSz ty (headD ts) with
    |0=>none
    |k+1=>some (.so (k+1) [])
   |.agg cs=>some (aggTy ty (headD ts) cs)
   |v=>some v
 | [.cell a t]=>loadRes ty e h a t
 |rs=>match resTup ty e h rs ts with|some l=>some (.tup l)|none=>none
def okRes:AV→Bool
 |.so _ _=>true
 |v=>v.free
def RetOK (v r:AV):Prop:=v=r∨v.copy=r
def RetOKB (h:Heap) (v r:AV):Prop:=v=r∨v.copy=r∨(AV.bor (keysOf h) h v=some r∧eqsOK (AV.borEq (keysOf h) h v))
def retK (ty:Nat→Option TI) (rs:List ResultVar) (ts:List Nat) (r:AV):Exit→Env→Heap→Prop:=fun x e h=>match x with
 |.ret=>(match resOf ty rs ts e h with|some v=>RetOKB h v r|none=>False)
 |.normal=>(match resOf ty rs ts e h with|some v=>RetOKB h v r|none=>False)
 |_=>False
def argEnv:Nat→List AV→Env
 |_,[]=>[]
 |k,v::r=>(k,v)::argEnv (k+1) r
theorem VRel.fromNone {g:Gh} {w:World} {dom:Nat→Prop} {ow:Option Owner} {v:Value} {x:AV} (r:VRel g w dom none v x):VRel g w dom ow v x:=by
 cases x with
 |so sz xs=>cases r with
  |full _ a _ _ hz h=>exact .full _ a sz xs hz h
 |_=>exact r.anyOwner (fun _ _ q=>by cases q)
theorem argEnv_get:∀(k:Nat) (args:List AV) (i:Nat),(i<k∧eget (argEnv k args) i=.top)∨(k≤i∧eget (argEnv k args) i=(args[i-k]?).getD .top)
 |k,[],i=>by
  rcases Nat.lt_or_ge i k with h|h
  ·exact .inl ⟨h,rfl⟩
  ·exact .inr ⟨h,by simp[argEnv,eget]⟩
 |k,v::r,i=>by
  rw[argEnv]
  by_cases q:k=i
  ·subst q;right;exact⟨Nat.le_refl _,by rw[eget_self];simp⟩
  ·rw[eget_ne q]
   rcases argEnv_get (k+1) r i with⟨h1,h2⟩|⟨h1,h2⟩
   ·exact .inl ⟨by omega,h2⟩
   ·exact .inr ⟨by omega,by rw[h2,show i-k=(i-(k+1))+1 by omega];simp⟩
def resSem (tmps:Array Value):ResultVar→Sem Value
 |.tmp t=>pure (tmps.getD t undef)
 |.cell a t=>do loadVar t (←asAddr (tmps.getD a undef))
theorem copy_noSo (x:AV) (sz:Nat) (xs:List PV):x.copy≠.so sz xs:=by cases x<;>simp[AV.copy]
theorem mkAgg_noSo (cs:List AV) (z:List Nat) (sz:Nat) (xs:List PV):mkAgg cs z≠.so sz xs:=by
 unfold mkAgg;split<;>simp
theorem loadRes_rel (hty:TyOK P ty) {g:Gh} {w:World} {a:Act} {e:Env} {h:Heap} (s:Sim g w n a e h) {b t:Nat} {x:AV} (hx:loadRes ty e h b t=some x):
 ∃v,(resSem a.tmps (.cell b t)).run P w=.ok v w∧VRel g w (domOf h) none v x∧∀sz xs,x≠.so sz xs:=by
 unfold loadRes at hx;split at hx
 ·rename_i i hi
  split at hx
  ·rename_i l off hp
   split at hx
   ·rename_i cs hl
    have hv:=s.env b;rw[hp]at hv;generalize hvv:a.tmps.getD b undef=v0 at hv
    cases hv with
    |ptr _ _ _ hd=>
     cases s.heap.obj l _ hl with
     |cells _ vs E hb hlen hxx h1=>
      have hcell:∀k,w.cell? ⟨g.ρ l,k,none⟩=vs[k]?:=fun k=>cell?_of hb k
      have e0:∀u,(Instr.loadAt t (.pointer (some ⟨g.ρ l,off,none⟩))).run P w=.ok u w→(resSem a.tmps (.cell b t)).run P w=.ok u w:=by
       intro u hu;simpa[resSem,hvv,Instr.loadAt,Instr.sureAddr,asAddr] using hu
      split at hx
      ·rename_i hag
       split at hx
       ·rename_i l1 hl1
        cases hx;obtain⟨k1,k2⟩:=getAt_spec _ _ _ _ hl1
        have hle:i.size=0∨off+i.size≤vs.size:=by
         rcases Nat.eq_zero_or_pos i.size with h0|h0
         ·exact .inl h0
         ·right
          have:=k2 (i.size-1) (by omega)
          have hlt:off+(i.size-1)<cs.length:=by
           rcases Nat.lt_or_ge (off+(i.size-1)) cs.length with h2|h2
           ·exact h2
           ·rw[List.getElem?_eq_none h2,List.getElem?_eq_none_iff]at this;omega
          omega
        have hll:((vs.toList.drop off).take i.size).length=i.size:=by simp;omega
        have hget:∀(j:Nat) (v:Value),((vs.toList.drop off).take i.size)[j]?=some v→j<i.size∧vs[off+j]?=some v:=by
         intro j v hj;have hji:j<i.size:=by have:=(List.getElem?_eq_some_iff.1 hj).1;omega
         rw[List.getElem?_take,if_pos hji,List.getElem?_drop]at hj;exact⟨hji,by simpa using hj⟩
        refine⟨.agg ((vs.toList.drop off).take i.size).toArray,e0 _ ?_,mkAgg_rel _ _ _ (hll.trans k1.symm) (fun v hv=>h1 v (List.mem_of_mem_drop (List.mem_of_mem_take hv))) fun j v c hj hc=>?_,mkAgg_noSo _ _⟩
        ·exact run_loadAt hty hi rfl _ hll (fun j v hj=>by rw[cell?_of hb];exact(hget j v hj).2) hag
        ·obtain⟨hji,hj'⟩:=hget j v hj
         rw[k2 j hji]at hc;exact⟨_,hxx _ _ _ hj' hc⟩
       ·cases hx
      ·rename_i hag
       split at hx
       ·rename_i c hc
        cases hx;have hlt:off<vs.size:=by rw[hlen];exact(List.getElem?_eq_some_iff.1 hc).1
        have hv:vs[off]?=some vs[off]:=Array.getElem?_eq_getElem hlt;exact⟨vs[off],e0 _ (run_loadAt1 hty hi rfl hag (by rw[cell?_of hb];exact hv)),(hxx off _ c hv hc).copy,copy_noSo c⟩
       ·cases hx
   ·cases hx
  ·cases hx
 ·cases hx
theorem resTup_rel (hty:TyOK P ty) {g:Gh} {w:World} {a:Act} {e:Env} {h:Heap} (s:Sim g w n a e h):∀(rs:List ResultVar) (ts:List Nat) (l:List AV),resTup ty e h rs ts=some l→
 ∃vs:List Value,(rs.mapM (resSem a.tmps)).run P w=.ok vs w∧vs.length=l.length∧l.length=rs.length∧∀(j:Nat) (v:Value) (c:AV),vs[j]?=some v→l[j]?=some c→VRel g w (domOf h) none v c
 | [],ts,l,hl=>by
   simp[resTup]at hl;subst hl;exact⟨[],by simp,rfl,rfl,by simp⟩
 |.tmp t::r,ts,l,hl=>by
  simp only[resTup]at hl;split at hl
  ·rename_i l1 hl1
   cases hl;obtain⟨vs,h1,h2,h2',h3⟩:=resTup_rel hty s r ts.tail l1 hl1;refine⟨a.tmps.getD t undef::vs,by simp only[List.mapM_cons,Sem.run_bind,resSem,Sem.run_pure,Result.andThen_ok,h1],by simp[h2],by simp[h2'],fun j v c hv hc=>?_⟩
   cases j with
   |zero=>
    simp only[List.getElem?_cons_zero,Option.some.injEq]at hv hc;subst hv;subst hc;have:=s.env t;split
    ·rename_i hq
     rw[hq]at this;generalize a.tmps.getD t undef=v at this
     cases this with
     |nilS=>exact .p _ _ _ (.nil _)
    ·rename_i sz xs hq;rw[hq]at this;exact this.copy
    ·rename_i cs hq;rw[hq]at this;exact aggTy_rel _ (this.anyOwner (fun _ _ q=>by cases q))
    ·rename_i hq1 hq2 hq3;exact this.anyOwner (fun sz xs q=>hq2 sz xs q)
   |succ j=>simp only[List.getElem?_cons_succ]at hv hc;exact h3 j v c hv hc
  ·cases hl
 |.cell b t::r,ts,l,hl=>by
  simp only[resTup]at hl;split at hl
  ·rename_i l1 x hl1 hx
   cases hl;obtain⟨vs,h1,h2,h2',h3⟩:=resTup_rel hty s r ts.tail l1 hl1;obtain⟨v0,q1,q2,_⟩:=loadRes_rel (P:=P) hty s hx;refine⟨v0::vs,by simp only[List.mapM_cons,Sem.run_bind,q1,Sem.run_pure,Result.andThen_ok,h1],by simp[h2],by simp[h2'],fun j v c hv hc=>?_⟩
   cases j with
   |zero=>
    simp only[List.getElem?_cons_zero,Option.some.injEq]at hv hc;subst hv;subst hc;exact q2
   |succ j=>simp only[List.getElem?_cons_succ]at hv hc;exact h3 j v c hv hc
  ·cases hl
theorem resOf_rel (hty:TyOK P ty) {fn:Func} {g:Gh} {w:World} {a:Act} {e:Env} {h:Heap} (s:Sim g w n a e h) {x:AV} (hx:resOf ty fn.results.toList fn.resultTypes.toList e h=some x):
 ∃v,(results fn a.tmps).run P w=.ok v w∧∃t,VRel g w (domOf h) (some (.slot t)) v x:=by
 unfold resOf at hx;split at hx
 ·rename_i t hrs
  have hres:fn.results=#[.tmp t]:=by apply Array.ext';rw[hrs]
  have hrun:(results fn a.tmps).run P w=.ok (a.tmps.getD t undef) w:=by simp[results,hres]
  have he:=s.env t;refine⟨_,hrun,t,?_⟩;split at hx
  ·rename_i hn
   rw[hn]at he;split at hx
   ·cases hx
   ·rename_i k hk
    cases hx;generalize a.tmps.getD t undef=u at he
    cases he with
    |nilS=>exact .full _ none (k+1) [] (by omega) (.nil _)
  ·rename_i cs hn;rw[hn]at he;cases hx;exact aggTy_rel _ he
  ·cases hx;exact he
 ·rename_i b t hrs
  have hres:fn.results=#[.cell b t]:=by apply Array.ext';rw[hrs]
  obtain⟨v,q1,q2,q3⟩:=loadRes_rel (P:=P) hty s hx;refine⟨v,?_,0,q2.fromNone⟩
  have e1:results fn a.tmps=(do let vs ←fn.results.mapM (resSem a.tmps);pure (if h:vs.size=1 then vs[0] else .tuple vs)):=by
   unfold results
   congr 2
  rw[e1,Sem.run_bind,hres,Array.mapM_eq_mapM_toList,Sem.run_map];simp[q1]
 ·rename_i hne1 hne2
  split at hx
  ·rename_i l hl
   cases hx;obtain⟨us,k1,k2,k3,k4⟩:=resTup_rel (P:=P) hty s _ _ _ hl
   have hlen1:us.length≠1:=by
    intro q;have h1:fn.results.toList.length=1:=by omega
    match hrs:fn.results.toList,h1 with
    | [.tmp t],_=>exact hne1 t hrs
    | [.cell b t],_=>exact hne2 b t hrs
   refine⟨.tuple us.toArray,?_,0,.tup _ us l k2 k4⟩
   have e1:results fn a.tmps=(do let vs ←fn.results.mapM (resSem a.tmps);pure (if h:vs.size=1 then vs[0] else .tuple vs)):=by
    unfold results
    congr 2
   rw[e1,Sem.run_bind,Array.mapM_eq_mapM_toList,Sem.run_map,k1];simp[hlen1]
  ·cases hx
theorem okRes_rel {g g1:Gh} {w w1:World} {h1:Heap} {t:Nat} {v:Value} {r:AV} (hno:∀b,g.own b=none) (hE:Ext g w g1 w1) (hr:okRes r=true) (hv:VRel g1 w1 (domOf h1) (some (.slot t)) v r):
 ∃g',VRel g' w1 (fun _=>False) (some .ret) v r∧Ext g w g' w1:=by
 have ext:∀own':Nat→Option Owner,(∀b,b<w.heap.size→own' b=none)→Ext g w { g1 with own:=own' } w1:=fun own' ho=>
  ⟨hE.size,hE.os,hE.out,hE.imm,fun b hb hn=>⟨(hE.kept b hb hn).1,(hE.kept b hb hn).2.1,ho b hb⟩,hE.frz,hE.frz',hE.ρk,hE.siz⟩
 cases r with
 |so sz xs=>
  cases hv with
  |full _ a _ _ hz hp=>exact⟨{ g1 with own:=fun _=>none },.full _ a sz xs hz hp,ext _ (fun _ _=>rfl)⟩
  |own _ a cap _ _ cs E hz hp ho hpre hb hs=>
   have hge:¬a.block<w.heap.size:=fun hlt=>by rw[(hE.kept _ hlt (hno _)).2.2]at ho;cases ho
   refine⟨{ g1 with own:=fun b=>if b=a.block then some .ret else none },.own .ret a cap sz xs cs E hz hp (by simp) hpre hb hs,ext _ (fun b hb=>?_)⟩;have:b≠a.block:=fun q=>hge (by omega);simp[this]
 |_=>exact⟨{ g1 with own:=fun _=>none },hv.toFree (by simpa[okRes] using hr) _ _,ext _ (fun _ _=>rfl)⟩
theorem Sim.start {fn:Func} {g:Gh} {w:World} {vs:List Value} {args:List AV} {hs:Heap} (hlen:args.length≤fn.ntmps) (hH:HRel g w hs) (hbn:∀b ow,g.own b=some ow→b<w.heap.size) (hl:vs.length=args.length)
 (hrel:∀(j:Nat) (v:Value) (x:AV),vs[j]?=some v→args[j]?=some x→VRel g w (domOf hs) none v x):
 Sim g w fn.ntmps { tmps:=vs.toArray++Array.replicate (fn.ntmps-vs.toArray.size) undef,defers:=[] } (argEnv 0 args) hs:=by
 refine⟨rfl,by simp;omega,fun i=>?_,hH,hbn⟩;rcases argEnv_get 0 args i with⟨h1,_⟩|⟨_,h2⟩
 ·omega
 ·rw[h2,Nat.sub_zero]
  by_cases hi:i<args.length
  ·have hvi:vs[i]?=some vs[i]:=List.getElem?_eq_getElem (by omega)
   have hai:args[i]?=some args[i]:=List.getElem?_eq_getElem hi
   have hg:(vs.toArray++Array.replicate (fn.ntmps-vs.toArray.size) undef).getD i undef=vs[i]:=by
    rw[Array.getD_eq_getD_getElem?,Array.getElem?_append_left (by simp;omega),List.getElem?_toArray,hvi];rfl
   rw[hai,hg];exact(hrel i _ _ hvi hai).fromNone
  ·rw[List.getElem?_eq_none (by omega)];exact .top _ _
theorem APure.intro (hty:TyOK P ty) (hmix:P.follows .mixedOrders=true) {f:Nat} {fn:Func} {c:Code} {args:List AV} {r:AV} (hf:P.funcs[f]?=some fn) (hb:fn.body=some c) (hname:(fn.name== "runtime.NumGoroutine")=false)
 (hok:codeOK fn.ntmps c=true) (hlen:args.length≤fn.ntmps) (hr:okRes r=true)
 (hk:awp ty (pcall P) (lpOf P fn.ntmps) c (retK ty fn.results.toList fn.resultTypes.toList r) (argEnv 0 args) []):APure P f args r:=by
 refine⟨⟨fn,c,hf,hb,hname⟩,fun g w vs hno hsw hl hrel=>?_⟩
 have s0:=Sim.start (fn:=fn) (hs:=[]) hlen (g:=g) (w:=w) ⟨fun l o q=>by simp[hget]at q,fun l o q=>by simp[hget]at q,fun l o q=>by simp[hget]at q⟩ (fun b o q=>by rw[hno b]at q;cases q) hl
  (fun j v x q1 q2=>(hrel j v x q1 q2).domUp (fun _ q=>q.elim))
 refine calls_of_wp hf hb (wp_mono (awp_sound hty hmix c _ _ _ hok hk g w g w _ s0 (Ext.refl _ _)) ?_);rintro ex a' w' ⟨g1,e1,h1,hk1,s1,hE1⟩
 have fin:(match resOf ty fn.results.toList fn.resultTypes.toList e1 h1 with|some v=>RetOKB h1 v r|none=>False)→a'.defers=[]∧∃v,(results fn a'.tmps).run P w'=.ok v w'∧(∃v1 g',Ending.returned v=.returned v1∧VRel g' w' (fun _=>False) (some .ret) v1 r∧Ext g w g' w'):=by
  intro hq;refine⟨s1.defers,?_⟩;split at hq
  ·rename_i x hx
   obtain⟨v,hrun,t,hv⟩:=resOf_rel (P:=P) hty s1 hx;refine⟨v,hrun,?_⟩;rcases hq with rfl|rfl|⟨hbor,hqs⟩
   ·obtain⟨g',q1,q2⟩:=okRes_rel hno hE1 hr hv;exact⟨v,g',rfl,q1,q2⟩
   ·obtain⟨g',q1,q2⟩:=okRes_rel hno hE1 hr (t:=t) hv.copy;exact⟨v,g',rfl,q1,q2⟩
   ·refine⟨v,g1.lay w',rfl,(bor_rel s1.heap hv hbor hqs).fromNone,hE1.size,hE1.os,hE1.out,fun b k u hu=>imm_show (hE1.imm b k u hu),fun b hb hn=>⟨(hE1.kept b hb hn).1,?_,rfl⟩,⟨hE1.frz.1,funext fun q=>(hsw q).symm,hE1.frz.2.2⟩,hE1.frz',hE1.ρk,hE1.siz⟩
    show layPre g1 w' b=g.pre b;unfold layPre;rw[(hE1.kept b hb hn).2.2];exact(hE1.kept b hb hn).2.1
  ·exact hq.elim
 cases ex with
 |normal=>exact fin hk1
 |ret=>exact fin hk1
 |_=>exact hk1.elim
def AVLe (x y:AV):Prop:=x=y∨x.copy=y∨(x=.nilS∧∃sz,y=.so (sz+1) [])
def CLe:List AV→List AV→Prop
 | [],[]=>True
 |x::r,y::r'=>AVLe x y∧CLe r r'
 |_,_=>False
def ObLe:AObj→AObj→Prop
 |.cells cs,.cells cs'=>CLe cs cs'
 |.arr xs,.arr ys=>xs=ys
 |.map kd xs,.map kd' ys=>kd=kd'∧xs=ys
 |.gr st sz xs,.gr st' sz' ys=>st=st'∧sz=sz'∧xs=ys
 |.glob b vs,.glob b' vs'=>b=b'∧vs=vs'
 |.bld T e bs,.bld T' e' bs'=>T=T'∧e=e'∧bs=bs'
 |.store T o sp nx z M,.store T' o' sp' nx' z' M'=>T=T'∧o=o'∧sp=sp'∧nx=nx'∧z=z'∧M=M'
 |_,.dead=>True
 |_,_=>False
theorem ObLe.solid {x y:AObj} (h:ObLe x y) (hy:y.solid=true):x.solid=true:=by
 cases x<;>cases y<;>first|rfl|(cases hy;done)|exact h.elim|skip
 obtain⟨rfl,rfl,rfl⟩:=h;exact hy
def heapOK (h:Heap):Heap→Prop
 | []=>True
 |(l,ob)::r=>(match hget h l with|some ob0=>ObLe ob0 ob|none=>False)∧heapOK h r
def objsIn (d:Nat→Bool):Heap→Bool
 | []=>true
 |(_,ob)::r=>ob.within d&&objsIn d r
theorem VRel.le {g:Gh} {w:World} {dom:Nat→Prop} {ow:Option Owner} {v:Value} {x y:AV} (r:VRel g w dom ow v x) (hl:AVLe x y):VRel g w dom ow v y:=by
 rcases hl with rfl|rfl|⟨rfl,sz,rfl⟩
 ·exact r
 ·exact r.copy
 ·cases r;exact .full _ none (sz+1) [] (by omega) (.nil _)
theorem CLe.get:∀(cs cs':List AV),CLe cs cs'→cs.length=cs'.length∧∀(j:Nat) (y:AV),cs'[j]?=some y→∃x,cs[j]?=some x∧AVLe x y
 | [],[],_=>⟨rfl,by simp⟩
 |x::r,y::r',h=>by
  obtain⟨k1,k2⟩:=CLe.get r r' h.2;refine⟨by simp[k1],fun j z hz=>?_⟩
  cases j with
  |zero=>simp at hz;subst hz;exact⟨x,rfl,h.1⟩
  |succ j=>simp at hz;obtain⟨x',q1,q2⟩:=k2 j z hz;exact⟨x',by simpa using q1,q2⟩
 | [],_::_,h=>h.elim
 |_::_,[],h=>h.elim
theorem ORel.le {g:Gh} {w:World} {dom:Nat→Prop} {l:Nat} {x y:AObj} (r:ORel g w dom l x) (hl:ObLe x y):ORel g w dom l y:=by
 cases y with
 |dead=>exact .dead
 |glob gb gvs=>
  cases r with
  |glob b vs h=>obtain⟨rfl,rfl⟩:=hl;exact .glob _ _ h
  |_=>exact hl.elim
 |bld T0 E0 bs0=>
  cases r with
  |bld _ _ _ h=>obtain⟨rfl,rfl,rfl⟩:=hl;exact .bld _ _ _ h
  |_=>exact hl.elim
 |store T0 o0 sp0 nx0 z0 M0=>
  cases r with
  |store _ _ _ _ _ _ h=>obtain⟨rfl,rfl,rfl,rfl,rfl,rfl⟩:=hl;exact .store _ _ _ _ _ _ h
  |_=>exact hl.elim
 |cells cs'=>
  cases r with
  |cells cs vs E hb hlen hx h1=>
   obtain⟨k1,k2⟩:=CLe.get cs cs' hl;refine .cells cs' vs E hb (by omega) (fun j v c q1 q2=>?_) h1;obtain⟨x',q3,q4⟩:=k2 j c q2;exact(hx j v x' q1 q3).le q4
  |_=>exact hl.elim
 |arr _=>
  cases r with
  |arr xs vs E hb hlen hx h1=>cases hl;exact .arr _ vs E hb hlen hx h1
  |_=>exact hl.elim
 |map _ _=>
  cases r with
  |map kd xs es clock hb hx hc=>obtain⟨rfl,rfl⟩:=hl;exact .map _ _ es clock hb hx hc
  |_=>exact hl.elim
 |gr _ _ _=>
  cases r with
  |gr st sz xs hg=>obtain⟨rfl,rfl,rfl⟩:=hl;exact .gr _ _ _ hg
  |_=>exact hl.elim
theorem heapOK_get {h:Heap}:∀(h':Heap),heapOK h h'→∀l ob,hget h' l=some ob→∃ob0,hget h l=some ob0∧ObLe ob0 ob
 | [],_,l,ob,hq=>by simp[hget]at hq
 |(k,x)::r,hh,l,ob,hq=>by
  by_cases e1:k=l
  ·subst e1;rw[hget_self]at hq;cases hq
   have:=hh.1;split at this
   ·rename_i ob0 h0;exact⟨ob0,h0,this⟩
   ·exact this.elim
  ·rw[hget_ne e1]at hq;exact heapOK_get r hh.2 l ob hq
theorem objsIn_get {d:Nat→Bool}:∀(h':Heap),objsIn d h'=true→∀l ob,hget h' l=some ob→ob.within d=true
 | [],_,l,ob,hq=>by simp[hget]at hq
 |(k,x)::r,hh,l,ob,hq=>by
  simp only[objsIn,Bool.and_eq_true]at hh
  by_cases e1:k=l
  ·subst e1;rw[hget_self]at hq;cases hq;exact hh.1
  ·rw[hget_ne e1]at hq;exact objsIn_get r hh.2 l ob hq
def retOwn (h':Heap) (t:Nat):Option Owner→Option Owner
 |some (.obj l)=>if l∈keysOf h' then some (.obj l) else none
 |some (.cell l j)=>if l∈keysOf h' then some (.cell l j) else none
 |some (.slot i)=>if i=t then some .ret else none
 |_=>none
def retKM (ty:Nat→Option TI) (rs:List ResultVar) (ts:List Nat) (r:AV) (h':Heap):Exit→Env→Heap→Prop:=fun x e h=>match x with
 |.ret=>(match resOf ty rs ts e h with|some v=>RetOK v r∧heapOK h h'|none=>False)
 |.normal=>(match resOf ty rs ts e h with|some v=>RetOK v r∧heapOK h h'|none=>False)
 |_=>False
theorem AMem.intro (hty:TyOK P ty) (hmix:P.follows .mixedOrders=true) {f:Nat} {fn:Func} {c:Code} {args:List AV} {hs:Heap} {r:AV} {h':Heap} (hf:P.funcs[f]?=some fn) (hb:fn.body=some c) (hname:(fn.name== "runtime.NumGoroutine")=false)
 (hok:codeOK fn.ntmps c=true) (hlen:args.length≤fn.ntmps) (hr:(r.within (memB (keysOf h'))&&objsIn (memB (keysOf h')) h'&&globB hs h')=true)
 (hk:awp ty (pcall P) (lpOf P fn.ntmps) c (retKM ty fn.results.toList fn.resultTypes.toList r h') (argEnv 0 args) hs):AMem P f args hs r h':=by
 simp only[Bool.and_eq_true]at hr;obtain⟨⟨hr1,hr2⟩,hr3⟩:=hr;refine⟨⟨⟨fn,c,hf,hb,hname⟩,hr3⟩,fun g w vs hH hbn hl hrel=>?_⟩;have s0:=Sim.start (fn:=fn) hlen hH hbn hl hrel;refine calls_of_wp hf hb (wp_mono (awp_sound hty hmix c _ _ _ hok hk g w g w _ s0 (Ext.refl _ _)) ?_);rintro ex a' w' ⟨g1,e1,h1,hk1,s1,hE1⟩
 have fin:(match resOf ty fn.results.toList fn.resultTypes.toList e1 h1 with|some v=>RetOK v r∧heapOK h1 h'|none=>False)→a'.defers=[]∧∃v,(results fn a'.tmps).run P w'=.ok v w'∧
  (∃v1 g',Ending.returned v=.returned v1∧VRel g' w' (domOf h') (some .ret) v1 r∧HRel g' w' h'∧(∀b ow,g'.own b=some ow→b<w'.heap.size)∧Ext g w g' w'):=by
  intro hq;refine⟨s1.defers,?_⟩;split at hq
  ·rename_i x hx
   obtain⟨hq,hheap⟩:=hq;obtain⟨v,hrun,t,hv⟩:=resOf_rel (P:=P) hty s1 hx
   have hv:VRel g1 w' (domOf h1) (some (.slot t)) v r:=by
    rcases hq with rfl|rfl
    ·exact hv
    ·exact hv.copy
   have hdom:∀l,memB (keysOf h') l=true→domOf h' l:=fun l hl=>by
    obtain⟨ob,hob⟩:=hget_of_key h' l (memB_mem _ _ hl);unfold domOf;rw[hob];rfl
   let g':Gh:={ pre:=g1.pre,own:=fun b=>retOwn h' t (g1.own b),ρ:=g1.ρ,σ:=g1.σ,sown:=g1.sown }
   have conv:∀{ow:Option Owner} {u:Value} {y:AV},(∀q,ow=some q→retOwn h' t (some q)=some q)→VRel g1 w' (domOf h1) ow u y→y.within (memB (keysOf h'))=true→VRel g' w' (domOf h') ow u y:=by
    intro ow u y hq r0 hin;have r1:=r0.within (dom':=domOf h') hdom hin;exact VRel.keep (g:=g1) (g':=g') (w:=w') (w':=w') (fun _ _ _ hv=>hv) (fun l hl=>⟨hl,rfl⟩) (fun l cs E _ hb=>⟨cs,E,hb,rfl⟩) (fun q b e1 ho=>⟨by show retOwn h' t (g1.own b)=some q;rw[ho];exact hq q e1,rfl,rfl⟩) r1
   refine⟨v,hrun,v,g',rfl,?_,⟨fun l ob hl=>?_,fun l ob hl hsl=>?_,fun l ob hl hsl=>?_⟩,fun b q hq=>?_,?_⟩
   ·cases r with
    |so sz xs=>
     cases hv with
     |full _ a _ _ hz hp=>exact .full _ a sz xs hz hp
     |own _ a cap _ _ cs E hz hp ho hpre hb' hs'=>exact .own .ret a cap sz xs cs E hz hp (by show retOwn h' t (g1.own a.block)=_;rw[ho];simp[retOwn]) hpre hb' hs'
    |_=>exact(conv (ow:=none) (fun _ q=>by cases q) (hv.anyOwner (fun _ _ q=>by cases q)) hr1).anyOwner (fun _ _ q=>by cases q)
   ·obtain⟨ob0,q1,q2⟩:=heapOK_get h' hheap l ob hl
    have hin:=objsIn_get h' hr2 l ob hl;have hkl:=hget_key _ _ _ hl
    cases (s1.heap.obj l ob0 q1).le q2 with
    |cells cs vs' E hb' hlen' hxx h1'=>exact .cells cs vs' E hb' hlen' (fun j u c q3 q4=>conv (fun q e1=>by cases e1;simp[retOwn,hkl]) (hxx j u c q3 q4) (withins_get _ cs (by simpa[AObj.within] using hin) j c q4)) h1'
    |arr xs vs' E hb' hlen' hxx h1'=>exact .arr xs vs' E hb' hlen' hxx h1'
    |map kd xs es clock hb' hxx hc=>exact .map kd xs es clock hb' hxx hc
    |gr st sz xs hg=>exact .gr st sz xs hg
    |dead=>exact .dead
    |bld T E2 bs2 hbl=>exact ORel.bldM hbl rfl rfl (fun bb hb2=>⟨by show retOwn h' t (g1.own bb)=_;rw[hb2];simp[retOwn,hkl],rfl,rfl⟩)
    |store T3 o3 sp3 nx3 z3 M3 hst=>exact .store T3 o3 sp3 nx3 z3 M3 (hst.mono (fun _ _ _ q=>q) (fun bb hb2=>⟨by show retOwn h' t (g1.own bb)=_;rw[hb2];simp[retOwn,hkl],rfl,rfl⟩) hst.sown)
    |glob gb gvs hgl=>exact ORel.globM hgl (fun h1 _ _=>⟨rfl,by show retOwn h' t (g1.own gb)=none;rw[h1];rfl⟩)
   ·obtain⟨ob0,q1,q2⟩:=heapOK_get h' hheap l ob hl
    show retOwn h' t (g1.own (g1.ρ l))=_;rw[s1.heap.own l ob0 q1 (q2.solid hsl)];simp[retOwn,hget_key _ _ _ hl]
   ·obtain⟨ob0,q1,q2⟩:=heapOK_get h' hheap l ob hl
    exact s1.heap.pre l ob0 q1 (q2.solid hsl)
   ·have hq:retOwn h' t (g1.own b)=some q:=hq
    cases hg:g1.own b with
    |none=>rw[hg]at hq;simp[retOwn]at hq
    |some q'=>exact s1.bnd b q' hg
   ·exact⟨hE1.size,hE1.os,hE1.out,hE1.imm,fun b hb hn=>⟨(hE1.kept b hb hn).1,(hE1.kept b hb hn).2.1,by show retOwn h' t (g1.own b)=none;rw[(hE1.kept b hb hn).2.2];rfl⟩,hE1.frz,hE1.frz',hE1.ρk,hE1.siz⟩
  ·exact hq.elim
 cases ex with
 |normal=>exact fin hk1
 |ret=>exact fin hk1
 |_=>exact hk1.elim
def heapLe:Heap→Heap→Prop
 | [],[]=>True
 |(l,a)::r,(l',b)::r'=>l=l'∧ObLe a b∧heapLe r r'
 |_,_=>False
theorem heapLe_get:∀(h h':Heap),heapLe h h'→∀l,(∀ob,hget h' l=some ob→∃ob0,hget h l=some ob0∧ObLe ob0 ob)∧(domOf h l↔domOf h' l)
 | [],[],_,l=>⟨fun ob q=>by simp[hget]at q,Iff.rfl⟩
 |(k,a)::r,(k',b)::r',hh,l=>by
  obtain⟨rfl,h2,h3⟩:=hh
  by_cases e1:k=l
  ·subst e1
   exact⟨fun ob q=>by rw[hget_self]at q;cases q;exact⟨a,hget_self _ _ _,h2⟩,by simp[domOf,hget_self]⟩
  ·obtain⟨q1,q2⟩:=heapLe_get r r' h3 l
   exact⟨fun ob q=>by rw[hget_ne e1]at q ⊢;exact q1 ob q,by unfold domOf at q2 ⊢;rw[hget_ne e1,hget_ne e1];exact q2⟩
 | [],_::_,hh,_=>hh.elim
 |_::_,[],hh,_=>hh.elim
theorem globB_le {hs hs':Heap} (hq:∀l b vs,hget hs' l=some (.glob b vs)→∃vs',hget hs l=some (.glob b vs')):∀(h':Heap),globB hs' h'=true→globB hs h'=true
 | [],_=>rfl
 |(l,ob)::r,hg=>by
  simp only[globB,Bool.and_eq_true]at hg ⊢;refine⟨?_,globB_le hq r hg.2⟩
  cases ob with
  |glob b vs=>
   have h1:=hg.1;simp only at h1 ⊢;split at h1
   ·rename_i b' vs' h2
    obtain⟨vs2,h3⟩:=hq l b' vs' h2;rw[h3];exact h1
   ·cases h1
  |_=>rfl
theorem AMem.le {f:Nat} {args:List AV} {hs hs':Heap} {r:AV} {h':Heap} (h:AMem P f args hs' r h') (hl:heapLe hs hs'):AMem P f args hs r h':=by
 refine⟨⟨h.1.1,globB_le (fun l b vs hq=>by obtain⟨ob0,k1,k2⟩:=(heapLe_get hs hs' hl l).1 _ hq;cases ob0<;>first|exact k2.elim|(obtain⟨rfl,rfl⟩:=k2;exact⟨_,k1⟩)) h' h.1.2⟩,fun g w vs hH hbn hlen hrel=>h.2 g w vs ⟨fun l ob hq=>?_,fun l ob hq hsl=>?_,fun l ob hq hsl=>?_⟩ hbn hlen (fun j v x q1 q2=>(hrel j v x q1 q2).domUp (fun k hk=>((heapLe_get hs hs' hl k).2).1 hk))⟩
 ·obtain⟨ob0,q1,q2⟩:=(heapLe_get hs hs' hl l).1 ob hq
  have:=(hH.obj l ob0 q1).le q2
  cases this with
  |cells cs vs' E hb' hlen' hxx h1'=>exact .cells cs vs' E hb' hlen' (fun j u c q3 q4=>(hxx j u c q3 q4).domUp (fun k hk=>((heapLe_get hs hs' hl k).2).1 hk)) h1'
  |arr xs vs' E hb' hlen' hxx h1'=>exact .arr xs vs' E hb' hlen' hxx h1'
  |map kd xs es clock hb' hxx hc=>exact .map kd xs es clock hb' hxx hc
  |gr st sz xs hg=>exact .gr st sz xs hg
  |dead=>exact .dead
  |bld T E2 bs2 hbl=>exact .bld T E2 bs2 hbl
  |store T3 o3 sp3 nx3 z3 M3 hst=>exact .store T3 o3 sp3 nx3 z3 M3 hst
  |glob gb gvs hgl=>exact .glob gb gvs hgl
 ·obtain⟨ob0,q1,q2⟩:=(heapLe_get hs hs' hl l).1 ob hq
  exact hH.own l ob0 q1 (q2.solid hsl)
 ·obtain⟨ob0,q1,q2⟩:=(heapLe_get hs hs' hl l).1 ob hq
  exact hH.pre l ob0 q1 (q2.solid hsl)
end
end Go.AM
