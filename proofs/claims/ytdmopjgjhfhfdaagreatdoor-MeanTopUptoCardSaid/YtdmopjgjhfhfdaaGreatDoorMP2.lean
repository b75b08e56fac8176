/- Contracts, and the law, for every input. No conditions. -/
import Derived.Test.YtdmopjgjhfhfdaaGreatDoorAMCut
import Derived.Laws.IdiomRangeMap
set_option linter.all false
set_option maxRecDepth 100000
section
namespace Go.AM
open MapKept
section
variable {P:Program} {ty:Nat->Option TI} {n:Nat}
def World.gC (w:World) (B:Nat) (o:Obj):World:={ w with heap:=w.heap.setIfInBounds B o }
theorem dX {w:World} {B b:Nat} {o:Obj} (h:b≠B):(World.gC w B o).heap[b]?=w.heap[b]?:=by
 simp[World.gC,Array.getElem?_setIfInBounds,h.symm]
theorem Gm {w:World} {B:Nat} {o x:Obj} (h:w.heap[B]?=some x):(World.gC w B o).heap[B]?=some o:=by
 have:=oh h;simp[World.gC,this]
theorem zg {w:World} {B:Nat} {o:Obj}:(World.gC w B o).heap.size=w.heap.size:=by simp[World.gC]
theorem vz {g:Gh} {w:World} {B:Nat} {o:Obj} {m s l} {q:Array Nat} (hb:w.heap[B]?=some (.mapIter m s q l)) {b k:Nat} {v:Value} (hv:bT g w b k=some v):bT g (World.gC w B o) b k=some v:=by
 have hne:b≠B:=by
  intro q;subst q;have:=kF hv;simp[World.cell?,hb]at this
 simp only[cO]at hv ⊢;simp only[World.cell?,dX hne]at hv ⊢;exact hv
theorem cw.gC {g:Gh} {w:World} {a:Act} {e:Env} {h:Heap} (s:cw g w n a e h) {B:Nat} {o:Obj} {m t l} {q:Array Nat} (hb:w.heap[B]?=some (.mapIter m t q l)) (hown:g.own B=none):cw g (World.gC w B o) n a e h:=by
 have hi:∀b k v,bT g w b k=some v->bT g (World.gC w B o) b k=some v:=fun b k v hv=>vz hb hv
 have hv:∀{ow:Option bg} {v:Value} {x:AV},aH g w (aE h) ow v x->aH g (World.gC w B o) (aE h) ow v x:=fun r=>
  r.keep hi (fun k hk=>⟨hk,rfl⟩) (fun k cs F _ hc=>⟨cs,F,by rw[dX (fun e=>by rw[e,hb]at hc;cases hc)];exact hc,rfl⟩)
   (fun o1 b _ h1=>⟨h1,rfl,dX (fun e=>by subst e;rw[hown]at h1;cases h1)⟩)
 have e1:∀{b:Nat} {x:Obj},w.heap[b]?=some x->(∀m t q l,x≠.mapIter m t q l)->(World.gC w B o).heap[b]?=some x:=fun h1 h2=>by
  rw[dX (fun e=>by rw[e,hb]at h1;cases h1;exact h2 _ _ _ _ rfl)];exact h1
 refine⟨s.defers,s.size,fun i=>hv (s.env i),⟨fun k x hx=>?_,fun k x hx hq=>s.heap.own k x hx hq,fun k x hx hq=>s.heap.pre k x hx hq⟩,fun b o' ho=>by rw[zg];exact s.bnd b o' ho⟩
 cases s.heap.obj k x hx with
 |cells cs vs E hb' hl hx' h1=>exact .cells cs vs E (e1 hb' (by simp)) hl (fun j v c q1 q2=>hv (hx' j v c q1 q2)) h1
 |arr xs vs E hb' hl hx' h1=>exact .arr xs vs E (e1 hb' (by simp)) hl (fun j v c q1 q2=>(hx' j v c q1 q2).mono hi) h1
 |bJ gb gvs hgl=>exact gN.lM hgl (fun h1 _ ⟨c,E,fr,h3⟩=>⟨dX (fun e=>by rw[e,hb]at h3;cases h3),h1⟩)
 |store T3 o3 sp3 nx3 z3 M3 hst=>exact .store T3 o3 sp3 nx3 z3 M3 (hst.mono hi (fun bb hb2=>⟨hb2,dX (fun e=>by subst e;rw[hown]at hb2;cases hb2),rfl⟩) hst.sown)
theorem Ext.gC {g0 g:Gh} {w0 w:World} (hE:Ext g0 w0 g w) {B:Nat} {o:Obj} {m t l} {q:Array Nat} (hb:w.heap[B]?=some (.mapIter m t q l)) (hB:w0.heap.size<=B):Ext g0 w0 g (World.gC w B o):=by
 refine⟨by rw[zg];exact hE.size,hE.os,hE.out,fun b k v hv=>vz hb (hE.bT b k v hv),fun b hbb ho=>?_,hE.uC,fun a ha=>?_,hE.ρk,fun b cs E h1=>?_⟩
 ·obtain⟨q1,q2,q3⟩:=hE.kept b hbb ho
  exact⟨by rw[dX (by omega)];exact q1,q2,q3⟩
 ·rw[<-hE.frz' a ha]
  have:(World.gC w B o).heap[a.block]?=w.heap[a.block]?:=dX (by omega);simp[World.frozen?,this]
 ·obtain⟨cs',E',q1,q2⟩:=hE.siz b cs E h1
  exact⟨cs',E',by rw[dX (fun e=>by rw[e,hb]at q1;cases q1)];exact q1,q2⟩
theorem cw.KU {g:Gh} {w:World} {a:Act} {e e':Env} {h:Heap} (s:cw g w n a e h) (hle:∀i,aL e' i=aL e i\/aL e' i=.top):cw g w n a e' h:=
 ⟨s.defers,s.size,fun i=>by
   rcases hle i with q|q
   ·rw[q];exact s.env i
   ·rw[q];exact .top _ _,s.heap,s.bnd⟩
theorem nj:∀(lv:List Nat) (V:List AV) (i:Nat),aW lv i=false->aL (lv.zip V) i=.top
 | [],_,_,_=>rfl
 |_::_,[],_,_=>rfl
 |a::r,v::vs,i,h=>by
  have h1:Nat.beq a i=false/\aW r i=false:=by
   have h:(match Nat.beq a i with|true=>true|false=>aW r i)=false:=h
   cases hq:Nat.beq a i with
   |true=>rw[hq]at h;cases h
   |false=>rw[hq]at h;exact⟨rfl,h⟩
  show(match Nat.beq a i with|true=>v|false=>aL (r.zip vs) i)=.top;rw[h1.1];exact nj r vs i h1.2
theorem Jk (w:World) (T B bm since c0:Nat) (seen:Array Nat) (es:Array MapEntry) (clock:Nat) (hB:w.heap[B]?=some (.mapIter (some bm) since seen c0)) (hb:w.heap[bm]?=some (.map es clock)) (hold:∀x∈es.toList,x.born<since) (hsc:since<=c0):
 ((leftOf es seen).size=0/\(Instr.next (.pointer (some ⟨B,0,none⟩)) false T).run P w=.ok (.tuple #[.bool false]) w)\/
 ∃e∈(leftOf es seen).toList,∃w1:World,(w1=w\/w1=w.drew)/\(Instr.next (.pointer (some ⟨B,0,none⟩)) false T).run P w=.ok (.tuple #[.bool true,e.key,e.val]) (World.gC w1 B (.mapIter (some bm) since (seen.push e.born) clock)):=by
 simp only[Instr.next,getObj,Sem.run_bind,Sem.run,hB,hb,Result.andThen,next_test_false seen es since c0 hold hsc,Bool.false_eq_true,if_false];unfold leftOf;have hmem:∀x∈(Array.filter (fun e=>!seen.contains e.born) es).toList,x.born<since:=fun x hx=>hold x (by simp at hx ⊢;exact hx.1);generalize Array.filter (fun e=>!seen.contains e.born) es=L at hmem ⊢;have e1:L.filter (fun x=>decide (x.born<since))=L:=Array.filter_eq_self.2 (fun x hx=>by simpa using hmem x (by simpa using hx))
 have e2:L.filter (fun x=>decide (x.born>=since))=#[]:=by
  rw[Array.filter_eq_empty_iff];intro x hx;have:=hmem x (by simpa using hx);simp;omega
 simp only[e1,e2,Array.append_empty]
 by_cases h0:L.size=0
 ·left
  have:L=#[]:=Array.eq_empty_of_size_eq_zero h0;subst this;refine⟨rfl,?_⟩;simp[choose,Sem.run,Question.forced]
 ·right
  have hne:L.isEmpty=false:=by simp[Array.isEmpty,h0]
  simp only[hne,Bool.false_eq_true,if_false,Array.empty_append,Array.size_map]
  have hch:∃(j:Nat) (w1:World),j<L.size/\(w1=w\/w1=w.drew)/\(choose (Question.mapNext L.size)).run P w=.ok j w1:=by
   by_cases hf:L.size<=1
   ·exact⟨0,w,by omega,.inl rfl,by simp[choose,Sem.run,Question.forced,hf]⟩
   ·exact⟨_,w.drew,Nat.mod_lt _ (by omega),.inr rfl,by
     simp only[choose,Sem.run,Question.forced,decide_eq_true_eq,hf,if_false,Question.cut];rfl⟩
  obtain⟨j,w1,hj,hal,hrun⟩:=hch;refine⟨L[j],by simp,w1,hal,?_⟩;have hB1:w1.heap[B]?=some (.mapIter (some bm) since seen c0):=by rcases hal with rfl|rfl<;>exact hB
  have hset:∀(o':Obj),(setObj B o').run P w1=.ok () (World.gC w1 B o'):=fun o'=>by
   simp only[setObj,Sem.run,hB1];rfl
  simp only[hrun,Array.getElem?_map,Array.getElem?_eq_getElem hj,Option.map_some,Sem.run_bind,hset,Result.andThen];rfl
theorem GZ (w:World) (B bm since:Nat) (seen:Array Nat) (es:Array MapEntry) (clock:Nat) (e:MapEntry) (hB:w.heap[B]?=some (.mapIter (some bm) since (seen.push e.born) clock)) (hb:w.heap[bm]?=some (.map es clock)) (he:e∈es.toList) (hn:(es.toList.map (·.born)).Nodup):
 (Instr.entry (.pointer (some ⟨B,0,none⟩))).run P w=.ok (.tuple #[e.key,e.val]) w:=by
 have hf:es.find? (·.born==e.born)=some e:=by rw[<-Array.find?_toList];exact find_born e es.toList hn he
 simp only[Instr.entry,getObj,Sem.run_bind,Sem.run,hB,hb,Result.andThen,Array.back?_push,bne_self_eq_false,Bool.false_eq_true,if_false,hf];rfl
theorem mU.nodup {es:Array MapEntry} {c:Nat} (h:mU es c):(es.toList.map (·.born)).Nodup:=by
 rw[List.Nodup,List.pairwise_iff_getElem];intro i j hi hj hij;simp only[List.length_map,Array.length_toList]at hi hj;have h1:=h.2 i es[i] (by simp[hi]);have h2:=h.2 j es[j] (by simp[hj]);simp[h1,h2];omega
theorem mU.lt {es:Array MapEntry} {c:Nat} (h:mU es c):∀x∈es.toList,x.born<c:=by
 intro x hx;obtain⟨j,hj,e1⟩:=List.getElem_of_mem hx;have hj':j<es.size:=by simpa using hj
 have:=h.2 j x (by rw[<-e1];simp[hj']);rw[this,h.1];exact hj'
theorem p8 (hty:bB P ty) {ops:Array Oper} (hok:ops.toList.all (oD n)=true) {T:Env->Heap->Prop} {Q:Exit->Act->World->Prop} {g0:Gh} {w0:World} {tail:List Nat} (hT:∀e h g w a,T e h->cw g w n a e h->Ext g0 w0 g w->wpOps P ops Q tail a w):∀(l:List Oper) (k:Nat) (e:Env) (h:Heap) (g:Gh) (w:World) (a:Act),
 (∀j,j<l.length->l[j]?=ops[k+j]?)->Ae ty (cU P) ops.toList l e h T->cw g w n a e h->Ext g0 w0 g w->wpOps P ops Q (List.range' k l.length++tail) a w
 | [],k,e,h,g,w,a,_,hk,s,hE=>hT e h g w a hk s hE
 |o::r,k,e,h,g,w,a,hl,hk,s,hE=>by
  have ho:ops[k]?=some o:=by have:=hl 0 (by simp);simpa using this.symm
  have hmem:o∈ops.toList:=by rw[<-Array.getElem?_toList]at ho;exact List.mem_of_getElem? ho
  have hoko:oD n o=true:=List.all_eq_true.1 hok o hmem;have hrest:∀j,j<r.length->r[j]?=ops[k+1+j]?:=fun j hj=>by have:=hl (j+1) (by simp;omega);rw[show k+1+j=k+(j+1) by omega,<-this];simp
  simp only[List.length_cons,List.range'_succ,List.cons_append];rw[wpOps_cons];simp only[wpOp,ho];rw[qS]at hk;rcases wI hk s with⟨hw,e1,hk,hee⟩|⟨hw,e1,hk,hee⟩
  ·rw[if_pos hw]
   left
   obtain⟨f,hk,hop⟩:=ry hty (lN hoko) (oW hoko) (uM hoko) hk;simp only[lI,lD]at hk;have s1:=s.uN hee;refine Oper.xS (Oper.wp_mono ?_ (hop e1 h (fun _ _=>rfl) (fun _ _=>rfl) g w a s1));rintro a' w' ⟨g',s',hE'⟩;exact p8 hty hok hT r (k+1) _ _ g' w' a' hrest hk s' (hE.trans hE')
  ·rw[if_neg (by rw[hw];simp)]
   have s1:=s.uN hee;unfold yR at hk;split at hk
   ·rename_i d hd
    rw[hd];exact p8 hty hok hT r (k+1) _ _ g w _ hrest hk (s1.put (lN hoko d hd) aH.Pd) hE
   ·rename_i hd
    rw[hd];exact p8 hty hok hT r (k+1) _ _ g w _ hrest hk s1 hE
theorem qz:∀(N:Nat) (l:List Nat),l.Nodup->(∀i∈l,i<N)->l.length<=N
 |0,[],_,_=>Nat.le_refl _
 |0,a::_,_,h=>absurd (h a (by simp)) (by omega)
 |N+1,l,hn,h=>by
  by_cases hm:N∈l
  ·have:=qz N (l.erase N) (hn.erase N) (fun i hi=>by
    have h1:=(hn.mem_erase_iff).1 hi;have:=h i h1.2;have:=h1.1;omega)
   rw[List.length_erase_of_mem hm]at this;omega
  ·have:=qz N l hn (fun i hi=>by
    have:=h i hi;have:i≠N:=fun e=>hm (e ▸ hi);omega)
   omega
theorem KG:∀(N:Nat) (l:List Nat),(∀i,i<N->i∈l)->N<=l.length
 |0,_,_=>Nat.zero_le _
 |N+1,l,h=>by
  have hm:=h N (by omega);have:=KG N (l.erase N) (fun i hi=>(List.mem_erase_of_ne (by omega)).2 (h i (by omega)));rw[List.length_erase_of_mem hm]at this;have:=List.length_pos_of_mem hm;omega
def Tl (n:Nat) (lv ll:List Nat) (vals:List AV) (objs:List bu) (e:Env) (h:Heap):Prop:=∀g w a,cw g w n a e h->∃g2,cw g2 w n a (lv.zip vals) (ll.zip objs)/\Ext g w g2 w
theorem Tl.of {n:Nat} {lv ll:List Nat} {vals:List AV} {objs:List bu} {e:Env} {h:Heap} (ha:KJ lv ll vals objs e h):Tl n lv ll vals objs e h:=fun g w a s=>by
 have:=s.mask (lv:=lv) (ll:=ll) ha.1 (by rw[ha.2.1];exact ha.2.2.1) ha.2.2.2;rw[ha.2.1]at this;exact⟨g,this,Ext.refl g w⟩
def Jo (b0 b1:Nat) (F:Env->Heap->Prop) (K:Exit->Env->Heap->Prop):Exit->Env->Heap->Prop:=fun x e h=>match x with
 |.normal=>F e h
 |.exit i=>match Nat.beq i b1 with
  |true=>F e h
  |false=>match Nat.beq i b0 with
   |true=>K .normal e h
   |false=>K (.exit i) e h
 |x=>K x e h
abbrev H6 (b0 b1 id1 id2 ct:Nat) (nx ex:Oper) (ops2:Array Oper) (Y:Code):Code:=
 .block b0 (.loop (.seq (.region id1 #[nx,ex] false) (.seq (.cond (.tmp ct) .skip (.exit b0)) (.block b1 (.seq (.region id2 ops2 false) Y)))))
theorem KP (hty:bB P ty) (av:P.follows .mixedOrders=true) {b0 b1 id1 id2 ct tn te it:Nat} {nx ex en:Oper} {ops2:List Oper} {Y:Code} {K:Exit->Env->Heap->Prop} {σ:Type} {N l B M TT sp q:Nat}
 (lv ll:List Nat) (V:List Nat->σ->List AV) (O:List Nat->σ->List bu) (Q:List Nat->σ->Prop) (E:List Nat->σ->List (PV×PV))
 (hnx:nx.op=.next (.tmp it) false/\nx.dst=some tn/\nx.guard=none) (hex:ex.op=.extract (.tmp tn) 0/\ex.dst=some ct/\ex.guard=none) (hen:en.op=.entry (.tmp it)/\en.dst=some te/\en.guard=none)
 (hlt:tn<n/\ct<n/\te<n) (hne:tn≠ct/\tn≠it/\ct≠it/\te≠it/\te≠tn/\te≠ct) (hlv:aW lv tn=false/\aW lv ct=false/\aW lv te=false/\aW lv it=false)
 (hok2:(en::ops2).all (oD n)=true) (hokY:bE n Y=true) (hbig:bP<=l)
 (hO:∀seen s,Q seen s->(∃nx M,aF (ll.zip (O seen s)) l=some (.store TT true sp nx 0 M)/\th q M=some ((E seen s).map Ii))/\(E seen s).length=N)
 (hover:∀seen s,Q seen s->seen.length=N->K .normal (lv.zip (V seen s)) (ll.zip (O seen s)))
 (hround:∀seen s j x,Q seen s->j<N->j∉seen->seen.length<N->(E seen s)[j]?=some x->
   Ae ty (cU P) (en::ops2) ops2 ((te,.cI [.p x.1,.p x.2])::(it,.c (.pointer (some ⟨B,0,none⟩)))::lv.zip (V seen s)) (ll.zip (O seen s)) (fun e h=>D7 ty (cU P) (pK P n) Y
    (Jo b0 b1 (fun e h=>∃s',Tl n (it::lv) ll (.c (.pointer (some ⟨B,0,none⟩))::V (seen++[j]) s') (O (seen++[j]) s') e h/\Q (seen++[j]) s') K) e h))
 {g0 g:Gh} {w0 w:World} {a:Act} {s0:σ} (hQ0:Q [] s0) (s:cw g w n a ((it,.c (.pointer (some ⟨B,0,none⟩)))::lv.zip (V [] s0)) (ll.zip (O [] s0))) (hE:Ext g0 w0 g w) (hB0:w0.heap.size<=B) (hBo:g.own B=none)
 (hBh:w.heap[B]?=some (.mapIter (some M) N #[] N)) (hM:∃C,g.σ sp q=some (M,C)):
 (H6 b0 b1 id1 id2 ct nx ex (en::ops2).toArray Y).wp P (C9 n K g0 w0) a w:=by
 refine wp_block ?_
 let I:Act->World->Prop:=fun a w=>∃(g:Gh) (seen:List Nat) (s:σ) (sa:Array Nat) (last:Nat),Q seen s/\cw g w n a ((it,.c (.pointer (some ⟨B,0,none⟩)))::lv.zip (V seen s)) (ll.zip (O seen s))/\Ext g0 w0 g w/\g.own B=none/\
  w.heap[B]?=some (.mapIter (some M) N sa last)/\N<=last/\sa.toList=seen/\seen.Nodup/\(∀i∈seen,i<N)/\∃C,g.σ sp q=some (M,C)
 refine wp_loop I (fun _ w=>N-(w.iterSeen B).size) ⟨g,[],s0,#[],N,hQ0,s,hE,hBo,hBh,Nat.le_refl _,rfl,List.nodup_nil,by simp,hM⟩ ?_;rintro a w ⟨g,seen,st,sa,last,hQ,s,hE,hBo,hBh,hlast,hsa,hnd,hin,hM⟩;obtain⟨⟨nxS,MS,hmo,hme⟩,hmN⟩:=hO seen st hQ;have hob:=s.heap.obj l _ hmo;generalize hEe:E seen st=xs at hme hmN
 have hob':∃(es:Array MapEntry) (clock:Nat),w.heap[M]?=some (.map es clock)/\iG (bT g w) es.toList xs/\mU es clock:=by
  cases hob with
  |store _ _ _ _ _ _ hst=>
   obtain⟨C,hC⟩:=hM;obtain⟨A',hA',_,_,pk,es,clock,ps,hb,hps,hxx,_,hmk⟩:=hst.Je rfl q _ (dc hme);rw[hC]at hA';cases hA';obtain rfl:=Ib hps;exact⟨es,clock,hb,hxx,hmk⟩
 obtain⟨es,clock,hb,hx,hmk⟩:=hob';have hcl:clock=N:=by rw[hmk.1,<-hmN,<-hx.1];simp
 subst hcl;refine wp_seq (wp_region ?_)
 have hpt:a.eval (.tmp it)=.pointer (some ⟨B,0,none⟩):=by
  have:=s.env it;rw[bA]at this;generalize hq:a.tmps.getD it undef=v at this;cases this;exact hq
 have htn:∀i,i≠tn->aL ((it,AV.c (.pointer (some ⟨B,0,none⟩)))::lv.zip (V seen st)) i=aL ((it,AV.c (.pointer (some ⟨B,0,none⟩)))::lv.zip (V seen st)) i:=fun _ _=>rfl
 have etop:∀i,i≠it->aW lv i=false->aL ((it,AV.c (.pointer (some ⟨B,0,none⟩)))::lv.zip (V seen st)) i=.top:=fun i h1 h2=>by
  rw[bO (fun e=>h1 e.symm)];exact nj _ _ _ h2
 show wpOps P #[nx,ex] _ [0,1] a w;rw[wpOps_cons];simp only[wpOp,List.getElem?_toArray,List.getElem?_cons_zero];rw[if_pos (by simp[Region.wanted,hnx.2.2])]
 left
 -- what the second operation and the test do
 have next:∀(bt:Bool) (rest:List AV) (g1:Gh) (w1:World) (v:Value) (R:Exit->Act->World->Prop),aH g1 w1 (aE (ll.zip (O seen st))) none v (.cI (.p (.b bt)::rest))->cw g1 w1 n a ((it,.c (.pointer (some ⟨B,0,none⟩)))::lv.zip (V seen st)) (ll.zip (O seen st))->
  (∀a',cw g1 w1 n a' ((it,.c (.pointer (some ⟨B,0,none⟩)))::lv.zip (V seen st)) (ll.zip (O seen st))->a'.eval (.tmp ct)=.bool bt->R .normal a' w1)->wpOps P #[nx,ex] R [1] (a.put nx.dst v) w1:=by
  intro bt rest g1 w1 v R hv s1 hR;have s2:=s1.put hlt.1 (hv.bW (by intro _ _ e;cases e));rw[hnx.2.1];rw[wpOps_cons];simp only[wpOp,List.getElem?_toArray,List.getElem?_cons_succ,List.getElem?_cons_zero];rw[if_pos (by simp[Region.wanted,hex.2.2])]
  left
  have hev:=s2.env tn;rw[bA]at hev
  have:∃vs:List Value,(a.put (some tn) v).eval (.tmp tn)=.tuple (.bool bt::vs).toArray:=by
   generalize hq:(a.put (some tn) v).tmps.getD tn undef=u at hev
   cases hev with
   |cI _ us _ hl hh=>
    cases us with
    |nil=>simp at hl
    |cons u0 us=>
     have:=(hh 0 u0 (.p (.b bt)) rfl rfl).bool;subst this;exact⟨us,hq⟩
  obtain⟨vs,hvs⟩:=this
  have hr:(execOp (a.put (some tn) v).eval ex).run P w1=.ok (.value (.bool bt)) w1:=by
   simp only[execOp,hex.1,hvs];rfl
  refine Oper.cp hr ?_;rw[hex.2.1];have s3:=s2.put hlt.2.1 (x:=.p (.b bt)) (v:=.bool bt) (.p _ _ _ (.b bt));refine hR _ (s3.KU fun i=>?_) ?_
  ·by_cases q1:i=ct
   ·subst q1;exact .inr (etop _ hne.2.2.1 hlv.2.1)
   ·rw[bO (fun e=>q1 e.symm)]
    by_cases q2:i=tn
    ·subst q2;exact .inr (etop _ hne.2.1 hlv.1)
    ·rw[bO (fun e=>q2 e.symm)];exact .inl rfl
  ·have:=s3.env ct
   rw[bA]at this;exact this.bool
 rcases Jk (P:=P) w nx.type B M clock last sa es clock hBh hb hmk.lt hlast with⟨h0,hrun⟩|⟨e1,he1,w1,hw1,hrun⟩
 · -- all are seen
  have hr:(execOp a.eval nx).run P w=.ok (.value (.tuple #[.bool false])) w:=by
   simp only[execOp,hnx.1,Sem.run_bind,hpt,hrun,Result.andThen_ok,Sem.run_pure]
  refine Oper.cp hr ?_
  refine next false [] g w _ _ (.cI _ [.bool false] [.p (.b false)] rfl (fun j v c q1 q2=>by
   match j with
   |0=>simp at q1 q2;subst q1;subst q2;exact .p _ _ _ (.b false))) s (fun a' s' hct=>?_)
  refine wp_seq (wp_cond_false hct (wp_exit ?_));have hall:=all_seen es sa h0
  have hlen:seen.length=clock:=by
   have h1:=qz clock seen hnd hin
   have h2:=KG clock seen (fun i hi=>by
    have hi':i<es.size:=by rw[<-hmk.1];exact hi
    have hm:es[i]∈es.toList:=by simp
    have h3:=hall _ hm;have h4:=hmk.2 i es[i] (by simp[hi']);rw[h4]at h3;have:i∈sa:=by simpa using h3
    rw[<-hsa];simpa using this)
   omega
  have fin:C9 n K g0 w0 .normal a' w:=⟨g,_,_,hover seen st hQ hlen,s'.KU fun i=>by
   by_cases q:i=it
   ·subst q;exact .inr (nj _ _ _ hlv.2.2.2)
   ·rw[bO (fun e=>q e.symm)];exact .inl rfl,hE⟩
  simpa[Exit.inBlock,Exit.then] using fin
 ·obtain⟨hm1,hm2⟩:=mem_left he1
  obtain⟨j,hj,ej⟩:=List.getElem_of_mem hm1;have hj':j<es.size:=by simpa using hj
  have hbj:e1.born=j:=hmk.2 j e1 (by rw[<-ej];simp[hj']);have hjN:j<clock:=by rw[hmk.1];exact hj'
  have hjx:j<xs.length:=by rw[hmN];exact hjN
  have hxj:xs[j]?=some xs[j]:=List.getElem?_eq_getElem hjx;obtain⟨hpk,hpv⟩:=hx.2 j e1 xs[j] (by rw[<-ej];simp[hj']) hxj
  have hjs:j∉seen:=by
   intro hmem;rw[hbj]at hm2;have:j∈sa:=by rw[<-hsa]at hmem;simpa using hmem
   simp[this]at hm2
  have hr:(execOp a.eval nx).run P w=.ok (.value (.tuple #[.bool true,e1.key,e1.val])) (World.gC w1 B (.mapIter (some M) clock (sa.push e1.born) clock)):=by
   simp only[execOp,hnx.1,Sem.run_bind,hpt,hrun,Result.andThen_ok,Sem.run_pure]
  refine Oper.cp hr ?_;have hB1:w1.heap[B]?=some (.mapIter (some M) clock sa last):=by rcases hw1 with rfl|rfl<;>exact hBh
  have s1:cw g w1 n a ((it,.c (.pointer (some ⟨B,0,none⟩)))::lv.zip (V seen st)) (ll.zip (O seen st)):=by
   rcases hw1 with rfl|rfl
   ·exact s
   ·exact s.drew
  have hE1:Ext g0 w0 g w1:=by
   rcases hw1 with rfl|rfl
   ·exact hE
   ·exact hE.trans Ext.drew
  have hMlt:(World.gC w1 B (.mapIter (some M) clock (sa.push e1.born) clock)).heap[M]?=some (.map es clock):=by
   have:w1.heap[M]?=some (.map es clock):=by rcases hw1 with rfl|rfl<;>exact hb
   rw[dX (fun e=>by subst e;rw[hB1]at this;cases this)];exact this
  have hlt1:bT g w=bT g w1:=by rcases hw1 with rfl|rfl<;>rfl
  have s2:=s1.gC (o:=.mapIter (some M) clock (sa.push e1.born) clock) hB1 hBo;have hE2:=hE1.gC (o:=.mapIter (some M) clock (sa.push e1.born) clock) hB1 hB0;have hBh2:=Gm (o:=.mapIter (some M) clock (sa.push e1.born) clock) hB1;have up:∀{v:Value} {y:PV},bq (bT g w) v y->bq (bT g (World.gC w1 B (.mapIter (some M) clock (sa.push e1.born) clock))) v y:=fun r=>r.mono fun b o v hv=>vz hB1 (by rw[<-hlt1];exact hv);have hpk2:=up hpk;have hpv2:=up hpv;generalize World.gC w1 B (.mapIter (some M) clock (sa.push e1.born) clock)=w2 at *
  refine next true [.p xs[j].1,.p xs[j].2] g w2 _ _ (.cI _ [.bool true,e1.key,e1.val] [.p (.b true),.p xs[j].1,.p xs[j].2] rfl (fun i v c q1 q2=>by
   match i with
   |0=>simp at q1 q2;subst q1;subst q2;exact .p _ _ _ (.b true)
   |1=>simp at q1 q2;subst q1;subst q2;exact .p _ _ _ hpk2
   |2=>simp at q1 q2;subst q1;subst q2;exact .p _ _ _ hpv2)) s2 (fun a' s' hct=>?_)
  refine wp_seq (wp_cond_true hct (wp_skip ?_));refine wp_block (wp_seq (wp_region ?_))
  have hpt':a'.eval (.tmp it)=.pointer (some ⟨B,0,none⟩):=by
   have:=s'.env it;rw[bA]at this;generalize hq:a'.tmps.getD it undef=v at this;cases this;exact hq
  have hsz:(en::ops2).toArray.size=ops2.length+1:=by simp
  rw[hsz,List.range_eq_range',List.range'_succ,wpOps_cons];simp only[wpOp,List.getElem?_toArray,List.getElem?_cons_zero];rw[if_pos (by simp[Region.wanted,hen.2.2])]
  left
  have hr2:(execOp a'.eval en).run P w2=.ok (.value (.tuple #[e1.key,e1.val])) w2:=by
   simp only[execOp,hen.1,Sem.run_bind,hpt',GZ w2 B M clock sa es clock e1 hBh2 hMlt hm1 hmk.nodup,Result.andThen_ok,Sem.run_pure]
  refine Oper.cp hr2 ?_;rw[hen.2.1]
  have s3:=s'.put hlt.2.2 (v:=.tuple #[e1.key,e1.val]) (x:=.cI [.p xs[j].1,.p xs[j].2]) (.cI _ [e1.key,e1.val] [.p xs[j].1,.p xs[j].2] rfl (fun i v c q1 q2=>by
   match i with
   |0=>simp at q1 q2;subst q1;subst q2;exact .p _ _ _ hpk2
   |1=>simp at q1 q2;subst q1;subst q2;exact .p _ _ _ hpv2))
  have hlen:seen.length<clock:=by
   have:=qz clock (j::seen) (List.nodup_cons.2 ⟨hjs,hnd⟩) (fun i hi=>by rcases List.mem_cons.1 hi with rfl|hi;exact hjN;exact hin i hi);simp at this;omega
  have hrd:=hround seen st j xs[j] hQ hjN hjs hlen (by rw[hEe];exact hxj)
  have hfin:∀(ex':Exit) (a4:Act) (w4:World),C9 n (Jo b0 b1 (fun e h=>∃s',Tl n (it::lv) ll (.c (.pointer (some ⟨B,0,none⟩))::V (seen++[j]) s') (O (seen++[j]) s') e h/\Q (seen++[j]) s') K) g w2 ex' a4 w4->
   Exit.inBlock b1 (Exit.then (fun a' w'=>I a' w'/\clock-(w'.iterSeen B).size<clock-(w.iterSeen B).size) (Exit.inBlock b0 (C9 n K g0 w0))) ex' a4 w4:=by
   rintro ex' a4 w4 ⟨g4,e4,h4,hk4,s4,hE4⟩;have hE5:=hE2.trans hE4;obtain⟨k1,k2,k3⟩:=hE4.kept B (oh hBh2) hBo
   have norm:(∃s',Tl n (it::lv) ll (.c (.pointer (some ⟨B,0,none⟩))::V (seen++[j]) s') (O (seen++[j]) s') e4 h4/\Q (seen++[j]) s')->I a4 w4/\clock-(w4.iterSeen B).size<clock-(w.iterSeen B).size:=by
    rintro⟨s',ha,hq'⟩;obtain⟨g5,s5,hE6⟩:=ha g4 w4 a4 s4;have hBlt:B<w4.heap.size:=Nat.lt_of_lt_of_le (oh hBh2) hE4.size;refine⟨⟨g5,seen++[j],s',sa.push j,clock,hq',s5,hE5.trans hE6,(hE6.kept B hBlt k3).2.2,by rw[k1,hBh2,hbj],Nat.le_refl _,by simp[hsa],?_,?_,?_⟩,?_⟩
    ·rw[List.nodup_append]
     exact⟨hnd,by simp,fun x hx y hy=>by simp at hy;subst hy;exact fun e=>hjs (e ▸ hx)⟩
    ·intro i hi
     rcases List.mem_append.1 hi with hi|hi
     ·exact hin i hi
     ·simp at hi;subst hi;exact hjN
    ·obtain⟨C,hC⟩:=hM
     exact⟨C,hE6.uC.1 _ _ _ (hE4.uC.1 _ _ _ hC)⟩
    ·unfold World.iterSeen
     rw[k1,hBh2,hBh];simp only[Array.size_push];have:sa.size=seen.length:=by rw[<-hsa];simp
     omega
   have toK:∀x,K x e4 h4->C9 n K g0 w0 x a4 w4:=fun x hx=>⟨g4,e4,h4,hx,s4,hE5⟩
   cases ex' with
   |normal=>exact norm hk4
   |exit i=>
    by_cases q1:i=b1
    ·subst q1
     simp only[Jo,mj]at hk4;simpa[Exit.inBlock,Exit.then] using norm hk4
    ·simp only[Jo,beq_false q1]at hk4
     by_cases q2:i=b0
     ·subst q2
      simp only[mj]at hk4;simpa[Exit.inBlock,Exit.then,q1] using toK _ hk4
     ·simp only[beq_false q2]at hk4
      simpa[Exit.inBlock,Exit.then,q1,q2] using toK _ hk4
   |_=>exact toK _ hk4
  have:=p8 (P:=P) (ty:=ty) (n:=n) hty (ops:=(en::ops2).toArray) (by simpa using hok2) (T:=fun e h=>D7 ty (cU P) (pK P n) Y (Jo b0 b1 (fun e h=>∃s',Tl n (it::lv) ll (.c (.pointer (some ⟨B,0,none⟩))::V (seen++[j]) s') (O (seen++[j]) s') e h/\Q (seen++[j]) s') K) e h)
   (g0:=g) (w0:=w2) (tail:=[]) (Q:=Exit.then (Y.wp P (Exit.inBlock b1 (Exit.then (fun a' w'=>I a' w'/\clock-(w'.iterSeen B).size<clock-(w.iterSeen B).size) (Exit.inBlock b0 (C9 n K g0 w0))))) (Exit.inBlock b1 (Exit.then (fun a' w'=>I a' w'/\clock-(w'.iterSeen B).size<clock-(w.iterSeen B).size) (Exit.inBlock b0 (C9 n K g0 w0)))))
   (fun e4 h4 g4 w4 a4 hk4 s4 hE4=>wp_mono (eY hty av Y _ e4 h4 hokY hk4 g w2 g4 w4 a4 s4 hE4) hfin) ops2 1 _ _ g w2 _ (fun i hi=>by simp[Nat.add_comm]) hrd (s3.KU fun i=>.inl rfl) (Ext.refl _ _)
  simpa using this
theorem zP {w:World} {m s l} {q:Array Nat} (a:Addr):(World.push w (.mapIter m s q l)).frozen? a=w.frozen? a:=by
 by_cases h:a.block=w.heap.size
 ·simp[World.frozen?,h,eJ]
 ·have:(World.push w (.mapIter m s q l)).heap[a.block]?=w.heap[a.block]?:=by
   rcases Nat.lt_or_gt_of_ne h with h1|h1
   ·exact cN h1
   ·rw[Array.getElem?_eq_none (by rw[fK];omega),Array.getElem?_eq_none (by omega)]
  simp[World.frozen?,this]
theorem jh.RU (hty:bB P ty) (av:P.follows .mixedOrders=true) {id0 b0 b1 id1 id2 ct tn te it tm T kt et:Nat} {nx ex en rg:Oper} {ops0:Array Oper} {ops2:List Oper} {Y Z:Code} {K K1:Exit->Env->Heap->Prop} {σ:Type} {N TT sp q:Nat}
 (k l:Nat) (lv ll:List Nat) (V:List Nat->σ->List AV) (O:List Nat->σ->List bu) (Q:List Nat->σ->Prop) (E:List Nat->σ->List (PV×PV))
 (hrg:ops0[k]?=some rg/\ops0.size=k+1/\rg.op=.range T (.tmp tm)/\rg.dst=some it/\rg.guard=none) (hu:P.underlying T=some (.map kt et)) (hok0:ops0.toList.all (oD n)=true)
 (hZ:∀g0 w0 a w,(H6 b0 b1 id1 id2 ct nx ex (en::ops2).toArray Y).wp P (C9 n K1 g0 w0) a w->Z.wp P (C9 n K g0 w0) a w)
 (hnx:nx.op=.next (.tmp it) false/\nx.dst=some tn/\nx.guard=none) (hex:ex.op=.extract (.tmp tn) 0/\ex.dst=some ct/\ex.guard=none) (hen:en.op=.entry (.tmp it)/\en.dst=some te/\en.guard=none)
 (hlt:it<n/\tn<n/\ct<n/\te<n) (hne:tn≠ct/\tn≠it/\ct≠it/\te≠it/\te≠tn/\te≠ct) (hlv:aW lv tn=false/\aW lv ct=false/\aW lv te=false/\aW lv it=false)
 (hok2:(en::ops2).all (oD n)=true) (hokY:bE n Y=true) (hbig:bP<=l)
 {e:Env} {h:Heap} (hpre:Ae ty (cU P) ops0.toList (ops0.toList.take k) e h (fun e h=>aL e tm=.p (.amp sp q)/\∃s0,Tl n lv ll (V [] s0) (O [] s0) e h/\Q [] s0))
 (hO:∀seen s,Q seen s->(∃nx M,aF (ll.zip (O seen s)) l=some (.store TT true sp nx 0 M)/\th q M=some ((E seen s).map Ii))/\(E seen s).length=N)
 (hover:∀seen s,Q seen s->seen.length=N->K1 .normal (lv.zip (V seen s)) (ll.zip (O seen s)))
 (hround:∀B seen s j x,Q seen s->j<N->j∉seen->seen.length<N->(E seen s)[j]?=some x->
   Ae ty (cU P) (en::ops2) ops2 ((te,.cI [.p x.1,.p x.2])::(it,.c (.pointer (some ⟨B,0,none⟩)))::lv.zip (V seen s)) (ll.zip (O seen s)) (fun e h=>D7 ty (cU P) (pK P n) Y
    (Jo b0 b1 (fun e h=>∃s',Tl n (it::lv) ll (.c (.pointer (some ⟨B,0,none⟩))::V (seen++[j]) s') (O (seen++[j]) s') e h/\Q (seen++[j]) s') K1) e h)):
 jh P n (.seq (.region id0 ops0 false) Z) K e h:=by
 intro g0 w0 g w a s hE;obtain⟨hr1,hr2,hr3,hr4,hr5⟩:=hrg;refine wp_seq (wp_region ?_);have htk:(ops0.toList.take k).length=k:=by simp[hr2]
 have hrange:List.range ops0.size=List.range' 0 (ops0.toList.take k).length++[k]:=by
  rw[htk,hr2,List.range_succ,List.range_eq_range']
 rw[hrange];refine p8 hty hok0 (T:=fun e h=>aL e tm=.p (.amp sp q)/\∃s0,Tl n lv ll (V [] s0) (O [] s0) e h/\Q [] s0) (g0:=g0) (w0:=w0) ?_ _ 0 e h g w a (fun j hj=>by rw[List.getElem?_take_of_lt (by rw[htk]at hj;exact hj)];simp) hpre s hE;rintro e1 h1 g1 w1 a1 ⟨htm,s0,hat,hq⟩ s1 hE1;rw[wpOps_cons];simp only[wpOp,hr1];rw[if_pos (by simp[Region.wanted,hr5])]
 left
 obtain⟨g2,sm,hEm⟩:=hat g1 w1 a1 s1;obtain⟨⟨nxS,MS,hmo,hme⟩,hmN⟩:=hO [] s0 hq;have hev:=s1.env tm;rw[htm]at hev;have hev:=hev.pv
 obtain⟨A,C,hA,hval⟩:∃A C,g1.σ sp q=some (A,C)/\a1.eval (.tmp tm)=.map (some A):=by
  generalize hqv:a1.tmps.getD tm undef=v at hev
  cases hev with
  |amp _ _ A C hA=>exact⟨A,C,hA,hqv⟩
 have hσ:∃C,(g2.new w1.heap.size 0 none).σ sp q=some (A,C):=⟨C,hEm.uC.1 _ _ _ hA⟩
 replace hE1:=hE1.trans hEm
 have hob':∃(es:Array MapEntry) (clock:Nat),w1.heap[A]?=some (.map es clock)/\es.size=N/\mU es clock:=by
  have hob:=sm.heap.obj l _ hmo;generalize E [] s0=xs at hme hmN
  cases hob with
  |store _ _ _ _ _ _ hst=>
   obtain⟨C',hC⟩:=hσ;obtain⟨A',hA',_,_,pk,es,clock,ps,hb,hps,hxx,_,hmk⟩:=hst.Je rfl q _ (dc hme);have hC:g2.σ sp q=some (A,C'):=hC;rw[hC]at hA';cases hA';obtain rfl:=Ib hps;exact⟨es,clock,hb,by have:=hxx.1;simp at this;omega,hmk⟩
 clear hEm hev s1;clear hat;obtain⟨es,clock,hb,hsz,hmk⟩:=hob';have hcl:clock=N:=by rw[hmk.1,hsz]
 subst hcl
 have hr:(execOp a1.eval rg).run P w1=.ok (.value (.pointer (some ⟨w1.heap.size,0,none⟩))) (World.push w1 (.mapIter (some A) clock #[] clock)):=by
  simp only[execOp,hr3,Sem.run_bind,hval,run_range_map w1 T kt et A es clock hu hb,Result.andThen_ok,Sem.run_pure];rfl
 refine Oper.cp hr ?_;rw[hr4];have s2:=(sm.xg (.mapIter (some A) clock #[] clock) 0 none).put hlt.1 (v:=.pointer (some ⟨w1.heap.size,0,none⟩)) (x:=.c (.pointer (some ⟨w1.heap.size,0,none⟩))) (.c _ _ rfl)
 have hE2:Ext g0 w0 (g2.new w1.heap.size 0 none) (World.push w1 (.mapIter (some A) clock #[] clock)):=
  hE1.trans (Ext.push (fun b hb=>by simp[Gh.new,Nat.ne_of_lt hb]) (fun a=>zP a) (fun _ _=>rfl))
 exact hZ g0 w0 _ _ (KP hty av (B:=w1.heap.size) (M:=A) lv ll V O Q E hnx hex hen hlt.2 hne hlv hok2 hokY hbig hO hover (fun seen s j x=>hround w1.heap.size seen s j x) hq s2 hE2 hE1.size (by simp[Gh.new]) eJ hσ)
end
end Go.AM
end
section
open Go Go.AM Go.Proofs TK
namespace MN
abbrev gS:Nat:=26
def qw (k:Nat):PV×PV:=(.bH cS k,.b true)
def eG (s:List Nat):List PV:=(s.map qw).map Ii
def GA (z:aZ (List Nat)):bu:=.store 344 true gS z.1 0 (cD eG z.2)
theorem FM (c:Nat):∀s:List Nat,kg (.bH cS c) (s.map qw)=match aW s c with|true=>some (.b true)|false=>none
 | []=>rfl
 |a::r=>by
  show(match Nat.beq c a with|true=>some (PV.b true)|false=>kg (.bH cS c) (r.map qw))=match (match Nat.beq a c with|true=>true|false=>aW r c) with|true=>some (PV.b true)|false=>none
  rw[FM c r,show Nat.beq c a=Nat.beq a c from by
   cases h:Nat.beq a c with
   |true=>rw[Nat.eq_of_beq_eq_true h];exact Nat.beq_refl _
   |false=>cases h2:Nat.beq c a with
    |false=>rfl
    |true=>rw[Nat.eq_of_beq_eq_true h2,Nat.beq_refl]at h;cases h]
  cases Nat.beq a c<;>rfl
theorem OD (c:Nat) (s:List Nat):qo (.bH cS c) (.b false) (s.map qw)=(.b (aW s c),aW s c):=by
 rw[qo,FM]
 cases aW s c<;>rfl
def jq (M:List (Nat×Cl)) (s:List Nat):Prop:=∀k∈s,(aK k M).isSome=true
theorem J7 {M:List (Nat×Cl)} {s:List Nat} (h:jq M s):BY cS (cD Au M) (s.map qw):=by
 intro x hx;obtain⟨k,hk,rfl⟩:=List.mem_map.1 hx;obtain⟨c,hc⟩:=Option.isSome_iff_exists.1 (h k hk);exact⟨k,rfl,by rw[aj (enc:=Au) hc];rfl⟩
theorem rB {α:Type} {k:Nat} {x:α}:∀{M:List (Nat×α)},aK k M=some x->bf k x M=M
 | [],h=>by cases h
 |(a,y)::r,h=>by
  rw[aK]at h;rw[bf]
  cases hb:Nat.beq a k with
  |true=>rw[hb]at h;cases h;rfl
  |false=>rw[hb]at h;dsimp only at h ⊢;rw[rB h]
def tT (M:List (Nat×Cl)) (v:Vl) (s:List Nat):Option (Bool×List Nat):=match v with
 |.mk k _ _ _ c=>match k==8 with
  |false=>some (true,s)
  |true=>match c with
   |none=>none
   |some a=>match aK a M with
    |none=>none
    |some x=>match x.gone||aW s a with
     |true=>some (false,s)
     |false=>some (true,s++[a])
def eD (f:Vl->List Nat->Option (Bool×List Nat)):List Vl->List Nat->Option (Bool×List Nat)
 | [],s=>some (true,s)
 |v::r,s=>match f v s with
  |none=>none
  |some (false,s')=>some (false,s')
  |some (true,s')=>eD f r s'
def dw (M:List (Nat×Cl)):Nat->Vl->List Nat->Option (Bool×List Nat)
 |0,_,_=>none
 |n+1,v,s=>match tT M v s with
  |none=>none
  |some (false,s')=>some (false,s')
  |some (true,s')=>match dS M v with
   |none=>none
   |some l=>match decide (l.length<=2000000) with
    |false=>none
    |true=>eD (dw M n) l s'
theorem wD {M:List (Nat×Cl)} {v:Vl} {s s':List Nat} {b:Bool} (ha:jq M s) (h:tT M v s=some (b,s')):jq M s':=by
 obtain⟨k,n,t,l,c⟩:=v;unfold tT at h;dsimp only at h;split at h
 ·cases h;exact ha
 ·split at h
  ·cases h
  ·split at h
   ·cases h
   ·rename_i a x hx
    split at h
    ·cases h;exact ha
    ·cases h
     intro k hk;rcases List.mem_append.1 hk with hk|hk
     ·exact ha k hk
     ·simp at hk;subst hk;rw[hx];rfl
theorem pV {M:List (Nat×Cl)} {f:Vl->List Nat->Option (Bool×List Nat)} (hf:∀v s b s',jq M s->f v s=some (b,s')->jq M s'):∀(l:List Vl) (s:List Nat) (b:Bool) (s':List Nat),jq M s->eD f l s=some (b,s')->jq M s'
 | [],s,b,s',ha,h=>by cases h;exact ha
 |v::r,s,b,s',ha,h=>by
  rw[eD]at h;split at h
  ·cases h
  ·rename_i s1 h1;cases h;exact hf _ _ _ _ ha h1
  ·rename_i s1 h1;exact pV hf r _ _ _ (hf _ _ _ _ ha h1) h
theorem mP {M:List (Nat×Cl)}:∀(n:Nat) (v:Vl) (s:List Nat) (b:Bool) (s':List Nat),jq M s->dw M n v s=some (b,s')->jq M s'
 |0,_,_,_,_,_,h=>by cases h
 |n+1,v,s,b,s',ha,h=>by
  rw[dw]at h;split at h
  ·cases h
  ·rename_i s1 h1;cases h;exact wD ha h1
  ·rename_i s1 h1
   split at h
   ·cases h
   ·split at h
    ·cases h
    ·exact pV (mP n) _ _ _ _ (wD ha h1) h
theorem wH (z:aZ Cl) (q:Nat):∀(n:Nat) (v:Vl) (y:aZ (List Nat)) (s:List Nat) (b:Bool) (s':List Nat),jq z.2 s->aK q y.2=some s->dw z.2 n v s=some (b,s')->
 au Tryz.prog 253 [.p (eV v),.p (.amp gS q)] [(1000000000,kQ z),(1000000001,GA y)] (.p (.b b)) [(1000000000,kQ z),(1000000001,GA (y.1,bf q s' y.2))]
 |0,_,_,_,_,_,_,_,hF=>by cases hF
 |n+1,v,y,s,b,s',ha,hy,hF=>by
  have ih:=wH z q n;have hal:=mP (M:=z.2) n;obtain⟨vk,vn,vt,va,vc⟩:=v;have hp:=od z (.mk vk vn vt va vc);unfold dw tT at hF;rw[eV]at hp ⊢;unfold kQ GA at *;dsimp only at hF;refine au.iN av Tryz.func253 rfl (by rfl) (by kernel_rfl) rfl rfl ?_;(conv=>whnf);refine ai ?_ ?_<;>intro h1<;>conv=>whnf
  ·rw[show(vk==8)=true from h1]at hF
   cases vc with
   |none=>cases hF
   |some c=>
    dsimp only at hF
    cases hc:aK c z.2 with
    |none=>rw[hc]at hF;cases hF
    |some x=>
     rw[hc]at hF;obtain⟨g,⟨wk,wn,wt,wa,wc⟩⟩:=x;dsimp only at hF;(conv=>whnf);refine ag ⟨rfl,by decide,.inl rfl⟩ ?_;refine⟨_,aj hc,?_⟩;refine aq (i:=0) rfl ?_;(conv=>whnf)
     cases g with
     |true=>
      rw[Bool.true_or]at hF;cases hF;(conv=>whnf);rw[rB hy];exact⟨.inl rfl,⟨s6,s6,trivial⟩⟩
     |false=>
      rw[Bool.false_or]at hF;(conv=>whnf);refine ag ⟨rfl,rfl,rfl,by decide,by rw[aj (enc:=Au) hc];rfl⟩ ?_;refine⟨s.map qw,aj (enc:=eG) hy,?_⟩;refine ag (J7 ha) ?_;refine⟨_,_,OD c s,?_⟩
      cases hm:aW s c with
      |true=>
       rw[hm]at hF;cases hF;(conv=>whnf);rw[rB hy];exact⟨.inl rfl,⟨s6,s6,trivial⟩⟩
      |false=>
       rw[hm]at hF;dsimp only at hF;(conv=>whnf);refine ag ⟨rfl,rfl,rfl,by decide,by rw[aj (enc:=Au) hc];rfl⟩ ?_;refine⟨s.map qw,aj (enc:=eG) hy,?_⟩;refine ag ⟨J7 ha,by rw[FM,hm]⟩ ?_
       have hset:sset q ((s.map qw++[(PV.bH cS c,PV.b true)]).map Ii) (cD eG y.2)=cD eG (bf q (s++[c]) y.2):=by
        rw[<-bN eG q (s++[c])];unfold eG;rw[List.map_append (l₁:=s)];rfl
       rw[hset]
       have ha2:jq z.2 (s++[c]):=by
        intro k hk;rcases List.mem_append.1 hk with hk|hk
        ·exact ha k hk
        ·simp at hk;subst hk;rw[hc];rfl
       cases hpf:dS z.2 (.mk vk vn vt va (some c)) with
       |none=>rw[hpf]at hF;cases hF
       |some l=>
        rw[hpf]at hF;dsimp only at hF
        cases hll:decide (l.length<=2000000) with
        |false=>rw[hll]at hF;cases hF
        |true=>
         rw[hll]at hF;dsimp only at hF;have hll:=of_decide_eq_true hll;have hp:=hp l hpf;(conv=>whnf);refine bh [1000000000] 300 hp ?_;(conv=>whnf);refine bK (aG _) av (by kernel_rfl) l.length [1,25,26,27] [1000000000,1000000001] (fun j (_:List Nat×List (Nat×List Nat))=>[.p (.amp gS q),.p (.sl 5 (bz l)),.p (.i .i64 (bz l).length),.p (.i .i64 (ix j))]) (fun _ P=>[.store 212 true cS z.1 6 (cD Au z.2),.store 344 true gS y.1 0 (cD eG P.2)]) (fun j P=>jq z.2 P.1/\aK q P.2=some P.1/\(∀t,bf q t P.2=bf q t y.2)/\eD (dw z.2 n) (l.drop j) P.1=some (b,s')) ((s++[c]),bf q (s++[c]) y.2) ⟨rfl,rfl,rfl,rfl⟩ ⟨ha2,cA hy,fun t=>cY _ _ _ _,hF⟩ ?_;rintro j ⟨s1,y1⟩ hj ⟨qa,qt,qe,hQ⟩;dsimp only at qa qt qe hQ;have hlen:(bz l).length=l.length:=by rw[aR];simp
         (conv=>whnf);refine ai ?_ ?_<;>intro h1<;>conv=>whnf
         ·have hj1:=cu h1 (by rw[hlen]) hj (by omega)
          obtain⟨u,hu⟩:∃u,l[j]?=some u:=⟨_,List.getElem?_eq_getElem hj1⟩
          rw[drop_cons hu,eD]at hQ
          cases hm:dw z.2 n u s1 with
          |none=>rw[hm]at hQ;cases hQ
          |some w=>
           obtain⟨b1,s2⟩:=w;rw[hm]at hQ;have hi:=ih u (y.1,y1) s1 b1 s2 qa qt hm;have qa2:=hal u s1 b1 s2 qa hm;obtain⟨uk,un,ut,ua,uc⟩:=u;rw[eV]at hi;dsimp only at hi;refine bM (x:=.agg [.i .i64 uk,.i .i64 un,.s ut,.sl 5 (bz ua),eP cS uc]) (by rw[aR];simp[hu,eV]) (by omega) ?_;(conv=>whnf);refine bh [1000000000,1000000001] 400 hi ?_;(conv=>whnf)
           cases b1 with
           |false=>
            cases hQ;(conv=>whnf);rw[qe];exact⟨.inl rfl,⟨s6,s6,trivial⟩⟩
           |true=>
            (conv=>whnf);exact⟨hj1,(s2,bf q s2 y1),⟨rfl,rfl,rfl,rfl⟩,qa2,cA qt,fun t=>by show bf q t (bf q s2 y1)=_;rw[cY];exact qe t,hQ⟩
         ·have h1:=cv h1 (by rw[hlen]) hj (by omega)
          subst h1;rw[List.drop_length]at hQ;cases hQ;rw[<-qe,rB qt];exact⟨.inl rfl,⟨s6,s6,trivial⟩⟩
  ·rw[show(vk==8)=false from h1]at hF
   dsimp only at hF
   cases hpf:dS z.2 (.mk vk vn vt va vc) with
   |none=>rw[hpf]at hF;cases hF
   |some l=>
    rw[hpf]at hF;dsimp only at hF
    cases hll:decide (l.length<=2000000) with
    |false=>rw[hll]at hF;cases hF
    |true=>
     rw[hll]at hF;dsimp only at hF;have hll:=of_decide_eq_true hll;have hp:=hp l hpf;(conv=>whnf);refine bh [1000000000] 300 hp ?_;(conv=>whnf);refine bK (aG _) av (by kernel_rfl) l.length [1,25,26,27] [1000000000,1000000001] (fun j (_:List Nat×List (Nat×List Nat))=>[.p (.amp gS q),.p (.sl 5 (bz l)),.p (.i .i64 (bz l).length),.p (.i .i64 (ix j))]) (fun _ P=>[.store 212 true cS z.1 6 (cD Au z.2),.store 344 true gS y.1 0 (cD eG P.2)]) (fun j P=>jq z.2 P.1/\aK q P.2=some P.1/\(∀t,bf q t P.2=bf q t y.2)/\eD (dw z.2 n) (l.drop j) P.1=some (b,s')) (s,y.2) ⟨rfl,rfl,rfl,rfl⟩ ⟨ha,hy,fun _=>rfl,hF⟩ ?_;rintro j ⟨s1,y1⟩ hj ⟨qa,qt,qe,hQ⟩;dsimp only at qa qt qe hQ;have hlen:(bz l).length=l.length:=by rw[aR];simp
     (conv=>whnf);refine ai ?_ ?_<;>intro h1<;>conv=>whnf
     ·have hj1:=cu h1 (by rw[hlen]) hj (by omega)
      obtain⟨u,hu⟩:∃u,l[j]?=some u:=⟨_,List.getElem?_eq_getElem hj1⟩
      rw[drop_cons hu,eD]at hQ
      cases hm:dw z.2 n u s1 with
      |none=>rw[hm]at hQ;cases hQ
      |some w=>
       obtain⟨b1,s2⟩:=w;rw[hm]at hQ;have hi:=ih u (y.1,y1) s1 b1 s2 qa qt hm;have qa2:=hal u s1 b1 s2 qa hm;obtain⟨uk,un,ut,ua,uc⟩:=u;rw[eV]at hi;dsimp only at hi;refine bM (x:=.agg [.i .i64 uk,.i .i64 un,.s ut,.sl 5 (bz ua),eP cS uc]) (by rw[aR];simp[hu,eV]) (by omega) ?_;(conv=>whnf);refine bh [1000000000,1000000001] 400 hi ?_;(conv=>whnf)
       cases b1 with
       |false=>
        cases hQ;(conv=>whnf);rw[qe];exact⟨.inl rfl,⟨s6,s6,trivial⟩⟩
       |true=>
        (conv=>whnf);exact⟨hj1,(s2,bf q s2 y1),⟨rfl,rfl,rfl,rfl⟩,qa2,cA qt,fun t=>by show bf q t (bf q s2 y1)=_;rw[cY];exact qe t,hQ⟩
     ·have h1:=cv h1 (by rw[hlen]) hj (by omega)
      subst h1;rw[List.drop_length]at hQ;cases hQ;rw[<-qe,rB qt];exact⟨.inl rfl,⟨s6,s6,trivial⟩⟩
noncomputable def R8:Nat->Option TI:=hint (iX Tryz.prog) 344 [1000007]
theorem KC:bB Tryz.prog R8:=(aG Tryz.prog).hint _ _
def Af:List (Nat×Cl)->Nat
 | []=>0
 |(_,c)::r=>max (lu c.val) (Af r)
def Ad (M:List (Nat×Cl)) (l:List Vl):Nat:=(max (Af M) (nQ l))*(M.length+1)
def Lv (k:Nat):Bool->AV
 |true=>.cI [.p (.amp gS k),.p (.b true)]
 |false=>.cI [.c (.map none),.p (.b false)]
theorem qK (z:aZ Cl) (y:aZ (List Nat)) (l:List Vl) (b:Bool) (s':List Nat) (N:Nat) (hl:l.length<=2000000) (hF:eD (dw z.2 N) l []=some (b,s')):
 au Tryz.prog 240 [.p (.sl 5 (bz l))] [(1000000000,kQ z),(1000000001,GA y)] (Lv y.1 b) [(1000000000,kQ z),(1000000001,GA (y.1+1,(y.1,s')::y.2))]:=by
 have hg:=wH z y.1 N;have hal:=mP (M:=z.2) N;have hlen:(bz l).length=l.length:=by rw[aR];simp
 have hb:Nat.beq y.1 y.1=true:=Nat.beq_refl _;unfold kQ GA at *;refine au.intro KC av Tryz.func240 rfl (by rfl) (by kernel_rfl) (by show 1<=_;decide) (by cases b<;>rfl) ?_;(conv=>whnf);refine bK KC av (by kernel_rfl) l.length [4,8,9,10] [1000000000,1000000001] (fun j (_:List Nat×List (Nat×List Nat))=>[.p (.amp gS y.1),.p (.sl 5 (bz l)),.p (.i .i64 (bz l).length),.p (.i .i64 (ix j))]) (fun _ P=>[.store 212 true cS z.1 6 (cD Au z.2),.store 344 true gS (y.1+1) 0 (cD eG P.2)]) (fun j P=>jq z.2 P.1/\aK y.1 P.2=some P.1/\(∀t,bf y.1 t P.2=(y.1,t)::y.2)/\eD (dw z.2 N) (l.drop j) P.1=some (b,s')) ([],(y.1,[])::y.2) ⟨rfl,rfl,rfl,rfl⟩ ⟨(fun _ h=>by cases h),(by simp only[aK,hb]),(fun t=>by simp only[bf,hb]),hF⟩ ?_;rintro j ⟨s1,y1⟩ hj ⟨qa,qt,qe,hQ⟩;dsimp only at qa qt qe hQ;(conv=>whnf);refine ai ?_ ?_<;>intro h1<;>conv=>whnf
 ·have hj1:=cu h1 (by rw[hlen]) hj (by omega)
  obtain⟨u,hu⟩:∃u,l[j]?=some u:=⟨_,List.getElem?_eq_getElem hj1⟩
  rw[drop_cons hu,eD]at hQ
  cases hm:dw z.2 N u s1 with
  |none=>rw[hm]at hQ;cases hQ
  |some w=>
   obtain⟨b1,s2⟩:=w;rw[hm]at hQ;have hi:=hg u (y.1+1,y1) s1 b1 s2 qa qt hm;have qa2:=hal u s1 b1 s2 qa hm;obtain⟨uk,un,ut,ua,uc⟩:=u;rw[eV]at hi;dsimp only at hi;refine bM (x:=.agg [.i .i64 uk,.i .i64 un,.s ut,.sl 5 (bz ua),eP cS uc]) (by rw[aR];simp[hu,eV]) (by omega) ?_;(conv=>whnf);refine bh [1000000000,1000000001] 400 hi ?_;(conv=>whnf)
   cases b1 with
   |false=>
    cases hQ;(conv=>whnf);rw[qe];exact⟨.inl rfl,⟨s6,s6,trivial⟩⟩
   |true=>
    (conv=>whnf);exact⟨hj1,(s2,bf y.1 s2 y1),⟨rfl,rfl,rfl,rfl⟩,qa2,cA qt,fun t=>by show bf y.1 t (bf y.1 s2 y1)=_;rw[cY];exact qe t,hQ⟩
 ·have h1:=cv h1 (by rw[hlen]) hj (by omega)
  subst h1;rw[List.drop_length]at hQ;cases hQ;rw[<-qe,rB qt];exact⟨.inl rfl,⟨s6,s6,trivial⟩⟩
theorem CM (o:Ov):∀l:List Ov,gT (l++[o])=gT l++[eO o]
 | []=>rfl
 |a::r=>by rw[List.cons_append,gT,gT,CM o r,List.cons_append]
theorem kX:∀l:List Ov,(gT l).length=l.length
 | []=>rfl
 |a::r=>by rw[gT,List.length_cons,kX r,List.length_cons]
def ia (f:Vl->Option Ov):List Vl->Option (List Ov)
 | []=>some []
 |v::r=>match f v with
  |none=>none
  |some o=>match ia f r with
   |none=>none
   |some l=>some (o::l)
def jd (M:List (Nat×Cl)):Nat->Vl->Option Ov
 |0,_=>none
 |n+1,v=>match dS M v with
  |none=>none
  |some l=>match decide (l.length<=2000000) with
   |false=>none
   |true=>match ia (jd M n) l with
    |none=>none
    |some os=>match v with
     |.mk k m t _ _=>some (.mk k m t os)
theorem AO {f:Vl->Option Ov} {a os:List Ov} {v:Vl} {r:List Vl} (h:(ia f (v::r)).map (a++·)=some os):∃o,f v=some o/\(ia f r).map ((a++[o])++·)=some os:=by
 rw[ia]at h
 cases hf:f v with
 |none=>rw[hf]at h;cases h
 |some o=>
  rw[hf]at h;refine⟨o,rfl,?_⟩
  cases hr:ia f r with
  |none=>rw[hr]at h;cases h
  |some l=>rw[hr]at h;cases h;simp
theorem zl (z:aZ Cl):∀(n:Nat) (v:Vl) (o:Ov),jd z.2 n v=some o->
 au Tryz.prog 241 [.p (eV v)] [(1000000000,kQ z)] (.p (eO o)) [(1000000000,kQ z)]
 |0,_,_,hF=>by cases hF
 |n+1,v,o,hF=>by
  have ih:=zl z n;obtain⟨vk,vn,vt,va,vc⟩:=v;have hp:=od z (.mk vk vn vt va vc);unfold jd at hF
  cases hpf:dS z.2 (.mk vk vn vt va vc) with
  |none=>rw[hpf]at hF;cases hF
  |some l=>
   rw[hpf]at hF;dsimp only at hF
   cases hll:decide (l.length<=2000000) with
   |false=>rw[hll]at hF;cases hF
   |true=>
    rw[hll]at hF;dsimp only at hF;have hll:=of_decide_eq_true hll
    cases hv:ia (jd z.2 n) l with
    |none=>rw[hv]at hF;cases hF
    |some os=>
     rw[hv]at hF;cases hF;have hp:=hp l hpf;have hlen:(bz l).length=l.length:=by rw[aR];simp
     rw[eV]at hp ⊢;rw[eO];unfold kQ at *;refine au.iN av Tryz.func241 rfl (by rfl) (by kernel_rfl) rfl rfl ?_;(conv=>whnf);refine bh [1000000000] 300 hp ?_;(conv=>whnf);refine Po 3 (.cells [.p (.i .i64 vk),.p (.i .i64 vn),.p (.s vt),.so 4 []]) rfl ⟨.inl rfl,.inl rfl,.inl rfl,.inr (.inr ⟨rfl,3,rfl⟩),trivial⟩ ?_;refine bK (aG _) av (by kernel_rfl) l.length [2,3,14,15,16] [2,3,1000000000] (fun j (_:List Ov)=>[.ptr 2 0,.ptr 3 0,.p (.sl 5 (bz l)),.p (.i .i64 (bz l).length),.p (.i .i64 (ix j))]) (fun _ s=>[.cells [.p (.i .i64 0),.p (.i .i64 0),.p (.s ⟨#[]⟩),.cx],.cells [.p (.i .i64 vk),.p (.i .i64 vn),.p (.s vt),.so 4 (gT s)],.store 212 true cS z.1 6 (cD Au z.2)]) (fun j s=>s.length<=j/\(ia (jd z.2 n) (l.drop j)).map (s++·)=some os) [] ⟨rfl,rfl,rfl,rfl⟩ ⟨Nat.le_refl _,by rw[List.drop_zero,hv];rfl⟩ ?_;rintro j s hj ⟨hs,hQ⟩;(conv=>whnf);refine ai ?_ ?_<;>intro h1<;>conv=>whnf
     ·have hj1:=cu h1 (by rw[hlen]) hj (by omega)
      obtain⟨u,hu⟩:∃u,l[j]?=some u:=⟨_,List.getElem?_eq_getElem hj1⟩
      rw[drop_cons hu]at hQ;obtain⟨o,ho,hQ⟩:=AO hQ;have hi:=ih u o ho;obtain⟨uk,un,ut,ua,uc⟩:=u;obtain⟨ok,on,ot,oa⟩:=o;rw[eV,eO]at hi;refine bM (x:=.agg [.i .i64 uk,.i .i64 un,.s ut,.sl 5 (bz ua),eP cS uc]) (by rw[aR];simp[hu,eV]) (by omega) ?_;(conv=>whnf);refine bh [1000000000] 400 hi ?_;(conv=>whnf);refine ag (Nat.le_trans (Nat.mul_le_mul_right _ (show _<=2000001 by rw[kX];simp only[List.length_cons,List.length_nil];omega)) (Nat.le_of_ble_eq_true (by kernel_rfl))) ?_;(conv=>whnf);refine ag (.inl (by kernel_rfl)) ?_;(conv=>whnf);refine⟨hj1,s++[.mk ok on ot oa],?_,by rw[List.length_append];show s.length+1<=j+1;omega,hQ⟩;rw[CM,eO];exact⟨rfl,rfl,rfl,rfl⟩
     ·have h1:=cv h1 (by rw[hlen]) hj (by omega)
      subst h1;rw[List.drop_length]at hQ;have hQ:s=os:=by simpa[ia] using hQ
      subst hQ;exact⟨.inl rfl,⟨s6,trivial⟩⟩
theorem wv (z:aZ Cl) (n:Nat) (l:List Vl) (os:List Ov) (hl:l.length<=2000000) (hF:ia (jd z.2 n) l=some os):
 au Tryz.prog 235 [.p (.sl 5 (bz l))] [(1000000000,kQ z)] (.p (.sl 4 (gT os))) [(1000000000,kQ z)]:=by
 have hg:=zl z n;have hlen:(bz l).length=l.length:=by rw[aR];simp
 unfold kQ at *;refine au.iN av Tryz.func235 rfl (by rfl) (by kernel_rfl) rfl rfl ?_;(conv=>whnf);refine qf 3 3 rfl ?_;refine bK (aG _) av (by kernel_rfl) l.length [3,6,7,8] [1000000000] (fun j (s:List Ov)=>[.so 4 (gT s),.p (.sl 5 (bz l)),.p (.i .i64 (bz l).length),.p (.i .i64 (ix j))]) (fun _ _=>[.store 212 true cS z.1 6 (cD Au z.2)]) (fun j s=>s.length<=j/\(ia (jd z.2 n) (l.drop j)).map (s++·)=some os) [] ⟨rfl,rfl,rfl,rfl⟩ ⟨Nat.le_refl _,by rw[List.drop_zero,hF];rfl⟩ ?_;rintro j s hj ⟨hs,hQ⟩;(conv=>whnf);refine ai ?_ ?_<;>intro h1<;>conv=>whnf
 ·have hj1:=cu h1 (by rw[hlen]) hj (by omega)
  obtain⟨u,hu⟩:∃u,l[j]?=some u:=⟨_,List.getElem?_eq_getElem hj1⟩
  rw[drop_cons hu]at hQ;obtain⟨o,ho,hQ⟩:=AO hQ;have hi:=hg u o ho;obtain⟨uk,un,ut,ua,uc⟩:=u;obtain⟨ok,on,ot,oa⟩:=o;rw[eV,eO]at hi;refine bM (x:=.agg [.i .i64 uk,.i .i64 un,.s ut,.sl 5 (bz ua),eP cS uc]) (by rw[aR];simp[hu,eV]) (by omega) ?_;(conv=>whnf);refine bh [1000000000] 400 hi ?_;(conv=>whnf);refine ag (Nat.le_trans (Nat.mul_le_mul_right _ (show _<=2000001 by rw[kX];simp only[List.length_cons,List.length_nil];omega)) (Nat.le_of_ble_eq_true (by kernel_rfl))) ?_;(conv=>whnf);refine⟨hj1,s++[.mk ok on ot oa],?_,by rw[List.length_append];show s.length+1<=j+1;omega,hQ⟩;rw[CM,eO];exact⟨rfl,rfl,rfl,rfl⟩
 ·have h1:=cv h1 (by rw[hlen]) hj (by omega)
  subst h1;rw[List.drop_length]at hQ;have hQ:s=os:=by simpa[ia] using hQ
  subst hQ;exact⟨.inr rfl,⟨s6,trivial⟩⟩
end MN
end
