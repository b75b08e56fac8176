/- Contracts, and the law, for every input. No conditions. -/
import Derived.Test.YtldppkdekklpkaaGreatDoorAMPan
import Derived.Test.YtldppkdekklpkaaGreatDoorTKD
import Derived.Laws.IdiomRangeMap
import Derived.Test.YtldppkdekklpkaaGreatDoorSC2
set_option linter.all false
section
namespace Go.AM
open MapKept
section
variable {P:Program} {ty:Nat→Option TI} {n:Nat}
def World.setIt (w:World) (B:Nat) (o:Obj):World:={ w with heap:=w.heap.setIfInBounds B o }
theorem setIt_other {w:World} {B b:Nat} {o:Obj} (h:b≠B):(World.setIt w B o).heap[b]?=w.heap[b]?:=by
 simp[World.setIt,Array.getElem?_setIfInBounds,h.symm]
theorem setIt_self {w:World} {B:Nat} {o x:Obj} (h:w.heap[B]?=some x):(World.setIt w B o).heap[B]?=some o:=by
 have:=get_lt h;simp[World.setIt,this]
theorem setIt_size {w:World} {B:Nat} {o:Obj}:(World.setIt w B o).heap.size=w.heap.size:=by simp[World.setIt]
theorem imm_setIt {g:Gh} {w:World} {B:Nat} {o:Obj} {m s l} {q:Array Nat} (hb:w.heap[B]?=some (.mapIter m s q l)) {b k:Nat} {v:Value} (hv:imm g w b k=some v):imm g (World.setIt w B o) b k=some v:=by
 have hne:b≠B:=by
  intro q;subst q;have:=imm_cell hv;simp[World.cell?,hb]at this
 simp only[imm_eq]at hv ⊢;simp only[World.cell?,setIt_other hne]at hv ⊢;exact hv
theorem Sim.setIt {g:Gh} {w:World} {a:Act} {e:Env} {h:Heap} (s:Sim g w n a e h) {B:Nat} {o:Obj} {m t l} {q:Array Nat} (hb:w.heap[B]?=some (.mapIter m t q l)) (hown:g.own B=none):Sim g (World.setIt w B o) n a e h:=by
 have hi:∀b k v,imm g w b k=some v→imm g (World.setIt w B o) b k=some v:=fun b k v hv=>imm_setIt hb hv
 have hv:∀{ow:Option Owner} {v:Value} {x:AV},VRel g w (domOf h) ow v x→VRel g (World.setIt w B o) (domOf h) ow v x:=fun r=>
  r.keep hi (fun k hk=>⟨hk,rfl⟩) (fun k cs F _ hc=>⟨cs,F,by rw[setIt_other (fun e=>by rw[e,hb]at hc;cases hc)];exact hc,rfl⟩)
   (fun o1 b _ h1=>⟨h1,rfl,setIt_other (fun e=>by subst e;rw[hown]at h1;cases h1)⟩)
 have e1:∀{b:Nat} {x:Obj},w.heap[b]?=some x→(∀m t q l,x≠.mapIter m t q l)→(World.setIt w B o).heap[b]?=some x:=fun h1 h2=>by
  rw[setIt_other (fun e=>by rw[e,hb]at h1;cases h1;exact h2 _ _ _ _ rfl)];exact h1
 refine⟨s.defers,s.size,fun i=>hv (s.env i),⟨fun k x hx=>?_,fun k x hx hq=>s.heap.own k x hx hq,fun k x hx hq=>s.heap.pre k x hx hq⟩,fun b o' ho=>by rw[setIt_size];exact s.bnd b o' ho⟩
 cases s.heap.obj k x hx with
 |cells cs vs E hb' hl hx' h1=>exact .cells cs vs E (e1 hb' (by simp)) hl (fun j v c q1 q2=>hv (hx' j v c q1 q2)) h1
 |arr xs vs E hb' hl hx' h1=>exact .arr xs vs E (e1 hb' (by simp)) hl (fun j v c q1 q2=>(hx' j v c q1 q2).mono hi) h1
 |map kd xs es clock hb' hx' hc=>exact .map kd xs es clock (e1 hb' (by simp)) ⟨hx'.1,fun j q1 q2 q3 q4=>⟨(hx'.2 j q1 q2 q3 q4).1.mono hi,(hx'.2 j q1 q2 q3 q4).2.mono hi⟩⟩ hc
 |gr st sz xs hg=>exact .gr st sz xs fun q=>(hg q).mono hi (fun _ _ hv=>e1 hv (by simp))
 |dead=>exact .dead
 |glob gb gvs hgl=>exact ORel.globM hgl (fun h1 _ ⟨c,E,fr,h3⟩=>⟨setIt_other (fun e=>by rw[e,hb]at h3;cases h3),h1⟩)
 |bld T E2 bs2 hbl=>exact ORel.bldM hbl rfl (by obtain⟨_,_,h3,_⟩:=hbl;exact setIt_other (fun e=>by rw[e,hb]at h3;cases h3)) (fun bb hb2=>⟨hb2,setIt_other (fun e=>by subst e;rw[hown]at hb2;cases hb2),rfl⟩)
 |store T3 o3 sp3 nx3 z3 M3 hst=>exact .store T3 o3 sp3 nx3 z3 M3 (hst.mono hi (fun bb hb2=>⟨hb2,setIt_other (fun e=>by subst e;rw[hown]at hb2;cases hb2),rfl⟩) hst.sown)
theorem Ext.setIt {g0 g:Gh} {w0 w:World} (hE:Ext g0 w0 g w) {B:Nat} {o:Obj} {m t l} {q:Array Nat} (hb:w.heap[B]?=some (.mapIter m t q l)) (hB:w0.heap.size≤B):Ext g0 w0 g (World.setIt w B o):=by
 refine⟨by rw[setIt_size];exact hE.size,hE.os,hE.out,fun b k v hv=>imm_setIt hb (hE.imm b k v hv),fun b hbb ho=>?_,hE.frz,fun a ha=>?_,hE.ρk,fun b cs E h1=>?_⟩
 ·obtain⟨q1,q2,q3⟩:=hE.kept b hbb ho
  exact⟨by rw[setIt_other (by omega)];exact q1,q2,q3⟩
 ·rw[←hE.frz' a ha]
  have:(World.setIt w B o).heap[a.block]?=w.heap[a.block]?:=setIt_other (by omega);simp[World.frozen?,this]
 ·obtain⟨cs',E',q1,q2⟩:=hE.siz b cs E h1
  exact⟨cs',E',by rw[setIt_other (fun e=>by rw[e,hb]at q1;cases q1)];exact q1,q2⟩
theorem Sim.envLe {g:Gh} {w:World} {a:Act} {e e':Env} {h:Heap} (s:Sim g w n a e h) (hle:∀i,eget e' i=eget e i∨eget e' i=.top):Sim g w n a e' h:=
 ⟨s.defers,s.size,fun i=>by
   rcases hle i with q|q
   ·rw[q];exact s.env i
   ·rw[q];exact .top _ _,s.heap,s.bnd⟩
theorem eget_zip_none:∀(lv:List Nat) (V:List AV) (i:Nat),memB lv i=false→eget (lv.zip V) i=.top
 | [],_,_,_=>rfl
 |_::_,[],_,_=>rfl
 |a::r,v::vs,i,h=>by
  have h1:Nat.beq a i=false∧memB r i=false:=by
   have h:(match Nat.beq a i with|true=>true|false=>memB r i)=false:=h
   cases hq:Nat.beq a i with
   |true=>rw[hq]at h;cases h
   |false=>rw[hq]at h;exact⟨rfl,h⟩
  show(match Nat.beq a i with|true=>v|false=>eget (r.zip vs) i)=.top;rw[h1.1];exact eget_zip_none r vs i h1.2
theorem run_nextB (w:World) (T B bm since c0:Nat) (seen:Array Nat) (es:Array MapEntry) (clock:Nat) (hB:w.heap[B]?=some (.mapIter (some bm) since seen c0)) (hb:w.heap[bm]?=some (.map es clock)) (hold:∀x∈es.toList,x.born<since) (hsc:since≤c0):
 ((leftOf es seen).size=0∧(Instr.next (.pointer (some ⟨B,0,none⟩)) false T).run P w=.ok (.tuple #[.bool false]) w)∨
 ∃e∈(leftOf es seen).toList,∃w1:World,(w1=w∨w1=w.drew)∧(Instr.next (.pointer (some ⟨B,0,none⟩)) false T).run P w=.ok (.tuple #[.bool true,e.key,e.val]) (World.setIt w1 B (.mapIter (some bm) since (seen.push e.born) clock)):=by
 simp only[Instr.next,getObj,Sem.run_bind,Sem.run,hB,hb,Result.andThen,next_test_false seen es since c0 hold hsc,Bool.false_eq_true,if_false];unfold leftOf;have hmem:∀x∈(Array.filter (fun e=>!seen.contains e.born) es).toList,x.born<since:=fun x hx=>hold x (by simp at hx ⊢;exact hx.1);generalize Array.filter (fun e=>!seen.contains e.born) es=L at hmem ⊢;have e1:L.filter (fun x=>decide (x.born<since))=L:=Array.filter_eq_self.2 (fun x hx=>by simpa using hmem x (by simpa using hx))
 have e2:L.filter (fun x=>decide (x.born≥since))=#[]:=by
  rw[Array.filter_eq_empty_iff];intro x hx;have:=hmem x (by simpa using hx);simp;omega
 simp only[e1,e2,Array.append_empty]
 by_cases h0:L.size=0
 ·left
  have:L=#[]:=Array.eq_empty_of_size_eq_zero h0;subst this;refine⟨rfl,?_⟩;simp[choose,Sem.run,Question.forced]
 ·right
  have hne:L.isEmpty=false:=by simp[Array.isEmpty,h0]
  simp only[hne,Bool.false_eq_true,if_false,Array.empty_append,Array.size_map]
  have hch:∃(j:Nat) (w1:World),j<L.size∧(w1=w∨w1=w.drew)∧(choose (Question.mapNext L.size)).run P w=.ok j w1:=by
   by_cases hf:L.size≤1
   ·exact⟨0,w,by omega,.inl rfl,by simp[choose,Sem.run,Question.forced,hf]⟩
   ·exact⟨_,w.drew,Nat.mod_lt _ (by omega),.inr rfl,by
     simp only[choose,Sem.run,Question.forced,decide_eq_true_eq,hf,if_false,Question.cut];rfl⟩
  obtain⟨j,w1,hj,hal,hrun⟩:=hch;refine⟨L[j],by simp,w1,hal,?_⟩;have hB1:w1.heap[B]?=some (.mapIter (some bm) since seen c0):=by rcases hal with rfl|rfl<;>exact hB
  have hset:∀(o':Obj),(setObj B o').run P w1=.ok () (World.setIt w1 B o'):=fun o'=>by
   simp only[setObj,Sem.run,hB1];rfl
  simp only[hrun,Array.getElem?_map,Array.getElem?_eq_getElem hj,Option.map_some,Sem.run_bind,hset,Result.andThen];rfl
theorem run_entryB (w:World) (B bm since:Nat) (seen:Array Nat) (es:Array MapEntry) (clock:Nat) (e:MapEntry) (hB:w.heap[B]?=some (.mapIter (some bm) since (seen.push e.born) clock)) (hb:w.heap[bm]?=some (.map es clock)) (he:e∈es.toList) (hn:(es.toList.map (·.born)).Nodup):
 (Instr.entry (.pointer (some ⟨B,0,none⟩))).run P w=.ok (.tuple #[e.key,e.val]) w:=by
 have hf:es.find? (·.born==e.born)=some e:=by rw[←Array.find?_toList];exact find_born e es.toList hn he
 simp only[Instr.entry,getObj,Sem.run_bind,Sem.run,hB,hb,Result.andThen,Array.back?_push,bne_self_eq_false,Bool.false_eq_true,if_false,hf];rfl
theorem MapOK.nodup {es:Array MapEntry} {c:Nat} (h:MapOK es c):(es.toList.map (·.born)).Nodup:=by
 rw[List.Nodup,List.pairwise_iff_getElem];intro i j hi hj hij;simp only[List.length_map,Array.length_toList]at hi hj;have h1:=h.2 i es[i] (by simp[hi]);have h2:=h.2 j es[j] (by simp[hj]);simp[h1,h2];omega
theorem MapOK.lt {es:Array MapEntry} {c:Nat} (h:MapOK es c):∀x∈es.toList,x.born<c:=by
 intro x hx;obtain⟨j,hj,e1⟩:=List.getElem_of_mem hx;have hj':j<es.size:=by simpa using hj
 have:=h.2 j x (by rw[←e1];simp[hj']);rw[this,h.1];exact hj'
theorem aops_pre (hty:TyOK P ty) {ops:Array Oper} (hok:ops.toList.all (okOp n)=true) {T:Env→Heap→Prop} {Q:Exit→Act→World→Prop} {g0:Gh} {w0:World} {tail:List Nat} (hT:∀e h g w a,T e h→Sim g w n a e h→Ext g0 w0 g w→wpOps P ops Q tail a w):∀(l:List Oper) (k:Nat) (e:Env) (h:Heap) (g:Gh) (w:World) (a:Act),
 (∀j,j<l.length→l[j]?=ops[k+j]?)→aops ty (pcall P) ops.toList l e h T→Sim g w n a e h→Ext g0 w0 g w→wpOps P ops Q (List.range' k l.length++tail) a w
 | [],k,e,h,g,w,a,_,hk,s,hE=>hT e h g w a hk s hE
 |o::r,k,e,h,g,w,a,hl,hk,s,hE=>by
  have ho:ops[k]?=some o:=by have:=hl 0 (by simp);simpa using this.symm
  have hmem:o∈ops.toList:=by rw[←Array.getElem?_toList]at ho;exact List.mem_of_getElem? ho
  have hoko:okOp n o=true:=List.all_eq_true.1 hok o hmem;have hrest:∀j,j<r.length→r[j]?=ops[k+1+j]?:=fun j hj=>by have:=hl (j+1) (by simp;omega);rw[show k+1+j=k+(j+1) by omega,←this];simp
  simp only[List.length_cons,List.range'_succ,List.cons_append];rw[wpOps_cons];simp only[wpOp,ho];rw[aops_cons]at hk;rcases guard_sound hk s with⟨hw,e1,hk,hee⟩|⟨hw,e1,hk,hee⟩
  ·rw[if_pos hw]
   left
   obtain⟨f,hk,hop⟩:=aop_sound hty (okOp_dst hoko) (okOp_store hoko) (okOp_map hoko) hk;simp only[pushE_iff,pushH_iff]at hk;have s1:=s.envEq hee;refine Oper.wp_monoQ (Oper.wp_mono ?_ (hop e1 h (fun _ _=>rfl) (fun _ _=>rfl) g w a s1));rintro a' w' ⟨g',s',hE'⟩;exact aops_pre hty hok hT r (k+1) _ _ g' w' a' hrest hk s' (hE.trans hE')
  ·rw[if_neg (by rw[hw];simp)]
   have s1:=s.envEq hee;unfold putT at hk;split at hk
   ·rename_i d hd
    rw[hd];exact aops_pre hty hok hT r (k+1) _ _ g w _ hrest hk (s1.put (okOp_dst hoko d hd) VRel.und0) hE
   ·rename_i hd
    rw[hd];exact aops_pre hty hok hT r (k+1) _ _ g w _ hrest hk s1 hE
theorem nodup_le:∀(N:Nat) (l:List Nat),l.Nodup→(∀i∈l,i<N)→l.length≤N
 |0,[],_,_=>Nat.le_refl _
 |0,a::_,_,h=>absurd (h a (by simp)) (by omega)
 |N+1,l,hn,h=>by
  by_cases hm:N∈l
  ·have:=nodup_le N (l.erase N) (hn.erase N) (fun i hi=>by
    have h1:=(hn.mem_erase_iff).1 hi;have:=h i h1.2;have:=h1.1;omega)
   rw[List.length_erase_of_mem hm]at this;omega
  ·have:=nodup_le N l hn (fun i hi=>by
    have:=h i hi;have:i≠N:=fun e=>hm (e ▸ hi);omega)
   omega
theorem all_le:∀(N:Nat) (l:List Nat),(∀i,i<N→i∈l)→N≤l.length
 |0,_,_=>Nat.zero_le _
 |N+1,l,h=>by
  have hm:=h N (by omega);have:=all_le N (l.erase N) (fun i hi=>(List.mem_erase_of_ne (by omega)).2 (h i (by omega)));rw[List.length_erase_of_mem hm]at this;have:=List.length_pos_of_mem hm;omega
def Tl (n:Nat) (lv ll:List Nat) (vals:List AV) (objs:List AObj) (e:Env) (h:Heap):Prop:=∀g w a,Sim g w n a e h→∃g2,Sim g2 w n a (lv.zip vals) (ll.zip objs)∧Ext g w g2 w
theorem Tl.of {n:Nat} {lv ll:List Nat} {vals:List AV} {objs:List AObj} {e:Env} {h:Heap} (ha:Atv lv ll vals objs e h):Tl n lv ll vals objs e h:=fun g w a s=>by
 have:=s.mask (lv:=lv) (ll:=ll) ha.1 (by rw[ha.2.1];exact ha.2.2.1) ha.2.2.2;rw[ha.2.1]at this;exact⟨g,this,Ext.refl g w⟩
def rngK (b0 b1:Nat) (F:Env→Heap→Prop) (K:Exit→Env→Heap→Prop):Exit→Env→Heap→Prop:=fun x e h=>match x with
 |.normal=>F e h
 |.exit i=>match Nat.beq i b1 with
  |true=>F e h
  |false=>match Nat.beq i b0 with
   |true=>K .normal e h
   |false=>K (.exit i) e h
 |x=>K x e h
abbrev rngLoop (b0 b1 id1 id2 ct:Nat) (nx ex:Oper) (ops2:Array Oper) (Y:Code):Code:=
 .block b0 (.loop (.seq (.region id1 #[nx,ex] false) (.seq (.cond (.tmp ct) .skip (.exit b0)) (.block b1 (.seq (.region id2 ops2 false) Y)))))
theorem rngBlock (hty:TyOK P ty) (hmix:P.follows .mixedOrders=true) {b0 b1 id1 id2 ct tn te it:Nat} {nx ex en:Oper} {ops2:List Oper} {Y:Code} {K:Exit→Env→Heap→Prop} {σ:Type} {N l B M:Nat} {kd:KD}
 (lv ll:List Nat) (V:List Nat→σ→List AV) (O:List Nat→σ→List AObj) (Q:List Nat→σ→Prop) (E:List Nat→σ→List (PV×PV))
 (hnx:nx.op=.next (.tmp it) false∧nx.dst=some tn∧nx.guard=none) (hex:ex.op=.extract (.tmp tn) 0∧ex.dst=some ct∧ex.guard=none) (hen:en.op=.entry (.tmp it)∧en.dst=some te∧en.guard=none)
 (hlt:tn<n∧ct<n∧te<n) (hne:tn≠ct∧tn≠it∧ct≠it∧te≠it∧te≠tn∧te≠ct) (hlv:memB lv tn=false∧memB lv ct=false∧memB lv te=false∧memB lv it=false)
 (hok2:(en::ops2).all (okOp n)=true) (hokY:codeOK n Y=true) (hbig:bigId≤l)
 (hO:∀seen s,Q seen s→hget (ll.zip (O seen s)) l=some (.map kd (E seen s))∧(E seen s).length=N)
 (hover:∀seen s,Q seen s→seen.length=N→K .normal (lv.zip (V seen s)) (ll.zip (O seen s)))
 (hround:∀seen s j x,Q seen s→j<N→j∉seen→seen.length<N→(E seen s)[j]?=some x→
   aops ty (pcall P) (en::ops2) ops2 ((te,.tup [.p x.1,.p x.2])::(it,.c (.pointer (some ⟨B,0,none⟩)))::lv.zip (V seen s)) (ll.zip (O seen s)) (fun e h=>awp ty (pcall P) (lpOf P n) Y
    (rngK b0 b1 (fun e h=>∃s',Tl n (it::lv) ll (.c (.pointer (some ⟨B,0,none⟩))::V (seen++[j]) s') (O (seen++[j]) s') e h∧Q (seen++[j]) s') K) e h))
 {g0 g:Gh} {w0 w:World} {a:Act} {s0:σ} (hQ0:Q [] s0) (s:Sim g w n a ((it,.c (.pointer (some ⟨B,0,none⟩)))::lv.zip (V [] s0)) (ll.zip (O [] s0))) (hE:Ext g0 w0 g w) (hB0:w0.heap.size≤B) (hBo:g.own B=none)
 (hBh:w.heap[B]?=some (.mapIter (some M) N #[] N)) (hM:g.ρ l=M):
 (rngLoop b0 b1 id1 id2 ct nx ex (en::ops2).toArray Y).wp P (QOf n K g0 w0) a w:=by
 refine wp_block ?_
 let I:Act→World→Prop:=fun a w=>∃(g:Gh) (seen:List Nat) (s:σ) (sa:Array Nat) (last:Nat),Q seen s∧Sim g w n a ((it,.c (.pointer (some ⟨B,0,none⟩)))::lv.zip (V seen s)) (ll.zip (O seen s))∧Ext g0 w0 g w∧g.own B=none∧
  w.heap[B]?=some (.mapIter (some M) N sa last)∧N≤last∧sa.toList=seen∧seen.Nodup∧(∀i∈seen,i<N)∧g.ρ l=M
 refine wp_loop I (fun _ w=>N-(w.iterSeen B).size) ⟨g,[],s0,#[],N,hQ0,s,hE,hBo,hBh,Nat.le_refl _,rfl,List.nodup_nil,by simp,hM⟩ ?_;rintro a w ⟨g,seen,st,sa,last,hQ,s,hE,hBo,hBh,hlast,hsa,hnd,hin,hM⟩;obtain⟨hmo,hmN⟩:=hO seen st hQ;have hob:=s.heap.obj l _ hmo;generalize hEe:E seen st=xs at hmo hmN hob
 have hob':∃(es:Array MapEntry) (clock:Nat),w.heap[g.ρ l]?=some (.map es clock)∧entriesRel (imm g w) es.toList xs∧MapOK es clock:=by
  cases hob with
  |map _ _ es clock hb hx hc=>exact⟨es,clock,hb,hx,hc.2⟩
 obtain⟨es,clock,hb,hx,hmk⟩:=hob';rw[hM]at hb;have hcl:clock=N:=by rw[hmk.1,←hmN,←hx.1];simp
 subst hcl;refine wp_seq (wp_region ?_)
 have hpt:a.eval (.tmp it)=.pointer (some ⟨B,0,none⟩):=by
  have:=s.env it;rw[eget_self]at this;generalize hq:a.tmps.getD it undef=v at this;cases this;exact hq
 have htn:∀i,i≠tn→eget ((it,AV.c (.pointer (some ⟨B,0,none⟩)))::lv.zip (V seen st)) i=eget ((it,AV.c (.pointer (some ⟨B,0,none⟩)))::lv.zip (V seen st)) i:=fun _ _=>rfl
 have etop:∀i,i≠it→memB lv i=false→eget ((it,AV.c (.pointer (some ⟨B,0,none⟩)))::lv.zip (V seen st)) i=.top:=fun i h1 h2=>by
  rw[eget_ne (fun e=>h1 e.symm)];exact eget_zip_none _ _ _ h2
 show wpOps P #[nx,ex] _ [0,1] a w;rw[wpOps_cons];simp only[wpOp,List.getElem?_toArray,List.getElem?_cons_zero];rw[if_pos (by simp[Region.wanted,hnx.2.2])]
 left
 -- what the second operation and the test do
 have next:∀(bt:Bool) (rest:List AV) (g1:Gh) (w1:World) (v:Value) (R:Exit→Act→World→Prop),VRel g1 w1 (domOf (ll.zip (O seen st))) none v (.tup (.p (.b bt)::rest))→Sim g1 w1 n a ((it,.c (.pointer (some ⟨B,0,none⟩)))::lv.zip (V seen st)) (ll.zip (O seen st))→
  (∀a',Sim g1 w1 n a' ((it,.c (.pointer (some ⟨B,0,none⟩)))::lv.zip (V seen st)) (ll.zip (O seen st))→a'.eval (.tmp ct)=.bool bt→R .normal a' w1)→wpOps P #[nx,ex] R [1] (a.put nx.dst v) w1:=by
  intro bt rest g1 w1 v R hv s1 hR;have s2:=s1.put hlt.1 (hv.anyOwner (by intro _ _ e;cases e));rw[hnx.2.1];rw[wpOps_cons];simp only[wpOp,List.getElem?_toArray,List.getElem?_cons_succ,List.getElem?_cons_zero];rw[if_pos (by simp[Region.wanted,hex.2.2])]
  left
  have hev:=s2.env tn;rw[eget_self]at hev
  have:∃vs:List Value,(a.put (some tn) v).eval (.tmp tn)=.tuple (.bool bt::vs).toArray:=by
   generalize hq:(a.put (some tn) v).tmps.getD tn undef=u at hev
   cases hev with
   |tup _ us _ hl hh=>
    cases us with
    |nil=>simp at hl
    |cons u0 us=>
     have:=(hh 0 u0 (.p (.b bt)) rfl rfl).bool;subst this;exact⟨us,hq⟩
  obtain⟨vs,hvs⟩:=this
  have hr:(execOp (a.put (some tn) v).eval ex).run P w1=.ok (.value (.bool bt)) w1:=by
   simp only[execOp,hex.1,hvs];rfl
  refine Oper.wp_value hr ?_;rw[hex.2.1];have s3:=s2.put hlt.2.1 (x:=.p (.b bt)) (v:=.bool bt) (.p _ _ _ (.b bt));refine hR _ (s3.envLe fun i=>?_) ?_
  ·by_cases q1:i=ct
   ·subst q1;exact .inr (etop _ hne.2.2.1 hlv.2.1)
   ·rw[eget_ne (fun e=>q1 e.symm)]
    by_cases q2:i=tn
    ·subst q2;exact .inr (etop _ hne.2.1 hlv.1)
    ·rw[eget_ne (fun e=>q2 e.symm)];exact .inl rfl
  ·have:=s3.env ct
   rw[eget_self]at this;exact this.bool
 rcases run_nextB (P:=P) w nx.type B M clock last sa es clock hBh hb hmk.lt hlast with⟨h0,hrun⟩|⟨e1,he1,w1,hw1,hrun⟩
 · -- all are seen
  have hr:(execOp a.eval nx).run P w=.ok (.value (.tuple #[.bool false])) w:=by
   simp only[execOp,hnx.1,Sem.run_bind,hpt,hrun,Result.andThen_ok,Sem.run_pure]
  refine Oper.wp_value hr ?_
  refine next false [] g w _ _ (.tup _ [.bool false] [.p (.b false)] rfl (fun j v c q1 q2=>by
   match j with
   |0=>simp at q1 q2;subst q1;subst q2;exact .p _ _ _ (.b false))) s (fun a' s' hct=>?_)
  refine wp_seq (wp_cond_false hct (wp_exit ?_));have hall:=all_seen es sa h0
  have hlen:seen.length=clock:=by
   have h1:=nodup_le clock seen hnd hin
   have h2:=all_le clock seen (fun i hi=>by
    have hi':i<es.size:=by rw[←hmk.1];exact hi
    have hm:es[i]∈es.toList:=by simp
    have h3:=hall _ hm;have h4:=hmk.2 i es[i] (by simp[hi']);rw[h4]at h3;have:i∈sa:=by simpa using h3
    rw[←hsa];simpa using this)
   omega
  have fin:QOf n K g0 w0 .normal a' w:=⟨g,_,_,hover seen st hQ hlen,s'.envLe fun i=>by
   by_cases q:i=it
   ·subst q;exact .inr (eget_zip_none _ _ _ hlv.2.2.2)
   ·rw[eget_ne (fun e=>q e.symm)];exact .inl rfl,hE⟩
  simpa[Exit.inBlock,Exit.then] using fin
 ·obtain⟨hm1,hm2⟩:=mem_left he1
  obtain⟨j,hj,ej⟩:=List.getElem_of_mem hm1;have hj':j<es.size:=by simpa using hj
  have hbj:e1.born=j:=hmk.2 j e1 (by rw[←ej];simp[hj']);have hjN:j<clock:=by rw[hmk.1];exact hj'
  have hjx:j<xs.length:=by rw[hmN];exact hjN
  have hxj:xs[j]?=some xs[j]:=List.getElem?_eq_getElem hjx;obtain⟨hpk,hpv⟩:=hx.2 j e1 xs[j] (by rw[←ej];simp[hj']) hxj
  have hjs:j∉seen:=by
   intro hmem;rw[hbj]at hm2;have:j∈sa:=by rw[←hsa]at hmem;simpa using hmem
   simp[this]at hm2
  have hr:(execOp a.eval nx).run P w=.ok (.value (.tuple #[.bool true,e1.key,e1.val])) (World.setIt w1 B (.mapIter (some M) clock (sa.push e1.born) clock)):=by
   simp only[execOp,hnx.1,Sem.run_bind,hpt,hrun,Result.andThen_ok,Sem.run_pure]
  refine Oper.wp_value hr ?_;have hB1:w1.heap[B]?=some (.mapIter (some M) clock sa last):=by rcases hw1 with rfl|rfl<;>exact hBh
  have s1:Sim g w1 n a ((it,.c (.pointer (some ⟨B,0,none⟩)))::lv.zip (V seen st)) (ll.zip (O seen st)):=by
   rcases hw1 with rfl|rfl
   ·exact s
   ·exact s.drew
  have hE1:Ext g0 w0 g w1:=by
   rcases hw1 with rfl|rfl
   ·exact hE
   ·exact hE.trans Ext.drew
  have hMlt:(World.setIt w1 B (.mapIter (some M) clock (sa.push e1.born) clock)).heap[M]?=some (.map es clock):=by
   have:w1.heap[M]?=some (.map es clock):=by rcases hw1 with rfl|rfl<;>exact hb
   rw[setIt_other (fun e=>by subst e;rw[hB1]at this;cases this)];exact this
  have hlt1:imm g w=imm g w1:=by rcases hw1 with rfl|rfl<;>rfl
  have s2:=s1.setIt (o:=.mapIter (some M) clock (sa.push e1.born) clock) hB1 hBo;have hE2:=hE1.setIt (o:=.mapIter (some M) clock (sa.push e1.born) clock) hB1 hB0;have hBh2:=setIt_self (o:=.mapIter (some M) clock (sa.push e1.born) clock) hB1;have up:∀{v:Value} {y:PV},PRel (imm g w) v y→PRel (imm g (World.setIt w1 B (.mapIter (some M) clock (sa.push e1.born) clock))) v y:=fun r=>r.mono fun b o v hv=>imm_setIt hB1 (by rw[←hlt1];exact hv);have hpk2:=up hpk;have hpv2:=up hpv;generalize World.setIt w1 B (.mapIter (some M) clock (sa.push e1.born) clock)=w2 at *
  refine next true [.p xs[j].1,.p xs[j].2] g w2 _ _ (.tup _ [.bool true,e1.key,e1.val] [.p (.b true),.p xs[j].1,.p xs[j].2] rfl (fun i v c q1 q2=>by
   match i with
   |0=>simp at q1 q2;subst q1;subst q2;exact .p _ _ _ (.b true)
   |1=>simp at q1 q2;subst q1;subst q2;exact .p _ _ _ hpk2
   |2=>simp at q1 q2;subst q1;subst q2;exact .p _ _ _ hpv2)) s2 (fun a' s' hct=>?_)
  refine wp_seq (wp_cond_true hct (wp_skip ?_));refine wp_block (wp_seq (wp_region ?_))
  have hpt':a'.eval (.tmp it)=.pointer (some ⟨B,0,none⟩):=by
   have:=s'.env it;rw[eget_self]at this;generalize hq:a'.tmps.getD it undef=v at this;cases this;exact hq
  have hsz:(en::ops2).toArray.size=ops2.length+1:=by simp
  rw[hsz,List.range_eq_range',List.range'_succ,wpOps_cons];simp only[wpOp,List.getElem?_toArray,List.getElem?_cons_zero];rw[if_pos (by simp[Region.wanted,hen.2.2])]
  left
  have hr2:(execOp a'.eval en).run P w2=.ok (.value (.tuple #[e1.key,e1.val])) w2:=by
   simp only[execOp,hen.1,Sem.run_bind,hpt',run_entryB w2 B M clock sa es clock e1 hBh2 hMlt hm1 hmk.nodup,Result.andThen_ok,Sem.run_pure]
  refine Oper.wp_value hr2 ?_;rw[hen.2.1]
  have s3:=s'.put hlt.2.2 (v:=.tuple #[e1.key,e1.val]) (x:=.tup [.p xs[j].1,.p xs[j].2]) (.tup _ [e1.key,e1.val] [.p xs[j].1,.p xs[j].2] rfl (fun i v c q1 q2=>by
   match i with
   |0=>simp at q1 q2;subst q1;subst q2;exact .p _ _ _ hpk2
   |1=>simp at q1 q2;subst q1;subst q2;exact .p _ _ _ hpv2))
  have hlen:seen.length<clock:=by
   have:=nodup_le clock (j::seen) (List.nodup_cons.2 ⟨hjs,hnd⟩) (fun i hi=>by rcases List.mem_cons.1 hi with rfl|hi;exact hjN;exact hin i hi);simp at this;omega
  have hrd:=hround seen st j xs[j] hQ hjN hjs hlen (by rw[hEe];exact hxj)
  have hfin:∀(ex':Exit) (a4:Act) (w4:World),QOf n (rngK b0 b1 (fun e h=>∃s',Tl n (it::lv) ll (.c (.pointer (some ⟨B,0,none⟩))::V (seen++[j]) s') (O (seen++[j]) s') e h∧Q (seen++[j]) s') K) g w2 ex' a4 w4→
   Exit.inBlock b1 (Exit.then (fun a' w'=>I a' w'∧clock-(w'.iterSeen B).size<clock-(w.iterSeen B).size) (Exit.inBlock b0 (QOf n K g0 w0))) ex' a4 w4:=by
   rintro ex' a4 w4 ⟨g4,e4,h4,hk4,s4,hE4⟩;have hE5:=hE2.trans hE4;obtain⟨k1,k2,k3⟩:=hE4.kept B (get_lt hBh2) hBo
   have norm:(∃s',Tl n (it::lv) ll (.c (.pointer (some ⟨B,0,none⟩))::V (seen++[j]) s') (O (seen++[j]) s') e4 h4∧Q (seen++[j]) s')→I a4 w4∧clock-(w4.iterSeen B).size<clock-(w.iterSeen B).size:=by
    rintro⟨s',ha,hq'⟩;obtain⟨g5,s5,hE6⟩:=ha g4 w4 a4 s4;have hBlt:B<w4.heap.size:=Nat.lt_of_lt_of_le (get_lt hBh2) hE4.size;refine⟨⟨g5,seen++[j],s',sa.push j,clock,hq',s5,hE5.trans hE6,(hE6.kept B hBlt k3).2.2,by rw[k1,hBh2,hbj],Nat.le_refl _,by simp[hsa],?_,?_,?_⟩,?_⟩
    ·rw[List.nodup_append]
     exact⟨hnd,by simp,fun x hx y hy=>by simp at hy;subst hy;exact fun e=>hjs (e ▸ hx)⟩
    ·intro i hi
     rcases List.mem_append.1 hi with hi|hi
     ·exact hin i hi
     ·simp at hi;subst hi;exact hjN
    ·rw[hE6.ρk l hbig,hE4.ρk l hbig];exact hM
    ·unfold World.iterSeen
     rw[k1,hBh2,hBh];simp only[Array.size_push];have:sa.size=seen.length:=by rw[←hsa];simp
     omega
   have toK:∀x,K x e4 h4→QOf n K g0 w0 x a4 w4:=fun x hx=>⟨g4,e4,h4,hx,s4,hE5⟩
   cases ex' with
   |normal=>exact norm hk4
   |exit i=>
    by_cases q1:i=b1
    ·subst q1
     simp only[rngK,beq_self]at hk4;simpa[Exit.inBlock,Exit.then] using norm hk4
    ·simp only[rngK,beq_false q1]at hk4
     by_cases q2:i=b0
     ·subst q2
      simp only[beq_self]at hk4;simpa[Exit.inBlock,Exit.then,q1] using toK _ hk4
     ·simp only[beq_false q2]at hk4
      simpa[Exit.inBlock,Exit.then,q1,q2] using toK _ hk4
   |_=>exact toK _ hk4
  have:=aops_pre (P:=P) (ty:=ty) (n:=n) hty (ops:=(en::ops2).toArray) (by simpa using hok2) (T:=fun e h=>awp ty (pcall P) (lpOf P n) Y (rngK b0 b1 (fun e h=>∃s',Tl n (it::lv) ll (.c (.pointer (some ⟨B,0,none⟩))::V (seen++[j]) s') (O (seen++[j]) s') e h∧Q (seen++[j]) s') K) e h)
   (g0:=g) (w0:=w2) (tail:=[]) (Q:=Exit.then (Y.wp P (Exit.inBlock b1 (Exit.then (fun a' w'=>I a' w'∧clock-(w'.iterSeen B).size<clock-(w.iterSeen B).size) (Exit.inBlock b0 (QOf n K g0 w0))))) (Exit.inBlock b1 (Exit.then (fun a' w'=>I a' w'∧clock-(w'.iterSeen B).size<clock-(w.iterSeen B).size) (Exit.inBlock b0 (QOf n K g0 w0)))))
   (fun e4 h4 g4 w4 a4 hk4 s4 hE4=>wp_mono (awp_sound hty hmix Y _ e4 h4 hokY hk4 g w2 g4 w4 a4 s4 hE4) hfin) ops2 1 _ _ g w2 _ (fun i hi=>by simp[Nat.add_comm]) hrd (s3.envLe fun i=>.inl rfl) (Ext.refl _ _)
  simpa using this
theorem frozen_push_it {w:World} {m s l} {q:Array Nat} (a:Addr):(World.push w (.mapIter m s q l)).frozen? a=w.frozen? a:=by
 by_cases h:a.block=w.heap.size
 ·simp[World.frozen?,h,push_new]
 ·have:(World.push w (.mapIter m s q l)).heap[a.block]?=w.heap[a.block]?:=by
   rcases Nat.lt_or_gt_of_ne h with h1|h1
   ·exact push_old h1
   ·rw[Array.getElem?_eq_none (by rw[push_size];omega),Array.getElem?_eq_none (by omega)]
  simp[World.frozen?,this]
theorem AWp.rng (hty:TyOK P ty) (hmix:P.follows .mixedOrders=true) {id0 b0 b1 id1 id2 ct tn te it tm T kt et:Nat} {nx ex en rg:Oper} {ops0:Array Oper} {ops2:List Oper} {Y Z:Code} {K K1:Exit→Env→Heap→Prop} {σ:Type} {N:Nat} {kd:KD}
 (k l:Nat) (lv ll:List Nat) (V:List Nat→σ→List AV) (O:List Nat→σ→List AObj) (Q:List Nat→σ→Prop) (E:List Nat→σ→List (PV×PV))
 (hrg:ops0[k]?=some rg∧ops0.size=k+1∧rg.op=.range T (.tmp tm)∧rg.dst=some it∧rg.guard=none) (hu:P.underlying T=some (.map kt et)) (hok0:ops0.toList.all (okOp n)=true)
 (hZ:∀g0 w0 a w,(rngLoop b0 b1 id1 id2 ct nx ex (en::ops2).toArray Y).wp P (QOf n K1 g0 w0) a w→Z.wp P (QOf n K g0 w0) a w)
 (hnx:nx.op=.next (.tmp it) false∧nx.dst=some tn∧nx.guard=none) (hex:ex.op=.extract (.tmp tn) 0∧ex.dst=some ct∧ex.guard=none) (hen:en.op=.entry (.tmp it)∧en.dst=some te∧en.guard=none)
 (hlt:it<n∧tn<n∧ct<n∧te<n) (hne:tn≠ct∧tn≠it∧ct≠it∧te≠it∧te≠tn∧te≠ct) (hlv:memB lv tn=false∧memB lv ct=false∧memB lv te=false∧memB lv it=false)
 (hok2:(en::ops2).all (okOp n)=true) (hokY:codeOK n Y=true) (hbig:bigId≤l)
 {e:Env} {h:Heap} (hpre:aops ty (pcall P) ops0.toList (ops0.toList.take k) e h (fun e h=>eget e tm=.mp l∧∃s0,Tl n lv ll (V [] s0) (O [] s0) e h∧Q [] s0))
 (hO:∀seen s,Q seen s→hget (ll.zip (O seen s)) l=some (.map kd (E seen s))∧(E seen s).length=N)
 (hover:∀seen s,Q seen s→seen.length=N→K1 .normal (lv.zip (V seen s)) (ll.zip (O seen s)))
 (hround:∀B seen s j x,Q seen s→j<N→j∉seen→seen.length<N→(E seen s)[j]?=some x→
   aops ty (pcall P) (en::ops2) ops2 ((te,.tup [.p x.1,.p x.2])::(it,.c (.pointer (some ⟨B,0,none⟩)))::lv.zip (V seen s)) (ll.zip (O seen s)) (fun e h=>awp ty (pcall P) (lpOf P n) Y
    (rngK b0 b1 (fun e h=>∃s',Tl n (it::lv) ll (.c (.pointer (some ⟨B,0,none⟩))::V (seen++[j]) s') (O (seen++[j]) s') e h∧Q (seen++[j]) s') K1) e h)):
 AWp P n (.seq (.region id0 ops0 false) Z) K e h:=by
 intro g0 w0 g w a s hE;obtain⟨hr1,hr2,hr3,hr4,hr5⟩:=hrg;refine wp_seq (wp_region ?_);have htk:(ops0.toList.take k).length=k:=by simp[hr2]
 have hrange:List.range ops0.size=List.range' 0 (ops0.toList.take k).length++[k]:=by
  rw[htk,hr2,List.range_succ,List.range_eq_range']
 rw[hrange];refine aops_pre hty hok0 (T:=fun e h=>eget e tm=.mp l∧∃s0,Tl n lv ll (V [] s0) (O [] s0) e h∧Q [] s0) (g0:=g0) (w0:=w0) ?_ _ 0 e h g w a (fun j hj=>by rw[List.getElem?_take_of_lt (by rw[htk]at hj;exact hj)];simp) hpre s hE;rintro e1 h1 g1 w1 a1 ⟨htm,s0,hat,hq⟩ s1 hE1;rw[wpOps_cons];simp only[wpOp,hr1];rw[if_pos (by simp[Region.wanted,hr5])]
 left
 obtain⟨g2,sm,hEm⟩:=hat g1 w1 a1 s1;obtain⟨hmo,hmN⟩:=hO [] s0 hq;have hev:=s1.env tm;rw[htm]at hev
 have hval:a1.eval (.tmp tm)=.map (some (g1.ρ l)):=by
  generalize hqv:a1.tmps.getD tm undef=v at hev;cases hev;exact hqv
 rw[←hEm.ρk l hbig]at hval;replace hE1:=hE1.trans hEm;clear hEm hev s1;clear hat
 have hob':∃(es:Array MapEntry) (clock:Nat),w1.heap[g2.ρ l]?=some (.map es clock)∧es.size=N∧MapOK es clock:=by
  have hob:=sm.heap.obj l _ hmo;generalize E [] s0=xs at hob hmN
  cases hob with
  |map _ _ es clock hb hx hc=>exact⟨es,clock,hb,by have:=hx.1;simp at this;omega,hc.2⟩
 obtain⟨es,clock,hb,hsz,hmk⟩:=hob';have hcl:clock=N:=by rw[hmk.1,hsz]
 subst hcl
 have hr:(execOp a1.eval rg).run P w1=.ok (.value (.pointer (some ⟨w1.heap.size,0,none⟩))) (World.push w1 (.mapIter (some (g2.ρ l)) clock #[] clock)):=by
  simp only[execOp,hr3,Sem.run_bind,hval,run_range_map w1 T kt et (g2.ρ l) es clock hu hb,Result.andThen_ok,Sem.run_pure];rfl
 refine Oper.wp_value hr ?_;rw[hr4];have s2:=(sm.pushOwn (.mapIter (some (g2.ρ l)) clock #[] clock) 0 none).put hlt.1 (v:=.pointer (some ⟨w1.heap.size,0,none⟩)) (x:=.c (.pointer (some ⟨w1.heap.size,0,none⟩))) (.c _ _ rfl)
 have hE2:Ext g0 w0 (g2.new w1.heap.size 0 none) (World.push w1 (.mapIter (some (g2.ρ l)) clock #[] clock)):=
  hE1.trans (Ext.push (fun b hb=>by simp[Gh.new,Nat.ne_of_lt hb]) (fun a=>frozen_push_it a) (fun _ _=>rfl))
 exact hZ g0 w0 _ _ (rngBlock hty hmix (B:=w1.heap.size) (M:=g2.ρ l) lv ll V O Q E hnx hex hen hlt.2 hne hlv hok2 hokY hbig hO hover (fun seen s j x=>hround w1.heap.size seen s j x) hq s2 hE2 hE1.size (by simp[Gh.new]) push_new rfl)
end
end Go.AM
namespace Go.AM
theorem loop2 {P:Program} {ty:Nat→Option TI} {nt:Nat} (hty:TyOK P ty) (hmix:P.follows .mixedOrders=true) {c:Code} (hok:codeOK nt c=true) {K:Exit→Env→Heap→Prop} {σ τ:Type} (n:Nat)
 (lv ll:List Nat) (V:Nat→σ→List AV) (O:Nat→σ→List AObj) (Q:Nat→σ→Prop) (lv2 ll2:List Nat) (V2:Nat→τ→List AV) (O2:Nat→τ→List AObj) (Q2:Nat→τ→Prop)
 {e:Env} {h:Heap} (s0:σ) (h0:Atv lv ll (V 0 s0) (O 0 s0) e h) (hQ:Q 0 s0)
 (round:∀k s,k≤n→Q k s→awp ty (pcall P) (lpOf P nt) c (fun x e' h'=>match x with|.normal=>k<n∧((∃s',Atv lv ll (V (k+1) s') (O (k+1) s') e' h'∧Q (k+1) s')∨∃s',Atv lv2 ll2 (V2 (k+1) s') (O2 (k+1) s') e' h'∧Q2 (k+1) s')|x=>K x e' h') (lv.zip (V k s)) (ll.zip (O k s)))
 (round2:∀k s,k≤n→Q2 k s→awp ty (pcall P) (lpOf P nt) c (fun x e' h'=>match x with|.normal=>k<n∧∃s',Atv lv2 ll2 (V2 (k+1) s') (O2 (k+1) s') e' h'∧Q2 (k+1) s'|x=>K x e' h') (lv2.zip (V2 k s)) (ll2.zip (O2 k s))):lpOf P nt c K e h:=by
 have mask:∀{lv ll:List Nat} {V:List AV} {O:List AObj} {e h},Atv lv ll V O e h→∀g w a,Sim g w nt a e h→Sim g w nt a (lv.zip V) (ll.zip O):=by
  intro lv ll V O e h ha g w a hs;have:=hs.mask (lv:=lv) (ll:=ll) ha.1 (by rw[ha.2.1];exact ha.2.2.1) ha.2.2.2;rw[ha.2.1]at this;exact this
 refine AWp.loop (K:=K) (fun m e h=>∃k,m+k=n∧((∃s,Q k s∧∀g w a,Sim g w nt a e h→Sim g w nt a (lv.zip (V k s)) (ll.zip (O k s)))∨∃s,Q2 k s∧∀g w a,Sim g w nt a e h→Sim g w nt a (lv2.zip (V2 k s)) (ll2.zip (O2 k s)))) (m:=n) ⟨0,rfl,.inl ⟨s0,hQ,mask h0⟩⟩ ?_;rintro m e h ⟨k,hk,⟨s,hq,hsim⟩|⟨s,hq,hsim⟩⟩ g0 w0 g w a hs hE
 ·refine wp_mono (awp_sound hty hmix c _ _ _ hok (round k s (by omega) hq) g0 w0 g w a (hsim g w a hs) hE) ?_
  rintro ex a' w' ⟨g',e',h',hk',s'',hE'⟩;refine⟨g',e',h',?_,s'',hE'⟩
  cases ex with
  |normal=>
   obtain⟨hlt,⟨s',ha,hq'⟩|⟨s',ha,hq'⟩⟩:=hk'
   ·exact⟨m-1,by omega,k+1,by omega,.inl ⟨s',hq',mask ha⟩⟩
   ·exact⟨m-1,by omega,k+1,by omega,.inr ⟨s',hq',mask ha⟩⟩
  |_=>exact hk'
 ·refine wp_mono (awp_sound hty hmix c _ _ _ hok (round2 k s (by omega) hq) g0 w0 g w a (hsim g w a hs) hE) ?_
  rintro ex a' w' ⟨g',e',h',hk',s'',hE'⟩;refine⟨g',e',h',?_,s'',hE'⟩
  cases ex with
  |normal=>
   obtain⟨hlt,s',ha,hq'⟩:=hk';exact⟨m-1,by omega,k+1,by omega,.inr ⟨s',hq',mask ha⟩⟩
  |_=>exact hk'
end Go.AM
end
section
open Go Go.AM Go.Proofs
set_option maxRecDepth 100000
namespace KK
def hpS (m:TM):Heap:=[(1000000000,.cells [.mp 1000000001]),(1000000001,.map .ks (eM eT m))]
def appF (m:TM):Ty→Ty
 |.mk k n xs=>match (bif k==5 then slook n m else none) with
  |some x=>x
  |none=>.mk k n (appFs m xs)
 where appFs (m:TM):List Ty→List Ty
 | []=>[]
 |t::r=>appF m t::appFs m r
theorem appFs_map (m:TM) (l:List Ty):appF.appFs m l=l.map (appF m):=by
 induction l with
 |nil=>rfl
 |cons t r ih=>simp[appF.appFs,ih]
def AppS (m:TM) (t:Ty):Prop:=AMem Tryz.prog 160 [.ptr 1000000000 0,.p (eT t)] (hpS m) (.p (eT (appF m t))) (hpS m)
theorem app_all (m:TM) (hm:okM m) (t:Ty) (ht:okT t) (ih:∀a∈t.args,AppS m a):AppS m t:=by
 obtain⟨k,n,xs⟩:=t;simp only[Ty.args]at ih;have hlen:=ht.1;unfold AppS;rw[appF,appFs_map];have hl:=mlook_T n m;have hmo:∀x,slook n m=some x→okT x:=fun x hx=>hm n x hx;generalize hq:slook n m=q at hl hmo ⊢;refine AMem.intro (tyOf_ok Tryz.prog) hmix Tryz.func160 rfl (by rfl) (by kernel_rfl) (by show 2≤_;decide) rfl ?_;(conv=>whnf);refine asplit ?_ ?_<;>intro h1<;>conv=>whnf
 ·rw[h1]
  cases q with
  |none=>
   refine alook hl ?_;(conv=>whnf)
   first|refine aneed (.inl (by kernel_rfl)) ?_|refine aneed (by kernel_rfl) ?_
   (conv=>whnf);refine lp_nil 7 2 rfl ?_
   refine loopS (tyOf_ok _) hmix (by kernel_rfl) xs.length [0,3,4,7,27,28,29] [3,4,1000000000,1000000001] (fun j (s:List PV)=>[.ptr 1000000000 0,.ptr 3 0,.ptr 4 0,.so 3 s,.p (.sl 3 (eTs xs)),.p (.i .i64 (eTs xs).length),.p (.i .i64 (ix j))])
    (fun _ _=>[.cells [.p (.i .i64 k),.p (.s n),.p (.sl 3 (eTs xs))],.cells [.p (.i .i64 0),.p (.s ⟨#[]⟩),.nilS],.cells [.mp 1000000001],.map .ks (eM eT m)]) (fun j s=>s=eTs ((xs.take j).map (appF m))) [] ⟨rfl,rfl,rfl,rfl⟩ rfl ?_
   rintro j s hj rfl;(conv=>whnf);refine asplit ?_ ?_<;>intro h2<;>conv=>whnf
   ·have hj1:=ix_tt h2 (by rw[eTs_len]) hj (by omega)
    obtain⟨b,hb⟩:∃b,xs[j]?=some b:=⟨_,List.getElem?_eq_getElem hj1⟩
    have hc:=ih b (List.mem_of_getElem? hb);unfold AppS at hc;have hts:=take_snoc hb;refine aidxk (eTs_get hb) (by omega) ?_;have e1:eTs ((xs.take (j+1)).map (appF m))=eTs ((xs.take j).map (appF m))++[eT (appF m b)]:=by rw[hts,eTs_map,eTs_map];simp
    generalize appF m b=y at hc e1;obtain⟨bk,bn,bx⟩:=b;obtain⟨yk,yn,yx⟩:=y;(conv=>whnf);refine amr [1000000000,1000000001] 10000 hc ?_;(conv=>whnf);refine aneed (show((eTs ((xs.take j).map (appF m))).length+1)*48≤140737488355328 by rw[eTs_len];simp;omega) ?_;(conv=>whnf);exact⟨hj1,_,⟨rfl,rfl,rfl,rfl⟩,e1.symm⟩
   ·have hj1:=ix_ff h2 (by rw[eTs_len]) hj (by omega)
    subst hj1;rw[List.take_length];exact⟨.inl rfl,⟨.inl rfl,trivial⟩,⟨rfl,rfl⟩,trivial⟩
  |some x=>
   have hc:=copy_spec x (hmo x rfl);obtain⟨xk,xn,xx⟩:=x;refine alook hl ?_;(conv=>whnf)
   first|refine aneed (.inl (by kernel_rfl)) ?_|refine aneed (by kernel_rfl) ?_
   (conv=>whnf);refine apc hc ?_;(conv=>whnf);exact⟨.inl rfl,⟨.inl rfl,trivial⟩,⟨rfl,rfl⟩,trivial⟩
 ·rw[h1]
  refine lp_nil 7 2 rfl ?_
  refine loopS (tyOf_ok _) hmix (by kernel_rfl) xs.length [0,3,4,7,27,28,29] [3,4,1000000000,1000000001] (fun j (s:List PV)=>[.ptr 1000000000 0,.ptr 3 0,.ptr 4 0,.so 3 s,.p (.sl 3 (eTs xs)),.p (.i .i64 (eTs xs).length),.p (.i .i64 (ix j))])
   (fun _ _=>[.cells [.p (.i .i64 k),.p (.s n),.p (.sl 3 (eTs xs))],.cells [.p (.i .i64 0),.p (.s ⟨#[]⟩),.nilS],.cells [.mp 1000000001],.map .ks (eM eT m)]) (fun j s=>s=eTs ((xs.take j).map (appF m))) [] ⟨rfl,rfl,rfl,rfl⟩ rfl ?_
  rintro j s hj rfl;(conv=>whnf);refine asplit ?_ ?_<;>intro h2<;>conv=>whnf
  ·have hj1:=ix_tt h2 (by rw[eTs_len]) hj (by omega)
   obtain⟨b,hb⟩:∃b,xs[j]?=some b:=⟨_,List.getElem?_eq_getElem hj1⟩
   have hc:=ih b (List.mem_of_getElem? hb);unfold AppS at hc;have hts:=take_snoc hb;refine aidxk (eTs_get hb) (by omega) ?_;have e1:eTs ((xs.take (j+1)).map (appF m))=eTs ((xs.take j).map (appF m))++[eT (appF m b)]:=by rw[hts,eTs_map,eTs_map];simp
   generalize appF m b=y at hc e1;obtain⟨bk,bn,bx⟩:=b;obtain⟨yk,yn,yx⟩:=y;(conv=>whnf);refine amr [1000000000,1000000001] 10000 hc ?_;(conv=>whnf);refine aneed (show((eTs ((xs.take j).map (appF m))).length+1)*48≤140737488355328 by rw[eTs_len];simp;omega) ?_;(conv=>whnf);exact⟨hj1,_,⟨rfl,rfl,rfl,rfl⟩,e1.symm⟩
  ·have hj1:=ix_ff h2 (by rw[eTs_len]) hj (by omega)
   subst hj1;rw[List.take_length];exact⟨.inl rfl,⟨.inl rfl,trivial⟩,⟨rfl,rfl⟩,trivial⟩
theorem app_spec (m:TM) (hm:okM m) (t:Ty):okT t→AppS m t:=
 Ty.ind (Q:=fun t=>okT t→AppS m t) (fun k n xs ih h=>app_all m hm (.mk k n xs) h fun a ha=>ih a ha (okTs_mem h.2 a ha)) t
end KK
end
