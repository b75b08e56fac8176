/- Part of a machine over plain values. No conditions. -/
import Derived.Test.YtdmopjgjhfhfdaaGreatDoorAMMap2
import Derived.LaidEql
import Derived.Test.YtdmopjgjhfhfdaaGreatDoorAMMap
namespace Go.AM
theorem beqB_eq {a b:Bool} (h:beqB a b=true):a=b:=by cases a<;>cases b<;>first|rfl|cases h
theorem AStO_spec {T:Nat} {one:Bool} {h:Heap} {K:Nat→Nat→Nat→Nat→List (Nat×List PV)→Prop} (hk:AStO T one h K):∃l sp nx sz M,hget h l=some (.store T one sp nx sz M)∧K l sp nx sz M:=by
 unfold AStO at hk;split at hk
 ·rename_i l _
  split at hk
  ·rename_i T' o sp nx sz M hg
   split at hk
   ·rename_i h1 h2
    obtain rfl:=Nat.eq_of_beq_eq_true h1;obtain rfl:=beqB_eq h2;exact⟨l,sp,nx,sz,M,hg,hk⟩
   ·exact hk.elim
  ·exact hk.elim
 ·exact hk.elim
theorem slk_mem {k:Nat} {xs:List PV}:∀{M:List (Nat×List PV)},slk k M=some xs→(k,xs)∈M
 | [],h=>by cases h
 |(a,ys)::r,h=>by
  rw[slk]at h;split at h
  ·rename_i hb
   obtain rfl:=Nat.eq_of_beq_eq_true hb;cases h;simp
  ·exact List.mem_cons_of_mem _ (slk_mem h)
theorem sset_keys (k:Nat) (xs:List PV):∀(M:List (Nat×List PV)),(sset k xs M).map (·.1)=M.map (·.1)
 | []=>rfl
 |(a,ys)::r=>by
  rw[sset];split
  ·rfl
  ·rw[List.map_cons,List.map_cons,sset_keys k xs r]
theorem sset_mem {k:Nat} {xs:List PV} {p:Nat×List PV}:∀{M:List (Nat×List PV)},(M.map (·.1)).Nodup→p∈sset k xs M→(p∈M∧p.1≠k)∨p=(k,xs)
 | [],_,h=>by cases h
 |(a,ys)::r,hn,h=>by
  rw[sset]at h;rw[List.map_cons,List.nodup_cons]at hn;split at h
  ·rename_i hb
   obtain rfl:=Nat.eq_of_beq_eq_true hb;rcases List.mem_cons.1 h with rfl|h
   ·exact .inr rfl
   ·exact .inl ⟨List.mem_cons_of_mem _ h,fun e=>hn.1 (e ▸ List.mem_map.2 ⟨p,h,rfl⟩)⟩
  ·rename_i hb
   rcases List.mem_cons.1 h with rfl|h
   ·exact .inl ⟨List.mem_cons_self ..,fun e=>by simp only at e;subst e;simp at hb⟩
   ·rcases sset_mem hn.2 h with⟨h1,h2⟩|h1
    ·exact .inl ⟨List.mem_cons_of_mem _ h1,h2⟩
    ·exact .inr h1
theorem sdel_sub {k:Nat} {p:Nat×List PV}:∀{M:List (Nat×List PV)},p∈sdel k M→p∈M
 | [],h=>by cases h
 |(a,ys)::r,h=>by
  rw[sdel]at h;split at h
  ·exact List.mem_cons_of_mem _ h
  ·rcases List.mem_cons.1 h with rfl|h
   ·exact List.mem_cons_self ..
   ·exact List.mem_cons_of_mem _ (sdel_sub h)
theorem sdel_ne {k:Nat} {p:Nat×List PV}:∀{M:List (Nat×List PV)},(M.map (·.1)).Nodup→p∈sdel k M→p.1≠k
 | [],_,h=>by cases h
 |(a,ys)::r,hn,h=>by
  rw[sdel]at h;rw[List.map_cons,List.nodup_cons]at hn;split at h
  ·rename_i hb
   obtain rfl:=Nat.eq_of_beq_eq_true hb;exact fun e=>hn.1 (e ▸ List.mem_map.2 ⟨p,h,rfl⟩)
  ·rename_i hb
   rcases List.mem_cons.1 h with rfl|h
   ·intro e;simp only at e;subst e;simp at hb
   ·exact sdel_ne hn.2 h
theorem sdel_keys (k:Nat):∀(M:List (Nat×List PV)),List.Sublist ((sdel k M).map (·.1)) (M.map (·.1))
 | []=>.slnil
 |(a,ys)::r=>by
  rw[sdel];split
  ·exact List.sublist_cons_self ..
  ·exact(sdel_keys k r).cons_cons _
structure Dyn (g:Gh) (w:World) (g':Gh) (w':World) (l sp:Nat):Prop where
 ρ:g'.ρ=g.ρ
 sown:g'.sown=g.sown
 σ:∀s k a,g.σ s k=some a→g'.σ s k=some a
 σo:∀s,s≠sp→∀k,g'.σ s k=g.σ s k
 imm:∀b o v,imm g w b o=some v→imm g' w' b o=some v
 own:∀b o,g.own b=some o→o≠.obj l→g'.own b=some o∧g'.pre b=g.pre b∧w'.heap[b]?=w.heap[b]?
 kept:∀b,b<w.heap.size→g.own b=none→w'.heap[b]?=w.heap[b]?∧g'.pre b=g.pre b∧g'.own b=none
 siz:∀(b:Nat) (cs:Array Value) (E:TypeId),w.heap[b]?=some (.cells cs E (0,0))→∃(cs':Array Value) (E':TypeId),w'.heap[b]?=some (.cells cs' E' (0,0))∧cs'.size=cs.size
 bnd:∀b o,g'.own b=some o→b<w'.heap.size
 size:w.heap.size≤w'.heap.size
 os:w'.os=w.os
 out:w'.output=w.output
 frz':∀a:Addr,a.block<w.heap.size→w'.frozen? a=w.frozen? a
theorem Dyn.ext {g g':Gh} {w w':World} {l sp:Nat} (d:Dyn g w g' w' l sp) (h:g.sown sp=some l):Ext g w g' w':=
 ⟨d.size,d.os,d.out,d.imm,d.kept,⟨d.σ,d.sown,fun s q k=>d.σo s (fun e=>by subst e;rw[h]at q;cases q) k⟩,d.frz',fun _ _=>by rw[d.ρ],d.siz⟩
theorem Sim.dyn {g g':Gh} {w w':World} {n:Nat} {a:Act} {e:Env} {h:Heap} (s:Sim g w n a e h) {l T:Nat} {one:Bool} {sp nx sz nx':Nat} {M M':List (Nat×List PV)} (hl:hget h l=some (.store T one sp nx sz M))
 (d:Dyn g w g' w' l sp) (hst:StoreOK g' w' l sp nx' sz M'):Sim g' w' n a e ((l,.store T one sp nx' sz M')::h)∧Ext g w g' w':=by
 have hsl:g.sown sp=some l:=by rw[←d.sown];exact hst.sown
 have hdom:∀k,domOf h k→domOf ((l,AObj.store T one sp nx' sz M')::h) k:=fun k hk=>(domOf_set hl k).2 hk
 have up:∀{ow v x},ow≠some (.obj l)→VRel g w (domOf h) ow v x→VRel g' w' (domOf ((l,AObj.store T one sp nx' sz M')::h)) ow v x:=fun hne r=>
  r.keep d.imm (fun k hk=>⟨hdom k hk,by rw[d.ρ]⟩) (fun k cs E _ hb=>d.siz _ cs E hb) (fun o b e1 h1=>d.own b o h1 (fun e2=>hne (by rw[e1,e2]))) (hsg:=d.σ)
 refine⟨⟨s.defers,s.size,fun i=>up (by simp) (s.env i),⟨fun k z hz=>?_,fun k z hz hq=>?_,fun k z hz hq=>?_⟩,d.bnd⟩,d.ext hsl⟩
 ·by_cases ek:l=k
  ·subst ek;rw[hget_self]at hz;cases hz;exact .store _ _ _ _ _ _ hst
  ·rw[hget_ne ek]at hz
   have eo:z.solid=true→w'.heap[g'.ρ k]?=w.heap[g.ρ k]?:=fun hq=>by
    rw[d.ρ];exact(d.own _ _ (s.heap.own k z hz hq) (by simp;exact fun e=>ek e.symm)).2.2
   cases s.heap.obj k z hz with
   |cells cs vs E' hb' hl' hx' h1=>exact .cells cs vs E' ((eo rfl).trans hb') hl' (fun j v c q1 q2=>up (by simp) (hx' j v c q1 q2)) h1
   |arr xs vs E' hb' hl' hx' h1=>exact .arr xs vs E' ((eo rfl).trans hb') hl' (fun j v c q1 q2=>(hx' j v c q1 q2).mono d.imm d.σ) h1
   |glob gb gvs hgl=>exact ORel.globM hgl (fun h1 hlt _=>⟨(d.kept gb hlt h1).1,(d.kept gb hlt h1).2.2⟩)
   |store T3 o3 sp3 nx3 z3 M3 hst3=>
    refine .store T3 o3 sp3 nx3 z3 M3 (hst3.mono d.imm (fun bb hbb=>by obtain⟨q1,q2,q3⟩:=d.own bb _ hbb (by simp;exact fun e=>ek e.symm);exact⟨q1,q3,q2⟩) (by rw[d.sown];exact hst3.sown) (hs:=d.σ) (he:=fun k2=>d.σo sp3 (fun e=>?_) k2));subst e;have:=hst3.sown;rw[hsl]at this;cases this;exact ek rfl
 ·by_cases ek:l=k
  ·subst ek;rw[hget_self]at hz;cases hz;cases hq
  ·rw[hget_ne ek]at hz
   rw[d.ρ];exact(d.own _ _ (s.heap.own k z hz hq) (by simp;exact fun e=>ek e.symm)).1
 ·by_cases ek:l=k
  ·subst ek;rw[hget_self]at hz;cases hz;cases hq
  ·rw[hget_ne ek]at hz
   rw[d.ρ,(d.own _ _ (s.heap.own k z hz hq) (by simp;exact fun e=>ek e.symm)).2.1];exact s.heap.pre k z hz hq
theorem Dyn.setRow {g:Gh} {w:World} {l sp A:Nat} {old vs:Array Value} {E:TypeId} (hown:g.own A=some (.obj l)) (hpre:g.pre A=0) (hb:w.heap[A]?=some (.cells old E (0,0))) (hs:vs.size=old.size) (hbnd:∀b o,g.own b=some o→b<w.heap.size):Dyn g w g (w.setRow A vs) l sp:=by
 refine⟨rfl,rfl,fun _ _ _ q=>q,fun _ _ _=>rfl,fun b i u hu=>?_,fun b o h1 h2=>⟨h1,rfl,setRow_other _ _ _ _ (fun e=>by subst e;rw[hown]at h1;cases h1;exact h2 rfl)⟩,fun b _ hn=>⟨setRow_other _ _ _ _ (fun e=>by subst e;rw[hown]at hn;cases hn),rfl,hn⟩,fun b cs E' hb'=>?_,fun b o ho=>by rw[setRow_size];exact hbnd b o ho,by rw[setRow_size];exact Nat.le_refl _,rfl,rfl,fun a _=>frozen_setRow hb a⟩
 ·by_cases hbl:b=A
  ·subst hbl;simp only[imm_eq]at hu;rw[hpre]at hu;simp at hu
  ·simp only[imm_eq]at hu ⊢;rw[cell_setRow_other _ _ _ _ hbl];exact hu
 ·by_cases hbl:b=A
  ·subst hbl;rw[hb]at hb';cases hb';exact⟨vs,E,setRow_heap _ _ _ _ _ _ hb,hs⟩
  ·exact⟨cs,E',by rw[setRow_other _ _ _ _ hbl];exact hb',rfl⟩
def Gh.num (g:Gh) (sp k:Nat) (B:Nat×Nat):Gh:={ g with σ:=fun s q=>if s=sp∧q=k then some B else g.σ s q }
def Gh.newS (g:Gh) (B C l sp k:Nat):Gh:={ pre:=fun b=>if b=B then 0 else g.pre b,own:=fun b=>if b=B then some (.obj l) else g.own b,ρ:=g.ρ,σ:=fun s q=>if s=sp∧q=k then some (B,C) else g.σ s q,sown:=g.sown }
theorem Dyn.num {g:Gh} {w:World} {l sp k:Nat} {B:Nat×Nat} (hf:g.σ sp k=none) (hbnd:∀b o,g.own b=some o→b<w.heap.size):Dyn g w (g.num sp k B) w l sp:=by
 refine⟨rfl,rfl,fun s q a hq=>?_,fun s hs q=>by simp[Gh.num,hs],fun _ _ _ h=>h,fun b o h1 _=>⟨h1,rfl,rfl⟩,fun b _ hn=>⟨rfl,rfl,hn⟩,fun b cs E hb=>⟨cs,E,hb,rfl⟩,hbnd,Nat.le_refl _,rfl,rfl,fun _ _=>rfl⟩;have:¬(s=sp∧q=k):=fun⟨e1,e2⟩=>by subst e1;subst e2;rw[hf]at hq;cases hq
 simp only[Gh.num,if_neg this];exact hq
theorem Dyn.push {g:Gh} {w:World} {l sp k C:Nat} {cs:Array Value} {E:TypeId} (hf:g.σ sp k=none) (hbnd:∀b o,g.own b=some o→b<w.heap.size):Dyn g w (g.newS w.heap.size C l sp k) (World.push w (.cells cs E (0,0))) l sp:=by
 have hp:∀b,b<w.heap.size→(g.newS w.heap.size C l sp k).pre b=g.pre b∧(g.newS w.heap.size C l sp k).own b=g.own b:=fun b hb=>by simp[Gh.newS,Nat.ne_of_lt hb]
 refine⟨rfl,rfl,fun s q a hq=>?_,fun s hs q=>by simp[Gh.newS,hs],fun b o v h=>imm_push (fun b hb=>(hp b hb).1) h,fun b o h1 _=>?_,fun b hb hn=>⟨push_old hb,(hp b hb).1,(hp b hb).2.trans hn⟩,fun b cs2 E2 hb=>⟨cs2,E2,by rw[push_old (get_lt hb)];exact hb,rfl⟩,fun b o ho=>?_,by rw[push_size];omega,rfl,rfl,fun a _=>frozen_push a⟩
 ·have:¬(s=sp∧q=k):=fun⟨e1,e2⟩=>by subst e1;subst e2;rw[hf]at hq;cases hq
  simp only[Gh.newS,if_neg this];exact hq
 ·have hb:=hbnd b o h1
  exact⟨(hp b hb).2.trans h1,(hp b hb).1,push_old hb⟩
 ·rw[push_size]
  by_cases hb:b=w.heap.size
  ·omega
  ·have:(g.newS w.heap.size C l sp k).own b=g.own b:=by simp[Gh.newS,hb]
   rw[this]at ho;have:=hbnd b o ho;omega
theorem Dyn.trans {g g1 g2:Gh} {w w1 w2:World} {l sp:Nat} (d:Dyn g w g1 w1 l sp) (d':Dyn g1 w1 g2 w2 l sp):Dyn g w g2 w2 l sp:=by
 refine⟨d'.ρ.trans d.ρ,d'.sown.trans d.sown,fun s k a q=>d'.σ s k a (d.σ s k a q),fun s h k=>(d'.σo s h k).trans (d.σo s h k),fun b o v q=>d'.imm b o v (d.imm b o v q),fun b o h1 h2=>?_,fun b hb hn=>?_,fun b cs E hb=>?_,d'.bnd,Nat.le_trans d.size d'.size,d'.os.trans d.os,d'.out.trans d.out,fun a ha=>?_⟩
 ·obtain⟨q1,q2,q3⟩:=d.own b o h1 h2
  obtain⟨p1,p2,p3⟩:=d'.own b o q1 h2;exact⟨p1,p2.trans q2,p3.trans q3⟩
 ·obtain⟨q1,q2,q3⟩:=d.kept b hb hn
  obtain⟨p1,p2,p3⟩:=d'.kept b (Nat.lt_of_lt_of_le hb d.size) q3;exact⟨p1.trans q1,p2.trans q2,p3⟩
 ·obtain⟨cs1,E1,q1,q2⟩:=d.siz b cs E hb
  obtain⟨cs2,E2,q3,q4⟩:=d'.siz b cs1 E1 q1;exact⟨cs2,E2,q3,q4.trans q2⟩
 ·rw[d'.frz' a (Nat.lt_of_lt_of_le ha d.size)];exact d.frz' a ha
theorem Dyn.drew {g:Gh} {w:World} {l sp k:Nat} (hbnd:∀b o,g.own b=some o→b<w.heap.size):Dyn g w g { w with drawn:=k } l sp:=
 ⟨rfl,rfl,fun _ _ _ q=>q,fun _ _ _=>rfl,fun _ _ _ q=>q,fun _ _ h1 _=>⟨h1,rfl,rfl⟩,fun _ _ hn=>⟨rfl,rfl,hn⟩,fun _ cs E hb=>⟨cs,E,hb,rfl⟩,hbnd,Nat.le_refl _,rfl,rfl,fun _ _=>rfl⟩
end Go.AM
namespace Go.AM
section
variable {P:Program} {ty:Nat→Option TI} {n:Nat} {o:Oper} {e:Env} {h:Heap} {K:AK}
theorem dPtr_rel {g:Gh} {w:World} {dom:Nat→Prop} {ow:Option Owner} {v:Value} {x:AV} {S T sz0 s k m c:Nat} {one:Bool} (r:VRel g w dom ow v x) (h:dPtr S x=some (T,one,sz0,s,k,m,c)):
 ∃A,g.σ s k=some A∧v=.pointer (some ⟨A.1,m*sz0+c,none⟩):=by
 unfold dPtr at h;split at h
 ·cases h
  cases r with
  |p _ _ _ hp=>cases hp with|adr _ _ a C q=>exact⟨(a,C),q,by simp⟩
 ·cases h
  cases r with
  |p _ _ _ hp=>cases hp with|pa _ _ _ _ _ _ _ a C q=>exact⟨(a,C),q,rfl⟩
 ·cases h
theorem Sim.blk {g:Gh} {w:World} {a:Act} {e':Env} {h':Heap} (s:Sim g w n a e' h') {l T sp nx sz:Nat} {one:Bool} {M:List (Nat×List PV)} (hl:hget h' l=some (.store T one sp nx sz M)):StoreOK g w l sp nx sz M:=by
 cases s.heap.obj l _ hl with|store _ _ _ _ _ _ h=>exact h
theorem off_eq {m sz0 sz c:Nat} (h:m=0∨sz0=sz):m*sz0+c=m*sz+c:=by rcases h with rfl|rfl<;>simp
theorem dLoad_sound (hty:TyOK P ty) (hd:∀d,o.dst=some d→d<n) {x:Operand} {t:Nat} (ho:o.op=.load t x) (hk:dLoad ty o h t (ev e x) K):∃f,K f∧OpOK P n o e h f:=by
 have m1:x∈o.op.operands:=by simp[ho,Op.operands]
 have hrun:∀(a:Act) (w:World) (v u:Value),a.eval x=v→(Instr.loadAt t v).run P w=.ok u w→(execOp a.eval o).run P w=.ok (.value u) w:=by
  intro a w v u hv hr;simp only[execOp,ho,hv,Sem.run_bind,hr,Result.andThen_ok,Sem.run_pure]
 unfold dLoad at hk;split at hk
 ·rename_i i hi
  split at hk
  ·rename_i cs hx
   split at hk
   ·rename_i hag
    split at hk
    ·rename_i l1 hl1
     obtain⟨k1,k2⟩:=getAt_spec _ _ _ _ hl1;refine ret_sound hd hk fun e' h' he g w a s=>?_;obtain⟨_,r1⟩:=s.evo he m1 hx;generalize hv:a.eval x=v at r1
     cases r1 with
     |p _ _ _ hp=>
     cases hp with
     |bx ad _ f hs hm hxx=>
      have hlen:∀j,j<i.size→∃y,cs[j]?=some y∧l1[j]?=some y:=by
       intro j hj;have:=k2 j hj;rw[Nat.zero_add]at this;have hlt:j<l1.length:=by omega
       exact⟨l1[j],by rw[←this];simp[hlt],by simp[hlt]⟩
      refine⟨.agg ((List.range i.size).map f).toArray,hrun a w _ _ hv ?_,fun d _=>.p _ _ _ (.agg _ _ (by simp[k1]) (fun v hv=>?_) fun j v y hj hy=>?_)⟩
      ·refine run_loadAt hty hi hs _ (by simp) (fun j v hj=>?_) hag
       simp only[List.getElem?_map,List.getElem?_range]at hj
       have hji:j<i.size:=by
        rcases Nat.lt_or_ge j i.size with h2|h2
        ·exact h2
        ·rw[List.getElem?_eq_none (by simpa using h2)]at hj;simp at hj
       rw[List.getElem?_range hji]at hj;simp at hj;subst hj;obtain⟨y,hy,_⟩:=hlen j hji;exact imm_cell (hm j y hy).1
      ·obtain⟨j,hj,rfl⟩:=List.mem_map.1 hv
       obtain⟨y,hy,_⟩:=hlen j (by simpa using hj);exact(hm j y hy).2
      ·have hji:j<i.size:=by have:=(List.getElem?_eq_some_iff.1 hy).1;omega
       rw[List.getElem?_map,List.getElem?_range hji]at hj;simp at hj;subst hj;obtain⟨y',hy1,hy2⟩:=hlen j hji;rw[hy2]at hy;cases hy;exact hxx j _ hy1
    ·exact hk.elim
   ·rename_i hag
    split at hk
    ·rename_i y r
     refine ret_sound hd hk fun e' h' he g w a s=>?_;obtain⟨_,r1⟩:=s.evo he m1 hx;generalize hv:a.eval x=v at r1
     cases r1 with
     |p _ _ _ hp=>
     cases hp with
     |bx ad _ f hs hm hxx=>
      have h0:=hm 0 y (by simp);exact⟨f 0,hrun a w _ _ hv (run_loadAt1 hty hi hs hag (by simpa using imm_cell h0.1)),fun d _=>.p _ _ _ (hxx 0 y (by simp))⟩
    ·exact hk.elim
  ·split at hk
   ·rename_i T one sz0 sp0 k m c hp
    obtain⟨l,sp,nx,sz,M,hg,hk⟩:=AStO_spec hk;obtain⟨⟨rfl,hsn,hsz⟩,xs,hxs,x0,_,hx0,hk⟩:=hk;have hx0:xs[m]?=some x0:=by simpa using hx0
    have cells:∀{e':Env} {h':Heap} {g:Gh} {w:World} {a:Act},(∀t∈slotsOf o,eget e' t=eget e t)→hget h' l=hget h l→Sim g w n a e' h'→
     ∃A:Nat,a.eval x=.pointer (some ⟨A,m*sz+c,none⟩)∧∃(vs:Array Value) (E:TypeId),w.heap[A]?=some (.cells vs E (0,0))∧
      ∀(i:Nat) (z:PV),x0.cells[c+i]?=some z→∃v,vs[m*sz+c+i]?=some v∧v.oneCell'=true∧PRel (imm g w) v z:=by
     intro e' h' g w a he hl s;obtain⟨_,r1⟩:=s.evo he m1 rfl;obtain⟨A,hA,hv⟩:=dPtr_rel r1 hp;have hst:=s.blk (hl.trans hg);obtain⟨A',hA',_,_,vs,E,hb,h0,hlen,hzz,hxx⟩:=hst.rowC hsn k xs (slk_mem hxs);rw[hA]at hA';cases hA';refine⟨A.1,by rw[hv,off_eq hsz],vs,E,hb,fun i z hz=>?_⟩;have:=hxx m x0 hx0 (c+i) z hz
     rwa [←Nat.add_assoc]at this
    split at hk
    ·rename_i hag
     split at hk
     ·rename_i l1 hl1
      obtain⟨k1,k2⟩:=getAt_spec _ _ _ _ hl1;refine retR_sound hd hk fun e' h' he hl g w a s=>?_;obtain⟨A,hv,vs,E,hb,hxx⟩:=cells he hl s
      have hlen:∀j,j<i.size→∃z,x0.cells[c+j]?=some z∧l1[j]?=some z:=by
       intro j hj;have:=k2 j hj;have hlt:j<l1.length:=by omega
       exact⟨l1[j],by rw[←this];simp[hlt],by simp[hlt]⟩
      have hle:i.size=0∨m*sz+c+i.size≤vs.size:=by
       rcases Nat.eq_zero_or_pos i.size with h0|h0
       ·exact .inl h0
       ·right
        obtain⟨z,hz1,_⟩:=hlen (i.size-1) (by omega);obtain⟨v,hv1,_,_⟩:=hxx _ _ hz1;have:=(Array.getElem?_eq_some_iff.1 hv1).1;omega
      have hll:((vs.toList.drop (m*sz+c)).take i.size).length=i.size:=by simp;omega
      have hget:∀(j:Nat) (v:Value),((vs.toList.drop (m*sz+c)).take i.size)[j]?=some v→j<i.size∧vs[m*sz+c+j]?=some v:=by
       intro j v hj;have hji:j<i.size:=by have:=(List.getElem?_eq_some_iff.1 hj).1;omega
       rw[List.getElem?_take,if_pos hji,List.getElem?_drop]at hj;exact⟨hji,by simpa using hj⟩
      refine⟨.agg ((vs.toList.drop (m*sz+c)).take i.size).toArray,hrun a w _ _ hv ?_,fun d _=>.p _ _ _ (.agg _ _ (hll.trans k1.symm) (fun v hv=>?_) fun j v z hj hz2=>?_)⟩
      rotate_left
      ·obtain⟨j,hj⟩:=List.getElem?_of_mem hv
       obtain⟨hji,hj'⟩:=hget j v hj;obtain⟨z',q1,q2⟩:=hlen j hji;obtain⟨v',p1,p2,_⟩:=hxx j _ q1;rw[hj']at p1;cases p1;exact p2
      rotate_left
      ·exact run_loadAt hty hi rfl _ hll (fun j v hj=>by rw[cell?_of hb];exact(hget j v hj).2) hag
      ·obtain⟨hji,hj'⟩:=hget j v hj
       obtain⟨z',q1,q2⟩:=hlen j hji;rw[q2]at hz2;cases hz2;obtain⟨v',p1,_,p2⟩:=hxx j _ q1;rw[hj']at p1;cases p1;exact p2
     ·exact hk.elim
    ·rename_i hag
     split at hk
     ·rename_i z hz1
      refine retR_sound hd hk fun e' h' he hl g w a s=>?_;obtain⟨A,hv,vs,E,hb,hxx⟩:=cells he hl s;obtain⟨v',p1,_,p2⟩:=hxx 0 z (by simpa using hz1);exact⟨v',hrun a w _ _ hv (run_loadAt1 hty hi rfl hag (by rw[cell?_of hb];simpa using p1)),fun d _=>.p _ _ _ p2⟩
     ·exact hk.elim
   ·exact hk.elim
 ·exact hk.elim
theorem dNil_sound (hd:∀d,o.dst=some d→d<n) {x:Operand} (ho:o.op=.nilCheck x) (hk:dNil o (ev e x) K):∃f,K f∧OpOK P n o e h f:=by
 have m1:x∈o.op.operands:=by simp[ho,Op.operands]
 unfold dNil at hk;split at hk
 ·rename_i pv hx
  split at hk
  ·rename_i hdp
   refine ret_sound hd hk fun e' h' he g w a s=>?_;obtain⟨_,r1⟩:=s.evo he m1 hx;have hp:=r1.pv;generalize hv:a.eval x=v at hp
   cases hp<;>first|(simp[isDP]at hdp;done)|skip
   ·rename_i sp k ad C q;exact⟨_,by simp[execOp,ho,hv],fun d _=>.p _ _ _ (.adr _ _ _ _ q)⟩
   ·rename_i T o1 sz sp k m c ad C q;exact⟨_,by simp[execOp,ho,hv],fun d _=>.p _ _ _ (.pa _ _ _ _ _ _ _ _ _ q)⟩
   ·rename_i ad cs f hs hm hxx;exact⟨_,by simp[execOp,ho,hv],fun d _=>.p _ _ _ (.bx ad cs f hs hm hxx)⟩
  ·exact hk.elim
 ·exact hk.elim
theorem dField_sound (hty:TyOK P ty) (hd:∀d,o.dst=some d→d<n) {t f:Nat} {x:Operand} (ho:o.op=.fieldAddr t x f) (hk:dField ty o t f (ev e x) K):∃f,K f∧OpOK P n o e h f:=by
 have m1:x∈o.op.operands:=by simp[ho,Op.operands]
 unfold dField at hk;split at hk
 ·rename_i fd hfd
  split at hk
  ·rename_i j i hj hi
   split at hk
   ·rename_i cs hz hx
    refine ret_sound hd hk fun e' h' he g w a s=>?_;obtain⟨_,r1⟩:=s.evo he m1 hx;generalize hv:a.eval x=v at r1
    cases r1 with
    |p _ _ _ hp=>
    cases hp with
    |bx ad _ f hs hm hxx=>
     refine⟨.pointer (some ⟨ad.block,ad.off+fd.offset,none⟩),?_,fun d _=>.vp _ _ _ (fun i=>f (fd.offset+i)) rfl (fun i y hy=>?_) (fun i y hy=>?_)⟩
     ·simp only[execOp,ho,hv,Sem.run_bind,run_fieldAt hty hfd hj hz (a:=ad) hs,Result.andThen_ok,Sem.run_pure]
     ·rw[List.getElem?_drop]at hy
      have:=hm _ _ hy
      rwa [←Nat.add_assoc]at this
     ·rw[List.getElem?_drop]at hy
      exact hxx _ _ hy
   ·rename_i sp k hz hx
    refine ret_sound hd hk fun e' h' he g w a s=>?_;obtain⟨_,r1⟩:=s.evo he m1 hx;generalize hv:a.eval x=v at r1
    cases r1 with
    |p _ _ _ hp=>
    cases hp with
    |adr _ _ ad C q=>
     refine⟨.pointer (some ⟨ad,0*i.size+fd.offset,none⟩),?_,fun d _=>.p _ _ _ (.pa _ _ _ _ _ _ _ _ _ q)⟩;have:=run_fieldAt hty hfd hj hz (a:=⟨ad,0,none⟩) (w:=w) rfl;simp only[execOp,ho,hv,Sem.run_bind,this,Result.andThen_ok,Sem.run_pure,Nat.zero_mul,Nat.zero_add]
   ·rename_i T o1 sz sp k m c hz hx
    refine ret_sound hd hk fun e' h' he g w a s=>?_;obtain⟨_,r1⟩:=s.evo he m1 hx;generalize hv:a.eval x=v at r1
    cases r1 with
    |p _ _ _ hp=>
    cases hp with
    |pa _ _ _ _ _ _ _ ad C q=>
     refine⟨.pointer (some ⟨ad,m*sz+(c+fd.offset),none⟩),?_,fun d _=>.p _ _ _ (.pa _ _ _ _ _ _ _ _ _ q)⟩;have:=run_fieldAt hty hfd hj hz (a:=⟨ad,m*sz+c,none⟩) (w:=w) rfl;simp only[execOp,ho,hv,Sem.run_bind,this,Result.andThen_ok,Sem.run_pure,Nat.add_assoc]
   ·exact hk.elim
  ·exact hk.elim
 ·exact hk.elim
theorem dIndex_sound (hty:TyOK P ty) (hd:∀d,o.dst=some d→d<n) {x ix:Operand} {t:Nat} (ho:o.op=.indexAddr t x ix) (hk:dIndex ty o t (ev e x) (ev e ix) K):∃f,K f∧OpOK P n o e h f:=by
 have m1:x∈o.op.operands:=by simp[ho,Op.operands]
 have m2:ix∈o.op.operands:=by simp[ho,Op.operands]
 unfold dIndex at hk;split at hk
 ·rename_i i hi
  split at hk
  ·rename_i el hde
   have hu:=(hty t i hi).und;rw[hde]at hu;split at hk
   ·rename_i j hj
    split at hk
    ·rename_i sp k m kd q hx hix
     obtain⟨⟨h0,hlt⟩,hk⟩:=hk;refine ret_sound hd hk fun e' h' he g w a s=>?_;obtain⟨_,r1⟩:=s.evo he m1 hx;obtain⟨_,r2⟩:=s.evo he m2 hix;generalize hv:a.eval x=v at r1
     cases r1 with
     |p _ _ _ hp=>
     cases hp with
     |ads _ _ ad _ cap hq hc=>
      refine⟨.pointer (some ⟨ad,q.toNat*j.size+0,none⟩),?_,fun d _=>.p _ _ _ (.pa _ _ _ _ _ _ _ _ _ hq)⟩;have hlt':q<(m:Int):=by omega
      simp only[execOp,ho,hv,r2.int,Instr.indexAt,asIntOf,Sem.run_bind,Sem.run_pure,Result.andThen_ok,run_underlying hu,h0,hlt',and_self,if_true,run_sizeOf_ty hty hj,Addr.add_plain,Nat.zero_add,Nat.add_zero]
    ·exact hk.elim
   ·exact hk.elim
  ·exact hk.elim
 ·exact hk.elim
theorem dLen_sound (hty:TyOK P ty) (hd:∀d,o.dst=some d→d<n) {x:Operand} {t:Nat} {ts:List TypeId} (ho:o.op=.call { callee:=.builtin .len,args:=⟨[x]⟩,argTypes:=⟨t::ts⟩ })
 (hk:dLen ty o t (ev e x) K):∃f,K f∧OpOK P n o e h f:=by
 have m1:x∈o.op.operands:=by simp[ho,Op.operands,Call.operands]
 have hrun:∀(a:Act) (w:World) (k:Int),(∀u,(Builtin.len_ (t::ts).toArray u #[a.eval x]).run P w=.ok (.int .i64 k) w)→(execOp a.eval o).run P w=.ok (.value (.int .i64 k)) w:=by
  intro a w k hl;obtain⟨cs,hcs⟩:=run_builtin_call (P:=P) ho a w;rw[hcs];simp only[builtin,List.map_cons,List.map_nil,Sem.run_bind];rw[show(⟨t::ts⟩:Array TypeId)=(t::ts).toArray from rfl,hl];rfl
 unfold dLen at hk;split at hk
 ·rename_i s k m ht hx
  obtain⟨el,hu⟩:=isSliceT_spec hty ht;refine ret_sound hd hk fun e' h' he g w a s=>?_;obtain⟨_,r1⟩:=s.evo he m1 hx;generalize hv:a.eval x=v at r1
  cases r1 with
  |p _ _ _ hp=>
  cases hp with
  |ads _ _ ad _ cap hq hc=>exact⟨_,hrun a w _ (fun u=>by rw[hv];exact run_len hu (.inr ⟨⟨el,rfl⟩,some ⟨ad,0,none⟩,m,cap,rfl,rfl⟩) w),fun d _=>.p _ _ _ (.i _ _)⟩
 ·rename_i ht hx
  obtain⟨el,hu⟩:=isSliceT_spec hty ht;refine ret_sound hd hk fun e' h' he g w a s=>?_;obtain⟨_,r1⟩:=s.evo he m1 hx;generalize hv:a.eval x=v at r1
  cases r1 with
  |p _ _ _ hp=>
  cases hp with
  |nsl=>exact⟨_,hrun a w 0 (fun u=>by rw[hv];exact run_len hu (.inr ⟨⟨el,rfl⟩,none,0,0,rfl,rfl⟩) w),fun d _=>.p _ _ _ (.i _ _)⟩
 ·exact hk.elim
end
end Go.AM
namespace Go.AM
section
variable {P:Program} {ty:Nat→Option TI} {n:Nat} {o:Oper} {e:Env} {h:Heap} {K:AK}
theorem StoreOK.add {g g':Gh} {w w':World} {l sp nx sz:Nat} {M M':List (Nat×List PV)} {a:Nat×Nat} {xs:List PV} (h:StoreOK g w l sp nx sz M) (d:Dyn g w g' w' l sp) (hsub:∀p∈M',p∈M) (hnd:(M'.map (·.1)).Nodup)
 (ha:g'.σ sp nx=some a) (hσ:∀k,k≠nx→g'.σ sp k=g.σ sp k)
 (hold:∀k ys b,(k,ys)∈M'→g.σ sp k=some b→b.1≠a.1∧g'.own b.1=g.own b.1∧g'.pre b.1=g.pre b.1∧w'.heap[b.1]?=w.heap[b.1]?)
 (hown:g'.own a.1=some (.obj l)) (hpre:g'.pre a.1=0) (hb:SBlk g' w' a sz xs):StoreOK g' w' l sp (nx+1) sz ((nx,xs)::M'):=by
 have hnx:g.σ sp nx=none:=h.fresh nx (Nat.le_refl _)
 have hk:∀k ys,(k,ys)∈M'→k≠nx:=fun k ys q e=>by
  obtain⟨b,q1,_⟩:=h.row k ys (hsub _ q);subst e;rw[hnx]at q1;cases q1
 refine⟨by rw[d.sown];exact h.sown,fun k q=>(hσ k (by omega)).trans (h.fresh k (by omega)),fun k ys q=>?_,fun k k' ys ys' b b' q1 q2 q3 q4 q5=>?_,?_⟩
 ·rcases List.mem_cons.1 q with q|q
  ·cases q;exact⟨a,ha,hown,hpre,hb⟩
  ·obtain⟨b,p1,p2,p3,p4⟩:=h.row k ys (hsub _ q)
   obtain⟨_,r1,r2,r3⟩:=hold k ys b q p1;exact⟨b,(hσ k (hk k ys q)).trans p1,r1.trans p2,r2.trans p3,p4.mono d.imm r3 d.σ⟩
 ·rcases List.mem_cons.1 q1 with q1|q1<;>rcases List.mem_cons.1 q2 with q2|q2
  ·cases q1;cases q2;rfl
  ·cases q1
   rw[ha]at q3;cases q3;rw[hσ k' (hk k' ys' q2)]at q4;exact absurd q5.symm (hold k' ys' b' q2 q4).1
  ·cases q2
   rw[ha]at q4;cases q4;rw[hσ k (hk k ys q1)]at q3;exact absurd q5 (hold k ys b q1 q3).1
  ·rw[hσ k (hk k ys q1)]at q3
   rw[hσ k' (hk k' ys' q2)]at q4;exact h.inj k k' ys ys' b b' (hsub _ q1) (hsub _ q2) q3 q4 q5
 ·rw[List.map_cons,List.nodup_cons]
  refine⟨fun q=>?_,hnd⟩;obtain⟨p,q1,q2⟩:=List.mem_map.1 q;exact hk p.1 p.2 q1 q2
theorem dAlloc_sound (hty:TyOK P ty) (hd:∀d,o.dst=some d→d<n) {t:Nat} (ho:o.op=.alloc t) (hk:dAlloc ty o h t K):∃f,K f∧OpOK P n o e h f:=by
 unfold dAlloc at hk;split at hk
 ·rename_i i d hi hdd
  split at hk
  ·rename_i zs hag hzs
   obtain⟨l,sp,nx,sz,M,hg,hk⟩:=AStO_spec hk;split at hk
   ·rename_i hsz hsz0
    obtain rfl:sz=i.size:=Nat.eq_of_beq_eq_true hsz;have hpos:0<i.size:=Nat.pos_of_ne_zero fun q=>by rw[q]at hsz0;cases hsz0
    refine⟨_,hk,fun e' h' he hl g w a s=>?_⟩;have hl0:hget h' l=some (.store t true sp nx i.size M):=(hl l (by simp)).trans hg;have hst:=s.blk hl0;obtain⟨inf,z,h1,h2,h3,h4,h5,h6⟩:=(hty t i hi).inf
    have hr:(execOp a.eval o).run P w=.ok (.value (.pointer (some ⟨w.heap.size,0,none⟩))) (World.push w (.cells z.cells t (0,0))):=by
     simp[execOp,ho,Instr.alloc,zeroValue,typeInfo,h1,h4,newVar,newRow];rfl
    have d1:=Dyn.push (g:=g) (w:=w) (l:=l) (sp:=sp) (k:=nx) (C:=1) (cs:=z.cells) (E:=t) (hst.fresh nx (Nat.le_refl _)) s.bnd;obtain⟨k1,k2⟩:=allPure_spec (g:=g.newS w.heap.size 1 l sp nx) (w:=World.push w (.cells z.cells t (0,0))) (dom:=fun _=>False) _ _ _ hzs;have hzl:z.cells.size=i.size:=by rw[←h6,←h5];simp
    have hzl2:zs.length=i.size:=by rw[k1,constAVs_length,h6]
    have hblk:SBlk (g.newS w.heap.size 1 l sp nx) (World.push w (.cells z.cells t (0,0))) (w.heap.size,1) i.size [.agg zs]:=by
     refine .inl ⟨z.cells,t,push_new,hpos,⟨by simp,by rw[hzl];simp⟩,fun x hx=>by simp at hx;subst hx;exact hzl2,fun j x hj q y hy=>?_⟩;have ej:j=0:=by have:=(List.getElem?_eq_some_iff.1 hj).1;simp at this;exact this
     subst ej;simp at hj;subst hj;have hy:zs[q]?=some y:=hy;have hq:q<zs.length:=(List.getElem?_eq_some_iff.1 hy).1;have hzc:z.cells.toList[q]?=some (z.cells.toList[q]'(by simp;omega)):=List.getElem?_eq_getElem _;generalize z.cells.toList[q]'(by simp;omega)=u at hzc;refine⟨u,by simpa using hzc,(hty t i hi).one u (by rw[←h5];exact List.mem_of_getElem? hzc),?_⟩;refine k2 q u none (constAV u) y ?_ hy (constAV_rel u);rw[constAVs_get,←h5,hzc];rfl
    have hst2:=hst.add (a:=(w.heap.size,1)) (xs:=[.agg zs]) d1 (fun p hp=>hp) hst.nodup (by simp[Gh.newS]) (fun k hk=>by simp[Gh.newS,hk]) (fun k ys b q1 q2=>by
     obtain⟨b',p1,p2,_⟩:=hst.row k ys q1;rw[q2]at p1;cases p1;have hlt:=s.bnd _ _ p2;have hne:b.1≠w.heap.size:=by omega
     exact⟨hne,by simp[Gh.newS,hne],by simp[Gh.newS,hne],push_old hlt⟩) (by simp[Gh.newS]) (by simp[Gh.newS]) hblk
    obtain⟨s2,hE⟩:=s.dyn hl0 d1 hst2;refine Oper.wp_value hr ⟨_,?_,hE⟩;rw[hdd];exact s2.put (hd d hdd) (.p _ _ _ (.adr sp nx w.heap.size 1 (by simp[imm,Gh.newS])))
   ·exact hk.elim
  ·exact hk.elim
 ·exact hk.elim
theorem dSlice_sound (hty:TyOK P ty) (hd:∀d,o.dst=some d→d<n) {t:Nat} {x u:Operand} (ho:o.op=.slice t x none (some u) none) (hk:dSlice ty o e t (ev e x) u K):∃f,K f∧OpOK P n o e h f:=by
 have m1:x∈o.op.operands:=by simp[ho,Op.operands]
 have m3:u∈o.op.operands:=by simp[ho,Op.operands]
 unfold dSlice at hk;split at hk
 ·rename_i i hi'
  have hu:=(hty t i hi').und;split at hk
  ·rename_i el hde
   rw[hde]at hu;split at hk
   ·rename_i j sp k m kk q hj hx huu
    obtain⟨⟨h0,h1⟩,hk⟩:=hk;refine ret_sound hd hk fun e' h' he g w a s=>?_;obtain⟨_,r1⟩:=s.evo he m1 hx;obtain⟨_,ru⟩:=s.evo he m3 huu;generalize hval':a.eval x=v at r1
    cases r1 with
    |p _ _ _ hp=>
    cases hp with
    |ads _ _ ad _ cap hq hc=>
     have hb:=run_sliceBounds (P:=P) (isS:=true) (len:=m) (cap:=cap) (lo:=none) (hi:=some (a.eval u)) (l:=0) (u:=q) (.inl ⟨rfl,rfl⟩) (.inr ⟨kk,by rw[ru.int]⟩) (by omega) h0 (by omega) w;refine⟨.slice (some ⟨ad,0,none⟩) q.toNat cap,?_,fun d _=>.p _ _ _ (.ads sp k ad q.toNat cap hq (by omega))⟩;simp only[execOp,ho,hval',Instr.sliceAt,Sem.run_bind,run_underlying hu,Result.andThen_ok,Instr.slice,Option.map_none,Option.map_some,hb,run_sizeOf_ty hty hj,Sem.run_pure]
     congr 3
     by_cases hc0:cap=0
     ·subst hc0;simp
     ·have e1:¬(cap=(0:Int).toNat):=by simpa using hc0
      simp[Addr.add_plain,hc0]
   ·exact hk.elim
  ·exact hk.elim
 ·exact hk.elim
end
end Go.AM
namespace Go.AM
section
variable {P:Program} {ty:Nat→Option TI} {n:Nat} {o:Oper} {e:Env} {h:Heap} {K:AK}
theorem setEl_spec {x x':PV} {c:Nat} {ys:List PV} (h:setEl x c ys=some x') (hne:ys≠[]) (h1:∀y∈ys,y.cells=[y]):
 x'.cells.length=x.cells.length∧c+ys.length≤x.cells.length∧∀j,x'.cells[j]?=if c≤j∧j<c+ys.length then ys[j-c]? else x.cells[j]?:=by
 unfold setEl at h;split at h
 ·split at h
  ·rename_i cs' hcs
   cases h;obtain⟨q1,q2,q3⟩:=setAt_spec _ _ _ _ hcs;exact⟨q1,q2 hne,q3⟩
  ·cases h
 ·rename_i hna
  split at h
  ·rename_i y
   cases h;have e1:x.cells=[x]:=by cases x<;>first|rfl|exact absurd rfl (hna _)
   rw[e1,h1 x' (by simp)];refine⟨rfl,by simp,fun j=>?_⟩
   cases j with
   |zero=>simp
   |succ j=>simp
  ·cases h
theorem StoreOK.set {g:Gh} {w w':World} {l sp nx sz:Nat} {M:List (Nat×List PV)} {k:Nat} {a:Nat×Nat} {xs ys:List PV} (h:StoreOK g w l sp nx sz M) (d:Dyn g w g w' l sp) (hk:slk k M=some xs) (ha:g.σ sp k=some a)
 (hold:∀b,b≠a.1→w'.heap[b]?=w.heap[b]?) (hb:SBlk g w' a sz ys):StoreOK g w' l sp nx sz (sset k ys M):=by
 refine⟨h.sown,h.fresh,fun k' zs q=>?_,fun k1 k2 zs zs' b b' q1 q2 q3 q4 q5=>?_,by rw[sset_keys];exact h.nodup⟩
 ·rcases sset_mem h.nodup q with⟨q1,q2⟩|q1
  ·obtain⟨b,p1,p2,p3,p4⟩:=h.row k' zs q1
   exact⟨b,p1,p2,p3,p4.mono d.imm (hold b.1 fun e=>q2 (h.inj k' k zs xs b a q1 (slk_mem hk) p1 ha e))⟩
  ·cases q1
   obtain⟨b,p1,p2,p3,p4⟩:=h.row k xs (slk_mem hk);rw[ha]at p1;cases p1;exact⟨a,ha,p2,p3,hb⟩
 ·have m:∀{k zs},(k,zs)∈sset k ys M∨True→True:=fun _=>trivial
  have key:∀{k' zs},(k',zs)∈sset k ys M→∃zs',(k',zs')∈M:=fun q=>by
   rcases sset_mem h.nodup q with⟨p,_⟩|p
   ·exact⟨_,p⟩
   ·cases p;exact⟨xs,slk_mem hk⟩
  obtain⟨_,p1⟩:=key q1;obtain⟨_,p2⟩:=key q2;exact h.inj k1 k2 _ _ b b' p1 p2 q3 q4 q5
theorem dStore_sound (hty:TyOK P ty) {x y:Operand} {t:Nat} (ho:o.op=.store t x y) (hdn:o.dst=none) (hk:dStore ty e h t (ev e x) y K):∃f,K f∧OpOK P n o e h f:=by
 have m1:x∈o.op.operands:=by simp[ho,Op.operands]
 have m2:y∈o.op.operands:=by simp[ho,Op.operands]
 have hrun:∀(a:Act) (w w':World) (v u:Value),a.eval x=v→a.eval y=u→(Instr.storeAt t v u).run P w=.ok () w'→(execOp a.eval o).run P w=.ok .skip w':=by
  intro a w w' v u hv hu hr;simp only[execOp,ho,hv,hu,Sem.run_bind,hr,Result.andThen_ok,Sem.run_pure]
 unfold dStore at hk;split at hk
 ·rename_i i hi
  split at hk
  ·rename_i T one sz0 sp0 k m c pv hp hpv
   split at hk
   ·rename_i hpl hz0
    have hpl:pv.cells.length=i.size:=Nat.eq_of_beq_eq_true hpl;have hpos:0<i.size:=Nat.pos_of_ne_zero fun q=>by rw[q]at hz0;cases hz0
    obtain⟨l,sp,nx,sz,M,hg,hk⟩:=AStO_spec hk;obtain⟨⟨rfl,hsn,hsz⟩,xs,hxs,x0,_,hx0,hk⟩:=hk;have hx0:xs[m]?=some x0:=by simpa using hx0
    split at hk
    ·rename_i x' hx'
     refine⟨_,hk,fun e' h' he hl g w a s=>?_⟩;have hl0:hget h' l=some (.store T one sp0 nx sz M):=(hl l (by simp)).trans hg;have hst:=s.blk hl0;obtain⟨_,r1⟩:=s.evo he m1 rfl;obtain⟨_,r2⟩:=s.evo he m2 rfl;have hpr:PRel (imm g w) (a.eval y) pv:=pureL_rel r2 hpv;obtain⟨c1,c2,c3⟩:=prel_cells hpr;obtain⟨A,hA,hv⟩:=dPtr_rel r1 hp;rw[off_eq hsz]at hv;obtain⟨A',hA',hown,hpre,vs,E,hb,h0,⟨hlen1,hlen2⟩,hzz,hxx⟩:=hst.rowC hsn k xs (slk_mem hxs);rw[hA]at hA';cases hA'
     have hone:∀z∈pv.cells,z.cells=[z]:=fun z hz=>by
      obtain⟨q,hq⟩:=List.getElem?_of_mem hz;have hql:q<(a.eval y).cells.toList.length:=by rw[c1];exact(List.getElem?_eq_some_iff.1 hq).1
      exact oneCell_pv (c3 q _ z (List.getElem?_eq_getElem hql) hq) (c2 _ (List.getElem_mem hql))
     have hpne:pv.cells≠[]:=fun q=>by rw[q]at hpl;simp at hpl;omega
     obtain⟨k1,k2,k3⟩:=setEl_spec hx' hpne hone;have hm:m<xs.length:=(List.getElem?_eq_some_iff.1 hx0).1;have hx0z:x0.cells.length=sz:=hzz x0 (List.mem_of_getElem? hx0);have hul:(a.eval y).cells.toList.length=i.size:=by rw[c1];exact hpl
     have hmul:m*sz+sz≤xs.length*sz:=by
      have:=Nat.mul_le_mul_right sz (show m+1≤xs.length by omega);rw[Nat.add_mul,Nat.one_mul]at this;exact this
     have hxl:xs.length*sz≤vs.size:=Nat.le_trans (Nat.mul_le_mul_right sz hlen1) hlen2;have hle:m*sz+c+(a.eval y).cells.toList.length≤vs.size:=by omega
     have hrs:=run_storeAt (P:=P) hty hi hb (v:=a.eval y) (off:=m*sz+c) hul hle c2;have hwl:=splice_length vs.toList (a.eval y).cells.toList (m*sz+c) (by simpa using hle);have hwg:=splice_get vs.toList (a.eval y).cells.toList (m*sz+c) (by simpa using hle);generalize (vs.toList.take (m*sz+c)++(a.eval y).cells.toList++vs.toList.drop (m*sz+c+(a.eval y).cells.toList.length))=row at hrs hwl hwg;have hrs2:row.toArray.size=vs.size:=by rw[List.size_toArray,hwl];simp
     have d1:=Dyn.setRow (g:=g) (w:=w) (l:=l) (sp:=sp0) hown hpre hb hrs2 s.bnd
     have hblk:SBlk g (w.setRow A.1 row.toArray) A sz (xs.set m x'):=by
      refine .inl ⟨row.toArray,E,setRow_heap _ _ _ _ _ _ hb,h0,⟨by simpa using hlen1,by rw[hrs2];exact hlen2⟩,fun z hz=>?_,fun j z hj q yy hq=>?_⟩
      ·rcases List.mem_or_eq_of_mem_set hz with q|q
       ·exact hzz z q
       ·rw[q,k1];exact hx0z
      ·rw[List.getElem?_set]at hj
       rw[List.getElem?_toArray,hwg]
       by_cases ej:m=j
       ·subst ej
        rw[if_pos rfl,if_pos hm]at hj;cases hj;rw[k3]at hq
        by_cases hin:c≤q∧q<c+pv.cells.length
        ·rw[if_pos hin]at hq
         rw[if_pos (by omega)];have hlt:q-c<(a.eval y).cells.toList.length:=by omega
         have e1:m*sz+q-(m*sz+c)=q-c:=by omega
         rw[e1];exact⟨_,List.getElem?_eq_getElem hlt,c2 _ (List.getElem_mem hlt),(c3 _ _ _ (List.getElem?_eq_getElem hlt) hq).mono d1.imm⟩
        ·rw[if_neg hin]at hq
         have hql:q<sz:=by have:=(List.getElem?_eq_some_iff.1 hq).1;omega
         rw[if_neg (by omega)];obtain⟨v,p1,p3,p2⟩:=hxx m x0 hx0 q yy hq;exact⟨v,by simpa using p1,p3,p2.mono d1.imm⟩
       ·rw[if_neg ej]at hj
        have hii:q<sz:=by have:=(List.getElem?_eq_some_iff.1 hq).1;have:=hzz z (List.mem_of_getElem? hj);omega
        have hout:¬(m*sz+c≤j*sz+q∧j*sz+q<m*sz+c+(a.eval y).cells.toList.length):=by
         rcases Nat.lt_or_gt_of_ne ej with q2|q2
         ·have:=Nat.mul_le_mul_right sz (show m+1≤j by omega)
          rw[Nat.add_mul,Nat.one_mul]at this;omega
         ·have:=Nat.mul_le_mul_right sz (show j+1≤m by omega)
          rw[Nat.add_mul,Nat.one_mul]at this;omega
        rw[if_neg hout];obtain⟨v,p1,p3,p2⟩:=hxx j z hj q yy hq;exact⟨v,by simpa using p1,p3,p2.mono d1.imm⟩
     have hst2:=hst.set d1 hxs hA (fun b hb=>setRow_other _ _ _ _ hb) hblk;obtain⟨s2,hE⟩:=s.dyn hl0 d1 hst2;refine Oper.wp_skip (hrun a w _ _ _ hv rfl hrs) ⟨g,?_,hE⟩;simp only[hdn,List.reverse_cons,List.reverse_nil,List.nil_append,List.cons_append,Act.put];exact s2
    ·exact hk.elim
   ·exact hk.elim
  ·exact hk.elim
 ·exact hk.elim
end
end Go.AM
namespace Go.AM
section
variable {P:Program} {ty:Nat→Option TI} {n:Nat} {o:Oper} {e:Env} {h:Heap} {K:AK}
theorem SlV.rows {g:Gh} {w:World} {a2:Option Addr} {sz:Nat} {ys:List PV} {F2:Nat→Value} (hF2:SlV (imm g w) a2 sz ys F2):∀(jj:Nat) (x:PV) (i:Nat) (y:PV),ys[jj]?=some x→x.cells[i]?=some y→jj*sz+i<ys.length*sz∧(F2 (jj*sz+i)).oneCell'=true∧PRel (imm g w) (F2 (jj*sz+i)) y:=by
 intro jj x i y hx hi;have hi':i<sz:=by have:=(List.getElem?_eq_some_iff.1 hi).1;have:=hF2.hz x (List.mem_of_getElem? hx);omega
 have hjl:jj<ys.length:=(List.getElem?_eq_some_iff.1 hx).1;obtain⟨b2,hb2⟩:=hF2.ad (fun q=>by subst q;simp at hjl);subst hb2;obtain⟨q1,q2,q3⟩:=hF2.cell b2 jj x i y rfl hx hi;refine⟨?_,q2,q3⟩;have:(jj+1)*sz≤ys.length*sz:=Nat.mul_le_mul_right _ hjl;rw[Nat.add_mul]at this;omega
theorem dappend_grow (hty:TyOK P ty) {t t2 el el2:TypeId} {j:TI} (hu:P.underlying t=some (.slice el)) (hu2:P.underlying t2=some (.slice el2)) (hj:ty el=some j) (hs0:0<j.size) (hb0:j.bytes≠0)
 {g:Gh} {w:World} {a:Act} {e':Env} {h':Heap} (s:Sim g w n a e' h') {l sp nx:Nat} {M M':List (Nat×List PV)} (hl:hget h' l=some (.store el false sp nx j.size M)) (hsub:∀p∈M',p∈M) (hnd:(M'.map (·.1)).Nodup)
 {xs ys:List PV} {F2:Nat→Value} {a2:Option Addr} {cap2:Nat} (hF2:SlV (imm g w) a2 j.size ys F2) (hroom:(xs.length+ys.length)*j.bytes≤140737488355328) (u:TypeId) (ax:Option Addr) (cap:Nat) (F:Nat→Value)
 (hfit:cap<xs.length+ys.length) (hlc:xs.length≤cap) (hzx:∀x∈xs,x.cells.length=j.size)
 (hxc:∀k,(Builtin.firstCells j.size xs.length (.slice ax xs.length cap)).run P { w with drawn:=k }=.ok ((List.range (xs.length*j.size)).map F).toArray { w with drawn:=k })
 (hx2:∀(jj:Nat) (x:PV) (i:Nat) (y:PV),xs[jj]?=some x→x.cells[i]?=some y→jj*j.size+i<xs.length*j.size∧(F (jj*j.size+i)).oneCell'=true∧PRel (imm g w) (F (jj*j.size+i)) y):
 ∃v' g' w',(Builtin.append_ #[t,t2] u #[.slice ax xs.length cap,.slice a2 ys.length cap2]).run P w=.ok v' w'∧Sim g' w' n a e' ((l,.store el false sp (nx+1) j.size ((nx,xs++ys)::M'))::h')∧Ext g w g' w'∧PRel (imm g' w') v' (.ads sp nx (xs.length+ys.length)):=by
 obtain⟨inf,z,i1,i2,i3,i4,i5,i6⟩:=(hty el j hj).inf;have hst:=s.blk hl;have hzs:z.cells.size=j.size:=by rw[←i6,←i5];simp
 have hmul:(xs.length+ys.length)*j.size=xs.length*j.size+ys.length*j.size:=Nat.add_mul _ _ _;have hyc:∀k,(Builtin.firstCells j.size ys.length (.slice a2 ys.length cap2)).run P { w with drawn:=k }=.ok ((List.range (ys.length*j.size)).map F2).toArray { w with drawn:=k }:=fun k=>run_firstCells (g:=g) (w:={ w with drawn:=k }) hF2 rfl;obtain⟨c,hc,hrun⟩:=run_append_grow hu hu2 i1 i2 i4 hfit hlc hxc hyc (by rw[i3];exact hroom) (by rw[i3];exact hb0) u;generalize hcells:((List.range (xs.length*j.size)).map F).toArray++((List.range (ys.length*j.size)).map F2).toArray++Builtin.zeroCells z.cells (c-(xs.length+ys.length))=row at hrun
 have hsize:row.size=c*j.size:=by
  rw[←hcells];simp only[Array.size_append,List.size_toArray,List.length_map,List.length_range,zeroCells_size,hzs];rw[←hmul,←Nat.add_mul];congr 1;omega
 have hrow1:∀k,k<xs.length*j.size→row[k]?=some (F k):=by
  intro k hk;rw[←hcells,Array.append_assoc,Array.getElem?_append_left (by simpa using hk)];simp[hk]
 have hrow2:∀k,k<ys.length*j.size→row[xs.length*j.size+k]?=some (F2 k):=by
  intro k hk;rw[←hcells,Array.getElem?_append_left (by simp;omega),Array.getElem?_append_right (by simp)];simp[hk]
 have d1:Dyn g w (g.newS w.heap.size c l sp nx) (World.push { w with drawn:=w.drawn+1 } (.cells row el (0,0))) l sp:=
  (Dyn.drew (k:=w.drawn+1) s.bnd).trans (Dyn.push (w:={ w with drawn:=w.drawn+1 }) (C:=c) (hst.fresh nx (Nat.le_refl _)) s.bnd)
 have hblk:SBlk (g.newS w.heap.size c l sp nx) (World.push { w with drawn:=w.drawn+1 } (.cells row el (0,0))) (w.heap.size,c) j.size (xs++ys):=by
  refine .inl ⟨row,el,push_new (w:={ w with drawn:=w.drawn+1 }),hs0,⟨by rw[List.length_append];exact hc,by rw[hsize];exact Nat.le_refl _⟩,fun x hx=>?_,rows_app (F:=F) (F2:=F2) (fun jj x i y q1 q2=>?_) (fun jj x i y q1 q2=>?_)⟩
  ·rcases List.mem_append.1 hx with hx|hx
   ·exact hzx x hx
   ·exact hF2.hz x hx
  ·obtain⟨k1,k2,k3⟩:=hx2 jj x i y q1 q2
   exact⟨hrow1 _ k1,k2,k3.mono d1.imm d1.σ⟩
  ·obtain⟨k1,k2,k3⟩:=hF2.rows jj x i y q1 q2
   exact⟨hrow2 _ k1,k2,k3.mono d1.imm d1.σ⟩
 have hst2:=hst.add (a:=(w.heap.size,c)) (xs:=xs++ys) d1 hsub hnd (by simp[Gh.newS]) (fun k hk=>by simp[Gh.newS,hk]) (fun k zs b q1 q2=>by
  obtain⟨b',p1,p2,_⟩:=hst.row k zs (hsub _ q1);rw[q2]at p1;cases p1;have hlt:=s.bnd _ _ p2;have hne:b.1≠w.heap.size:=by omega
  exact⟨hne,by simp[Gh.newS,hne],by simp[Gh.newS,hne],push_old (w:={ w with drawn:=w.drawn+1 }) hlt⟩) (by simp[Gh.newS]) (by simp[Gh.newS]) hblk
 obtain⟨s2,hE⟩:=s.dyn hl d1 hst2;exact⟨_,_,_,hrun,s2,hE,.ads sp nx w.heap.size _ c (by simp[imm,Gh.newS]) hc⟩
theorem dappend_ads (hty:TyOK P ty) {t t2 el el2:TypeId} {j:TI} (hu:P.underlying t=some (.slice el)) (hu2:P.underlying t2=some (.slice el2)) (hj:ty el=some j) (hs0:0<j.size) (hb0:j.bytes≠0)
 {g:Gh} {w:World} {a:Act} {e':Env} {h':Heap} (s:Sim g w n a e' h') {l sp nx:Nat} {M:List (Nat×List PV)} (hl:hget h' l=some (.store el false sp nx j.size M)) {k m:Nat} {v1:Value} (r1:PRel (imm g w) v1 (.ads sp k m))
 {xs ys:List PV} (hxs:slk k M=some xs) (hm:m≤xs.length) {F2:Nat→Value} {a2:Option Addr} {cap2:Nat} (hF2:SlV (imm g w) a2 j.size ys F2) (hroom:(m+ys.length)*j.bytes≤140737488355328) (u:TypeId):
 ∃v' g' w',(Builtin.append_ #[t,t2] u #[v1,.slice a2 ys.length cap2]).run P w=.ok v' w'∧Sim g' w' n a e' ((l,.store el false sp (nx+1) j.size ((nx,xs.take m++ys)::sdel k M))::h')∧Ext g w g' w'∧PRel (imm g' w') v' (.ads sp nx (m+ys.length)):=by
 obtain⟨inf,z,i1,i2,i3,i4,i5,i6⟩:=(hty el j hj).inf;have hst:=s.blk hl
 cases r1 with
 |ads _ _ A _ cap hA hc=>
  replace hA:g.σ sp k=some (A,cap):=hA;obtain⟨A',hA',hown,hpre,vs,E,hb,_,⟨hlen1,hlen2⟩,hzz,hxx⟩:=hst.rowC (Nat.ne_of_gt hs0) k xs (slk_mem hxs);rw[hA]at hA';cases hA';replace hlen1:xs.length≤cap:=hlen1;replace hlen2:cap*j.size≤vs.size:=hlen2;have hb:w.heap[A]?=some (.cells vs E (0,0)):=hb;have htl:(xs.take m).length=m:=by simp;omega
  have hmc:m*j.size≤cap*j.size:=Nat.mul_le_mul_right _ hc
  have hcell:∀q,q<m*j.size→vs[q]?=some ((vs[q]?).getD undef):=fun q hq=>by
   have:q<vs.size:=by omega
   simp[this]
  have hx2:∀(jj:Nat) (x:PV) (i:Nat) (y:PV),(xs.take m)[jj]?=some x→x.cells[i]?=some y→jj*j.size+i<(xs.take m).length*j.size∧((vs[jj*j.size+i]?).getD undef).oneCell'=true∧PRel (imm g w) ((vs[jj*j.size+i]?).getD undef) y:=by
   intro jj x i y hx hi;have hjl:jj<(xs.take m).length:=(List.getElem?_eq_some_iff.1 hx).1;have hx':xs[jj]?=some x:=by rw[List.getElem?_take]at hx;split at hx<;>first|exact hx|cases hx
   have hi':i<j.size:=by have:=(List.getElem?_eq_some_iff.1 hi).1;have:=hzz x (List.mem_of_getElem? hx');omega
   obtain⟨v,q1,q2,q3⟩:=hxx jj x hx' i y hi;refine⟨?_,by rw[q1];exact q2,by rw[q1];exact q3⟩;have:(jj+1)*j.size≤(xs.take m).length*j.size:=Nat.mul_le_mul_right _ hjl;rw[Nat.add_mul]at this;omega
  have hzx:∀x∈xs.take m,x.cells.length=j.size:=fun x hx=>hzz x (List.mem_of_mem_take hx);have hsub:∀p∈sdel k M,p∈M:=fun p hp=>sdel_sub hp;have hnd:((sdel k M).map (·.1)).Nodup:=(sdel_keys k M).nodup hst.nodup
  by_cases hfit:m+ys.length≤cap
  · -- in place
   have hy:=run_firstCells (P:=P) (g:=g) (w:=w) (len:=ys.length) (cap:=cap2) hF2 rfl;have hle1:(m+ys.length)*j.size≤cap*j.size:=Nat.mul_le_mul_right _ hfit;rw[Nat.add_mul]at hle1;have hl2:((List.range (ys.length*j.size)).map F2).length=ys.length*j.size:=by simp
   have hone2:∀v∈(List.range (ys.length*j.size)).map F2,v.oneCell'=true:=by
    intro v hv;obtain⟨q,hq,rfl⟩:=List.mem_map.1 hv;have hq:q<ys.length*j.size:=by simpa using hq
    obtain⟨b2,hb2⟩:=hF2.ad (fun q=>by subst q;simp at hq);subst hb2;exact(hF2.all hq).2
   have hst1:=run_storeCells_at (P:=P) A (m*j.size) E ((List.range (ys.length*j.size)).map F2) 0 vs w hb (by rw[hl2];omega) hone2;simp only[Nat.add_zero]at hst1;have hrun:=run_append_fit hu hu2 i1 i2 (w:=w) (a:=some ⟨A,0,none⟩) (cap:=cap) hfit hy (fun b q=>by cases q;rw[Addr.add_plain,Nat.zero_add];exact hst1) (fun q=>by cases q) u;have hsl':=splice_length vs.toList ((List.range (ys.length*j.size)).map F2) (m*j.size) (by rw[hl2];simp;omega);have hsg:=splice_get vs.toList ((List.range (ys.length*j.size)).map F2) (m*j.size) (by rw[hl2];simp;omega);generalize (vs.toList.take (m*j.size)++(List.range (ys.length*j.size)).map F2++vs.toList.drop (m*j.size+((List.range (ys.length*j.size)).map F2).length))=row at hst1 hrun hsl' hsg;have hrows:row.toArray.size=vs.size:=by simpa using hsl'
   have d1:Dyn g w (g.num sp nx (A,cap)) w l sp:=Dyn.num (hst.fresh nx (Nat.le_refl _)) s.bnd;have d2:Dyn (g.num sp nx (A,cap)) w (g.num sp nx (A,cap)) (w.setRow A row.toArray) l sp:=Dyn.setRow (g:=g.num sp nx (A,cap)) hown hpre hb hrows s.bnd;have d:=d1.trans d2
   have hblk:SBlk (g.num sp nx (A,cap)) (w.setRow A row.toArray) (A,cap) j.size (xs.take m++ys):=by
    refine .inl ⟨row.toArray,E,setRow_heap _ _ _ _ _ _ hb,hs0,⟨by rw[List.length_append,htl];exact hfit,by rw[hrows];exact hlen2⟩,fun x hx=>?_,rows_app (F:=fun k=>(vs[k]?).getD undef) (F2:=F2) (fun jj x i y q1 q2=>?_) (fun jj x i y q1 q2=>?_)⟩
    ·rcases List.mem_append.1 hx with hx|hx
     ·exact hzx x hx
     ·exact hF2.hz x hx
    ·obtain⟨k1,k2,k3⟩:=hx2 jj x i y q1 q2
     rw[htl]at k1;refine⟨?_,k2,k3.mono d.imm d.σ⟩;rw[List.getElem?_toArray,hsg,if_neg (by omega)];simpa using hcell _ k1
    ·obtain⟨k1,k2,k3⟩:=hF2.rows jj x i y q1 q2
     refine⟨?_,k2,k3.mono d.imm d.σ⟩;rw[htl,List.getElem?_toArray,hsg,if_pos (by rw[hl2];omega),show m*j.size+(jj*j.size+i)-m*j.size=jj*j.size+i by omega];simp[k1]
   have hst2:=hst.add (a:=(A,cap)) (xs:=xs.take m++ys) d hsub hnd (by simp[Gh.num]) (fun q hq=>by simp[Gh.num,hq]) (fun q zs b q1 q2=>by
    have hne:b.1≠A:=fun e=>sdel_ne hst.nodup q1 (hst.inj q k zs xs b (A,cap) (hsub _ q1) (slk_mem hxs) q2 hA e);exact⟨hne,rfl,rfl,setRow_other _ _ _ _ hne⟩) hown hpre hblk
   obtain⟨s2,hE⟩:=s.dyn hl d hst2;exact⟨_,_,_,hrun,s2,hE,.ads sp nx A _ cap (by simp[imm,Gh.num]) hfit⟩
  ·have:=dappend_grow hty hu hu2 hj hs0 hb0 s hl hsub hnd (xs:=xs.take m) (cap2:=cap2) hF2 (by rw[htl];exact hroom) u (some ⟨A,0,none⟩) cap (fun k=>(vs[k]?).getD undef) (by rw[htl];omega) (by rw[htl];exact hc) hzx (fun q=>by
    rw[htl];simp only[Builtin.firstCells];exact run_loadCells { w with drawn:=q } ⟨A,0,none⟩ _ _ (fun i hi=>by rw[Addr.add_plain,Nat.zero_add];exact(cell?_of (w:={ w with drawn:=q }) hb i).trans (hcell i hi))) hx2
   rw[htl]at this;exact this
theorem dAppend_sound (hty:TyOK P ty) (hd:∀d,o.dst=some d→d<n) {x y:Operand} {t t2:Nat} (ho:o.op=.call { callee:=.builtin .append,args:=⟨[x,y]⟩,argTypes:=⟨[t,t2]⟩ })
 (hk:dAppend ty o e h t t2 (ev e x) (ev e y) K):∃f,K f∧OpOK P n o e h f:=by
 have m1:x∈o.op.operands:=by simp[ho,Op.operands,Call.operands]
 have m2:y∈o.op.operands:=by simp[ho,Op.operands,Call.operands]
 have hrun:∀(a:Act) (w w':World) (v:Value),(∀u,(Builtin.append_ #[t,t2] u #[a.eval x,a.eval y]).run P w=.ok v w')→(execOp a.eval o).run P w=.ok (.value v) w':=by
  intro a w w' v hl;obtain⟨cs,hcs⟩:=run_builtin_call (P:=P) ho a w;rw[hcs];simp only[builtin,List.map_cons,List.map_nil,Sem.run_bind];rw[hl];rfl
 have hrun1:∀(a:Act) (w w':World) (v:Value),(Builtin.append_ #[t,t2] o.type #[a.eval x,a.eval y]).run P w=.ok v w'→(execOp a.eval o).run P w=.ok (.value v) w':=by
  intro a w w' v hl;obtain⟨cs,hcs⟩:=run_builtin_call (P:=P) ho a w;rw[hcs];simp only[builtin,List.map_cons,List.map_nil,Sem.run_bind];rw[hl];rfl
 unfold dAppend at hk;split at hk
 ·rename_i i hi ht2
  obtain⟨el2,hu2⟩:=isSliceT_spec hty ht2;split at hk
  ·rename_i el hde
   have hu:=(hty t i hi).und;rw[hde]at hu;split at hk
   ·rename_i j hj
    split at hk
    ·rename_i ys d hnz hys hdd
     have hnz:j.size*j.bytes≠0:=fun q=>by rw[q]at hnz;cases hnz
     have hs0:0<j.size:=Nat.pos_of_ne_zero fun q=>hnz (by rw[q,Nat.zero_mul]);have hb0:j.bytes≠0:=fun q=>hnz (by rw[q,Nat.mul_zero]);obtain⟨l,sp,nx,sz,M,hg,hk⟩:=AStO_spec hk;split at hk
     ·rename_i hsz
      obtain rfl:sz=j.size:=Nat.eq_of_beq_eq_true hsz
      have nil:∀{e':Env} {h':Heap} {g:Gh} {w:World} {a:Act},(∀t∈slotsOf o,eget e' t=eget e t)→hget h' l=hget h l→Sim g w n a e' h'→a.eval x=.slice none 0 0→0<ys.length→ys.length*j.bytes≤140737488355328→
       o.wp P a w (fun a' w'=>∃g',Sim g' w' n a' ((d,AV.p (.ads sp nx ys.length))::e') ((l,.store el false sp (nx+1) j.size ((nx,ys)::M))::h')∧Ext g w g' w') (fun _ _ _=>False):=by
       intro e' h' g w a he hl s hv hpos hroom;have hl0:=hl.trans hg;obtain⟨_,r2⟩:=s.evo he m2 rfl;obtain⟨a2,cap2,F2,hv2,hF2⟩:=aYs_rel r2 hys;obtain⟨v',g',w',q1,q2,q3,q4⟩:=dappend_grow hty hu hu2 hj hs0 hb0 s hl0 (fun p hp=>hp) (s.blk hl0).nodup (xs:=[]) (cap2:=cap2) hF2 (by simpa using hroom) o.type none 0 (fun _=>undef) (by simpa using hpos) (by simp) (by simp) (fun q=>by simp[Builtin.firstCells]) (by simp);refine Oper.wp_value (v:=v') (w':=w') (hrun1 a w w' v' (by rw[hv,hv2];simpa using q1)) ⟨g',?_,q3⟩;rw[hdd];simp only[List.nil_append,List.length_nil,Nat.zero_add]at q2 q4;exact q2.put (hd d hdd) (.p _ _ _ q4)
      split at hk
      ·rename_i sp0 k m hx
       obtain⟨rfl,xs,hxs,⟨hm,hroom⟩,hk⟩:=hk;refine⟨_,hk,fun e' h' he hl g w a s=>?_⟩;have hl0:=(hl l (by simp)).trans hg;obtain⟨_,r1⟩:=s.evo he m1 hx;obtain⟨_,r2⟩:=s.evo he m2 rfl;obtain⟨a2,cap2,F2,hv2,hF2⟩:=aYs_rel r2 hys;obtain⟨v',g',w',q1,q2,q3,q4⟩:=dappend_ads hty hu hu2 hj hs0 hb0 s hl0 r1.pv hxs hm (cap2:=cap2) hF2 hroom o.type;refine Oper.wp_value (v:=v') (w':=w') (hrun1 a w w' v' (by rw[hv2];exact q1)) ⟨g',?_,q3⟩;rw[hdd];exact q2.put (hd d hdd) (.p _ _ _ q4)
      ·rename_i hx
       obtain⟨⟨hpos,hroom⟩,hk⟩:=hk;refine⟨_,hk,fun e' h' he hl g w a s=>?_⟩;obtain⟨_,r1⟩:=s.evo he m1 hx;refine nil he (hl l (by simp)) s ?_ hpos hroom;have hp:=r1.pv;generalize a.eval x=v at hp;cases hp;rfl
      ·rename_i hx
       obtain⟨⟨hpos,hroom⟩,hk⟩:=hk;refine⟨_,hk,fun e' h' he hl g w a s=>?_⟩;obtain⟨_,r1⟩:=s.evo he m1 hx;refine nil he (hl l (by simp)) s ?_ hpos hroom;generalize a.eval x=v at r1;cases r1;rfl
      ·exact hk.elim
     ·exact hk.elim
    ·exact hk.elim
   ·exact hk.elim
  ·exact hk.elim
 ·exact hk.elim
end
end Go.AM
namespace Go.AM
section
variable {P:Program}
theorem run_eqIn_same (d:Nat) {t te:TypeId} {j:TypeInfo} (hp:P.underlying t=some (.pointer te)) (hte:P.info? te=some j) (a:Addr) (w:World):(Op.equalIn (d+1) t (.pointer (some a)) (.pointer (some a))).run P w=.ok true w:=by
 simp[Op.equalIn,run_underlying hp,sizeOf,typeInfo,hte,run_sameAddr_same]
theorem run_eqIn_other (d:Nat) {t te:TypeId} {j:TypeInfo} {a b:Addr} {ca cb:Array Value} {ta tb:TypeId} (hp:P.underlying t=some (.pointer te)) (hte:P.info? te=some j) (hsz:j.size≠0)
 (w:World) (hne:a≠b) (ha:w.heap[a.block]?=some (.cells ca ta (0,0))) (hb:w.heap[b.block]?=some (.cells cb tb (0,0))):(Op.equalIn (d+1) t (.pointer (some a)) (.pointer (some b))).run P w=.ok false w:=by
 simp[Op.equalIn,run_underlying hp,sizeOf,typeInfo,hte,hsz,run_sameAddr_other w hne ha hb]
end
end Go.AM
namespace Go.AM
open MapKept
section
variable {P:Program} {ty:Nat→Option TI} {n:Nat} {o:Oper} {e:Env} {h:Heap} {K:AK}
theorem mkp_inj:∀{a b:List (PV×PV)},a.map mkp=b.map mkp→a=b
 | [],[],_=>rfl
 | [],_::_,h=>by simp at h
 |_::_,[],h=>by simp at h
 |(x,y)::r,(x',y')::r',h=>by
  simp only[List.map_cons,List.cons.injEq,mkp,PV.agg.injEq,and_true]at h;obtain⟨⟨h1,h2⟩,h3⟩:=h;subst h1;subst h2;rw[mkp_inj h3]
theorem mkp_x {pk:Bool} {a b:List (PV×PV)} (h:a.map mkp=b.map (mkx pk)) (hk:∀x∈b,keyX pk x.1):a=b∧∀x∈b,kdOf x.1=some .ks:=by
 cases pk with
 |false=>exact⟨mkp_inj h,hk⟩
 |true=>
  cases b with
  |nil=>cases a with
   |nil=>exact⟨rfl,by simp⟩
   |cons x r=>simp at h
  |cons y r=>cases a with
   |nil=>simp at h
   |cons x r=>simp[mkx,mkp,mkq]at h
theorem mkq_inj:∀{a b:List (PV×PV)},a.map mkq=b.map mkq→a=b
 | [],[],_=>rfl
 | [],_::_,h=>by simp at h
 |_::_,[],h=>by simp at h
 |(x,y)::r,(x',y')::r',h=>by
  simp only[List.map_cons,List.cons.injEq,mkq,PV.agg.injEq,and_true]at h;obtain⟨⟨h1,h2⟩,h3⟩:=h;subst h1;subst h2;rw[mkq_inj h3]
theorem mkq_x {pk:Bool} {a b:List (PV×PV)} (h:a.map mkq=b.map (mkx pk)):a=b:=by
 cases pk with
 |true=>exact mkq_inj h
 |false=>
  cases b with
  |nil=>cases a with
   |nil=>rfl
   |cons x r=>simp at h
  |cons y r=>cases a with
   |nil=>simp at h
   |cons x r=>simp[mkx,mkp,mkq]at h
theorem Dyn.pushM {g:Gh} {w:World} {l sp k C:Nat} (hf:g.σ sp k=none) (hbnd:∀b o,g.own b=some o→b<w.heap.size):Dyn g w (g.newS w.heap.size C l sp k) (World.push w (.map #[] 0)) l sp:=by
 have hp:∀b,b<w.heap.size→(g.newS w.heap.size C l sp k).pre b=g.pre b∧(g.newS w.heap.size C l sp k).own b=g.own b:=fun b hb=>by simp[Gh.newS,Nat.ne_of_lt hb]
 refine⟨rfl,rfl,fun s q a hq=>?_,fun s hs q=>by simp[Gh.newS,hs],fun b o v h=>imm_push (fun b hb=>(hp b hb).1) h,fun b o h1 _=>?_,fun b hb hn=>⟨push_old hb,(hp b hb).1,(hp b hb).2.trans hn⟩,fun b cs2 E2 hb=>⟨cs2,E2,by rw[push_old (get_lt hb)];exact hb,rfl⟩,fun b o ho=>?_,by rw[push_size];omega,rfl,rfl,fun a _=>frozen_push_map a⟩
 ·have:¬(s=sp∧q=k):=fun⟨e1,e2⟩=>by subst e1;subst e2;rw[hf]at hq;cases hq
  simp only[Gh.newS,if_neg this];exact hq
 ·have hb:=hbnd b o h1
  exact⟨(hp b hb).2.trans h1,(hp b hb).1,push_old hb⟩
 ·rw[push_size]
  by_cases hb:b=w.heap.size
  ·omega
  ·have:(g.newS w.heap.size C l sp k).own b=g.own b:=by simp[Gh.newS,hb]
   rw[this]at ho;have:=hbnd b o ho;omega
theorem Dyn.setMap {g:Gh} {w:World} {l sp A:Nat} {es es':Array MapEntry} {c c':Nat} (hown:g.own A=some (.obj l)) (hb:w.heap[A]?=some (.map es' c')) (hbnd:∀b o,g.own b=some o→b<w.heap.size):Dyn g w g (World.setMap w A es c) l sp:=
 ⟨rfl,rfl,fun _ _ _ q=>q,fun _ _ _=>rfl,fun _ _ _ hv=>imm_setMap hb hv,fun b o h1 h2=>⟨h1,rfl,setMap_other (fun e=>by subst e;rw[hown]at h1;cases h1;exact h2 rfl)⟩,fun b _ hn=>⟨setMap_other (fun e=>by subst e;rw[hown]at hn;cases hn),rfl,hn⟩,
   fun b cs E' hb'=>⟨cs,E',by rw[setMap_other (fun e=>by subst e;rw[hb]at hb';cases hb')];exact hb',rfl⟩,fun b o ho=>by rw[setMap_size];exact hbnd b o ho,by rw[setMap_size];exact Nat.le_refl _,rfl,rfl,fun a _=>frozen_setMap hb a⟩
theorem dMakeMap_sound (hty:TyOK P ty) (hd:∀d,o.dst=some d→d<n) {t:Nat} (ho:o.op=.makeMap t none) (hk:dMakeMap ty o h t K):∃f,K f∧OpOK P n o e h f:=by
 unfold dMakeMap at hk;split at hk
 ·rename_i i d hi hdd
  split at hk
  ·rename_i kt et hde
   split at hk
   ·rename_i j hj
    split at hk
    ·obtain⟨l,sp,nx,sz,M,hg,hk⟩:=AStO_spec hk
     split at hk
     ·rename_i hsz
      obtain rfl:sz=0:=Nat.eq_of_beq_eq_true hsz;refine⟨_,hk,fun e' h' he hl g w a s=>?_⟩;have hl0:hget h' l=some (.store t true sp nx 0 M):=(hl l (by simp)).trans hg;have hst:=s.blk hl0
      have hr:(execOp a.eval o).run P w=.ok (.value (.map (some w.heap.size))) (World.push w (.map #[] 0)):=by
       simp only[execOp,ho,Option.map_none,Instr.makeMap,Sem.run_bind,Sem.run_pure,newObj_push,Result.andThen_ok]
      have d1:=Dyn.pushM (g:=g) (w:=w) (l:=l) (sp:=sp) (k:=nx) (C:=0) (hst.fresh nx (Nat.le_refl _)) s.bnd
      have hblk:SBlk (g.newS w.heap.size 0 l sp nx) (World.push w (.map #[] 0)) (w.heap.size,0) 0 []:=
       .inr ⟨rfl,false,#[],0,[],push_new,rfl,⟨rfl,by simp⟩,by simp,rfl,by simp⟩
      have hst2:=hst.add (a:=(w.heap.size,0)) (xs:=[]) d1 (fun p hp=>hp) hst.nodup (by simp[Gh.newS]) (fun k hk=>by simp[Gh.newS,hk]) (fun k ys b q1 q2=>by
       obtain⟨b',p1,p2,_⟩:=hst.row k ys q1;rw[q2]at p1;cases p1;have hlt:=s.bnd _ _ p2;have hne:b.1≠w.heap.size:=by omega
       exact⟨hne,by simp[Gh.newS,hne],by simp[Gh.newS,hne],push_old hlt⟩) (by simp[Gh.newS]) (by simp[Gh.newS]) hblk
      obtain⟨s2,hE⟩:=s.dyn hl0 d1 hst2;refine Oper.wp_value hr ⟨_,?_,hE⟩;rw[hdd];exact s2.put (hd d hdd) (.p _ _ _ (.amp sp nx w.heap.size 0 (by simp[imm,Gh.newS])))
     ·exact hk.elim
    ·exact hk.elim
   ·exact hk.elim
  ·exact hk.elim
 ·exact hk.elim
theorem find_relP (hty:TyOK P ty) {g:Gh} {w:World} {kt T2 l2 sp2 nx2 sz2 k2:Nat} {j2:TI} {M2:List (Nat×List PV)} (hjd:P.underlying kt=some (.pointer T2)) (hj2:ty T2=some j2) (hz2:Nat.beq j2.size 0=false) (hst:StoreOK g w l2 sp2 nx2 sz2 M2) (hsn:sz2≠0) (hk2:(slk k2 M2).isSome=true) {k:Value} (rk:PRel (imm g w) k (.adr sp2 k2)):
 ∀(es:List MapEntry) (xs:List (PV×PV)) (i:Nat),entriesRel (imm g w) es xs→keysIn sp2 M2 xs→
 (mfind (.adr sp2 k2) xs=none∧(Instr.findAsking kt k es i).run P w=.ok none w)∨∃(j:Nat) (en:MapEntry) (x:PV×PV),(Instr.findAsking kt k es i).run P w=.ok (some (i+j,en.val)) w∧es[j]?=some en∧xs[j]?=some x∧mfind (.adr sp2 k2) xs=some x.2
 | [],xs,i,hr,_=>by
   have:xs=[]:=List.eq_nil_of_length_eq_zero (by simpa using hr.1.symm);subst this;exact .inl ⟨rfl,rfl⟩
 |en::es,[],i,hr,_=>by have:=hr.1;simp at this
 |en::es,x::xs,i,hr,hx=>by
  obtain⟨inf,z,i1,i2,i3,i4,i5,i6⟩:=(hty T2 j2 hj2).inf;have hz0:inf.size≠0:=fun q=>by rw[←i2,q]at hz2;cases hz2
  obtain⟨p1,p2⟩:=hr.2 0 en x rfl rfl;obtain⟨k1,hx1,hq1⟩:=hx x (by simp);rw[hx1]at p1;have htail:entriesRel (imm g w) es xs:=⟨by have:=hr.1;simpa using this,fun j e' x' h1 h2=>hr.2 (j+1) e' x' (by simpa using h1) (by simpa using h2)⟩
  obtain⟨ys1,hys1⟩:=Option.isSome_iff_exists.1 hq1;obtain⟨ys2,hys2⟩:=Option.isSome_iff_exists.1 hk2;obtain⟨A,hA,_,_,va,Ea,hba,_⟩:=hst.rowC hsn k1 ys1 (slk_mem hys1);obtain⟨B,hB,_,_,vb,Eb,hbb,_⟩:=hst.rowC hsn k2 ys2 (slk_mem hys2);have ih:=find_relP hty hjd hj2 hz2 hst hsn hk2 rk es xs (i+1) htail (fun x hx'=>hx x (by simp[hx']));obtain⟨ek,ev,eb⟩:=en;obtain⟨x1,x2⟩:=x;subst hx1
  cases rk with
  |adr _ _ a2 C2 r2=>
  cases p1 with
  |adr _ _ a1 C1 r1=>
   replace r1:g.σ _ k1=some (a1,C1):=r1;replace r2:g.σ _ k2=some (a2,C2):=r2;rw[hA]at r1;cases r1;rw[hB]at r2;cases r2
   by_cases e1:k2=k1
   ·subst e1
    rw[hA]at hB;cases hB;have hq:(Op.equal kt (.pointer (some ⟨a2,0,none⟩)) (.pointer (some ⟨a2,0,none⟩))).run P w=.ok true w:=run_eqIn_same 9999 hjd i1 _ w;refine .inr ⟨0,_,_,?_,rfl,rfl,?_⟩
    ·simp only[Instr.findAsking,Sem.run_bind,hq,Result.andThen_ok,if_true,Sem.run_pure,Nat.add_zero]
    ·simp[mfind,pvEq]
   ·have hne:a2≠a1:=fun q=>e1 (hst.inj k2 k1 ys2 ys1 _ _ (slk_mem hys2) (slk_mem hys1) hB hA q)
    have hq:(Op.equal kt (.pointer (some ⟨a2,0,none⟩)) (.pointer (some ⟨a1,0,none⟩))).run P w=.ok false w:=run_eqIn_other 9999 hjd i1 hz0 w (fun q=>hne (by cases q;rfl)) hbb hba;have hpv:pvEq (.adr sp2 k2) (.adr sp2 k1)=false:=beq_false e1
    have hrun:∀r,(Instr.findAsking kt (.pointer (some ⟨a2,0,none⟩)) es (i+1)).run P w=r→(Instr.findAsking kt (.pointer (some ⟨a2,0,none⟩)) (⟨.pointer (some ⟨a1,0,none⟩),ev,eb⟩::es) i).run P w=r:=fun r hr=>by
     simp only[Instr.findAsking,Sem.run_bind,hq,Result.andThen_ok];exact hr
    rcases ih with⟨q1,q2⟩|⟨j,e',x',q1,q2,q3,q4⟩
    ·exact .inl ⟨by simp[mfind,hpv,q1],hrun _ q2⟩
    ·exact .inr ⟨j+1,e',x',by rw[show i+(j+1)=i+1+j by omega];exact hrun _ q1,by simpa using q2,by simpa using q3,by simp[mfind,hpv,q4]⟩
theorem run_findKeyP {w:World} {kt T2:Nat} {k:Value} {l:List MapEntry} {r:Option (Nat×Value)} (hd:P.underlying kt=some (.pointer T2)) (h:(Instr.findAsking kt k l 0).run P w=.ok r w):(Instr.findKey kt k l).run P w=.ok r w:=by
 cases l with
 |nil=>cases h;simp[Instr.findKey,run_underlying hd,Result.andThen,Instr.findNow]
 |cons e es=>
  have:Instr.findNow (.pointer T2) k (e::es) 0=none:=by simp[Instr.findNow,Instr.sameNow]
  simp only[Instr.findKey,Sem.run_bind,run_underlying hd,Result.andThen_ok,this];exact h
theorem run_checkKeyP {w:World} {kt T2:Nat} {k:Value} (hd:P.underlying kt=some (.pointer T2)) (b:Bool) (n:Nat):(Instr.checkKey b (n+1) kt k).run P w=.ok () w:=by
 unfold Instr.checkKey;simp only[Sem.run_bind,run_underlying hd,Result.andThen];rfl
theorem retM_sound (hd:∀d,o.dst=some d→d<n) {rd:List Nat} {x:AV} (hk:retM o rd [] x K)
 (hrun:∀e' h',(∀t∈slotsOf o,eget e' t=eget e t)→(∀l∈rd,hget h' l=hget h l)→∀g w a,Sim g w n a e' h'→∃v,(execOp a.eval o).run P w=.ok (.value v) w∧∀d:Nat,VRel g w (domOf h') (some (.slot d)) v x):∃f,K f∧OpOK P n o e h f:=by
 refine⟨_,retM_iff hk,fun e' h' he hl g w a s=>?_⟩
 have hl':∀l∈rd,hget h' l=hget h l:=fun l hlR=>by
  cases hdst:o.dst<;>simp only[hdst]at hl<;>exact hl l (by simp[hlR])
 obtain⟨v,hr,hv⟩:=hrun e' h' he hl' g w a s;refine Oper.wp_value hr ⟨g,?_,Ext.refl _ _⟩
 cases hdst:o.dst with
 |none=>exact s
 |some d=>exact s.put (hd d hdst) (hv d)
theorem dLookP_sound (hty:TyOK P ty) (hd:∀d,o.dst=some d→d<n) {t T2 s0 q s2 k2 kt et:Nat} {m k:Operand} {ok:Bool} {z:PV} {je:TI} (ho:o.op=.lookup t m k ok) (hu:P.underlying t=some (.map kt et)) (hjd:P.underlying kt=some (.pointer T2)) (hje:ty et=some je) (hz:zeroPV je=some z) (hm:ev e m=.p (.amp s0 q)) (hkp:ev e k=.p (.adr s2 k2)) (hk:dLookP ty o h t T2 s0 q s2 k2 ok z K):∃f,K f∧OpOK P n o e h f:=by
 have m1:m∈o.op.operands:=by simp[ho,Op.operands]
 have m2:k∈o.op.operands:=by simp[ho,Op.operands]
 have lres:∀{g:Gh} {w:World} {dom:Nat→Prop} {ow:Option Owner} {v:Value} {x:PV} (b:Bool),PRel (imm g w) v x→VRel g w dom ow (if ok then .tuple #[v,.bool b] else v) (lookRes ok x b):=by
  intro g w dom ow v x b hr
  cases ok with
  |false=>exact .p _ _ _ hr
  |true=>
   refine .tup _ [v,.bool b] [.p x,.p (.b b)] rfl (fun j v' c hv hc=>?_)
   match j with
   |0=>simp at hv hc;subst hv;subst hc;exact .p _ _ _ hr
   |1=>simp at hv hc;subst hv;subst hc;exact .p _ _ _ (.b b)
   |j+2=>simp at hv
 unfold dLookP at hk;split at hk
 ·rename_i j2 hj2
  split at hk
  ·rename_i hz2
   obtain⟨l,sp,nx,sz,M,hg,hk⟩:=AStO_spec hk;obtain⟨l2,sp2,nx2,sz2,M2,hg2,⟨rfl,hsz,rfl,hsn,hq2⟩,xs,hxs,hin,x,b,hlook,hk⟩:=AStO_spec hk;refine retM_sound hd hk fun e' h' he hl' g w a s=>?_;have hst:=s.blk ((hl' l (by simp)).trans hg);have hst2:=s.blk ((hl' l2 (by simp)).trans hg2);obtain⟨_,r1⟩:=s.evo he m1 hm;obtain⟨_,r2⟩:=s.evo he m2 hkp;have r2:=r2.pv;have r1:=r1.pv;generalize hv:a.eval m=v at r1
   cases r1 with
   |amp _ _ A C hA=>
    obtain⟨A',hA',hown,hpre,pk,es,clock,ps,hb,hps,hxx,hc0,hmk⟩:=hst.rowM hsz q _ (slk_mem hxs);have hA:g.σ s0 q=some (A,C):=hA;rw[hA]at hA';cases hA';obtain rfl:=mkq_x hps;have ck:=run_checkKeyP (P:=P) (w:=w) (k:=a.eval k) hjd es.isEmpty 9999;obtain⟨zv,hz1,hz2',_⟩:=zeroPV_spec hty hje hz (imm g w) w;have hb:w.heap[A]?=some (.map es clock):=hb;rcases find_relP hty hjd hj2 hz2 hst2 hsn hq2 r2 es.toList xs 0 hxx hin with⟨q1,q2⟩|⟨j,en,y,q1,q2,q3,q4⟩
    ·have hf:=run_findKeyP hjd q2
     rw[mlook,q1]at hlook;cases hlook;refine⟨_,?_,fun d=>lres false (v:=zv) hz2'⟩;simp only[execOp,ho,Instr.lookup,Sem.run_bind,run_underlying hu,Result.andThen_ok,hv,run_getObj_map hb,Sem.run_pure,ck,hf,hz1]
    ·have hf:=run_findKeyP hjd q1
     have hp:=(hxx.2 j en y q2 q3).2;rw[mlook,q4]at hlook;cases hlook;refine⟨_,?_,fun d=>lres true (v:=en.val) hp⟩;simp only[execOp,ho,Instr.lookup,Sem.run_bind,run_underlying hu,Result.andThen_ok,hv,run_getObj_map hb,Sem.run_pure,ck,hf]
  ·exact hk.elim
 ·exact hk.elim
theorem dUpdP_sound (hty:TyOK P ty) {t T2 s0 q s2 k2 kt et:Nat} {m k v:Operand} {vp:PV} {z:List Nat} (ho:o.op=.mapUpdate t m k v∨o.op=.insert t m k v) (hdn:o.dst=none) (hu:P.underlying t=some (.map kt et)) (hjd:P.underlying kt=some (.pointer T2)) (hm:ev e m=.p (.amp s0 q)) (hkp:ev e k=.p (.adr s2 k2)) (hvp:(ev e v).pureL z=some vp) (hk:dUpdP ty h t T2 s0 q s2 k2 vp K):∃f,K f∧OpOK P n o e h f:=by
 have m1:m∈o.op.operands:=by rcases ho with ho|ho<;>simp[ho,Op.operands]
 have m2:k∈o.op.operands:=by rcases ho with ho|ho<;>simp[ho,Op.operands]
 have m3:v∈o.op.operands:=by rcases ho with ho|ho<;>simp[ho,Op.operands]
 have hex:∀(a:Act) (w:World),(execOp a.eval o:Sem Next).run P w=((do Instr.mapUpdate t (a.eval m) (a.eval k) (a.eval v);pure .skip):Sem Next).run P w:=by
  intro a w;rcases ho with ho|ho<;>simp only[execOp,ho]
 unfold dUpdP at hk;split at hk
 ·rename_i j2 hj2
  split at hk
  ·rename_i hz2
   obtain⟨l,sp,nx,sz,M,hg,hk⟩:=AStO_spec hk;obtain⟨l2,sp2,nx2,sz2,M2,hg2,⟨rfl,hsz,rfl,hsn,hq2⟩,xs,hxs,⟨hin,hnone⟩,hk⟩:=AStO_spec hk;refine⟨_,hk,fun e' h' he hl g w a s=>?_⟩;have hl0:hget h' l=some (.store t true s0 nx sz M):=(hl l (by simp)).trans hg;have hst:=s.blk hl0;have hst2:=s.blk ((hl l2 (by simp)).trans hg2);obtain⟨_,r1⟩:=s.evo he m1 hm;obtain⟨_,r2⟩:=s.evo he m2 hkp;obtain⟨_,r3⟩:=s.evo he m3 rfl;have r2:=r2.pv;have r3:=pureL_rel r3 hvp;have r1:=r1.pv;generalize hv:a.eval m=mv at r1
   cases r1 with
   |amp _ _ A C hA=>
    obtain⟨A',hA',hown,hpre,pk,es,clock,ps,hb,hps,hxx,hc0,hmk⟩:=hst.rowM hsz q _ (slk_mem hxs);have hA:g.σ s0 q=some (A,C):=hA;rw[hA]at hA';cases hA';obtain rfl:=mkq_x hps;have hb:w.heap[A]?=some (.map es clock):=hb;have hown:g.own A=some (.obj l):=hown;have ck:=run_checkKeyP (P:=P) (w:=w) (k:=a.eval k) hjd false 9999;rcases find_relP hty hjd hj2 hz2 hst2 hsn hq2 r2 es.toList xs 0 hxx hin with⟨q1,q2⟩|⟨j,en,y,q1,q2,q3,q4⟩
    ·have hf:=run_findKeyP hjd q2
     have hr:(execOp a.eval o).run P w=.ok .skip (World.setMap w A (es.push { key:=a.eval k,val:=a.eval v,born:=clock }) (clock+1)):=by
      rw[hex];simp only[Instr.mapUpdate,Sem.run_bind,run_underlying hu,Result.andThen_ok,hv,run_getObj_map hb,ck,hf,run_setObj_map _ hb,Sem.run_pure];rfl
     have hxl:=hxx.1;simp only[Array.length_toList]at hxl;have d1:Dyn g w g (World.setMap w A (es.push { key:=a.eval k,val:=a.eval v,born:=clock }) (clock+1)) l s0:=Dyn.setMap hown hb s.bnd
     have hkx:∀x∈xs++[(PV.adr s2 k2,vp)],keyX true x.1:=fun x hx=>by
      rcases List.mem_append.1 hx with hx|hx
      ·obtain⟨k',e1,_⟩:=hin x hx;exact⟨_,_,e1⟩
      ·simp at hx;subst hx;exact⟨_,_,rfl⟩
     have hst3:=hst.set (a:=(A,C)) (ys:=(xs++[(PV.adr s2 k2,vp)]).map mkq) d1 hxs hA (fun b hb2=>setMap_other hb2) (.inr ⟨hsz,true,_,clock+1,_,setMap_self hb,rfl,⟨by simp[hxl],fun j p1 p2 p3 p4=>by
      have key:PRel (imm g w) p1.key p2.1∧PRel (imm g w) p1.val p2.2:=by
       simp only[Array.toList_push]at p3
       by_cases hj:j<es.size
       ·rw[List.getElem?_append_left (by simpa using hj)]at p3
        rw[List.getElem?_append_left (by omega)]at p4;exact hxx.2 j p1 p2 p3 p4
       ·rw[List.getElem?_append_right (by simpa using hj)]at p3
        rw[List.getElem?_append_right (by omega)]at p4
        have:j=es.size:=by
         have:=(List.getElem?_eq_some_iff.1 p3).1;simp at this;omega
        subst this;simp at p3;rw[hxl]at p4;simp at p4;subst p3;subst p4;exact⟨r2,r3⟩
      exact⟨key.1.mono fun _ _ _ hv=>imm_setMap hb hv,key.2.mono fun _ _ _ hv=>imm_setMap hb hv⟩⟩,hkx,hmk.push⟩)
     obtain⟨s3,hE⟩:=s.dyn hl0 d1 hst3;refine Oper.wp_skip hr ⟨g,?_,hE⟩;rw[hdn];exact s3
    ·rw[q4]at hnone;cases hnone
  ·exact hk.elim
 ·exact hk.elim
theorem dLookup_sound (hty:TyOK P ty) (hd:∀d,o.dst=some d→d<n) {t:Nat} {m k:Operand} {ok:Bool} (ho:o.op=.lookup t m k ok) (hk:dLookup ty o h t (ev e m) (ev e k) ok K):∃f,K f∧OpOK P n o e h f:=by
 have m1:m∈o.op.operands:=by simp[ho,Op.operands]
 have m2:k∈o.op.operands:=by simp[ho,Op.operands]
 have lres:∀{g:Gh} {w:World} {dom:Nat→Prop} {ow:Option Owner} {v:Value} {x:PV} (b:Bool),PRel (imm g w) v x→VRel g w dom ow (if ok then .tuple #[v,.bool b] else v) (lookRes ok x b):=by
  intro g w dom ow v x b hr
  cases ok with
  |false=>exact .p _ _ _ hr
  |true=>
   refine .tup _ [v,.bool b] [.p x,.p (.b b)] rfl (fun j v' c hv hc=>?_)
   match j with
   |0=>simp at hv hc;subst hv;subst hc;exact .p _ _ _ hr
   |1=>simp at hv hc;subst hv;subst hc;exact .p _ _ _ (.b b)
   |j+2=>simp at hv
 unfold dLookup at hk;split at hk
 ·rename_i i hi
  split at hk
  ·rename_i kt et hde
   have hu:=(hty t i hi).und;rw[hde]at hu;split at hk
   ·rename_i jk je hjk hje
    have hjd:=(hty kt jk hjk).und;split at hk
    ·rename_i z s0 q s2 k2 hz hm hkp
     split at hk
     ·rename_i T2 hT2
      rw[hT2]at hjd;exact dLookP_sound hty hd ho hu hjd hje hz hm hkp hk
     ·exact hk.elim
    ·rename_i z s0 q kp _ hz hm hkp
     split at hk
     ·rename_i hka hkb
      obtain⟨l,sp,nx,sz,M,hg,⟨rfl,hsz⟩,xs,hxs,x,b,hlook,hk⟩:=AStO_spec hk;refine retR_sound hd hk fun e' h' he hl' g w a s=>?_;have hst:=s.blk (hl'.trans hg);obtain⟨_,r1⟩:=s.evo he m1 hm;obtain⟨_,r2⟩:=s.evo he m2 hkp;have r2:=r2.pv;have r1:=r1.pv;generalize hv:a.eval m=v at r1
      cases r1 with
      |amp _ _ A C hA=>
       obtain⟨A',hA',hown,hpre,pk,es,clock,ps,hb,hps,hxx,hc0,hmk⟩:=hst.rowM hsz q _ (slk_mem hxs);have hA:g.σ s0 q=some (A,C):=hA;rw[hA]at hA';cases hA';obtain⟨rfl,hc1⟩:=mkp_x hps hc0;have hc:=And.intro hc1 hmk;have huk:=(hty kt jk hjk).und;have ck:=run_checkKey (P:=P) (w:=w) huk (isKey_of hka r2 hkb) es.isEmpty 9999;obtain⟨zv,hz1,hz2,_⟩:=zeroPV_spec hty hje hz (imm g w) w;have hb:w.heap[A]?=some (.map es clock):=hb;rcases find_rel hka r2 hkb z es.toList xs 0 hxx hc.1 with⟨q1,q2,_⟩|⟨j,en,y,q1,q2,q3,q4,q5,_⟩
       ·have hf:=run_findKey (P:=P) (w:=w) huk q2
        rw[mlook,q1]at hlook;cases hlook;refine⟨_,?_,fun d _=>lres false (v:=zv) hz2⟩;simp only[execOp,ho,Instr.lookup,Sem.run_bind,run_underlying hu,Result.andThen_ok,hv,run_getObj_map hb,Sem.run_pure,ck,hf,hz1]
       ·have hf:=run_findKey (P:=P) (w:=w) huk q1
        have hp:=(hxx.2 j en y q2 q3).2;rw[mlook,q4]at hlook;cases hlook;refine⟨_,?_,fun d _=>lres true (v:=en.val) hp⟩;simp only[execOp,ho,Instr.lookup,Sem.run_bind,run_underlying hu,Result.andThen_ok,hv,run_getObj_map hb,Sem.run_pure,ck,hf]
     ·exact hk.elim
    ·exact hk.elim
   ·exact hk.elim
  ·exact hk.elim
 ·exact hk.elim
theorem dMapUpdate_sound (hty:TyOK P ty) {t:Nat} {m k v:Operand} (ho:o.op=.mapUpdate t m k v∨o.op=.insert t m k v) (hdn:o.dst=none) (hk:dMapUpdate ty h t (ev e m) (ev e k) (ev e v) K):∃f,K f∧OpOK P n o e h f:=by
 have m1:m∈o.op.operands:=by rcases ho with ho|ho<;>simp[ho,Op.operands]
 have m2:k∈o.op.operands:=by rcases ho with ho|ho<;>simp[ho,Op.operands]
 have m3:v∈o.op.operands:=by rcases ho with ho|ho<;>simp[ho,Op.operands]
 have hex:∀(a:Act) (w:World),(execOp a.eval o:Sem Next).run P w=((do Instr.mapUpdate t (a.eval m) (a.eval k) (a.eval v);pure .skip):Sem Next).run P w:=by
  intro a w;rcases ho with ho|ho<;>simp only[execOp,ho]
 unfold dMapUpdate at hk;split at hk
 ·rename_i i hi
  split at hk
  ·rename_i kt et hde
   have hu:=(hty t i hi).und;rw[hde]at hu;split at hk
   ·rename_i jk je hjk hje
    split at hk
    ·rename_i s0 q s2 k2 vp hm hkp hvp
     split at hk
     ·rename_i T2 hT2
      have hjd:=(hty kt jk hjk).und;rw[hT2]at hjd;exact dUpdP_sound hty ho hdn hu hjd hm hkp hvp hk
     ·exact hk.elim
    ·rename_i s0 q kp vp _ hm hkp hvp
     split at hk
     ·rename_i hka hkb
      obtain⟨l,sp,nx,sz,M,hg,⟨rfl,hsz⟩,xs,hxs,hk⟩:=AStO_spec hk;refine⟨_,hk,fun e' h' he hl g w a s=>?_⟩;have hl0:hget h' l=some (.store t true s0 nx sz M):=(hl l (by simp)).trans hg;have hst:=s.blk hl0;obtain⟨_,r1⟩:=s.evo he m1 hm;obtain⟨_,r2⟩:=s.evo he m2 hkp;obtain⟨_,r3⟩:=s.evo he m3 rfl;have r2:=r2.pv;have r3:=pureL_rel r3 hvp;have r1:=r1.pv;generalize hv:a.eval m=mv at r1
      cases r1 with
      |amp _ _ A C hA=>
       obtain⟨A',hA',hown,hpre,pk,es,clock,ps,hb,hps,hxx,hc0,hmk⟩:=hst.rowM hsz q _ (slk_mem hxs);have hA:g.σ s0 q=some (A,C):=hA;rw[hA]at hA';cases hA';obtain⟨rfl,hc1⟩:=mkp_x hps hc0;have hc:=And.intro hc1 hmk;have hb:w.heap[A]?=some (.map es clock):=hb;have hown:g.own A=some (.obj l):=hown;have huk:=(hty kt jk hjk).und;have ik:=isKey_of hka r2 hkb;have ck:=run_checkKey (P:=P) (w:=w) huk ik false 9999
       have fin:∀(es2:Array MapEntry) (c2:Nat) (ys:List (PV×PV)),(execOp a.eval o).run P w=.ok .skip (World.setMap w A es2 c2)→entriesRel (imm g w) es2.toList ys→(∀x∈ys,kdOf x.1=some .ks)→MapOK es2 c2→ys=mput kp vp xs→
        o.wp P a w (fun a' w'=>∃g',Sim g' w' n a' ([]++e') ([(l,AObj.store t true s0 nx sz (sset q ((mput kp vp xs).map mkp) M))]++h')∧Ext g w g' w') (fun _ _ _=>False):=by
        intro es2 c2 ys hr hx2 hk2 hm2 hys;subst hys;have d1:Dyn g w g (World.setMap w A es2 c2) l s0:=Dyn.setMap hown hb s.bnd;have hst2:=hst.set (a:=(A,C)) (ys:=(mput kp vp xs).map mkp) d1 hxs hA (fun b hb2=>setMap_other hb2) (.inr ⟨hsz,false,es2,c2,_,setMap_self hb,rfl,⟨hx2.1,fun j p1 p2 p3 p4=>⟨(hx2.2 j p1 p2 p3 p4).1.mono fun _ _ _ hv=>imm_setMap hb hv,(hx2.2 j p1 p2 p3 p4).2.mono fun _ _ _ hv=>imm_setMap hb hv⟩⟩,hk2,hm2⟩);obtain⟨s2,hE⟩:=s.dyn hl0 d1 hst2;refine Oper.wp_skip hr ⟨g,?_,hE⟩;rw[hdn];exact s2
       rcases find_rel hka r2 hkb vp es.toList xs 0 hxx hc.1 with⟨q1,q2,q3⟩|⟨j,en,y,q1,q2,q3,q4,q5,q6⟩
       ·have hf:=run_findKey (P:=P) (w:=w) huk q2
        have hr:(execOp a.eval o).run P w=.ok .skip (World.setMap w A (es.push { key:=a.eval k,val:=a.eval v,born:=clock }) (clock+1)):=by
         rw[hex];simp only[Instr.mapUpdate,Sem.run_bind,run_underlying hu,Result.andThen_ok,hv,run_getObj_map hb,ck,hf,run_setObj_map _ hb,Sem.run_pure];rfl
        refine fin _ _ _ hr ⟨?_,fun j p1 p2 p3 p4=>?_⟩ (fun x hx=>?_) hc.2.push q3.symm
        ·have:=hxx.1;simp at this;simp[this]
        ·have hxl:=hxx.1
         simp only[Array.length_toList]at hxl;simp only[Array.toList_push]at p3
         by_cases hj:j<es.size
         ·rw[List.getElem?_append_left (by simpa using hj)]at p3
          rw[List.getElem?_append_left (by omega)]at p4;exact hxx.2 j p1 p2 p3 p4
         ·rw[List.getElem?_append_right (by simpa using hj)]at p3
          rw[List.getElem?_append_right (by omega)]at p4
          have:j=es.size:=by
           have:=(List.getElem?_eq_some_iff.1 p3).1;simp at this;omega
          subst this;simp at p3;rw[hxl]at p4;simp at p4;subst p3;subst p4;exact⟨r2,r3⟩
        ·rcases List.mem_append.1 hx with hx|hx
         ·exact hc.1 x hx
         ·simp at hx;subst hx;exact hkb
       ·have hf:=run_findKey (P:=P) (w:=w) huk q1
        have hr:(execOp a.eval o).run P w=.ok .skip (World.setMap w A (es.modify (0+j) fun e=>{ e with key:=a.eval k,val:=a.eval v }) clock):=by
         rw[hex]
         have hkey:((es[0+j]?).map (·.key)).getD (a.eval k)=a.eval k:=by
          have:es[0+j]?=some en:=by simpa using q2
          rw[this];simpa using q5
         simp only[Instr.mapUpdate,Sem.run_bind,run_underlying hu,Result.andThen_ok,hv,run_getObj_map hb,ck,hf,hkey,run_keyThatStays ik,run_setObj_map _ hb,Sem.run_pure];rfl
        refine fin _ _ _ hr ⟨?_,fun j' p1 p2 p3 p4=>?_⟩ (fun x hx=>?_) hc.2.modify q6.symm
        ·have:=hxx.1;simp at this;simp[this]
        ·rw[Array.getElem?_toList,Array.getElem?_modify]at p3
         rw[List.getElem?_set]at p4
         by_cases hjj:j=j'
         ·subst hjj
          have hjl:j<xs.length:=(List.getElem?_eq_some_iff.1 q3).1;rw[if_pos rfl,if_pos hjl]at p4;have:es[j]?=some en:=by simpa using q2
          simp[this]at p3;simp at p4;subst p3;subst p4;exact⟨r2,r3⟩
         ·rw[if_neg (by simpa using hjj)]at p3
          rw[if_neg hjj]at p4;exact hxx.2 j' p1 p2 (by simpa using p3) p4
        ·rcases List.mem_or_eq_of_mem_set hx with hx|rfl
         ·exact hc.1 x hx
         ·exact hkb
     ·exact hk.elim
    ·exact hk.elim
   ·exact hk.elim
  ·exact hk.elim
 ·exact hk.elim
theorem dBox_sound (hty:TyOK P ty) (hd:∀d,o.dst=some d→d<n) {t:Nat} {x:Operand} (ho:o.op=.box t x) (hk:dBox ty o h t (ev e x) K):∃f,K f∧OpOK P n o e h f:=by
 have m1:x∈o.op.operands:=by simp[ho,Op.operands]
 unfold dBox at hk;split at hk
 ·rename_i i d hi hdd
  split at hk
  ·rename_i zs hzs
   obtain⟨l,sp,nx,sz,M,hg,hk⟩:=AStO_spec hk;split at hk
   ·rename_i hsz hsz0
    obtain rfl:zs.length=sz:=Nat.eq_of_beq_eq_true hsz;have hpos:0<zs.length:=Nat.pos_of_ne_zero fun q=>by rw[q]at hsz0;cases hsz0
    refine⟨_,hk,fun e' h' he hl g w a s=>?_⟩;have hl0:hget h' l=some (.store t true sp nx zs.length M):=(hl l (by simp)).trans hg;have hst:=s.blk hl0;obtain⟨_,r⟩:=s.evo he m1 rfl;have hpr:PRel (imm g w) (a.eval x) (.agg zs):=pureL_rel r hzs;obtain⟨c1,c2,c3⟩:=prel_cells hpr;have c1:(a.eval x).cells.toList.length=zs.length:=c1
    have hr:(execOp a.eval o).run P w=.ok (.value (.pointer (some ⟨w.heap.size,0,none⟩))) (World.push w (.cells (a.eval x).cells t (0,0))):=by
     simp[execOp,ho,Instr.box,newVar,newRow];rfl
    have d1:=Dyn.push (g:=g) (w:=w) (l:=l) (sp:=sp) (k:=nx) (C:=1) (cs:=(a.eval x).cells) (E:=t) (hst.fresh nx (Nat.le_refl _)) s.bnd
    have hblk:SBlk (g.newS w.heap.size 1 l sp nx) (World.push w (.cells (a.eval x).cells t (0,0))) (w.heap.size,1) zs.length [.agg zs]:=by
     refine .inl ⟨(a.eval x).cells,t,push_new,hpos,⟨by simp,by rw[Nat.one_mul,←c1];simp⟩,fun x hx=>by simp at hx;subst hx;rfl,fun j x hj q y hy=>?_⟩;have ej:j=0:=by have:=(List.getElem?_eq_some_iff.1 hj).1;simp at this;exact this
     subst ej;simp at hj;subst hj;have hy:zs[q]?=some y:=hy;have hq:q<zs.length:=(List.getElem?_eq_some_iff.1 hy).1;have hzc:(a.eval x).cells.toList[q]?=some ((a.eval x).cells.toList[q]'(by omega)):=List.getElem?_eq_getElem _;generalize (a.eval x).cells.toList[q]'(by omega)=u at hzc;exact⟨u,by simpa using hzc,c2 u (List.mem_of_getElem? hzc),(c3 q u y hzc hy).mono d1.imm d1.σ⟩
    have hst2:=hst.add (a:=(w.heap.size,1)) (xs:=[.agg zs]) d1 (fun p hp=>hp) hst.nodup (by simp[Gh.newS]) (fun k hk=>by simp[Gh.newS,hk]) (fun k ys b q1 q2=>by
     obtain⟨b',p1,p2,_⟩:=hst.row k ys q1;rw[q2]at p1;cases p1;have hlt:=s.bnd _ _ p2;have hne:b.1≠w.heap.size:=by omega
     exact⟨hne,by simp[Gh.newS,hne],by simp[Gh.newS,hne],push_old hlt⟩) (by simp[Gh.newS]) (by simp[Gh.newS]) hblk
    obtain⟨s2,hE⟩:=s.dyn hl0 d1 hst2;refine Oper.wp_value hr ⟨_,?_,hE⟩;rw[hdd];exact s2.put (hd d hdd) (.p _ _ _ (.adr sp nx w.heap.size 1 (by simp[imm,Gh.newS])))
   ·exact hk.elim
  ·exact hk.elim
 ·exact hk.elim
end
end Go.AM
namespace Go.AM
section
variable {P:Program} {ty:Nat→Option TI} {n:Nat} {o:Oper} {e:Env} {h:Heap} {K:AK}
theorem isPtrT_spec (hty:TyOK P ty) {t:Nat} (hh:isPtrT ty t=true):∃el,P.underlying t=some (.pointer el):=by
 unfold isPtrT at hh;split at hh
 ·rename_i i hi
  split at hh
  ·rename_i el hde;exact⟨el,by rw[←hde];exact(hty t i hi).und⟩
  ·cases hh
 ·cases hh
theorem run_eqIn_nilp (d:Nat) {t el:TypeId} (h:P.underlying t=some (.pointer el)) (a:Option Addr) (w:World):(Op.equalIn (d+1) t (.pointer a) (.pointer none)).run P w=.ok a.isNone w:=by
 cases a<;>simp[Op.equalIn,run_underlying h]
theorem run_eqIn_pnil (d:Nat) {t el:TypeId} (h:P.underlying t=some (.pointer el)) (a:Option Addr) (w:World):(Op.equalIn (d+1) t (.pointer none) (.pointer a)).run P w=.ok a.isNone w:=by
 cases a<;>simp[Op.equalIn,run_underlying h]
theorem dBin_sound (hty:TyOK P ty) (hd:∀d,o.dst=some d→d<n) {op:BinOp} {t t':TypeId} {x y:Operand} (ho:o.op=.binOp op t x y t') (hk:dBin ty o h op t (ev e x) (ev e y) K):∃f,K f∧OpOK P n o e h f:=by
 have m1:x∈o.op.operands:=by simp[ho,Op.operands]
 have m2:y∈o.op.operands:=by simp[ho,Op.operands]
 have fin:∀{a:Act} {w:World} {b:Bool} {v u:Value},a.eval x=v→a.eval y=u→((∃q,v=.pointer q)∨∃q m c,v=.slice q m c)→(Op.equal t v u).run P w=.ok b w→
  (op=.eql→(execOp a.eval o).run P w=.ok (.value (.bool b)) w)∧(op=.neq→(execOp a.eval o).run P w=.ok (.value (.bool (!b))) w):=by
  intro a w b v u hv hu hg he;rcases hg with⟨q,rfl⟩|⟨q,m,c,rfl⟩<;>refine⟨fun q=>?_,fun q=>?_⟩<;>subst q<;>simp[execOp,ho,hv,hu,eqGuard_plain,binOp,he]
 have plain:∀{b:Bool},(∀{e':Env} {h':Heap} {g:Gh} {w:World} {a:Act},(∀t∈slotsOf o,eget e' t=eget e t)→Sim g w n a e' h'→∃v u,a.eval x=v∧a.eval y=u∧((∃q,v=.pointer q)∨∃q m c,v=.slice q m c)∧(Op.equal t v u).run P w=.ok b w)→
  ((op=.eql∧ret o (.p (.b b)) K)∨(op=.neq∧ret o (.p (.b (!b))) K))→∃f,K f∧OpOK P n o e h f:=by
  intro b hh hc;clear hk;rcases hc with⟨rfl,hk2⟩|⟨rfl,hk2⟩
  ·refine ret_sound hd hk2 fun e' h' he g w a s=>?_
   obtain⟨v,u,h1,h2,h3,h4⟩:=hh he s;exact⟨_,(fin h1 h2 h3 h4).1 rfl,fun d _=>.p _ _ _ (.b _)⟩
  ·refine ret_sound hd hk2 fun e' h' he g w a s=>?_
   obtain⟨v,u,h1,h2,h3,h4⟩:=hh he s;exact⟨_,(fin h1 h2 h3 h4).2 rfl,fun d _=>.p _ _ _ (.b _)⟩
 unfold dBin at hk;split at hk
 ·rename_i s1 k1 m1' hx hy
  have key:isSliceT ty t=true→∀{e':Env} {h':Heap} {g:Gh} {w:World} {a:Act},(∀t∈slotsOf o,eget e' t=eget e t)→Sim g w n a e' h'→∃v u,a.eval x=v∧a.eval y=u∧((∃q,v=.pointer q)∨∃q m c,v=.slice q m c)∧(Op.equal t v u).run P w=.ok false w:=by
   intro ht e' h' g w a he s;obtain⟨_,r1⟩:=s.evo he m1 hx;obtain⟨_,r2⟩:=s.evo he m2 hy;have hp:=r1.pv;generalize a.eval x=v at hp;generalize a.eval y=u at r2
   cases hp with
   |ads _ _ A _ cap q hc=>cases r2;exact⟨_,_,rfl,rfl,.inr ⟨_,_,_,rfl⟩,run_eq_nil hty ht⟩
  split at hk
  ·rename_i ht;exact plain (b:=false) (key ht) (.inl ⟨rfl,hk⟩)
  ·rename_i ht;exact plain (b:=false) (key ht) (.inr ⟨rfl,hk⟩)
  ·exact hk.elim
 ·rename_i hx hy
  have key:isSliceT ty t=true→∀{e':Env} {h':Heap} {g:Gh} {w:World} {a:Act},(∀t∈slotsOf o,eget e' t=eget e t)→Sim g w n a e' h'→∃v u,a.eval x=v∧a.eval y=u∧((∃q,v=.pointer q)∨∃q m c,v=.slice q m c)∧(Op.equal t v u).run P w=.ok true w:=by
   intro ht e' h' g w a he s;obtain⟨_,r1⟩:=s.evo he m1 hx;obtain⟨_,r2⟩:=s.evo he m2 hy;have hp:=r1.pv;generalize a.eval x=v at hp;generalize a.eval y=u at r2
   cases hp with
   |nsl=>cases r2;exact⟨_,_,rfl,rfl,.inr ⟨_,_,_,rfl⟩,run_eq_nil hty ht⟩
  split at hk
  ·rename_i ht;exact plain (b:=true) (key ht) (.inl ⟨rfl,hk⟩)
  ·rename_i ht;exact plain (b:=true) (key ht) (.inr ⟨rfl,hk⟩)
  ·exact hk.elim
 ·rename_i s1 k1 s2 k2 hx hy
  split at hk
  ·rename_i i ht hi
   split at hk
   ·rename_i T hde
    have hu:=(hty t i hi).und;rw[hde]at hu;split at hk
    ·rename_i j hj
     obtain⟨inf,z,i1,i2,i3,i4,i5,i6⟩:=(hty T j hj).inf;split at hk
     ·rename_i hz0
      have hz0:inf.size≠0:=fun q=>by rw[←i2,q]at hz0;cases hz0
      have hk0:=AStO_spec hk;clear hk;obtain⟨l,sp,nx,sz,M,hg,⟨e1,e2,hsn,q1,q2⟩,hk2⟩:=hk0;subst e1;subst e2
      have key:∀{e':Env} {h':Heap} {g:Gh} {w:World} {a:Act},(∀t∈slotsOf o,eget e' t=eget e t)→hget h' l=hget h l→Sim g w n a e' h'→∃v u,a.eval x=v∧a.eval y=u∧((∃q,v=.pointer q)∨∃q m c,v=.slice q m c)∧(Op.equal t v u).run P w=.ok (Nat.beq k1 k2) w:=by
       intro e' h' g w a he hl s;have hst:=s.blk (hl.trans hg);obtain⟨_,r1⟩:=s.evo he m1 hx;obtain⟨_,r2⟩:=s.evo he m2 hy;have p1:=r1.pv;have p2:=r2.pv;obtain⟨xs,hxs⟩:=Option.isSome_iff_exists.1 q1;obtain⟨ys,hys⟩:=Option.isSome_iff_exists.1 q2;obtain⟨A,hA,_,_,va,Ea,hba,_⟩:=hst.rowC hsn k1 xs (slk_mem hxs);obtain⟨B,hB,_,_,vb,Eb,hbb,_⟩:=hst.rowC hsn k2 ys (slk_mem hys);generalize a.eval x=v at p1;generalize a.eval y=u at p2
       cases p1 with
       |adr _ _ a1 C1 r1=>
       cases p2 with
       |adr _ _ a2 C2 r2=>
        replace r1:g.σ _ k1=some (a1,C1):=r1;replace r2:g.σ _ k2=some (a2,C2):=r2;rw[hA]at r1;cases r1;rw[hB]at r2;cases r2;refine⟨_,_,rfl,rfl,.inl ⟨_,rfl⟩,?_⟩
        by_cases ek:k1=k2
        ·subst ek
         rw[hA]at hB;cases hB;rw[Nat.beq_refl];exact run_eqIn_same 9999 hu i1 _ w
        ·rw[beq_false ek]
         have hne:a1≠a2:=fun q=>ek (hst.inj k1 k2 xs ys _ _ (slk_mem hxs) (slk_mem hys) hA hB q);exact run_eqIn_other 9999 hu i1 hz0 w (fun q=>hne (by cases q;rfl)) hba hbb
      split at hk2
      ·refine retR_sound hd hk2 fun e' h' he hl g w a s=>?_
       obtain⟨v,u,h1,h2,h3,h4⟩:=key he hl s;exact⟨_,(fin h1 h2 h3 h4).1 rfl,fun d _=>.p _ _ _ (.b _)⟩
      ·refine retR_sound hd hk2 fun e' h' he hl g w a s=>?_
       obtain⟨v,u,h1,h2,h3,h4⟩:=key he hl s;exact⟨_,(fin h1 h2 h3 h4).2 rfl,fun d _=>.p _ _ _ (.b _)⟩
      ·exact hk2.elim
     ·exact hk.elim
    ·exact hk.elim
   ·exact hk.elim
  ·exact hk.elim
 ·have key:∀{b:Bool},isPtrT ty t=true→ptrEq (ev e x) (ev e y)=some b→∀{e':Env} {h':Heap} {g:Gh} {w:World} {a:Act},(∀t∈slotsOf o,eget e' t=eget e t)→Sim g w n a e' h'→∃v u,a.eval x=v∧a.eval y=u∧((∃q,v=.pointer q)∨∃q m c,v=.slice q m c)∧(Op.equal t v u).run P w=.ok b w:=by
   intro b ht hb e' h' g w a he s;obtain⟨el,hu⟩:=isPtrT_spec hty ht;obtain⟨_,r1⟩:=s.evo he m1 rfl;obtain⟨_,r2⟩:=s.evo he m2 rfl;generalize a.eval x=v at r1;generalize a.eval y=u at r2;generalize ev e x=X at r1 hb;generalize ev e y=Y at r2 hb;have two:∀{a:Option Addr},(∃q,Value.pointer a=.pointer q)∨∃q m c,Value.pointer a=.slice q m c:=.inl ⟨_,rfl⟩;unfold ptrEq at hb;split at hb
   ·cases hb
    have p1:=r1.pv
    cases p1;cases r2
    exact⟨_,_,rfl,rfl,two,run_eqIn_nilp 9999 hu _ w⟩
   ·cases hb
    have p1:=r1.pv;have p2:=r2.pv
    cases p1;cases p2
    exact⟨_,_,rfl,rfl,two,run_eqIn_nilp 9999 hu _ w⟩
   ·cases hb
    have p1:=r1.pv;have p2:=r2.pv
    cases p1;cases p2
    exact⟨_,_,rfl,rfl,two,run_eqIn_pnil 9999 hu _ w⟩
   ·cases hb
    have p1:=r1.pv;have p2:=r2.pv
    cases p1;cases p2
    exact⟨_,_,rfl,rfl,two,run_eqIn_pnil 9999 hu _ w⟩
   ·cases hb
    have p1:=r1.pv
    cases p1;cases r2
    exact⟨_,_,rfl,rfl,two,run_eqIn_nilp 9999 hu _ w⟩
   ·cases hb
    have p1:=r1.pv;have p2:=r2.pv
    cases p1;cases p2
    exact⟨_,_,rfl,rfl,two,run_eqIn_nilp 9999 hu _ w⟩
   ·cases hb
    have p1:=r1.pv
    cases p1;cases r2
    exact⟨_,_,rfl,rfl,two,run_eqIn_nilp 9999 hu _ w⟩
   ·cases hb
    have p1:=r1.pv;have p2:=r2.pv
    cases p1;cases p2
    exact⟨_,_,rfl,rfl,two,run_eqIn_nilp 9999 hu _ w⟩
   ·cases hb
  split at hk
  ·rename_i b ht hb;exact plain (key ht hb) (.inl ⟨rfl,hk⟩)
  ·rename_i b ht hb;exact plain (key ht hb) (.inr ⟨rfl,hk⟩)
  ·exact hk.elim
theorem dMk_sound (hty:TyOK P ty) (hd:∀d,o.dst=some d→d<n) {t:TypeId} {x:Operand} (ho:o.op=.makeInterface t x) (hk:dMk ty o t (ev e x) K):∃f,K f∧OpOK P n o e h f:=by
 unfold dMk at hk;have m1:x∈o.op.operands:=by simp[ho,Op.operands]
 split at hk
 ·rename_i i y hi hx
  have hu:=(hty t i hi).und
  have fin:(∀ms,i.desc≠.interface ms)→ret o (.p (.ifv t y)) K→∃f,K f∧OpOK P n o e h f:=by
   intro hn hq;refine ret_sound hd hq fun e' h' he g w a s=>?_;obtain⟨_,r1⟩:=s.evo he m1 hx;refine⟨.iface t (a.eval x),?_,fun d _=>.p _ _ _ (.ifv t _ y r1.pv)⟩
   have hr:(Instr.makeInterface t (a.eval x)).run P w=.ok (.iface t (a.eval x)) w:=by
    simp only[Instr.makeInterface,Sem.run_bind,run_underlying hu,Result.andThen_ok]
    cases hdd:i.desc<;>first|rfl|exact absurd hdd (hn _)
   simp[execOp,ho,hr]
  split at hk
  ·exact hk.elim
  ·rename_i hn;exact fin (fun ms q=>hn ms q) hk
 ·exact hk.elim
theorem eqIfcF (d:Nat) {t:TypeId} {ms:Array (String×TypeId)} (hu:P.underlying t=some (.interface ms)) (T:TypeId) (y:Value) (w:World):(Op.equalIn (d+1) t (.iface T y) .nilIface).run P w=.ok false w:=by
 simp only[Op.equalIn,Sem.run_bind,run_underlying hu,Result.andThen_ok,Sem.run_pure]
theorem eqIfcT (d:Nat) {t:TypeId} {ms:Array (String×TypeId)} (hu:P.underlying t=some (.interface ms)) (w:World):(Op.equalIn (d+1) t .nilIface .nilIface).run P w=.ok true w:=by
 simp only[Op.equalIn,Sem.run_bind,run_underlying hu,Result.andThen_ok,Sem.run_pure]
theorem dIfc_sound (hty:TyOK P ty) (hd:∀d,o.dst=some d→d<n) {op:BinOp} {t t':TypeId} {x:Operand} (ho:o.op=.binOp op t x (.const .nilIface) t') (hk:dIfc ty o op t (ev e x) K):∃f,K f∧OpOK P n o e h f:=by
 unfold dIfc at hk;have m1:x∈o.op.operands:=by simp[ho,Op.operands]
 have key:∀{b:Bool},isIfaceT ty t=true→ifNil (ev e x)=some b→∀{e':Env} {h':Heap} {g:Gh} {w:World} {a:Act},(∀t∈slotsOf o,eget e' t=eget e t)→Sim g w n a e' h'→
  (eqGuard op t x (.const .nilIface) (a.eval x) .nilIface).run P w=.ok () w∧(Op.equal t (a.eval x) .nilIface).run P w=.ok b w:=by
  intro b ht hb e' h' g w a he s
  have hu:∃ms,P.underlying t=some (.interface ms):=by
   unfold isIfaceT at ht;split at ht
   ·rename_i i hi
    split at ht
    ·rename_i ms hdd;exact⟨ms,by rw[←hdd];exact(hty t i hi).und⟩
    ·cases ht
   ·cases ht
  obtain⟨ms,hu⟩:=hu;obtain⟨_,r1⟩:=s.evo he m1 rfl;generalize a.eval x=v at r1
  have hv:(b=false∧∃T y,v=.iface T y)∨(b=true∧v=.nilIface):=by
   generalize ev e x=X at r1 hb;unfold ifNil at hb;split at hb
   ·cases hb
    have p1:=r1.pv;cases p1;exact .inl ⟨rfl,_,_,rfl⟩
   ·cases hb
    have p1:=r1.pv;cases p1;exact .inr ⟨rfl,rfl⟩
   ·cases hb
    cases r1;exact .inr ⟨rfl,rfl⟩
   ·cases hb
  rcases hv with⟨rfl,T,y,rfl⟩|⟨rfl,rfl⟩
  ·refine⟨by unfold eqGuard;cases op<;>simp,?_⟩
   exact eqIfcF 9999 hu T y w
  ·refine⟨by unfold eqGuard;cases op<;>simp,?_⟩
   exact eqIfcT 9999 hu w
 have fin:∀{b q:Bool},isIfaceT ty t=true→ifNil (ev e x)=some b→ret o (.p (.b q)) K→((op=.eql∧q=b)∨(op=.neq∧q=!b))→∃f,K f∧OpOK P n o e h f:=by
  intro b q ht hb hq hop;refine ret_sound hd hq fun e' h' he g w a s=>?_;obtain⟨h1,h2⟩:=key ht hb he s;have hc:a.eval (.const .nilIface)=.nilIface:=rfl;refine⟨.bool q,?_,fun d _=>.p _ _ _ (.b _)⟩;rcases hop with⟨rfl,rfl⟩|⟨rfl,rfl⟩
  ·simp[execOp,ho,hc,h1,binOp,h2]
  ·simp[execOp,ho,hc,h1,binOp,h2]
 split at hk
 ·rename_i b ht hb;exact fin ht hb hk (.inl ⟨rfl,rfl⟩)
 ·rename_i b ht hb;exact fin ht hb hk (.inr ⟨rfl,rfl⟩)
 ·exact hk.elim
theorem aopD_sound (hty:TyOK P ty) (hd:∀d,o.dst=some d→d<n) (hst:∀t x y,o.op=.store t x y→o.dst=none) (hst2:∀t m k v,o.op=.mapUpdate t m k v∨o.op=.insert t m k v→o.dst=none) (hk:aopD ty o e h K):∃f,K f∧OpOK P n o e h f:=by
 unfold aopD at hk;split at hk
 ·rename_i t x ho;exact dLoad_sound hty hd ho hk
 ·rename_i t x y ho;exact dStore_sound hty ho (hst _ _ _ ho) hk
 ·rename_i t ho;exact dAlloc_sound hty hd ho hk
 ·rename_i x ho;exact dNil_sound hd ho hk
 ·rename_i s x f ho;exact dField_sound hty hd ho hk
 ·rename_i t x ix ho;exact dIndex_sound hty hd ho hk
 ·rename_i t x u ho;exact dSlice_sound hty hd ho hk
 ·rename_i x t ts ho;exact dLen_sound hty hd ho hk
 ·rename_i x y t t2 ho;exact dAppend_sound hty hd ho hk
 ·rename_i t x ho;exact dMk_sound hty hd ho hk
 ·rename_i t ho;exact dMakeMap_sound hty hd ho hk
 ·rename_i t m k ok ho;exact dLookup_sound hty hd ho hk
 ·rename_i t m k v ho;exact dMapUpdate_sound hty (.inl ho) (hst2 _ _ _ _ (.inl ho)) hk
 ·rename_i t m k v ho;exact dMapUpdate_sound hty (.inr ho) (hst2 _ _ _ _ (.inr ho)) hk
 ·rename_i t x ho;exact dBox_sound hty hd ho hk
 ·rename_i op t x t' ho;exact dIfc_sound hty hd ho hk
 ·rename_i op t x y t' _ ho;exact dBin_sound hty hd ho hk
 ·exact hk.elim
end
end Go.AM
