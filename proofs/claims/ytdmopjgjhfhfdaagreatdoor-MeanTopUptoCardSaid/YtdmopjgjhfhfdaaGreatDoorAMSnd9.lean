/- Part of a machine over plain values. No conditions. -/
import Derived.Test.YtdmopjgjhfhfdaaGreatDoorAMSnd6
import Derived.Laws.Tables
import Derived.Great.FillDense
import Derived.Great.BuildSlice
set_option linter.all false
set_option maxRecDepth 100000
namespace Go.AM
section
variable {P:Program} {ty:Nat->Option TI} {n:Nat} {o:Oper} {e:Env} {h:Heap} {K:AK}
theorem jw:∀(vs:List Value) (j:Nat),(dx vs)[j]?=(vs[j]?).map jS
 | [],j=>by simp[dx]
 |x::r,0=>by simp[dx]
 |x::r,j+1=>by simp[dx,jw r j]
theorem ij (vs:List Value):(dx vs).length=vs.length:=by
 induction vs with
 |nil=>rfl
 |cons x r ih=>simp[dx,ih]
theorem EB {w:World} {ob:Obj}:(newObj ob).run P w=.ok w.heap.size (World.push w ob):=rfl
theorem tQ {t:TypeId} {cs:List AV} {d:Nat} (hd:d<n) (hfr:fq h d=true)
 (hdst:o.dst=some d) (hrun:∀(a:Act) (w:World) (e':Env) (h':Heap) (g:Gh),(∀t∈slotsOf o,aL e' t=aL e t)->cw g w n a e' h'->
   ∃vs:Array Value,(execOp a.eval o).run P w=.ok (.value (.pointer (some ⟨w.heap.size,0,none⟩))) (World.push w (.cells vs t (0,0)))/\vs.size=cs.length/\(∀v∈vs.toList,v.oneCell'=true)/\
    ∀(j:Nat) (v:Value) (c:AV),vs[j]?=some v->cs[j]?=some c->aH g w (aE h') (some (.cell d j)) v c)
 (hk:K ⟨[],[(d,.ptr d 0)],[(d,.cells cs)]⟩):∃f,K f/\cJ P n o e h f:=by
 obtain⟨hrd,hdb⟩:=oK hfr;refine⟨_,hk,fun e' h' he hl g w a s=>?_⟩;have hl0:aF h' d=none:=by rw[hl d (by simp)];exact hrd
 obtain⟨vs,hr,hlen,h1,hx⟩:=hrun a w e' h' g he s;refine Oper.cp hr ⟨g.newObj w.heap.size d,?_,Ext.push (fun b hb=>by simp[Gh.newObj,Nat.ne_of_lt hb]) (fun a=>gA a) (fun l hl=>Db hdb l hl)⟩;rw[hdst];simp only[List.reverse_cons,List.reverse_nil,List.nil_append,List.cons_append];have s':=s.Iq hl0 (.cells vs t (0,0)) (.cells cs) (fun dom' hdm up=>.cells cs vs t (by simp[Gh.newObj,eJ]) hlen (fun j v c q1 q2=>up (hx j v c q1 q2)) h1)
 have hv:aH (g.newObj w.heap.size d) (World.push w (.cells vs t (0,0))) (aE ((d,bu.cells cs)::h')) (some (.slot d)) (.pointer (some ⟨w.heap.size,0,none⟩)) (.ptr d 0):=by
  have:w.heap.size=(g.newObj w.heap.size d).ρ d:=by simp[Gh.newObj]
  conv=>arg 5;rw[this]
  exact .ptr _ _ _ (by simp[aE,aQ])
 exact s'.put hd hv
theorem Cy (hty:bB P ty) (hd:∀d,o.dst=some d->d<n) {t:Nat} (ho:o.op=.alloc t)
 (hk:match ty t,o.dst with
 |some i,some d=>match fq h d with
  |true=>K ⟨[],[(d,.ptr d 0)],[(d,.cells (dx i.zero))]⟩
  |false=>ah "alloc"
 |_,_=>ah "alloc"):∃f,K f/\cJ P n o e h f:=by
 split at hk
 ·rename_i i d hi hdd
  split at hk
  ·rename_i hnone
   refine tQ (t:=t) (hd d hdd) hnone hdd (fun a w e' h' g he s=>?_) hk;obtain⟨inf,z,h1,h2,h3,h4,h5,h6⟩:=(hty t i hi).inf;refine⟨z.cells,?_,?_,?_,fun j v c hv hc=>?_⟩
   ·simp[execOp,ho,Instr.alloc,zeroValue,typeInfo,h1,h4,newVar,newRow]
    rfl
   ·rw[ij,<-h5];simp
   ·rw[h5];exact(hty t i hi).one
   ·rw[jw,<-h5]at hc
    have:z.cells.toList[j]?=some v:=by simpa using hv
    rw[this]at hc;simp at hc;subst hc;exact iT v
  ·exact hk.elim
 ·exact hk.elim
theorem GP (hd:∀d,o.dst=some d->d<n) {t:Nat} {x:Operand} (ho:o.op=.box t x)
 (hk:match o.dst with
 |some d=>match fq h d with
  |true=>match (ev e x).copy.cells? with
   |some cs=>K ⟨[],[(d,.ptr d 0)],[(d,.cells cs)]⟩
   |none=>ah "box"
  |false=>ah "box"
 |_=>ah "box"):∃f,K f/\cJ P n o e h f:=by
 have m1:x∈o.op.operands:=by simp[ho,Op.operands]
 split at hk
 ·rename_i d hdd
  split at hk
  ·rename_i hnone
   split at hk
   ·rename_i cs hcs
    refine tQ (t:=t) (hd d hdd) hnone hdd (fun a w e' h' g he s=>?_) hk;obtain⟨_,r⟩:=s.cR he m1 rfl;have r:=r.copy (ow':=none);obtain⟨c1,c2,c3⟩:=tg r hcs;refine⟨(a.eval x).cells,?_,by simpa using c1,c2,fun j v c hv hc=>?_⟩
    ·simp[execOp,ho,Instr.box,newVar,newRow]
     rfl
    ·rcases c3 j v c (by simpa using hv) hc with⟨_,_,hvv,hcc⟩|r'
     ·rw[hvv,hcc]
      exact r.copy (ow':=some (.cell d j))|>fun q=>by
       have:(ev e x).copy.copy=(ev e x).copy:=by cases ev e x<;>rfl
       rw[this]at q;exact q
     ·have:∀sz xs,c=.so sz xs->aH g w (aE h') (some (.cell d j)) v c:=by
       intro sz xs eq;subst eq
       cases r' with
       |full _ ad _ _ hz hp=>exact .full _ ad sz xs hz hp
      cases c with
      |so sz xs=>exact this sz xs rfl
      |_=>exact r'.bW (fun _ _ eq=>by cases eq)
   ·exact hk.elim
  ·exact hk.elim
 ·exact hk.elim
theorem xT {g:Gh} {w:World} {dom:Nat->Prop} (offs:Nat->Option (Nat×Nat)):∀(ps:List (Nat×AV)) (qs:List (Nat×Value)) (cs:List AV) (cells:Array Value) (cs':List AV),
 place offs cs ps=some cs'->qs.length=ps.length->(∀(j:Nat) (p:Nat×AV) (q:Nat×Value),ps[j]?=some p->qs[j]?=some q->q.1=p.1/\aH g w dom none q.2 p.2)->
 cells.size=cs.length->(∀v∈cells.toList,v.oneCell'=true)->(∀(j:Nat) (v:Value) (c:AV),cells[j]?=some v->cs[j]?=some c->aH g w dom none v c)->
 ∃cells',Instr.fill offs cells qs=some cells'/\cells'.size=cs'.length/\(∀v∈cells'.toList,v.oneCell'=true)/\∀(j:Nat) (v:Value) (c:AV),cells'[j]?=some v->cs'[j]?=some c->aH g w dom none v c
 | [],qs,cs,cells,cs',h,hl,hr,h0,h1,h2=>by
   have:qs=[]:=List.eq_nil_of_length_eq_zero hl;subst this;simp only[place,Option.some.injEq]at h;subst h;exact⟨cells,rfl,h0,h1,h2⟩
 |(i,x)::ps,[],cs,cells,cs',h,hl,hr,h0,h1,h2=>by simp at hl
 |(i,x)::ps,(i',v)::qs,cs,cells,cs',h,hl,hr,h0,h1,h2=>by
  obtain⟨hii,hv⟩:=hr 0 (i,x) (i',v) rfl rfl;simp only at hii hv;subst hii;simp only[place]at h;split at h
  ·rename_i off sz hoff
   split at h
   ·rename_i ys hys
    split at h
    ·rename_i cs1 hsz hs0 hset
     have hsz:ys.length=sz:=Nat.eq_of_beq_eq_true hsz;have hs0:sz≠0:=fun eq=>by rw[eq]at hs0;cases hs0
     obtain⟨q1,q2,q3⟩:=iL _ _ _ _ hset;have q2:=q2 (fun eq=>by rw[eq]at hsz;exact hs0 hsz.symm);obtain⟨c1,c2,c3⟩:=tg hv hys;have hcl:v.cells.size=v.cells.toList.length:=by simp
     have hle2:¬(v.cells.size≠sz||decide (off+v.cells.size>cells.size))=true:=by
      simp only[Bool.or_eq_true,decide_eq_true_eq,not_or];exact⟨by omega,by omega⟩
     obtain⟨g1,g2⟩:=Great.foldl_set off v.cells.toList 0 cells
     have hfold:v.cells.zipIdx.foldl (fun cs (x:Value×Nat)=>cs.setIfInBounds (off+x.2) x.1) cells=(v.cells.toList.zipIdx 0).foldl (fun cs (x:Value×Nat)=>cs.setIfInBounds (off+x.2) x.1) cells:=by
      rw[<-Array.foldl_toList];simp
     have key:∀k,((v.cells.toList.zipIdx 0).foldl (fun cs (x:Value×Nat)=>cs.setIfInBounds (off+x.2) x.1) cells)[k]?=if off<=k/\k<off+v.cells.toList.length then v.cells.toList[k-off]? else cells[k]?:=by
      intro k;rw[g2 k]
      by_cases hk:off<=k/\k<off+v.cells.toList.length
      ·rw[if_pos (by omega),if_pos hk];rfl
      ·rw[if_neg (by omega),if_neg hk]
     have hone:∀u∈((v.cells.toList.zipIdx 0).foldl (fun cs (x:Value×Nat)=>cs.setIfInBounds (off+x.2) x.1) cells).toList,u.oneCell'=true:=by
      intro u hu;obtain⟨j,hj⟩:=List.getElem?_of_mem hu;rw[Array.getElem?_toList,key j]at hj;split at hj
      ·exact c2 u (List.mem_of_getElem? hj)
      ·exact h1 u (by rw[<-Array.getElem?_toList]at hj;exact List.mem_of_getElem? hj)
     have hrel:∀(j:Nat) (u:Value) (c:AV),((v.cells.toList.zipIdx 0).foldl (fun cs (x:Value×Nat)=>cs.setIfInBounds (off+x.2) x.1) cells)[j]?=some u->cs1[j]?=some c->aH g w dom none u c:=by
      intro j u c hu hc;rw[key j]at hu;rw[q3 j]at hc
      by_cases hj:off<=j/\j<off+v.cells.toList.length
      ·rw[if_pos hj]at hu
       rw[if_pos (by omega)]at hc;rcases c3 _ _ _ hu hc with⟨_,_,hvv,hcc⟩|r
       ·rw[hvv,hcc];exact hv
       ·exact r
      ·rw[if_neg hj]at hu
       rw[if_neg (by omega)]at hc;exact h2 j u c hu hc
     obtain⟨cells',k1,k2,k3,k4⟩:=xT (g:=g) (w:=w) (dom:=dom) offs ps qs cs1 ((v.cells.toList.zipIdx 0).foldl (fun cs (x:Value×Nat)=>cs.setIfInBounds (off+x.2) x.1) cells) cs' h (by simpa using hl)
      (fun j p q hp hq=>hr (j+1) p q (by simpa using hp) (by simpa using hq)) (by rw[g1,h0,q1]) hone hrel
     refine⟨cells',?_,k2,k3,k4⟩;unfold Instr.fill;simp only[hoff];rw[if_neg hle2,<-k1,<-hfold]
    ·cases h
   ·cases h
  ·cases h
theorem qn (e:Env):∀(xs:List (Nat×Operand)) (j:Nat),(gJ e xs)[j]?=(xs[j]?).map fun x=>(x.1,(ev e x.2).copy)
 | [],j=>by simp[gJ]
 |(i,x)::r,0=>by simp[gJ]
 |(i,x)::r,j+1=>by simp[gJ,qn e r j]
theorem yL (e:Env) (xs:List (Nat×Operand)):(gJ e xs).length=xs.length:=by
 induction xs with
 |nil=>rfl
 |cons x r ih=>obtain⟨i,x⟩:=x;simp[gJ,ih]
theorem DE {α β:Type} (f:α->Option β):∀(l:List α) (r:List β),l.mapM f=some r->∀(j:Nat) (a:α),l[j]?=some a->∃b,f a=some b/\r[j]?=some b
 | [],r,h,j,a,hj=>by simp at hj
 |x::l,r,h,j,a,hj=>by
  simp only[List.mapM_cons,Option.bind_eq_bind,Option.pure_def]at h
  cases hx:f x with
  |none=>simp[hx]at h
  |some y=>
   cases hr:l.mapM f with
   |none=>simp[hx,hr]at h
   |some r1=>
    simp[hx,hr]at h;subst h
    cases j with
    |zero=>simp at hj;subst hj;exact⟨y,hx,rfl⟩
    |succ j=>simp at hj ⊢;exact DE f l r1 hr j a hj
theorem zh (f f':Nat->Option (Nat×Nat)):∀(ps:List (Nat×Value)) (cells:Array Value),(∀p∈ps,f p.1=f' p.1)->Instr.fill f cells ps=Instr.fill f' cells ps
 | [],_,_=>by simp[Instr.fill]
 |(i,v)::r,cells,h=>by
  have h0:=h (i,v) (by simp);simp only at h0;unfold Instr.fill;rw[h0]
  cases f' i with
  |none=>rfl
  |some x=>
   obtain⟨off,sz⟩:=x;simp only;split
   ·rfl
   ·exact zh f f' r _ (fun p hp=>h p (by simp[hp]))
theorem yD (offs:Nat->Option (Nat×Nat)):∀(ps:List (Nat×AV)) (cs cs':List AV),place offs cs ps=some cs'->∀p∈ps,∃q,offs p.1=some q
 | [],_,_,_,p,hp=>by simp at hp
 |(i,x)::r,cs,cs',h,p,hp=>by
  simp only[place]at h;split at h
  ·rename_i off sz hoff
   split at h
   ·split at h
    ·rcases List.mem_cons.1 hp with rfl|hp
     ·exact⟨_,hoff⟩
     ·exact yD offs r _ _ h p hp
    ·cases h
   ·cases h
  ·cases h
theorem Cg (hty:bB P ty) (hd:∀d,o.dst=some d->d<n) {t:Nat} {parts:List (Nat×Operand)} (ho:o.op=.build t ⟨parts⟩) (hk:zU ty o e t parts K):∃f,K f/\cJ P n o e h f:=by
 have hm:∀p∈parts,p.2∈o.op.operands:=fun p hp=>by simp[ho,Op.operands];exact⟨p.1,hp⟩
 have main:∀(i:TI) (offs offs':Nat->Option (Nat×Nat)) (cs:List AV),ty t=some i->place offs (dx i.zero) (gJ e parts)=some cs->ret o (sP cs i.csz) K->
  (∀p,offs p≠none->offs p=offs' p)->(∀(vps:List (Nat×Value)) (cells:Array Value) (inf:TypeInfo) (z:Value),P.info? t=some inf->inf.zero=some z->Instr.fill offs' z.cells vps=some cells->P.built t vps=some cells)->∃f,K f/\cJ P n o e h f:=by
  intro i offs offs' cs hi hpl hk hoffs hbuilt;refine aI hd hk fun e' h' he g w a s=>?_;obtain⟨inf,z,h1,h2,h3,h4,h5,h6⟩:=(hty t i hi).inf;have hz1:z.cells.size=(dx i.zero).length:=by rw[ij,<-h5];simp
  obtain⟨cells,k1,k2,k3,k4⟩:=xT (g:=g) (w:=w) (dom:=aE h') offs (gJ e parts) (parts.map fun p=>(p.1,a.eval p.2)) (dx i.zero) z.cells cs hpl (by simp[yL])
   (fun j p q hp hq=>by
     rw[qn]at hp;rw[List.getElem?_map]at hq
     cases hpj:parts[j]? with
     |none=>simp[hpj]at hp
     |some x=>
      simp only[hpj,Option.map_some,Option.some.injEq]at hp hq;subst hp;subst hq;obtain⟨_,r⟩:=s.cR he (hm x (List.mem_of_getElem? hpj)) rfl;exact⟨rfl,r.copy⟩) hz1 (fun v hv=>(hty t i hi).one v (by rw[<-h5];exact hv))
   (fun j v c hv hc=>by
     rw[jw,<-h5]at hc;have:z.cells.toList[j]?=some v:=by simpa using hv
     rw[this]at hc;simp at hc;subst hc;exact iT v)
  have hfill:Instr.fill offs' z.cells (parts.map fun p=>(p.1,a.eval p.2))=some cells:=by
   rw[<-k1];refine zh _ _ _ _ fun p hp=>?_;obtain⟨p0,hp0,rfl⟩:=List.mem_map.1 hp;obtain⟨j,hj⟩:=List.getElem?_of_mem hp0;obtain⟨q,hq⟩:=yD offs _ _ _ hpl (p0.1,(ev e p0.2).copy) (List.mem_of_getElem? (by rw[qn,hj];rfl));exact(hoffs p0.1 (by simp only at hq;rw[hq];simp)).symm
  refine⟨.agg cells,?_,fun d _=>?_⟩
  ·have hb:=hbuilt _ cells inf z h1 h4 hfill
   have:=run_build (P:=P) w t (parts.map fun p=>(p.1,a.eval p.2)).toArray cells (by simpa using hb);simp only[execOp,ho,Sem.run_bind,List.map_toArray,this,Result.andThen_ok,Sem.run_pure]
  ·have:=Fg (ow:=some (.slot d)) cells.toList cs i.csz (by simpa using k2) k3 (fun j v c hv hc=>⟨none,k4 j v c (by simpa using hv) hc⟩)
   simpa using this
 unfold zU at hk;split at hk
 ·rename_i i hi
  split at hk
  ·rename_i fs hde
   split at hk
   ·rename_i cs hcs
    obtain⟨places,hpl⟩:=(hty t i hi).plc fs hde;refine main i _ (fun f=>places.toArray[f]?) cs hi hcs hk (fun p hp=>?_) (fun vps cells inf z q1 q2 q3=>?_)
    ·simp only[ne_eq]at hp ⊢
     split at hp
     ·rename_i fd hfd
      split at hp
      ·rename_i j hj
       unfold gM at hfd;simp only[hi,hde]at hfd;obtain⟨b,hb1,hb2⟩:=DE _ _ _ hpl p fd hfd;obtain⟨inf2,z2,r1,r2,_⟩:=(hty fd.type j hj).inf;simp only[r1,Option.map_some,Option.some.injEq]at hb1;rw[List.getElem?_toArray,hb2,<-hb1,r2]
      ·exact absurd rfl hp
     ·exact absurd rfl hp
    ·unfold Program.built
     simp only[q1,q2,(hty t i hi).und,hde,hpl];exact q3
   ·exact hk.elim
  ·rename_i len el hde
   split at hk
   ·rename_i j hj
    split at hk
    ·rename_i cs hcs
     refine main i _ (fun k=>some (k*j.size,j.size)) cs hi hcs hk (fun p hp=>rfl) (fun vps cells inf z q1 q2 q3=>?_);unfold Program.built;obtain⟨inf2,z2,r1,r2,_⟩:=(hty el j hj).inf;simp only[q1,q2,(hty t i hi).und,hde,r1,r2];exact q3
    ·exact hk.elim
   ·exact hk.elim
  ·exact hk.elim
 ·exact hk.elim
end
section
variable {P:Program} {ty:Nat->Option TI} {n:Nat} {o:Oper} {e:Env} {h:Heap} {K:AK}
structure E9 (M:Mm) (a:Option Addr) (sz:Nat) (xs:List PV) (F:Nat->Value):Prop where
 hz:∀x∈xs,x.cells.length=sz
 ad:xs≠[]->∃b,a=some b
 spot:∀b,a=some b->xs≠[]->b.spot=none
 cell:∀b (j:Nat) (x:PV) (i:Nat) (y:PV),a=some b->xs[j]?=some x->x.cells[i]?=some y->
  M b.block (b.off+(j*sz+i))=some (F (j*sz+i))/\(F (j*sz+i)).oneCell'=true/\bq M (F (j*sz+i)) y
theorem wB {j sz i:Nat} (h:i<sz):(j*sz+i)/sz=j/\(j*sz+i) % sz=i:=by
 have h0:0<sz:=by omega
 constructor
 ·rw[Nat.mul_comm,Nat.mul_add_div h0,Nat.div_eq_of_lt h,Nat.add_zero]
 ·rw[Nat.mul_comm,Nat.mul_add_mod,Nat.mod_eq_of_lt h]
theorem bq.spot {M:Mm} {b:Addr} {len cap sz:Nat} {xs:List PV} (r:bq M (.slice (some b) len cap) (.sl sz xs)):cap≠0->b.spot=none:=by
 cases r with|sl _ _ _ _ f hs=>exact hs
theorem bq.Ph {M:Mm} {a:Option Addr} {len cap sz:Nat} {xs:List PV} (r:bq M (.slice a len cap) (.sl sz xs)):len=xs.length/\len<=cap/\∃F,E9 M a sz xs F:=by
 cases r with
 |nil=>exact⟨rfl,Nat.le_refl _,fun _=>undef,by simp,by simp,by simp,by simp⟩
 |sl b _ _ _ f hs hc hz hm hx=>
  refine⟨rfl,hc,fun k=>f (k/sz) (k % sz),hz,fun _=>⟨b,rfl⟩,fun b' e hne=>by cases e;exact hs (by have:=List.length_pos_iff.2 hne;omega),fun b' j x i y e hj hi=>?_⟩;cases e;have hlt:i<sz:=by have:=(List.getElem?_eq_some_iff.1 hi).1;have:=hz x (List.mem_of_getElem? hj);omega
  obtain⟨e1,e2⟩:=wB (j:=j) hlt;simp only[e1,e2];have:=hm j x hj i y hi;exact⟨by rw[<-Nat.add_assoc];exact this.1,this.2,hx j x hj i y hi⟩
theorem E9.Ok {M:Mm} {b:Addr} {cap sz:Nat} {xs:List PV} {F:Nat->Value} (r:E9 M (some b) sz xs F) (hc:xs.length<=cap) (hsp:cap≠0->b.spot=none):bq M (.slice (some b) xs.length cap) (.sl sz xs):=
 .sl b cap sz xs (fun j i=>F (j*sz+i)) hsp hc r.hz (fun j x hj i y hi=>⟨by rw[Nat.add_assoc];exact(r.cell b j x i y rfl hj hi).1,(r.cell b j x i y rfl hj hi).2.1⟩) (fun j x hj i y hi=>(r.cell b j x i y rfl hj hi).2.2)
theorem E9.all {M:Mm} {b:Addr} {sz:Nat} {xs:List PV} {F:Nat->Value} (r:E9 M (some b) sz xs F) {k:Nat} (hk:k<xs.length*sz):M b.block (b.off+k)=some (F k)/\(F k).oneCell'=true:=by
 have h0:0<sz:=Nat.pos_of_ne_zero fun e=>by subst e;simp at hk
 have hj:k/sz<xs.length:=(Nat.div_lt_iff_lt_mul h0).2 hk;have hi:k % sz<sz:=Nat.mod_lt _ h0;have hx:xs[k/sz]?=some xs[k/sz]:=by simp[hj]
 have hl:k % sz<xs[k/sz].cells.length:=by rw[r.hz _ (List.mem_of_getElem? hx)];exact hi
 have:=r.cell b (k/sz) _ (k % sz) _ rfl hx (List.getElem?_eq_getElem hl);have e:k/sz*sz+k % sz=k:=Nat.div_add_mod' k sz;rw[e]at this;exact⟨this.1,this.2.1⟩
theorem eW {g:Gh} {w:World} {a:Option Addr} {len cap sz:Nat} {xs:List PV} {F:Nat->Value} (r:E9 (bT g w) a sz xs F) (hl:len=xs.length):
 (Builtin.firstCells sz len (.slice a len cap)).run P w=.ok ((List.range (len*sz)).map F).toArray w:=by
 subst hl
 cases a with
 |none=>
  have:xs=[]:=by
   by_cases hx:xs=[]
   ·exact hx
   ·obtain⟨b,hb⟩:=r.ad hx;cases hb
  subst this;simp[Builtin.firstCells]
 |some b=>
  simp only[Builtin.firstCells];exact run_loadCells w b _ F (fun j hj=>by rw[Addr.eK (r.spot b rfl (fun q=>by subst q;simp at hj))];exact kF (r.all hj).1)
theorem xd {g:Gh} {w:World} {dom:Nat->Prop} {ow:Option bg} {v:Value} {x:AV} {sz:Nat} {ys:List PV} (r:aH g w dom ow v x) (h:NI sz x=some ys):
 ∃a cap F,v=.slice a ys.length cap/\E9 (bT g w) a sz ys F:=by
 have key:∀{v:Value} {sz':Nat} {zs:List PV},bq (bT g w) v (.sl sz' zs)->(match Nat.beq sz sz' with|true=>some zs|false=>none)=some ys->∃a cap F,v=.slice a ys.length cap/\E9 (bT g w) a sz ys F:=by
  intro v sz' zs hp hh;split at hh
  ·rename_i hb
   have hb:sz=sz':=Nat.eq_of_beq_eq_true hb;subst hb;cases hh;have hp':=hp
   cases hp with
   |nil=>obtain⟨_,_,F,hF⟩:=hp'.Ph;exact⟨none,0,F,rfl,hF⟩
   |sl a cap _ _ f=>obtain⟨_,_,F,hF⟩:=hp'.Ph;exact⟨some a,cap,F,rfl,hF⟩
  ·cases hh
 cases r with
 |p _ _ y hp=>
  cases y with
  |sl sz' zs=>exact key hp h
  |_=>simp[NI]at h
 |cx=>simp[NI]at h;subst h;exact⟨none,0,fun _=>undef,rfl,by simp,by simp,by simp,by simp⟩
 |es _ a cap z hs=>simp[NI]at h;subst h;exact⟨some a,cap,fun _=>undef,rfl,by simp,by simp,by simp,by simp⟩
 |full _ a sz' zs hz hp=>exact key hp h
 |own o a cap sz' zs cs E hz hp=>exact key hp h
 |_=>simp[NI]at h
theorem jW (hty:bB P ty) {t:Nat} (hh:eF ty t=true):∃el,P.underlying t=some (.slice el):=by
 unfold eF at hh;split at hh
 ·rename_i i hi
  split at hh
  ·rename_i el hde;exact⟨el,by rw[<-hde];exact(hty t i hi).und⟩
  ·cases hh
 ·cases hh
theorem mz {t t2 el el2:TypeId} {inf:TypeInfo} {sz:Nat} (hu:P.underlying t=some (.slice el)) (hu2:P.underlying t2=some (.slice el2)) (hi:P.info? el=some inf) (hsz:inf.size=sz)
 {w w':World} {a a2:Option Addr} {len cap len2 cap2:Nat} {vs:List Value} (hfit:len+len2<=cap) (hy:(Builtin.firstCells sz len2 (.slice a2 len2 cap2)).run P w=.ok vs.toArray w)
 (hst:∀b,a=some b->(storeCells (b.add (len*sz)) vs).run P w=.ok () w') (hno:a=none->w'=w) (u:TypeId):
 (Builtin.append_ #[t,t2] u #[.slice a len cap,.slice a2 len2 cap2]).run P w=.ok (.slice a (len+len2) cap) w':=by
 subst hsz;have e2:(underlying t2).run P w=.ok (.slice el2) w:=run_underlying hu2 w
 cases a with
 |none=>
  have hw:=hno rfl;subst hw;simp[Builtin.append_,run_underlying hu,sizeOf,typeInfo,hi,e2,Builtin.lenOf,hfit,hy]
 |some b=>
  simp[Builtin.append_,run_underlying hu,sizeOf,typeInfo,hi,e2,Builtin.lenOf,hfit,hy,hst b rfl]
theorem nextslicecap_le {need cap:Nat} (h:cap<need) (hb:Nat) (hn:need*hb<=140737488355328):¬Builtin.nextslicecap need cap*hb>2 ^ 48:=by
 have key:Builtin.nextslicecap need cap<=2*need:=by
  unfold Builtin.nextslicecap;split
  ·omega
  ·split
   ·omega
   · -- the slow growth
    have step:∀r c,c<=need+(need+768)/4->256<=c->Builtin.growBy need r c<=need+(need+768)/4:=by
     intro r
     induction r with
     |zero=>intro c h1 _;simpa[Builtin.growBy] using h1
     |succ r ih=>
      intro c h1 h2;unfold Builtin.growBy;split
      ·exact h1
      ·exact ih _ (by omega) (by omega)
    have:=step 4 cap (by omega) (by omega);omega
 have:Builtin.nextslicecap need cap*hb<=2*need*hb:=Nat.mul_le_mul_right _ key;have e:2*need*hb=2*(need*hb):=by rw[Nat.mul_assoc]
 omega
theorem pU (z:Array Value) (m:Nat):(Builtin.zeroCells z m).size=m*z.size:=by
 simp[Builtin.zeroCells]
theorem run_append_grow {t t2 el el2:TypeId} {inf:TypeInfo} {z:Value} {sz:Nat} (hu:P.underlying t=some (.slice el)) (hu2:P.underlying t2=some (.slice el2)) (hi:P.info? el=some inf) (hsz:inf.size=sz)
 (hz:inf.zero=some z) {w:World} {a a2:Option Addr} {len cap len2 cap2:Nat} {us vs:List Value} (hfit:cap<len+len2) (hlen:len<=cap)
 (hx:∀k,(Builtin.firstCells sz len (.slice a len cap)).run P { w with drawn:=k }=.ok us.toArray { w with drawn:=k })
 (hy:∀k,(Builtin.firstCells sz len2 (.slice a2 len2 cap2)).run P { w with drawn:=k }=.ok vs.toArray { w with drawn:=k })
 (hroom:(len+len2)*inf.bytes<=140737488355328) (hb0:inf.bytes≠0) (u:TypeId):
 ∃c,len+len2<=c/\(Builtin.append_ #[t,t2] u #[.slice a len cap,.slice a2 len2 cap2]).run P w=
  .ok (.slice (some ⟨w.heap.size,0,none⟩) (len+len2) c) (World.push { w with drawn:=w.drawn+1 } (.cells (us.toArray++vs.toArray++Builtin.zeroCells z.cells (c-(len+len2))) el (0,0))):=by
 subst hsz;have e2:(underlying t2).run P w=.ok (.slice el2) w:=run_underlying hu2 w;have hnf:¬len+len2<=cap:=by omega
 have hno1:¬(((len+len2:Nat):Int)>IntKind.i64.max/\(False\/inf.bytes=0)):=by simp[hb0]
 have hno2:=nextslicecap_le hfit inf.bytes hroom;refine⟨(Question.appendCap (len+len2) cap el).cut (w.tape w.drawn (.appendCap (len+len2) cap el)),by simp[Question.cut],?_⟩;have hy':(Builtin.firstCells inf.size len2 (.slice a2 len2 cap2)).run P w.drew=.ok vs.toArray w.drew:=hy (w.drawn+1);have hx':(Builtin.firstCells inf.size len (.slice a len cap)).run P w.drew=.ok us.toArray w.drew:=hx (w.drawn+1);simp[Builtin.append_,run_underlying hu,sizeOf,typeInfo,hi,e2,Builtin.lenOf,hnf,hb0,hno2,Question.forced,hx',hy',zeroValue,hz,newRow];refine congrArg (fun q=>World.push w.drew (.cells q el (0,0))) ?_
 apply Array.ext'
 simp
end
section
variable {P:Program} {ty:Nat->Option TI} {n:Nat} {o:Oper} {e:Env} {h:Heap} {K:AK}
def Gh.grow (g:Gh) (b p:Nat) (o:bg):Gh:={ pre:=fun b'=>if b'=b then p else g.pre b',own:=fun b'=>if b'=b then some o else g.own b',ρ:=g.ρ,σ:=g.σ,sown:=g.sown }
theorem lK {g:Gh} {w:World} {b p:Nat} {o:bg} {cur row:Array Value} {E:TypeId} (hb:w.heap[b]?=some (.cells cur E (0,0))) (hp:g.pre b<=p) (hrow:∀k,k<g.pre b->row[k]?=cur[k]?)
 {b' k:Nat} {v:Value} (hv:bT g w b' k=some v):bT (g.grow b p o) (w.setRow b row) b' k=some v:=by
 simp only[cO]at hv ⊢
 by_cases e1:b'=b
 ·subst e1
  split at hv
  ·rename_i hk
   simp only[Gh.grow,if_true];rw[if_pos (by omega),dB (setRow_heap _ _ _ _ _ _ hb),hrow k hk,<-dB hb];exact hv
  ·cases hv
 ·simp only[Gh.grow,if_neg e1]
  split at hv
  ·rename_i hk;rw[if_pos hk,cell_setRow_other _ _ _ _ e1];exact hv
  ·cases hv
theorem aH.grow {g:Gh} {w:World} {dom:Nat->Prop} {b p:Nat} {o o0:bg} {cur row:Array Value} {E:TypeId} (hb:w.heap[b]?=some (.cells cur E (0,0))) (hp:g.pre b<=p)
 (hrow:∀k,k<g.pre b->row[k]?=cur[k]?) (ho:g.own b=some o0) (hs:row.size=cur.size) {ow:Option bg} (hne:ow≠some o0) {v:Value} {x:AV} (r:aH g w dom ow v x):aH (g.grow b p o) (w.setRow b row) dom ow v x:=by
 refine aH.keep (g:=g) (g':=g.grow b p o) (w:=w) (w':=w.setRow b row) (fun _ _ _ hv=>lK hb hp hrow hv) (fun k hk=>⟨hk,rfl⟩) (fun k cs F hk hc=>?_) (fun o1 b1 e1 h1=>?_) r
 ·by_cases hkl:g.ρ k=b
  ·rw[hkl]at hc ⊢
   rw[hb]at hc;cases hc;exact⟨row,E,setRow_heap _ _ _ _ _ _ hb,hs⟩
  ·exact⟨cs,F,by rw[setRow_other _ _ _ _ hkl];exact hc,rfl⟩
 ·have hbl:b1≠b:=fun eq=>by subst eq;rw[ho]at h1;cases h1;exact hne e1
  exact⟨by simp[Gh.grow,hbl,h1],by simp[Gh.grow,hbl],setRow_other _ _ _ _ hbl⟩
theorem gx.grow {g:Gh} {w:World} {h:Heap} (r:gx g w h) {b p t:Nat} {o:bg} {cur row:Array Value} {E:TypeId} (hb:w.heap[b]?=some (.cells cur E (0,0))) (hp:g.pre b<=p)
 (hrow:∀k,k<g.pre b->row[k]?=cur[k]?) (ho:g.own b=some (.slot t)) (hs:row.size=cur.size):gx (g.grow b p o) (w.setRow b row) h:=by
 have hne:∀l x,aF h l=some x->x.dP=true->g.ρ l≠b:=fun l x hx hq e=>by have:=r.own l x hx hq;rw[e,ho]at this;cases this
 refine⟨fun l x hx=>?_,fun l x hx hq=>?_,fun l x hx hq=>?_⟩
 ·have eo:x.dP=true->(w.setRow b row).heap[g.ρ l]?=w.heap[g.ρ l]?:=fun hq=>setRow_other _ _ _ _ (hne l x hx hq)
  cases r.obj l x hx with
  |cells cs vs E' hb' hl hx' h1=>exact .cells cs vs E' ((eo rfl).trans hb') hl (fun j v c q1 q2=>(hx' j v c q1 q2).grow hb hp hrow ho hs (by simp)) h1
  |arr xs vs E' hb' hl hx' h1=>exact .arr xs vs E' ((eo rfl).trans hb') hl (fun j v c q1 q2=>(hx' j v c q1 q2).mono fun _ _ _ hv=>lK hb hp hrow hv) h1
  |bJ gb gvs hgl=>exact gN.lM hgl (fun h1 _ _=>by have hne:gb≠b:=(fun e=>by subst e;rw[ho]at h1;cases h1);exact⟨setRow_other _ _ _ _ hne,by simp[Gh.grow,hne,h1]⟩)
  |store T3 o3 sp3 nx3 z3 M3 hst=>exact .store T3 o3 sp3 nx3 z3 M3 (hst.mono (fun _ _ _ hv=>lK hb hp hrow hv) (fun bb hb2=>by have hne:bb≠b:=(fun e=>by subst e;rw[ho]at hb2;cases hb2);exact⟨by simp[Gh.grow,hne,hb2],setRow_other _ _ _ _ hne,by simp[Gh.grow,hne]⟩) hst.sown)
 ·show(g.grow b p o).own (g.ρ l)=_
  simp[Gh.grow,hne l x hx hq,r.own l x hx hq]
 ·show(g.grow b p o).pre (g.ρ l)=_
  simp[Gh.grow,hne l x hx hq,r.pre l x hx hq]
theorem Ext.grow {g:Gh} {w:World} {b p:Nat} {o o0:bg} {cur row:Array Value} {E:TypeId} (hb:w.heap[b]?=some (.cells cur E (0,0))) (hp:g.pre b<=p)
 (hrow:∀k,k<g.pre b->row[k]?=cur[k]?) (ho:g.own b=some o0) (hsz:row.size=cur.size):Ext g w (g.grow b p o) (w.setRow b row):=by
 refine⟨by rw[setRow_size];exact Nat.le_refl _,rfl,rfl,fun b' k v hv=>lK hb hp hrow hv,fun b' hbb hno=>?_,sJ.of rfl rfl,fun a _=>nh hb a,fun _ _=>rfl,fun b' cs E' hb'=>?_⟩
 ·have e1:b'≠b:=fun eq=>by subst eq;rw[ho]at hno;cases hno
  exact⟨setRow_other _ _ _ _ e1,by simp[Gh.grow,e1],by simp[Gh.grow,e1,hno]⟩
 ·by_cases hbl:b'=b
  ·subst hbl;rw[hb]at hb';cases hb';exact⟨row,E,setRow_heap _ _ _ _ _ _ hb,hsz⟩
  ·exact⟨cs,E',by rw[setRow_other _ _ _ _ hbl];exact hb',rfl⟩
theorem cw.Ek {g:Gh} {w:World} {n:Nat} {a:Act} {e:Env} {h:Heap} (s:cw g w n a e h) {t:Nat} {sz:Nat} {xs:List PV} (ht:aL e t=.so sz xs):cw g w n a ((t,.p (.sl sz xs))::e) h:=by
 refine⟨s.defers,s.size,fun i=>?_,s.heap,s.bnd⟩
 by_cases hi:t=i
 ·subst hi;rw[bA];have:=s.env t;rw[ht]at this;exact this.copy
 ·rw[bO hi];exact s.env i
theorem cw.uN {g:Gh} {w:World} {n:Nat} {a:Act} {e e':Env} {h:Heap} (s:cw g w n a e h) (he:∀i,aL e' i=aL e i):cw g w n a e' h:=
 ⟨s.defers,s.size,fun i=>by rw[he i];exact s.env i,s.heap,s.bnd⟩
theorem A6 {d s:Nat} (hne:d≠s) (x y:AV) (e:Env) (i:Nat):aL ((s,y)::(d,x)::e) i=aL ((d,x)::(s,y)::e) i:=by
 by_cases h1:s=i
 ·subst h1;rw[bA,bO hne,bA]
 ·rw[bO h1]
  by_cases h2:d=i
  ·subst h2;rw[bA,bA]
  ·rw[bO h2,bO h2,bO h1]
theorem wh (hty:bB P ty) {t t2 el el2:TypeId} {j:TI} (hu:P.underlying t=some (.slice el)) (hu2:P.underlying t2=some (.slice el2)) (hj:ty el=some j) (hs0:0<j.size) (hb0:j.bytes≠0)
 {g:Gh} {w:World} {a:Act} {e':Env} {h':Heap} (s:cw g w n a e' h') {d sl:Nat} {ax:Option Addr} {cap:Nat} {xs ys:List PV} {v2:Value} {F2:Nat->Value} {a2:Option Addr} {cap2:Nat}
 (hv2:v2=.slice a2 ys.length cap2) (hF2:E9 (bT g w) a2 j.size ys F2) (hp:bq (bT g w) (.slice ax xs.length cap) (.sl j.size xs))
 (hcap:cap=xs.length\/∃(ad:Addr) (cs:Array Value) (E:TypeId),ax=some ad/\g.own ad.block=some (.slot sl)/\g.pre ad.block=ad.off+xs.length*j.size/\w.heap[ad.block]?=some (.cells cs E (0,0))/\ad.off+cap*j.size<=cs.size)
 (hsl:∀sz zs,aL e' sl≠.so sz zs) (hroom:(xs.length+ys.length)*j.bytes<=140737488355328) (u:TypeId):
 ∃v' g' w',(Builtin.append_ #[t,t2] u #[.slice ax xs.length cap,v2]).run P w=.ok v' w'/\cw g' w' n a e' h'/\Ext g w g' w'/\aH g' w' (aE h') (some (.slot d)) v' (.so j.size (xs++ys)):=by
 obtain⟨inf,z,i1,i2,i3,i4,i5,i6⟩:=(hty el j hj).inf;obtain⟨_,hlc,F,hF⟩:=hp.Ph;subst hv2
 by_cases hfit:xs.length+ys.length<=cap
 ·by_cases hy0:ys=[]
  · -- nothing is appended
   subst hy0;have hy:=eW (P:=P) (len:=0) (cap:=cap2) hF2 rfl;have hrun:=mz hu hu2 i1 i2 (w:=w) (w':=w) (a:=ax) (len:=xs.length) (len2:=0) (cap:=cap) (by simpa using hfit) (by simpa using hy) (fun b hb=>by simp[storeCells]) (fun _=>rfl) u;simp only[List.length_nil,Nat.add_zero,List.append_nil]at hrun ⊢;rcases hcap with rfl|⟨ad,cs,E,rfl,ho,hpre,hb,hsz⟩
   ·exact⟨_,g,w,hrun,s,Ext.refl _ _,.full _ ax j.size xs hs0 hp⟩
   ·refine⟨_,g.relabel ad.block (.slot d),w,hrun,?_,Ext.relabel ho,.own (.slot d) ad cap j.size xs cs E hs0 hp (by simp[Gh.relabel]) hpre hb hsz⟩
    refine⟨s.defers,s.size,fun i=>?_,s.heap.relabel ho,fun b o2 hb2=>?_⟩
    ·by_cases hi:sl=i
     ·subst hi
      have:=s.env sl
      cases hc:aL e' sl with
      |so sz zs=>exact absurd hc (hsl sz zs)
      |_=>rw[hc]at this;exact(this.bW (ow':=none) (fun _ _ q=>by cases q)).relabel (o':=.slot d) ho (by simp) |>.bW (fun _ _ q=>by cases q)
     ·exact(s.env i).relabel ho (by simp;exact fun q=>hi q.symm)
    ·by_cases hbe:b=ad.block
     ·subst hbe;exact s.bnd _ _ ho
     ·simp only[Gh.relabel,if_neg hbe]at hb2;exact s.bnd _ _ hb2
  · -- in place
   have hly:0<ys.length:=List.length_pos_iff.2 hy0;rcases hcap with rfl|⟨ad,cs,E,rfl,ho,hpre,hb,hsz⟩
   ·omega
   ·have hspot:=hp.spot (by omega)
    have hy:=eW (P:=P) (len:=ys.length) (cap:=cap2) hF2 rfl;have hle1:(xs.length+ys.length)*j.size<=cap*j.size:=Nat.mul_le_mul_right _ hfit;have hmul:(xs.length+ys.length)*j.size=xs.length*j.size+ys.length*j.size:=Nat.add_mul _ _ _;have hlen2:((List.range (ys.length*j.size)).map F2).length=ys.length*j.size:=by simp
    have hone2:∀v∈(List.range (ys.length*j.size)).map F2,v.oneCell'=true:=by
     intro v hv;obtain⟨k,hk,rfl⟩:=List.mem_map.1 hv;obtain⟨b2,hb2⟩:=hF2.ad hy0;subst hb2;exact(hF2.all (by simpa using hk)).2
    have hst:=run_storeCells_at (P:=P) ad.block (ad.off+xs.length*j.size) E ((List.range (ys.length*j.size)).map F2) 0 cs w hb (by rw[hlen2];omega) hone2;simp only[Nat.add_zero]at hst;have hrun:=mz hu hu2 i1 i2 (w:=w) (a:=some ad) (cap:=cap) hfit hy (fun b q=>by cases q;rw[Addr.eK hspot];exact hst) (fun q=>by cases q) u;have hsl':=fJ cs.toList ((List.range (ys.length*j.size)).map F2) (ad.off+xs.length*j.size) (by rw[hlen2];simp;omega);have hsg:=jO cs.toList ((List.range (ys.length*j.size)).map F2) (ad.off+xs.length*j.size) (by rw[hlen2];simp;omega);generalize hrow:(cs.toList.take (ad.off+xs.length*j.size)++(List.range (ys.length*j.size)).map F2++cs.toList.drop (ad.off+xs.length*j.size+((List.range (ys.length*j.size)).map F2).length))=row at hst hrun hsl' hsg;have hrows:row.toArray.size=cs.size:=by simpa using hsl'
    have hkeep:∀k,k<g.pre ad.block->row.toArray[k]?=cs[k]?:=by
     intro k hk;rw[hpre]at hk;rw[List.getElem?_toArray,hsg k,if_neg (by omega)];simp
    have hple:g.pre ad.block<=ad.off+(xs.length+ys.length)*j.size:=by rw[hpre];omega
    refine⟨_,g.grow ad.block (ad.off+(xs.length+ys.length)*j.size) (.slot d),w.setRow ad.block row.toArray,hrun,?_,Ext.grow hb hple hkeep ho hrows,?_⟩
    ·refine⟨s.defers,s.size,fun i=>?_,s.heap.grow hb hple hkeep ho hrows,fun b o2 hb2=>?_⟩
     ·by_cases hi:sl=i
      ·subst hi
       have:=s.env sl
       cases hc:aL e' sl with
       |so sz zs=>exact absurd hc (hsl sz zs)
       |_=>rw[hc]at this;exact(((this.bW (ow':=none) (fun _ _ q=>by cases q)).grow hb hple hkeep ho hrows (by simp))).bW (fun _ _ q=>by cases q)
      ·exact(s.env i).grow hb hple hkeep ho hrows (by simp;exact fun q=>hi q.symm)
     ·rw[setRow_size]
      by_cases hbe:b=ad.block
      ·subst hbe;exact s.bnd _ _ ho
      ·simp only[Gh.grow,if_neg hbe]at hb2;exact s.bnd _ _ hb2
    ·have himm:∀k,k<(xs.length+ys.length)*j.size->bT (g.grow ad.block (ad.off+(xs.length+ys.length)*j.size) (.slot d)) (w.setRow ad.block row.toArray) ad.block (ad.off+k)=row[ad.off+k]?:=by
      intro k hk;simp only[cO];simp only[Gh.grow,if_true];rw[if_pos (by omega),dB (setRow_heap _ _ _ _ _ _ hb)];simp
     have hS:E9 (bT (g.grow ad.block (ad.off+(xs.length+ys.length)*j.size) (.slot d)) (w.setRow ad.block row.toArray)) (some ad) j.size (xs++ys) (fun k=>if k<xs.length*j.size then F k else F2 (k-xs.length*j.size)):=by
      refine⟨fun x hx=>?_,fun _=>⟨ad,rfl⟩,fun b q _=>by cases q;exact hspot,fun b jj x i y q hx hi=>?_⟩
      ·rcases List.mem_append.1 hx with hx|hx
       ·exact hF.hz x hx
       ·exact hF2.hz x hx
      ·cases q
       by_cases hjj:jj<xs.length
       ·rw[List.getElem?_append_left hjj]at hx
        have hi':i<j.size:=by have:=(List.getElem?_eq_some_iff.1 hi).1;have:=hF.hz x (List.mem_of_getElem? hx);omega
        have hk:jj*j.size+i<xs.length*j.size:=by
         have:(jj+1)*j.size<=xs.length*j.size:=Nat.mul_le_mul_right _ hjj;rw[Nat.add_mul]at this;omega
        obtain⟨q1,q2,q3⟩:=hF.cell ad jj x i y rfl hx hi;simp only[if_pos hk];exact⟨lK hb hple hkeep q1,q2,q3.mono fun _ _ _ hv=>lK hb hple hkeep hv⟩
       ·have hjj:xs.length<=jj:=by omega
        rw[List.getElem?_append_right hjj]at hx;have hi':i<j.size:=by have:=(List.getElem?_eq_some_iff.1 hi).1;have:=hF2.hz x (List.mem_of_getElem? hx);omega
        have hjl:jj-xs.length<ys.length:=(List.getElem?_eq_some_iff.1 hx).1;have ek:jj*j.size=(jj-xs.length)*j.size+xs.length*j.size:=by rw[<-Nat.add_mul];congr 1;omega
        have hk2:(jj-xs.length)*j.size+i<ys.length*j.size:=by
         have:(jj-xs.length+1)*j.size<=ys.length*j.size:=Nat.mul_le_mul_right _ hjl;rw[Nat.add_mul]at this;omega
        obtain⟨b2,hb2⟩:=hF2.ad hy0;subst hb2;obtain⟨q1,q2,q3⟩:=hF2.cell b2 (jj-xs.length) x i y rfl hx hi;have hnk:¬jj*j.size+i<xs.length*j.size:=by omega
        have ekk:jj*j.size+i-xs.length*j.size=(jj-xs.length)*j.size+i:=by omega
        simp only[if_neg hnk,ekk];refine⟨?_,q2,q3.mono fun _ _ _ hv=>lK hb hple hkeep hv⟩;rw[himm _ (by omega),hsg,if_pos (by rw[hlen2];omega)];rw[show ad.off+(jj*j.size+i)-(ad.off+xs.length*j.size)=(jj-xs.length)*j.size+i by omega];simp[hk2]
     have hpp:=hS.Ok (cap:=cap) (by simpa using hfit) (fun _=>hspot);have:=aH.own (g:=g.grow ad.block (ad.off+(xs.length+ys.length)*j.size) (.slot d)) (w:=w.setRow ad.block row.toArray) (dom:=aE h') (.slot d) ad cap j.size (xs++ys) row.toArray E hs0 hpp (by simp[Gh.grow]) (by simp[Gh.grow]) (setRow_heap _ _ _ _ _ _ hb) (by rw[hrows];exact hsz);simpa using this
 · -- a new block
  have hfit':cap<xs.length+ys.length:=by omega
  have sd:∀k,cw g { w with drawn:=k } n a e' h':=fun k=>s.drew;have hxc:∀k,(Builtin.firstCells j.size xs.length (.slice ax xs.length cap)).run P { w with drawn:=k }=.ok ((List.range (xs.length*j.size)).map F).toArray { w with drawn:=k }:=fun k=>eW (g:=g) (w:={ w with drawn:=k }) hF rfl;have hy:∀k,(Builtin.firstCells j.size ys.length (.slice a2 ys.length cap2)).run P { w with drawn:=k }=.ok ((List.range (ys.length*j.size)).map F2).toArray { w with drawn:=k }:=fun k=>eW (g:=g) (w:={ w with drawn:=k }) hF2 rfl;obtain⟨c,hc,hrun⟩:=run_append_grow hu hu2 i1 i2 i4 hfit' hlc hxc hy (by rw[i3];exact hroom) (by rw[i3];exact hb0) u;generalize hcells:((List.range (xs.length*j.size)).map F).toArray++((List.range (ys.length*j.size)).map F2).toArray++Builtin.zeroCells z.cells (c-(xs.length+ys.length))=row at hrun;have hmul:(xs.length+ys.length)*j.size=xs.length*j.size+ys.length*j.size:=Nat.add_mul _ _ _;have hzs:z.cells.size=j.size:=by rw[<-i6,<-i5];simp
  have hsize:row.size=c*j.size:=by
   rw[<-hcells];simp only[Array.size_append,List.size_toArray,List.length_map,List.length_range,pU,hzs];rw[<-hmul,<-Nat.add_mul];congr 1;omega
  have hrow1:∀k,k<xs.length*j.size->row[k]?=some (F k):=by
   intro k hk;rw[<-hcells,Array.append_assoc,Array.getElem?_append_left (by simpa using hk)];simp[hk]
  have hrow2:∀k,k<ys.length*j.size->row[xs.length*j.size+k]?=some (F2 k):=by
   intro k hk;rw[<-hcells,Array.getElem?_append_left (by simp;omega),Array.getElem?_append_right (by simp)];simp[hk]
  have hext:Ext g w (g.new w.heap.size ((xs.length+ys.length)*j.size) (some (.slot d))) (World.push { w with drawn:=w.drawn+1 } (.cells row el (0,0))):=
   (Ext.drew (k:=w.drawn+1)).trans (Ext.push (w:={ w with drawn:=w.drawn+1 }) (fun b hb=>by simp[Gh.new,Nat.ne_of_lt (show b<w.heap.size from hb)]) (fun a=>gA a) (fun _ _=>rfl))
  have hS:E9 (bT (g.new w.heap.size ((xs.length+ys.length)*j.size) (some (.slot d))) (World.push { w with drawn:=w.drawn+1 } (.cells row el (0,0)))) (some ⟨w.heap.size,0,none⟩) j.size (xs++ys) (fun k=>if k<xs.length*j.size then F k else F2 (k-xs.length*j.size)):=by
   have himm:∀k,k<(xs.length+ys.length)*j.size->bT (g.new w.heap.size ((xs.length+ys.length)*j.size) (some (.slot d))) (World.push { w with drawn:=w.drawn+1 } (.cells row el (0,0))) w.heap.size (0+k)=row[k]?:=by
    intro k hk;simp only[cO];simp only[Gh.new,if_true,Nat.zero_add];rw[if_pos hk,dB (eJ (w:={ w with drawn:=w.drawn+1 }))]
   refine⟨fun x hx=>?_,fun _=>⟨_,rfl⟩,fun b q _=>by cases q;rfl,fun b jj x i y q hx hi=>?_⟩
   ·rcases List.mem_append.1 hx with hx|hx
    ·exact hF.hz x hx
    ·exact hF2.hz x hx
   ·cases q
    by_cases hjj:jj<xs.length
    ·rw[List.getElem?_append_left hjj]at hx
     have hi':i<j.size:=by have:=(List.getElem?_eq_some_iff.1 hi).1;have:=hF.hz x (List.mem_of_getElem? hx);omega
     have hk:jj*j.size+i<xs.length*j.size:=by
      have:(jj+1)*j.size<=xs.length*j.size:=Nat.mul_le_mul_right _ hjj;rw[Nat.add_mul]at this;omega
     obtain⟨ad,had⟩:=hF.ad (fun q=>by subst q;simp at hjj);subst had;obtain⟨q1,q2,q3⟩:=hF.cell ad jj x i y rfl hx hi;simp only[if_pos hk];refine⟨by rw[himm _ (by omega)];exact hrow1 _ hk,q2,q3.mono fun _ _ _ hv=>hext.bT _ _ _ hv⟩
    ·have hjj:xs.length<=jj:=by omega
     rw[List.getElem?_append_right hjj]at hx;have hi':i<j.size:=by have:=(List.getElem?_eq_some_iff.1 hi).1;have:=hF2.hz x (List.mem_of_getElem? hx);omega
     have hjl:jj-xs.length<ys.length:=(List.getElem?_eq_some_iff.1 hx).1;have ek:jj*j.size=(jj-xs.length)*j.size+xs.length*j.size:=by rw[<-Nat.add_mul];congr 1;omega
     have hk2:(jj-xs.length)*j.size+i<ys.length*j.size:=by
      have:(jj-xs.length+1)*j.size<=ys.length*j.size:=Nat.mul_le_mul_right _ hjl;rw[Nat.add_mul]at this;omega
     obtain⟨b2,hb2⟩:=hF2.ad (fun q=>by subst q;simp at hjl);subst hb2;obtain⟨q1,q2,q3⟩:=hF2.cell b2 (jj-xs.length) x i y rfl hx hi;have hnk:¬jj*j.size+i<xs.length*j.size:=by omega
     have ekk:jj*j.size+i-xs.length*j.size=(jj-xs.length)*j.size+i:=by omega
     simp only[if_neg hnk,ekk];refine⟨?_,q2,q3.mono fun _ _ _ hv=>hext.bT _ _ _ hv⟩;rw[himm _ (by omega),show jj*j.size+i=xs.length*j.size+((jj-xs.length)*j.size+i) by omega];exact hrow2 _ hk2
  refine⟨_,g.new w.heap.size ((xs.length+ys.length)*j.size) (some (.slot d)),_,hrun,(sd (w.drawn+1)).xg _ _ _,hext,?_⟩;have hpp:=hS.Ok (cap:=c) (by simpa using hc) (fun _=>rfl)
  have:=aH.own (g:=g.new w.heap.size ((xs.length+ys.length)*j.size) (some (.slot d))) (w:=World.push { w with drawn:=w.drawn+1 } (.cells row el (0,0))) (dom:=aE h') (.slot d) ⟨w.heap.size,0,none⟩ c j.size (xs++ys) row el hs0 hpp
   (by simp[Gh.new]) (by simp[Gh.new]) (eJ (w:={ w with drawn:=w.drawn+1 })) (by simp only[Nat.zero_add];rw[hsize];exact Nat.le_refl _)
  simpa using this
theorem Dc {M:Mm} {sz:Nat} {xs ys:List PV} {F F2:Nat->Value} {row:Array Value}
 (h1:∀(j:Nat) (x:PV) (i:Nat) (y:PV),xs[j]?=some x->x.cells[i]?=some y->row[j*sz+i]?=some (F (j*sz+i))/\(F (j*sz+i)).oneCell'=true/\bq M (F (j*sz+i)) y)
 (h2:∀(j:Nat) (x:PV) (i:Nat) (y:PV),ys[j]?=some x->x.cells[i]?=some y->row[xs.length*sz+(j*sz+i)]?=some (F2 (j*sz+i))/\(F2 (j*sz+i)).oneCell'=true/\bq M (F2 (j*sz+i)) y):
 ∀(j:Nat) (x:PV),(xs++ys)[j]?=some x->∀(i:Nat) (y:PV),x.cells[i]?=some y->∃v,row[j*sz+i]?=some v/\v.oneCell'=true/\bq M v y:=by
 intro j x hx i y hi
 by_cases hj:j<xs.length
 ·rw[List.getElem?_append_left hj]at hx
  exact⟨_,h1 j x i y hx hi⟩
 ·rw[List.getElem?_append_right (by omega)]at hx
  have:=h2 (j-xs.length) x i y hx hi;rw[show xs.length*sz+((j-xs.length)*sz+i)=j*sz+i by rw[<-Nat.add_assoc,<-Nat.add_mul];congr 2;omega]at this;exact⟨_,this⟩
theorem cw.Cb {g:Gh} {w:World} {n:Nat} {a:Act} {e:Env} {h h2:Heap} (s:cw g w n a e h) (hh:∀l,aF h2 l=aF h l):cw g w n a e h2:=by
 have hd:∀k,aE h k->aE h2 k:=fun k hk=>by unfold aE at hk ⊢;rw[hh k];exact hk
 refine⟨s.defers,s.size,fun i=>(s.env i).rH hd,⟨fun l x hx=>?_,fun l x hx=>s.heap.own l x (by rw[<-hh l];exact hx),fun l x hx=>s.heap.pre l x (by rw[<-hh l];exact hx)⟩,s.bnd⟩;rw[hh l]at hx
 cases s.heap.obj l x hx with
 |cells cs vs E hb hl hx' h1=>exact .cells cs vs E hb hl (fun j v c q1 q2=>(hx' j v c q1 q2).rH hd) h1
 |arr xs vs E hb hl hx' h1=>exact .arr xs vs E hb hl hx' h1
 |bJ gb gvs hgl=>exact .bJ gb gvs hgl
 |store T3 o3 sp3 nx3 z3 M3 hst=>exact .store T3 o3 sp3 nx3 z3 M3 hst
theorem Ai (hty:bB P ty) (hd:∀d,o.dst=some d->d<n) {x y:Operand} {t t2:Nat} (ho:o.op=.call { callee:=.builtin .append,args:=⟨[x,y]⟩,argTypes:=⟨[t,t2]⟩ })
 (hk:tB ty o e h t t2 x (ev e y) K):∃f,K f/\cJ P n o e h f:=by
 have m1:x∈o.op.operands:=by simp[ho,Op.operands,Call.operands]
 have m2:y∈o.op.operands:=by simp[ho,Op.operands,Call.operands]
 have hrun:∀(a:Act) (w w':World) (v:Value),(∀u,(Builtin.append_ #[t,t2] u #[a.eval x,a.eval y]).run P w=.ok v w')->(execOp a.eval o).run P w=.ok (.value v) w':=by
  intro a w w' v hl;obtain⟨cs,hcs⟩:=cm (P:=P) ho a w;rw[hcs];simp only[builtin,List.map_cons,List.map_nil,Sem.run_bind];rw[hl];rfl
 unfold tB at hk;split at hk
 ·rename_i i hi ht2
  obtain⟨el2,hu2⟩:=jW hty ht2;split at hk
  ·rename_i el hde
   have hu:=(hty t i hi).und;rw[hde]at hu;split at hk
   ·rename_i j hj
    split at hk
    ·rename_i ys d hnz hys hdd
     have hnz:j.size*j.bytes≠0:=fun q=>by rw[q]at hnz;cases hnz
     have hs0:0<j.size:=Nat.pos_of_ne_zero fun q=>hnz (by rw[q,Nat.zero_mul]);have hb0:j.bytes≠0:=fun q=>hnz (by rw[q,Nat.mul_zero]);split at hk
     ·rename_i x _ _ hx
      obtain⟨hroom,hk⟩:=hk;refine⟨_,hk,fun e' h' he _ g w a s=>?_⟩;obtain⟨_,r1⟩:=s.cR he m1 hx;obtain⟨_,r2⟩:=s.cR he m2 rfl;obtain⟨a2,cap2,F2,hv2,hF2⟩:=xd r2 hys;generalize hv:a.eval x=v at r1
      cases r1 with
      |cx=>
       have key:∀u,∃v' g' w',(Builtin.append_ #[t,t2] u #[.slice none ([]:List PV).length 0,a.eval y]).run P w=.ok v' w'/\cw g' w' n a e' h'/\Ext g w g' w'/\aH g' w' (aE h') (some (.slot d)) v' (.so j.size ([]++ys)):=fun u=>
        wh hty hu hu2 hj hs0 hb0 s (sl:=n) hv2 hF2 (.nil j.size) (.inl rfl) (fun sz zs q=>by
         have:=s.env n;rw[q,show a.tmps.getD n undef=undef by simp[s.size]]at this
         cases this) (by simpa using hroom) u
       obtain⟨v',g',w',q1,q2,q3,q4⟩:=key o.type;refine Oper.cp (v:=v') (w':=w') ?_ ⟨g',?_,q3⟩
       ·obtain⟨cs,hcs⟩:=cm (P:=P) ho a w
        rw[hcs];simp only[builtin,List.map_cons,List.map_nil,Sem.run_bind,hv];simp only[List.length_nil]at q1;rw[q1];rfl
       ·rw[hdd];simpa using q2.put (hd d hdd) q4
     ·rename_i sz xs st hx
      split at hk
      ·rename_i hsz hne
       obtain rfl:sz=j.size:=Nat.eq_of_beq_eq_true hsz;have hne:d≠st:=fun q=>by rw[q,mj]at hne;cases hne
       obtain⟨hroom,hk⟩:=hk;refine⟨_,hk,fun e' h' he _ g w a s=>?_⟩;have hslot:st∈slotsOf o:=by simp[slotsOf,ho,Op.operands,Call.operands]
       have hst:aL e' st=.so j.size xs:=by rw[he st hslot];exact hx
       have r1:=s.env st;rw[hst]at r1;obtain⟨_,r2⟩:=s.cR he m2 rfl;obtain⟨a2,cap2,F2,hv2,hF2⟩:=xd r2 hys;have s1:=s.Ek hst
       have core:∀ax cap,a.eval (.tmp st)=.slice ax xs.length cap->bq (bT g w) (.slice ax xs.length cap) (.sl j.size xs)->
        (cap=xs.length\/∃(ad:Addr) (cs:Array Value) (E:TypeId),ax=some ad/\g.own ad.block=some (.slot st)/\g.pre ad.block=ad.off+xs.length*j.size/\w.heap[ad.block]?=some (.cells cs E (0,0))/\ad.off+cap*j.size<=cs.size)->
        o.wp P a w (fun a' w'=>∃g',cw g' w' n a' ([(d,AV.so j.size (xs++ys)),(st,AV.p (.sl j.size xs))].reverse++e') (([]:Heap).reverse++h')/\Ext g w g' w') (fun _ _ _=>False):=by
        intro ax cap hv hp hcap;obtain⟨v',g',w',q1,q2,q3,q4⟩:=wh hty hu hu2 hj hs0 hb0 s1 (d:=d) (sl:=st) hv2 hF2 hp hcap (fun sz zs q=>by rw[bA]at q;cases q) hroom o.type;refine Oper.cp (v:=v') (w':=w') ?_ ⟨g',?_,q3⟩
        ·obtain⟨cs,hcs⟩:=cm (P:=P) ho a w
         rw[hcs];simp only[builtin,List.map_cons,List.map_nil,Sem.run_bind,hv];rw[q1];rfl
        ·rw[hdd]
         exact(q2.put (hd d hdd) q4).uN (fun i=>by simp only[List.reverse_cons,List.reverse_nil,List.nil_append,List.cons_append];exact A6 hne _ _ _ i)
       generalize hval:a.tmps.getD st undef=u at r1
       cases r1 with
       |full _ ad _ _ hz hp=>exact core ad xs.length hval hp (.inl rfl)
       |own _ ad cap _ _ cs E hz hp how hpre hb hs=>exact core (some ad) cap hval hp (.inr ⟨ad,cs,E,rfl,how,hpre,hb,hs⟩)
      ·exact hk.elim
     ·exact hk.elim
    ·exact hk.elim
   ·exact hk.elim
  ·exact hk.elim
 ·exact hk.elim
end
end Go.AM
