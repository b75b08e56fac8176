/- Part of a machine over plain values. No conditions. -/
import Derived.Test.YtldppkdekklpkaaGreatDoorAMSnd6
import Derived.Laws.Tables
import Derived.Great.FillDense
import Derived.Great.BuildSlice
set_option linter.all false
section
namespace Go.AM
section
variable {P:Program} {ty:Nat→Option TI} {n:Nat} {o:Oper} {e:Env} {h:Heap} {K:AK}
theorem constAVs_get:∀(vs:List Value) (j:Nat),(constAVs vs)[j]?=(vs[j]?).map constAV
 | [],j=>by simp[constAVs]
 |x::r,0=>by simp[constAVs]
 |x::r,j+1=>by simp[constAVs,constAVs_get r j]
theorem constAVs_length (vs:List Value):(constAVs vs).length=vs.length:=by
 induction vs with
 |nil=>rfl
 |cons x r ih=>simp[constAVs,ih]
theorem newObj_push {w:World} {ob:Obj}:(newObj ob).run P w=.ok w.heap.size (World.push w ob):=rfl
theorem newVar_sound {t:TypeId} {cs:List AV} {d:Nat} (hd:d<n) (hfr:freshId h d=true)
 (hdst:o.dst=some d) (hrun:∀(a:Act) (w:World) (e':Env) (h':Heap) (g:Gh),(∀t∈slotsOf o,eget e' t=eget e t)→Sim g w n a e' h'→
   ∃vs:Array Value,(execOp a.eval o).run P w=.ok (.value (.pointer (some ⟨w.heap.size,0,none⟩))) (World.push w (.cells vs t (0,0)))∧vs.size=cs.length∧(∀v∈vs.toList,v.oneCell'=true)∧
    ∀(j:Nat) (v:Value) (c:AV),vs[j]?=some v→cs[j]?=some c→VRel g w (domOf h') (some (.cell d j)) v c)
 (hk:K ⟨[],[(d,.ptr d 0)],[(d,.cells cs)]⟩):∃f,K f∧OpOK P n o e h f:=by
 obtain⟨hrd,hdb⟩:=freshId_spec hfr;refine⟨_,hk,fun e' h' he hl g w a s=>?_⟩;have hl0:hget h' d=none:=by rw[hl d (by simp)];exact hrd
 obtain⟨vs,hr,hlen,h1,hx⟩:=hrun a w e' h' g he s;refine Oper.wp_value hr ⟨g.newObj w.heap.size d,?_,Ext.push (fun b hb=>by simp[Gh.newObj,Nat.ne_of_lt hb]) (fun a=>frozen_push a) (fun l hl=>newObj_ρ hdb l hl)⟩;rw[hdst];simp only[List.reverse_cons,List.reverse_nil,List.nil_append,List.cons_append];have s':=s.pushObj hl0 (.cells vs t (0,0)) (.cells cs) (fun dom' hdm up=>.cells cs vs t (by simp[Gh.newObj,push_new]) hlen (fun j v c q1 q2=>up (hx j v c q1 q2)) h1)
 have hv:VRel (g.newObj w.heap.size d) (World.push w (.cells vs t (0,0))) (domOf ((d,AObj.cells cs)::h')) (some (.slot d)) (.pointer (some ⟨w.heap.size,0,none⟩)) (.ptr d 0):=by
  have:w.heap.size=(g.newObj w.heap.size d).ρ d:=by simp[Gh.newObj]
  conv=>arg 5;rw[this]
  exact .ptr _ _ _ (by simp[domOf,hget_self])
 exact s'.put hd hv
theorem newBld_sound {t el:Nat} {d:Nat} (hd:d<n) (hfr:freshId h d=true)
 (hdst:o.dst=some d) (hrun:∀(a:Act) (w:World),(execOp a.eval o).run P w=.ok (.value (.pointer (some ⟨w.heap.size,0,none⟩))) (World.push w (.cells #[.pointer none,.slice none 0 0] t (0,0))))
 (hk:K ⟨[],[(d,.ptr d 0)],[(d,.bld t el [])]⟩):∃f,K f∧OpOK P n o e h f:=by
 obtain⟨hrd,hdb⟩:=freshId_spec hfr;refine⟨_,hk,fun e' h' he hl g w a s=>?_⟩;have hl0:hget h' d=none:=by rw[hl d (by simp)];exact hrd
 refine Oper.wp_value (hrun a w) ⟨g.newObj w.heap.size d,?_,Ext.push (fun b hb=>by simp[Gh.newObj,Nat.ne_of_lt hb]) (fun a=>frozen_push a) (fun l hl=>newObj_ρ hdb l hl)⟩;rw[hdst];simp only[List.reverse_cons,List.reverse_nil,List.nil_append,List.cons_append];have s':=s.pushObj hl0 (.cells #[.pointer none,.slice none 0 0] t (0,0)) (.bld t el []) (fun dom' hdm up=>.bld t el [] ⟨.pointer none,.slice none 0 0,by simp[Gh.newObj,push_new],.inl rfl,.inl ⟨rfl,rfl⟩⟩)
 have hv:VRel (g.newObj w.heap.size d) (World.push w (.cells #[.pointer none,.slice none 0 0] t (0,0))) (domOf ((d,AObj.bld t el [])::h')) (some (.slot d)) (.pointer (some ⟨w.heap.size,0,none⟩)) (.ptr d 0):=by
  have:w.heap.size=(g.newObj w.heap.size d).ρ d:=by simp[Gh.newObj]
  conv=>arg 5;rw[this]
  exact .ptr _ _ _ (by simp[domOf,hget_self])
 exact s'.put hd hv
theorem bldE_zero {i:TI} {el:Nat} (h:bldE ty i=some el):i.zero=[.pointer none,.slice none 0 0]:=by
 unfold bldE at h;split at h
 ·rename_i hz;exact hz
 ·cases h
theorem aAlloc_sound (hty:TyOK P ty) (hd:∀d,o.dst=some d→d<n) {t:Nat} (ho:o.op=.alloc t)
 (hk:match ty t,o.dst with
 |some i,some d=>match freshId h d with
  |true=>match i.stk.contains d with
   |false=>K ⟨[],[(d,.ptr d 0)],[(d,.cells (constAVs i.zero))]⟩
   |true=>match bldE ty i with
    |some el=>K ⟨[],[(d,.ptr d 0)],[(d,.bld t el [])]⟩
    |none=>AStuck "alloc"
  |false=>AStuck "alloc"
 |_,_=>AStuck "alloc"):∃f,K f∧OpOK P n o e h f:=by
 split at hk
 ·rename_i i d hi hdd
  split at hk
  ·rename_i hnone
   split at hk
   ·refine newVar_sound (t:=t) (hd d hdd) hnone hdd (fun a w e' h' g he s=>?_) hk
    obtain⟨inf,z,h1,h2,h3,h4,h5,h6⟩:=(hty t i hi).inf;refine⟨z.cells,?_,?_,?_,fun j v c hv hc=>?_⟩
    ·simp[execOp,ho,Instr.alloc,zeroValue,typeInfo,h1,h4,newVar,newRow]
     rfl
    ·rw[constAVs_length,←h5];simp
    ·rw[h5];exact(hty t i hi).one
    ·rw[constAVs_get,←h5]at hc
     have:z.cells.toList[j]?=some v:=by simpa using hv
     rw[this]at hc;simp at hc;subst hc;exact constAV_rel v
   ·split at hk
    ·rename_i el hel
     have hz:=bldE_zero hel;refine newBld_sound (t:=t) (hd d hdd) hnone hdd (fun a w=>?_) hk;obtain⟨inf,z,h1,h2,h3,h4,h5,h6⟩:=(hty t i hi).inf
     have hzc:z.cells=#[.pointer none,.slice none 0 0]:=by
      rw[hz]at h5;have:z.cells.toList=[Value.pointer none,Value.slice none 0 0]:=h5;rw[←Array.toArray_toList (xs:=z.cells),this]
     simp[execOp,ho,Instr.alloc,zeroValue,typeInfo,h1,h4,newVar,newRow,hzc];rfl
    ·exact hk.elim
  ·exact hk.elim
 ·exact hk.elim
theorem aBox_sound (hd:∀d,o.dst=some d→d<n) {t:Nat} {x:Operand} (ho:o.op=.box t x)
 (hk:match o.dst with
 |some d=>match freshId h d with
  |true=>match (ev e x).copy.cells? with
   |some cs=>K ⟨[],[(d,.ptr d 0)],[(d,.cells cs)]⟩
   |none=>AStuck "box"
  |false=>AStuck "box"
 |_=>AStuck "box"):∃f,K f∧OpOK P n o e h f:=by
 have m1:x∈o.op.operands:=by simp[ho,Op.operands]
 split at hk
 ·rename_i d hdd
  split at hk
  ·rename_i hnone
   split at hk
   ·rename_i cs hcs
    refine newVar_sound (t:=t) (hd d hdd) hnone hdd (fun a w e' h' g he s=>?_) hk;obtain⟨_,r⟩:=s.evo he m1 rfl;have r:=r.copy (ow':=none);obtain⟨c1,c2,c3⟩:=cells?_rel r hcs;refine⟨(a.eval x).cells,?_,by simpa using c1,c2,fun j v c hv hc=>?_⟩
    ·simp[execOp,ho,Instr.box,newVar,newRow]
     rfl
    ·rcases c3 j v c (by simpa using hv) hc with⟨_,_,hvv,hcc⟩|r'
     ·rw[hvv,hcc]
      exact r.copy (ow':=some (.cell d j))|>fun q=>by
       have:(ev e x).copy.copy=(ev e x).copy:=by cases ev e x<;>rfl
       rw[this]at q;exact q
     ·have:∀sz xs,c=.so sz xs→VRel g w (domOf h') (some (.cell d j)) v c:=by
       intro sz xs eq;subst eq
       cases r' with
       |full _ ad _ _ hz hp=>exact .full _ ad sz xs hz hp
      cases c with
      |so sz xs=>exact this sz xs rfl
      |_=>exact r'.anyOwner (fun _ _ eq=>by cases eq)
   ·exact hk.elim
  ·exact hk.elim
 ·exact hk.elim
theorem fill_place {g:Gh} {w:World} {dom:Nat→Prop} (offs:Nat→Option (Nat×Nat)):∀(ps:List (Nat×AV)) (qs:List (Nat×Value)) (cs:List AV) (cells:Array Value) (cs':List AV),
 place offs cs ps=some cs'→qs.length=ps.length→(∀(j:Nat) (p:Nat×AV) (q:Nat×Value),ps[j]?=some p→qs[j]?=some q→q.1=p.1∧VRel g w dom none q.2 p.2)→
 cells.size=cs.length→(∀v∈cells.toList,v.oneCell'=true)→(∀(j:Nat) (v:Value) (c:AV),cells[j]?=some v→cs[j]?=some c→VRel g w dom none v c)→
 ∃cells',Instr.fill offs cells qs=some cells'∧cells'.size=cs'.length∧(∀v∈cells'.toList,v.oneCell'=true)∧∀(j:Nat) (v:Value) (c:AV),cells'[j]?=some v→cs'[j]?=some c→VRel g w dom none v c
 | [],qs,cs,cells,cs',h,hl,hr,h0,h1,h2=>by
   have:qs=[]:=List.eq_nil_of_length_eq_zero hl;subst this;simp only[place,Option.some.injEq]at h;subst h;exact⟨cells,rfl,h0,h1,h2⟩
 |(i,x)::ps,[],cs,cells,cs',h,hl,hr,h0,h1,h2=>by simp at hl
 |(i,x)::ps,(i',v)::qs,cs,cells,cs',h,hl,hr,h0,h1,h2=>by
  obtain⟨hii,hv⟩:=hr 0 (i,x) (i',v) rfl rfl;simp only at hii hv;subst hii;simp only[place]at h;split at h
  ·rename_i off sz hoff
   split at h
   ·rename_i ys hys
    split at h
    ·rename_i cs1 hsz hs0 hset
     have hsz:ys.length=sz:=Nat.eq_of_beq_eq_true hsz;have hs0:sz≠0:=fun eq=>by rw[eq]at hs0;cases hs0
     obtain⟨q1,q2,q3⟩:=setAt_spec _ _ _ _ hset;have q2:=q2 (fun eq=>by rw[eq]at hsz;exact hs0 hsz.symm);obtain⟨c1,c2,c3⟩:=cells?_rel hv hys;have hcl:v.cells.size=v.cells.toList.length:=by simp
     have hle2:¬(v.cells.size≠sz||decide (off+v.cells.size>cells.size))=true:=by
      simp only[Bool.or_eq_true,decide_eq_true_eq,not_or];exact⟨by omega,by omega⟩
     obtain⟨g1,g2⟩:=Great.foldl_set off v.cells.toList 0 cells
     have hfold:v.cells.zipIdx.foldl (fun cs (x:Value×Nat)=>cs.setIfInBounds (off+x.2) x.1) cells=(v.cells.toList.zipIdx 0).foldl (fun cs (x:Value×Nat)=>cs.setIfInBounds (off+x.2) x.1) cells:=by
      rw[←Array.foldl_toList];simp
     have key:∀k,((v.cells.toList.zipIdx 0).foldl (fun cs (x:Value×Nat)=>cs.setIfInBounds (off+x.2) x.1) cells)[k]?=if off≤k∧k<off+v.cells.toList.length then v.cells.toList[k-off]? else cells[k]?:=by
      intro k;rw[g2 k]
      by_cases hk:off≤k∧k<off+v.cells.toList.length
      ·rw[if_pos (by omega),if_pos hk];rfl
      ·rw[if_neg (by omega),if_neg hk]
     have hone:∀u∈((v.cells.toList.zipIdx 0).foldl (fun cs (x:Value×Nat)=>cs.setIfInBounds (off+x.2) x.1) cells).toList,u.oneCell'=true:=by
      intro u hu;obtain⟨j,hj⟩:=List.getElem?_of_mem hu;rw[Array.getElem?_toList,key j]at hj;split at hj
      ·exact c2 u (List.mem_of_getElem? hj)
      ·exact h1 u (by rw[←Array.getElem?_toList]at hj;exact List.mem_of_getElem? hj)
     have hrel:∀(j:Nat) (u:Value) (c:AV),((v.cells.toList.zipIdx 0).foldl (fun cs (x:Value×Nat)=>cs.setIfInBounds (off+x.2) x.1) cells)[j]?=some u→cs1[j]?=some c→VRel g w dom none u c:=by
      intro j u c hu hc;rw[key j]at hu;rw[q3 j]at hc
      by_cases hj:off≤j∧j<off+v.cells.toList.length
      ·rw[if_pos hj]at hu
       rw[if_pos (by omega)]at hc;rcases c3 _ _ _ hu hc with⟨_,_,hvv,hcc⟩|r
       ·rw[hvv,hcc];exact hv
       ·exact r
      ·rw[if_neg hj]at hu
       rw[if_neg (by omega)]at hc;exact h2 j u c hu hc
     obtain⟨cells',k1,k2,k3,k4⟩:=fill_place (g:=g) (w:=w) (dom:=dom) offs ps qs cs1 ((v.cells.toList.zipIdx 0).foldl (fun cs (x:Value×Nat)=>cs.setIfInBounds (off+x.2) x.1) cells) cs' h (by simpa using hl)
      (fun j p q hp hq=>hr (j+1) p q (by simpa using hp) (by simpa using hq)) (by rw[g1,h0,q1]) hone hrel
     refine⟨cells',?_,k2,k3,k4⟩;unfold Instr.fill;simp only[hoff];rw[if_neg hle2,←k1,←hfold]
    ·cases h
   ·cases h
  ·cases h
theorem evParts_get (e:Env):∀(xs:List (Nat×Operand)) (j:Nat),(evParts e xs)[j]?=(xs[j]?).map fun x=>(x.1,(ev e x.2).copy)
 | [],j=>by simp[evParts]
 |(i,x)::r,0=>by simp[evParts]
 |(i,x)::r,j+1=>by simp[evParts,evParts_get e r j]
theorem evParts_length (e:Env) (xs:List (Nat×Operand)):(evParts e xs).length=xs.length:=by
 induction xs with
 |nil=>rfl
 |cons x r ih=>obtain⟨i,x⟩:=x;simp[evParts,ih]
theorem mapM_get {α β:Type} (f:α→Option β):∀(l:List α) (r:List β),l.mapM f=some r→∀(j:Nat) (a:α),l[j]?=some a→∃b,f a=some b∧r[j]?=some b
 | [],r,h,j,a,hj=>by simp at hj
 |x::l,r,h,j,a,hj=>by
  simp only[List.mapM_cons,Option.bind_eq_bind,Option.pure_def]at h
  cases hx:f x with
  |none=>simp[hx]at h
  |some y=>
   cases hr:l.mapM f with
   |none=>simp[hx,hr]at h
   |some r1=>
    simp[hx,hr]at h;subst h
    cases j with
    |zero=>simp at hj;subst hj;exact⟨y,hx,rfl⟩
    |succ j=>simp at hj ⊢;exact mapM_get f l r1 hr j a hj
theorem fill_congr (f f':Nat→Option (Nat×Nat)):∀(ps:List (Nat×Value)) (cells:Array Value),(∀p∈ps,f p.1=f' p.1)→Instr.fill f cells ps=Instr.fill f' cells ps
 | [],_,_=>by simp[Instr.fill]
 |(i,v)::r,cells,h=>by
  have h0:=h (i,v) (by simp);simp only at h0;unfold Instr.fill;rw[h0]
  cases f' i with
  |none=>rfl
  |some x=>
   obtain⟨off,sz⟩:=x;simp only;split
   ·rfl
   ·exact fill_congr f f' r _ (fun p hp=>h p (by simp[hp]))
theorem place_offs (offs:Nat→Option (Nat×Nat)):∀(ps:List (Nat×AV)) (cs cs':List AV),place offs cs ps=some cs'→∀p∈ps,∃q,offs p.1=some q
 | [],_,_,_,p,hp=>by simp at hp
 |(i,x)::r,cs,cs',h,p,hp=>by
  simp only[place]at h;split at h
  ·rename_i off sz hoff
   split at h
   ·split at h
    ·rcases List.mem_cons.1 hp with rfl|hp
     ·exact⟨_,hoff⟩
     ·exact place_offs offs r _ _ h p hp
    ·cases h
   ·cases h
  ·cases h
theorem aBuild_sound (hty:TyOK P ty) (hd:∀d,o.dst=some d→d<n) {t:Nat} {parts:List (Nat×Operand)} (ho:o.op=.build t ⟨parts⟩) (hk:aBuild ty o e t parts K):∃f,K f∧OpOK P n o e h f:=by
 have hm:∀p∈parts,p.2∈o.op.operands:=fun p hp=>by simp[ho,Op.operands];exact⟨p.1,hp⟩
 have main:∀(i:TI) (offs offs':Nat→Option (Nat×Nat)) (cs:List AV),ty t=some i→place offs (constAVs i.zero) (evParts e parts)=some cs→ret o (mkAggN cs i.csz) K→
  (∀p,offs p≠none→offs p=offs' p)→(∀(vps:List (Nat×Value)) (cells:Array Value) (inf:TypeInfo) (z:Value),P.info? t=some inf→inf.zero=some z→Instr.fill offs' z.cells vps=some cells→P.built t vps=some cells)→∃f,K f∧OpOK P n o e h f:=by
  intro i offs offs' cs hi hpl hk hoffs hbuilt;refine ret_sound hd hk fun e' h' he g w a s=>?_;obtain⟨inf,z,h1,h2,h3,h4,h5,h6⟩:=(hty t i hi).inf;have hz1:z.cells.size=(constAVs i.zero).length:=by rw[constAVs_length,←h5];simp
  obtain⟨cells,k1,k2,k3,k4⟩:=fill_place (g:=g) (w:=w) (dom:=domOf h') offs (evParts e parts) (parts.map fun p=>(p.1,a.eval p.2)) (constAVs i.zero) z.cells cs hpl (by simp[evParts_length])
   (fun j p q hp hq=>by
     rw[evParts_get]at hp;rw[List.getElem?_map]at hq
     cases hpj:parts[j]? with
     |none=>simp[hpj]at hp
     |some x=>
      simp only[hpj,Option.map_some,Option.some.injEq]at hp hq;subst hp;subst hq;obtain⟨_,r⟩:=s.evo he (hm x (List.mem_of_getElem? hpj)) rfl;exact⟨rfl,r.copy⟩) hz1 (fun v hv=>(hty t i hi).one v (by rw[←h5];exact hv))
   (fun j v c hv hc=>by
     rw[constAVs_get,←h5]at hc;have:z.cells.toList[j]?=some v:=by simpa using hv
     rw[this]at hc;simp at hc;subst hc;exact constAV_rel v)
  have hfill:Instr.fill offs' z.cells (parts.map fun p=>(p.1,a.eval p.2))=some cells:=by
   rw[←k1];refine fill_congr _ _ _ _ fun p hp=>?_;obtain⟨p0,hp0,rfl⟩:=List.mem_map.1 hp;obtain⟨j,hj⟩:=List.getElem?_of_mem hp0;obtain⟨q,hq⟩:=place_offs offs _ _ _ hpl (p0.1,(ev e p0.2).copy) (List.mem_of_getElem? (by rw[evParts_get,hj];rfl));exact(hoffs p0.1 (by simp only at hq;rw[hq];simp)).symm
  refine⟨.agg cells,?_,fun d _=>?_⟩
  ·have hb:=hbuilt _ cells inf z h1 h4 hfill
   have:=run_build (P:=P) w t (parts.map fun p=>(p.1,a.eval p.2)).toArray cells (by simpa using hb);simp only[execOp,ho,Sem.run_bind,List.map_toArray,this,Result.andThen_ok,Sem.run_pure]
  ·have:=mkAggN_rel (ow:=some (.slot d)) cells.toList cs i.csz (by simpa using k2) k3 (fun j v c hv hc=>⟨none,k4 j v c (by simpa using hv) hc⟩)
   simpa using this
 unfold aBuild at hk;split at hk
 ·rename_i i hi
  split at hk
  ·rename_i fs hde
   split at hk
   ·rename_i cs hcs
    obtain⟨places,hpl⟩:=(hty t i hi).plc fs hde;refine main i _ (fun f=>places.toArray[f]?) cs hi hcs hk (fun p hp=>?_) (fun vps cells inf z q1 q2 q3=>?_)
    ·simp only[ne_eq]at hp ⊢
     split at hp
     ·rename_i fd hfd
      split at hp
      ·rename_i j hj
       unfold fieldOf at hfd;simp only[hi,hde]at hfd;obtain⟨b,hb1,hb2⟩:=mapM_get _ _ _ hpl p fd hfd;obtain⟨inf2,z2,r1,r2,_⟩:=(hty fd.type j hj).inf;simp only[r1,Option.map_some,Option.some.injEq]at hb1;rw[List.getElem?_toArray,hb2,←hb1,r2]
      ·exact absurd rfl hp
     ·exact absurd rfl hp
    ·unfold Program.built
     simp only[q1,q2,(hty t i hi).und,hde,hpl];exact q3
   ·exact hk.elim
  ·rename_i len el hde
   split at hk
   ·rename_i j hj
    split at hk
    ·rename_i cs hcs
     refine main i _ (fun k=>some (k*j.size,j.size)) cs hi hcs hk (fun p hp=>rfl) (fun vps cells inf z q1 q2 q3=>?_);unfold Program.built;obtain⟨inf2,z2,r1,r2,_⟩:=(hty el j hj).inf;simp only[q1,q2,(hty t i hi).und,hde,r1,r2];exact q3
    ·exact hk.elim
   ·exact hk.elim
  ·exact hk.elim
 ·exact hk.elim
end
end Go.AM
end
section
namespace Go.AM
section
variable {P:Program} {ty:Nat→Option TI} {n:Nat} {o:Oper} {e:Env} {h:Heap} {K:AK}
structure SlV (M:Mm) (a:Option Addr) (sz:Nat) (xs:List PV) (F:Nat→Value):Prop where
 hz:∀x∈xs,x.cells.length=sz
 ad:xs≠[]→∃b,a=some b
 spot:∀b,a=some b→xs≠[]→b.spot=none
 cell:∀b (j:Nat) (x:PV) (i:Nat) (y:PV),a=some b→xs[j]?=some x→x.cells[i]?=some y→
  M b.block (b.off+(j*sz+i))=some (F (j*sz+i))∧(F (j*sz+i)).oneCell'=true∧PRel M (F (j*sz+i)) y
theorem div_mod_row {j sz i:Nat} (h:i<sz):(j*sz+i)/sz=j∧(j*sz+i) % sz=i:=by
 have h0:0<sz:=by omega
 constructor
 ·rw[Nat.mul_comm,Nat.mul_add_div h0,Nat.div_eq_of_lt h,Nat.add_zero]
 ·rw[Nat.mul_comm,Nat.mul_add_mod,Nat.mod_eq_of_lt h]
theorem PRel.spot {M:Mm} {b:Addr} {len cap sz:Nat} {xs:List PV} (r:PRel M (.slice (some b) len cap) (.sl sz xs)):cap≠0→b.spot=none:=by
 cases r with|sl _ _ _ _ f hs=>exact hs
theorem PRel.slv {M:Mm} {a:Option Addr} {len cap sz:Nat} {xs:List PV} (r:PRel M (.slice a len cap) (.sl sz xs)):len=xs.length∧len≤cap∧∃F,SlV M a sz xs F:=by
 cases r with
 |nil=>exact⟨rfl,Nat.le_refl _,fun _=>undef,by simp,by simp,by simp,by simp⟩
 |sl b _ _ _ f hs hc hz hm hx=>
  refine⟨rfl,hc,fun k=>f (k/sz) (k % sz),hz,fun _=>⟨b,rfl⟩,fun b' e hne=>by cases e;exact hs (by have:=List.length_pos_iff.2 hne;omega),fun b' j x i y e hj hi=>?_⟩;cases e;have hlt:i<sz:=by have:=(List.getElem?_eq_some_iff.1 hi).1;have:=hz x (List.mem_of_getElem? hj);omega
  obtain⟨e1,e2⟩:=div_mod_row (j:=j) hlt;simp only[e1,e2];have:=hm j x hj i y hi;exact⟨by rw[←Nat.add_assoc];exact this.1,this.2,hx j x hj i y hi⟩
theorem SlV.prel {M:Mm} {b:Addr} {cap sz:Nat} {xs:List PV} {F:Nat→Value} (r:SlV M (some b) sz xs F) (hc:xs.length≤cap) (hsp:cap≠0→b.spot=none):PRel M (.slice (some b) xs.length cap) (.sl sz xs):=
 .sl b cap sz xs (fun j i=>F (j*sz+i)) hsp hc r.hz (fun j x hj i y hi=>⟨by rw[Nat.add_assoc];exact(r.cell b j x i y rfl hj hi).1,(r.cell b j x i y rfl hj hi).2.1⟩) (fun j x hj i y hi=>(r.cell b j x i y rfl hj hi).2.2)
theorem SlV.all {M:Mm} {b:Addr} {sz:Nat} {xs:List PV} {F:Nat→Value} (r:SlV M (some b) sz xs F) {k:Nat} (hk:k<xs.length*sz):M b.block (b.off+k)=some (F k)∧(F k).oneCell'=true:=by
 have h0:0<sz:=Nat.pos_of_ne_zero fun e=>by subst e;simp at hk
 have hj:k/sz<xs.length:=(Nat.div_lt_iff_lt_mul h0).2 hk;have hi:k % sz<sz:=Nat.mod_lt _ h0;have hx:xs[k/sz]?=some xs[k/sz]:=by simp[hj]
 have hl:k % sz<xs[k/sz].cells.length:=by rw[r.hz _ (List.mem_of_getElem? hx)];exact hi
 have:=r.cell b (k/sz) _ (k % sz) _ rfl hx (List.getElem?_eq_getElem hl);have e:k/sz*sz+k % sz=k:=Nat.div_add_mod' k sz;rw[e]at this;exact⟨this.1,this.2.1⟩
theorem run_firstCells {g:Gh} {w:World} {a:Option Addr} {len cap sz:Nat} {xs:List PV} {F:Nat→Value} (r:SlV (imm g w) a sz xs F) (hl:len=xs.length):
 (Builtin.firstCells sz len (.slice a len cap)).run P w=.ok ((List.range (len*sz)).map F).toArray w:=by
 subst hl
 cases a with
 |none=>
  have:xs=[]:=by
   by_cases hx:xs=[]
   ·exact hx
   ·obtain⟨b,hb⟩:=r.ad hx;cases hb
  subst this;simp[Builtin.firstCells]
 |some b=>
  simp only[Builtin.firstCells];exact run_loadCells w b _ F (fun j hj=>by rw[Addr.add_of_spot (r.spot b rfl (fun q=>by subst q;simp at hj))];exact imm_cell (r.all hj).1)
theorem aYs_rel {g:Gh} {w:World} {dom:Nat→Prop} {ow:Option Owner} {v:Value} {x:AV} {sz:Nat} {ys:List PV} (r:VRel g w dom ow v x) (h:aYs sz x=some ys):
 ∃a cap F,v=.slice a ys.length cap∧SlV (imm g w) a sz ys F:=by
 have key:∀{v:Value} {sz':Nat} {zs:List PV},PRel (imm g w) v (.sl sz' zs)→(match Nat.beq sz sz' with|true=>some zs|false=>none)=some ys→∃a cap F,v=.slice a ys.length cap∧SlV (imm g w) a sz ys F:=by
  intro v sz' zs hp hh;split at hh
  ·rename_i hb
   have hb:sz=sz':=Nat.eq_of_beq_eq_true hb;subst hb;cases hh;have hp':=hp
   cases hp with
   |nil=>obtain⟨_,_,F,hF⟩:=hp'.slv;exact⟨none,0,F,rfl,hF⟩
   |sl a cap _ _ f=>obtain⟨_,_,F,hF⟩:=hp'.slv;exact⟨some a,cap,F,rfl,hF⟩
  ·cases hh
 cases r with
 |p _ _ y hp=>
  cases y with
  |sl sz' zs=>exact key hp h
  |_=>simp[aYs]at h
 |nilS=>simp[aYs]at h;subst h;exact⟨none,0,fun _=>undef,rfl,by simp,by simp,by simp,by simp⟩
 |es _ a cap z hs=>simp[aYs]at h;subst h;exact⟨some a,cap,fun _=>undef,rfl,by simp,by simp,by simp,by simp⟩
 |full _ a sz' zs hz hp=>exact key hp h
 |own o a cap sz' zs cs E hz hp=>exact key hp h
 |_=>simp[aYs]at h
theorem isSliceT_spec (hty:TyOK P ty) {t:Nat} (hh:isSliceT ty t=true):∃el,P.underlying t=some (.slice el):=by
 unfold isSliceT at hh;split at hh
 ·rename_i i hi
  split at hh
  ·rename_i el hde;exact⟨el,by rw[←hde];exact(hty t i hi).und⟩
  ·cases hh
 ·cases hh
theorem run_append_fit {t t2 el el2:TypeId} {inf:TypeInfo} {sz:Nat} (hu:P.underlying t=some (.slice el)) (hu2:P.underlying t2=some (.slice el2)) (hi:P.info? el=some inf) (hsz:inf.size=sz)
 {w w':World} {a a2:Option Addr} {len cap len2 cap2:Nat} {vs:List Value} (hfit:len+len2≤cap) (hy:(Builtin.firstCells sz len2 (.slice a2 len2 cap2)).run P w=.ok vs.toArray w)
 (hst:∀b,a=some b→(storeCells (b.add (len*sz)) vs).run P w=.ok () w') (hno:a=none→w'=w) (u:TypeId):
 (Builtin.append_ #[t,t2] u #[.slice a len cap,.slice a2 len2 cap2]).run P w=.ok (.slice a (len+len2) cap) w':=by
 subst hsz;have e2:(underlying t2).run P w=.ok (.slice el2) w:=run_underlying hu2 w
 cases a with
 |none=>
  have hw:=hno rfl;subst hw;simp[Builtin.append_,run_underlying hu,sizeOf,typeInfo,hi,e2,Builtin.lenOf,hfit,hy]
 |some b=>
  simp[Builtin.append_,run_underlying hu,sizeOf,typeInfo,hi,e2,Builtin.lenOf,hfit,hy,hst b rfl]
theorem nextslicecap_le {need cap:Nat} (h:cap<need) (hb:Nat) (hn:need*hb≤140737488355328):¬Builtin.nextslicecap need cap*hb>2 ^ 48:=by
 have key:Builtin.nextslicecap need cap≤2*need:=by
  unfold Builtin.nextslicecap;split
  ·omega
  ·split
   ·omega
   · -- the slow growth
    have step:∀r c,c≤need+(need+768)/4→256≤c→Builtin.growBy need r c≤need+(need+768)/4:=by
     intro r
     induction r with
     |zero=>intro c h1 _;simpa[Builtin.growBy] using h1
     |succ r ih=>
      intro c h1 h2;unfold Builtin.growBy;split
      ·exact h1
      ·exact ih _ (by omega) (by omega)
    have:=step 4 cap (by omega) (by omega);omega
 have:Builtin.nextslicecap need cap*hb≤2*need*hb:=Nat.mul_le_mul_right _ key;have e:2*need*hb=2*(need*hb):=by rw[Nat.mul_assoc]
 omega
theorem zeroCells_size (z:Array Value) (m:Nat):(Builtin.zeroCells z m).size=m*z.size:=by
 simp[Builtin.zeroCells]
theorem run_append_grow {t t2 el el2:TypeId} {inf:TypeInfo} {z:Value} {sz:Nat} (hu:P.underlying t=some (.slice el)) (hu2:P.underlying t2=some (.slice el2)) (hi:P.info? el=some inf) (hsz:inf.size=sz)
 (hz:inf.zero=some z) {w:World} {a a2:Option Addr} {len cap len2 cap2:Nat} {us vs:List Value} (hfit:cap<len+len2) (hlen:len≤cap)
 (hx:∀k,(Builtin.firstCells sz len (.slice a len cap)).run P { w with drawn:=k }=.ok us.toArray { w with drawn:=k })
 (hy:∀k,(Builtin.firstCells sz len2 (.slice a2 len2 cap2)).run P { w with drawn:=k }=.ok vs.toArray { w with drawn:=k })
 (hroom:(len+len2)*inf.bytes≤140737488355328) (hb0:inf.bytes≠0) (u:TypeId):
 ∃c,len+len2≤c∧(Builtin.append_ #[t,t2] u #[.slice a len cap,.slice a2 len2 cap2]).run P w=
  .ok (.slice (some ⟨w.heap.size,0,none⟩) (len+len2) c) (World.push { w with drawn:=w.drawn+1 } (.cells (us.toArray++vs.toArray++Builtin.zeroCells z.cells (c-(len+len2))) el (0,0))):=by
 subst hsz;have e2:(underlying t2).run P w=.ok (.slice el2) w:=run_underlying hu2 w;have hnf:¬len+len2≤cap:=by omega
 have hno1:¬(((len+len2:Nat):Int)>IntKind.i64.max∧(False∨inf.bytes=0)):=by simp[hb0]
 have hno2:=nextslicecap_le hfit inf.bytes hroom;refine⟨(Question.appendCap (len+len2) cap el).cut (w.tape w.drawn (.appendCap (len+len2) cap el)),by simp[Question.cut],?_⟩;have hy':(Builtin.firstCells inf.size len2 (.slice a2 len2 cap2)).run P w.drew=.ok vs.toArray w.drew:=hy (w.drawn+1);have hx':(Builtin.firstCells inf.size len (.slice a len cap)).run P w.drew=.ok us.toArray w.drew:=hx (w.drawn+1);simp[Builtin.append_,run_underlying hu,sizeOf,typeInfo,hi,e2,Builtin.lenOf,hnf,hb0,hno2,Question.forced,hx',hy',zeroValue,hz,newRow];refine congrArg (fun q=>World.push w.drew (.cells q el (0,0))) ?_
 apply Array.ext'
 simp
end
end Go.AM
end
