/- Part of a machine over plain values. No conditions. -/
import Derived.Test.YtldppkdekklpkaaGreatDoorAMDyn
set_option linter.all false
section
namespace Go.AM
section
variable {P:Program} {ty:Nat→Option TI} {n:Nat} {o:Oper} {e:Env} {h:Heap} {K:AK}
theorem dPtr_rel {g:Gh} {w:World} {dom:Nat→Prop} {ow:Option Owner} {v:Value} {x:AV} {S T sz0 s k m c:Nat} {one:Bool} (r:VRel g w dom ow v x) (h:dPtr S x=some (T,one,sz0,s,k,m,c)):
 ∃A,g.σ s k=some A∧v=.pointer (some ⟨A.1,m*sz0+c,none⟩):=by
 unfold dPtr at h;split at h
 ·cases h
  cases r with
  |p _ _ _ hp=>cases hp with|adr _ _ a C q=>exact⟨(a,C),q,by simp⟩
 ·cases h
  cases r with
  |p _ _ _ hp=>cases hp with|pa _ _ _ _ _ _ _ a C q=>exact⟨(a,C),q,rfl⟩
 ·cases h
theorem Sim.blk {g:Gh} {w:World} {a:Act} {e':Env} {h':Heap} (s:Sim g w n a e' h') {l T sp nx sz:Nat} {one:Bool} {M:List (Nat×List PV)} (hl:hget h' l=some (.store T one sp nx sz M)):StoreOK g w l sp nx sz M:=by
 cases s.heap.obj l _ hl with|store _ _ _ _ _ _ h=>exact h
theorem off_eq {m sz0 sz c:Nat} (h:m=0∨sz0=sz):m*sz0+c=m*sz+c:=by rcases h with rfl|rfl<;>simp
theorem dLoad_sound (hty:TyOK P ty) (hd:∀d,o.dst=some d→d<n) {x:Operand} {t:Nat} (ho:o.op=.load t x) (hk:dLoad ty o h t (ev e x) K):∃f,K f∧OpOK P n o e h f:=by
 have m1:x∈o.op.operands:=by simp[ho,Op.operands]
 have hrun:∀(a:Act) (w:World) (v u:Value),a.eval x=v→(Instr.loadAt t v).run P w=.ok u w→(execOp a.eval o).run P w=.ok (.value u) w:=by
  intro a w v u hv hr;simp only[execOp,ho,hv,Sem.run_bind,hr,Result.andThen_ok,Sem.run_pure]
 unfold dLoad at hk;split at hk
 ·rename_i i hi
  split at hk
  ·rename_i cs hx
   split at hk
   ·rename_i hag
    split at hk
    ·rename_i l1 hl1
     obtain⟨k1,k2⟩:=getAt_spec _ _ _ _ hl1;refine ret_sound hd hk fun e' h' he g w a s=>?_;obtain⟨_,r1⟩:=s.evo he m1 hx;generalize hv:a.eval x=v at r1
     cases r1 with
     |p _ _ _ hp=>
     cases hp with
     |bx ad _ f hs hm hxx=>
      have hlen:∀j,j<i.size→∃y,cs[j]?=some y∧l1[j]?=some y:=by
       intro j hj;have:=k2 j hj;rw[Nat.zero_add]at this;have hlt:j<l1.length:=by omega
       exact⟨l1[j],by rw[←this];simp[hlt],by simp[hlt]⟩
      refine⟨.agg ((List.range i.size).map f).toArray,hrun a w _ _ hv ?_,fun d _=>.p _ _ _ (.agg _ _ (by simp[k1]) (fun v hv=>?_) fun j v y hj hy=>?_)⟩
      ·refine run_loadAt hty hi hs _ (by simp) (fun j v hj=>?_) hag
       simp only[List.getElem?_map,List.getElem?_range]at hj
       have hji:j<i.size:=by
        rcases Nat.lt_or_ge j i.size with h2|h2
        ·exact h2
        ·rw[List.getElem?_eq_none (by simpa using h2)]at hj;simp at hj
       rw[List.getElem?_range hji]at hj;simp at hj;subst hj;obtain⟨y,hy,_⟩:=hlen j hji;exact imm_cell (hm j y hy).1
      ·obtain⟨j,hj,rfl⟩:=List.mem_map.1 hv
       obtain⟨y,hy,_⟩:=hlen j (by simpa using hj);exact(hm j y hy).2
      ·have hji:j<i.size:=by have:=(List.getElem?_eq_some_iff.1 hy).1;omega
       rw[List.getElem?_map,List.getElem?_range hji]at hj;simp at hj;subst hj;obtain⟨y',hy1,hy2⟩:=hlen j hji;rw[hy2]at hy;cases hy;exact hxx j _ hy1
    ·exact hk.elim
   ·rename_i hag
    split at hk
    ·rename_i y r
     refine ret_sound hd hk fun e' h' he g w a s=>?_;obtain⟨_,r1⟩:=s.evo he m1 hx;generalize hv:a.eval x=v at r1
     cases r1 with
     |p _ _ _ hp=>
     cases hp with
     |bx ad _ f hs hm hxx=>
      have h0:=hm 0 y (by simp);exact⟨f 0,hrun a w _ _ hv (run_loadAt1 hty hi hs hag (by simpa using imm_cell h0.1)),fun d _=>.p _ _ _ (hxx 0 y (by simp))⟩
    ·exact hk.elim
  ·split at hk
   ·rename_i T one sz0 sp0 k m c hp
    obtain⟨l,sp,nx,sz,M,hg,hk⟩:=AStO_spec hk;obtain⟨⟨rfl,hsn,hsz⟩,xs,hxs,x0,_,hx0,hk⟩:=hk;have hx0:xs[m]?=some x0:=by simpa using hx0
    have cells:∀{e':Env} {h':Heap} {g:Gh} {w:World} {a:Act},(∀t∈slotsOf o,eget e' t=eget e t)→hget h' l=hget h l→Sim g w n a e' h'→
     ∃A:Nat,a.eval x=.pointer (some ⟨A,m*sz+c,none⟩)∧∃(vs:Array Value) (E:TypeId),w.heap[A]?=some (.cells vs E (0,0))∧
      ∀(i:Nat) (z:PV),x0.cells[c+i]?=some z→∃v,vs[m*sz+c+i]?=some v∧v.oneCell'=true∧PRel (imm g w) v z:=by
     intro e' h' g w a he hl s;obtain⟨_,r1⟩:=s.evo he m1 rfl;obtain⟨A,hA,hv⟩:=dPtr_rel r1 hp;have hst:=s.blk (hl.trans hg);obtain⟨A',hA',_,_,vs,E,hb,h0,hlen,hzz,hxx⟩:=hst.rowC hsn k xs (slk_mem hxs);rw[hA]at hA';cases hA';refine⟨A.1,by rw[hv,off_eq hsz],vs,E,hb,fun i z hz=>?_⟩;have:=hxx m x0 hx0 (c+i) z hz
     rwa [←Nat.add_assoc]at this
    split at hk
    ·rename_i hag
     split at hk
     ·rename_i l1 hl1
      obtain⟨k1,k2⟩:=getAt_spec _ _ _ _ hl1;refine retR_sound hd hk fun e' h' he hl g w a s=>?_;obtain⟨A,hv,vs,E,hb,hxx⟩:=cells he hl s
      have hlen:∀j,j<i.size→∃z,x0.cells[c+j]?=some z∧l1[j]?=some z:=by
       intro j hj;have:=k2 j hj;have hlt:j<l1.length:=by omega
       exact⟨l1[j],by rw[←this];simp[hlt],by simp[hlt]⟩
      have hle:i.size=0∨m*sz+c+i.size≤vs.size:=by
       rcases Nat.eq_zero_or_pos i.size with h0|h0
       ·exact .inl h0
       ·right
        obtain⟨z,hz1,_⟩:=hlen (i.size-1) (by omega);obtain⟨v,hv1,_,_⟩:=hxx _ _ hz1;have:=(Array.getElem?_eq_some_iff.1 hv1).1;omega
      have hll:((vs.toList.drop (m*sz+c)).take i.size).length=i.size:=by simp;omega
      have hget:∀(j:Nat) (v:Value),((vs.toList.drop (m*sz+c)).take i.size)[j]?=some v→j<i.size∧vs[m*sz+c+j]?=some v:=by
       intro j v hj;have hji:j<i.size:=by have:=(List.getElem?_eq_some_iff.1 hj).1;omega
       rw[List.getElem?_take,if_pos hji,List.getElem?_drop]at hj;exact⟨hji,by simpa using hj⟩
      refine⟨.agg ((vs.toList.drop (m*sz+c)).take i.size).toArray,hrun a w _ _ hv ?_,fun d _=>.p _ _ _ (.agg _ _ (hll.trans k1.symm) (fun v hv=>?_) fun j v z hj hz2=>?_)⟩
      rotate_left
      ·obtain⟨j,hj⟩:=List.getElem?_of_mem hv
       obtain⟨hji,hj'⟩:=hget j v hj;obtain⟨z',q1,q2⟩:=hlen j hji;obtain⟨v',p1,p2,_⟩:=hxx j _ q1;rw[hj']at p1;cases p1;exact p2
      rotate_left
      ·exact run_loadAt hty hi rfl _ hll (fun j v hj=>by rw[cell?_of hb];exact(hget j v hj).2) hag
      ·obtain⟨hji,hj'⟩:=hget j v hj
       obtain⟨z',q1,q2⟩:=hlen j hji;rw[q2]at hz2;cases hz2;obtain⟨v',p1,_,p2⟩:=hxx j _ q1;rw[hj']at p1;cases p1;exact p2
     ·exact hk.elim
    ·rename_i hag
     split at hk
     ·rename_i z hz1
      refine retR_sound hd hk fun e' h' he hl g w a s=>?_;obtain⟨A,hv,vs,E,hb,hxx⟩:=cells he hl s;obtain⟨v',p1,_,p2⟩:=hxx 0 z (by simpa using hz1);exact⟨v',hrun a w _ _ hv (run_loadAt1 hty hi rfl hag (by rw[cell?_of hb];simpa using p1)),fun d _=>.p _ _ _ p2⟩
     ·exact hk.elim
   ·exact hk.elim
 ·exact hk.elim
theorem dNil_sound (hd:∀d,o.dst=some d→d<n) {x:Operand} (ho:o.op=.nilCheck x) (hk:dNil o (ev e x) K):∃f,K f∧OpOK P n o e h f:=by
 have m1:x∈o.op.operands:=by simp[ho,Op.operands]
 unfold dNil at hk;split at hk
 ·rename_i pv hx
  split at hk
  ·rename_i hdp
   refine ret_sound hd hk fun e' h' he g w a s=>?_;obtain⟨_,r1⟩:=s.evo he m1 hx;have hp:=r1.pv;generalize hv:a.eval x=v at hp
   cases hp<;>first|(simp[isDP]at hdp;done)|skip
   ·rename_i sp k ad C q;exact⟨_,by simp[execOp,ho,hv],fun d _=>.p _ _ _ (.adr _ _ _ _ q)⟩
   ·rename_i T o1 sz sp k m c ad C q;exact⟨_,by simp[execOp,ho,hv],fun d _=>.p _ _ _ (.pa _ _ _ _ _ _ _ _ _ q)⟩
   ·rename_i ad cs f hs hm hxx;exact⟨_,by simp[execOp,ho,hv],fun d _=>.p _ _ _ (.bx ad cs f hs hm hxx)⟩
  ·exact hk.elim
 ·exact hk.elim
theorem dField_sound (hty:TyOK P ty) (hd:∀d,o.dst=some d→d<n) {t f:Nat} {x:Operand} (ho:o.op=.fieldAddr t x f) (hk:dField ty o t f (ev e x) K):∃f,K f∧OpOK P n o e h f:=by
 have m1:x∈o.op.operands:=by simp[ho,Op.operands]
 unfold dField at hk;split at hk
 ·rename_i fd hfd
  split at hk
  ·rename_i j i hj hi
   split at hk
   ·rename_i cs hz hx
    refine ret_sound hd hk fun e' h' he g w a s=>?_;obtain⟨_,r1⟩:=s.evo he m1 hx;generalize hv:a.eval x=v at r1
    cases r1 with
    |p _ _ _ hp=>
    cases hp with
    |bx ad _ f hs hm hxx=>
     refine⟨.pointer (some ⟨ad.block,ad.off+fd.offset,none⟩),?_,fun d _=>.vp _ _ _ (fun i=>f (fd.offset+i)) rfl (fun i y hy=>?_) (fun i y hy=>?_)⟩
     ·simp only[execOp,ho,hv,Sem.run_bind,run_fieldAt hty hfd hj hz (a:=ad) hs,Result.andThen_ok,Sem.run_pure]
     ·rw[List.getElem?_drop]at hy
      have:=hm _ _ hy
      rwa [←Nat.add_assoc]at this
     ·rw[List.getElem?_drop]at hy
      exact hxx _ _ hy
   ·rename_i sp k hz hx
    refine ret_sound hd hk fun e' h' he g w a s=>?_;obtain⟨_,r1⟩:=s.evo he m1 hx;generalize hv:a.eval x=v at r1
    cases r1 with
    |p _ _ _ hp=>
    cases hp with
    |adr _ _ ad C q=>
     refine⟨.pointer (some ⟨ad,0*i.size+fd.offset,none⟩),?_,fun d _=>.p _ _ _ (.pa _ _ _ _ _ _ _ _ _ q)⟩;have:=run_fieldAt hty hfd hj hz (a:=⟨ad,0,none⟩) (w:=w) rfl;simp only[execOp,ho,hv,Sem.run_bind,this,Result.andThen_ok,Sem.run_pure,Nat.zero_mul,Nat.zero_add]
   ·rename_i T o1 sz sp k m c hz hx
    refine ret_sound hd hk fun e' h' he g w a s=>?_;obtain⟨_,r1⟩:=s.evo he m1 hx;generalize hv:a.eval x=v at r1
    cases r1 with
    |p _ _ _ hp=>
    cases hp with
    |pa _ _ _ _ _ _ _ ad C q=>
     refine⟨.pointer (some ⟨ad,m*sz+(c+fd.offset),none⟩),?_,fun d _=>.p _ _ _ (.pa _ _ _ _ _ _ _ _ _ q)⟩;have:=run_fieldAt hty hfd hj hz (a:=⟨ad,m*sz+c,none⟩) (w:=w) rfl;simp only[execOp,ho,hv,Sem.run_bind,this,Result.andThen_ok,Sem.run_pure,Nat.add_assoc]
   ·exact hk.elim
  ·exact hk.elim
 ·exact hk.elim
theorem dIndex_sound (hty:TyOK P ty) (hd:∀d,o.dst=some d→d<n) {x ix:Operand} {t:Nat} (ho:o.op=.indexAddr t x ix) (hk:dIndex ty o t (ev e x) (ev e ix) K):∃f,K f∧OpOK P n o e h f:=by
 have m1:x∈o.op.operands:=by simp[ho,Op.operands]
 have m2:ix∈o.op.operands:=by simp[ho,Op.operands]
 unfold dIndex at hk;split at hk
 ·rename_i i hi
  split at hk
  ·rename_i el hde
   have hu:=(hty t i hi).und;rw[hde]at hu;split at hk
   ·rename_i j hj
    split at hk
    ·rename_i sp k m kd q hx hix
     obtain⟨⟨h0,hlt⟩,hk⟩:=hk;refine ret_sound hd hk fun e' h' he g w a s=>?_;obtain⟨_,r1⟩:=s.evo he m1 hx;obtain⟨_,r2⟩:=s.evo he m2 hix;generalize hv:a.eval x=v at r1
     cases r1 with
     |p _ _ _ hp=>
     cases hp with
     |ads _ _ ad _ cap hq hc=>
      refine⟨.pointer (some ⟨ad,q.toNat*j.size+0,none⟩),?_,fun d _=>.p _ _ _ (.pa _ _ _ _ _ _ _ _ _ hq)⟩;have hlt':q<(m:Int):=by omega
      simp only[execOp,ho,hv,r2.int,Instr.indexAt,asIntOf,Sem.run_bind,Sem.run_pure,Result.andThen_ok,run_underlying hu,h0,hlt',and_self,if_true,run_sizeOf_ty hty hj,Addr.add_plain,Nat.zero_add,Nat.add_zero]
    ·exact hk.elim
   ·exact hk.elim
  ·exact hk.elim
 ·exact hk.elim
theorem dLen_sound (hty:TyOK P ty) (hd:∀d,o.dst=some d→d<n) {x:Operand} {t:Nat} {ts:List TypeId} (ho:o.op=.call { callee:=.builtin .len,args:=⟨[x]⟩,argTypes:=⟨t::ts⟩ })
 (hk:dLen ty o t (ev e x) K):∃f,K f∧OpOK P n o e h f:=by
 have m1:x∈o.op.operands:=by simp[ho,Op.operands,Call.operands]
 have hrun:∀(a:Act) (w:World) (k:Int),(∀u,(Builtin.len_ (t::ts).toArray u #[a.eval x]).run P w=.ok (.int .i64 k) w)→(execOp a.eval o).run P w=.ok (.value (.int .i64 k)) w:=by
  intro a w k hl;obtain⟨cs,hcs⟩:=run_builtin_call (P:=P) ho a w;rw[hcs];simp only[builtin,List.map_cons,List.map_nil,Sem.run_bind];rw[show(⟨t::ts⟩:Array TypeId)=(t::ts).toArray from rfl,hl];rfl
 unfold dLen at hk;split at hk
 ·rename_i s k m ht hx
  obtain⟨el,hu⟩:=isSliceT_spec hty ht;refine ret_sound hd hk fun e' h' he g w a s=>?_;obtain⟨_,r1⟩:=s.evo he m1 hx;generalize hv:a.eval x=v at r1
  cases r1 with
  |p _ _ _ hp=>
  cases hp with
  |ads _ _ ad _ cap hq hc=>exact⟨_,hrun a w _ (fun u=>by rw[hv];exact run_len hu (.inr ⟨⟨el,rfl⟩,some ⟨ad,0,none⟩,m,cap,rfl,rfl⟩) w),fun d _=>.p _ _ _ (.i _ _)⟩
 ·rename_i ht hx
  obtain⟨el,hu⟩:=isSliceT_spec hty ht;refine ret_sound hd hk fun e' h' he g w a s=>?_;obtain⟨_,r1⟩:=s.evo he m1 hx;generalize hv:a.eval x=v at r1
  cases r1 with
  |p _ _ _ hp=>
  cases hp with
  |nsl=>exact⟨_,hrun a w 0 (fun u=>by rw[hv];exact run_len hu (.inr ⟨⟨el,rfl⟩,none,0,0,rfl,rfl⟩) w),fun d _=>.p _ _ _ (.i _ _)⟩
 ·exact hk.elim
end
end Go.AM
end
section
namespace Go.AM
section
variable {P:Program} {ty:Nat→Option TI} {n:Nat} {o:Oper} {e:Env} {h:Heap} {K:AK}
theorem StoreOK.add {g g':Gh} {w w':World} {l sp nx sz:Nat} {M M':List (Nat×List PV)} {a:Nat×Nat} {xs:List PV} (h:StoreOK g w l sp nx sz M) (d:Dyn g w g' w' l sp) (hsub:∀p∈M',p∈M) (hnd:(M'.map (·.1)).Nodup)
 (ha:g'.σ sp nx=some a) (hσ:∀k,k≠nx→g'.σ sp k=g.σ sp k)
 (hold:∀k ys b,(k,ys)∈M'→g.σ sp k=some b→b.1≠a.1∧g'.own b.1=g.own b.1∧g'.pre b.1=g.pre b.1∧w'.heap[b.1]?=w.heap[b.1]?)
 (hown:g'.own a.1=some (.obj l)) (hpre:g'.pre a.1=0) (hb:SBlk g' w' a sz xs):StoreOK g' w' l sp (nx+1) sz ((nx,xs)::M'):=by
 have hnx:g.σ sp nx=none:=h.fresh nx (Nat.le_refl _)
 have hk:∀k ys,(k,ys)∈M'→k≠nx:=fun k ys q e=>by
  obtain⟨b,q1,_⟩:=h.row k ys (hsub _ q);subst e;rw[hnx]at q1;cases q1
 refine⟨by rw[d.sown];exact h.sown,fun k q=>(hσ k (by omega)).trans (h.fresh k (by omega)),fun k ys q=>?_,fun k k' ys ys' b b' q1 q2 q3 q4 q5=>?_,?_⟩
 ·rcases List.mem_cons.1 q with q|q
  ·cases q;exact⟨a,ha,hown,hpre,hb⟩
  ·obtain⟨b,p1,p2,p3,p4⟩:=h.row k ys (hsub _ q)
   obtain⟨_,r1,r2,r3⟩:=hold k ys b q p1;exact⟨b,(hσ k (hk k ys q)).trans p1,r1.trans p2,r2.trans p3,p4.mono d.imm r3 d.σ⟩
 ·rcases List.mem_cons.1 q1 with q1|q1<;>rcases List.mem_cons.1 q2 with q2|q2
  ·cases q1;cases q2;rfl
  ·cases q1
   rw[ha]at q3;cases q3;rw[hσ k' (hk k' ys' q2)]at q4;exact absurd q5.symm (hold k' ys' b' q2 q4).1
  ·cases q2
   rw[ha]at q4;cases q4;rw[hσ k (hk k ys q1)]at q3;exact absurd q5 (hold k ys b q1 q3).1
  ·rw[hσ k (hk k ys q1)]at q3
   rw[hσ k' (hk k' ys' q2)]at q4;exact h.inj k k' ys ys' b b' (hsub _ q1) (hsub _ q2) q3 q4 q5
 ·rw[List.map_cons,List.nodup_cons]
  refine⟨fun q=>?_,hnd⟩;obtain⟨p,q1,q2⟩:=List.mem_map.1 q;exact hk p.1 p.2 q1 q2
theorem dAlloc_sound (hty:TyOK P ty) (hd:∀d,o.dst=some d→d<n) {t:Nat} (ho:o.op=.alloc t) (hk:dAlloc ty o h t K):∃f,K f∧OpOK P n o e h f:=by
 unfold dAlloc at hk;split at hk
 ·rename_i i d hi hdd
  split at hk
  ·rename_i zs hag hzs
   obtain⟨l,sp,nx,sz,M,hg,hk⟩:=AStO_spec hk;split at hk
   ·rename_i hsz hsz0
    obtain rfl:sz=i.size:=Nat.eq_of_beq_eq_true hsz;have hpos:0<i.size:=Nat.pos_of_ne_zero fun q=>by rw[q]at hsz0;cases hsz0
    refine⟨_,hk,fun e' h' he hl g w a s=>?_⟩;have hl0:hget h' l=some (.store t true sp nx i.size M):=(hl l (by simp)).trans hg;have hst:=s.blk hl0;obtain⟨inf,z,h1,h2,h3,h4,h5,h6⟩:=(hty t i hi).inf
    have hr:(execOp a.eval o).run P w=.ok (.value (.pointer (some ⟨w.heap.size,0,none⟩))) (World.push w (.cells z.cells t (0,0))):=by
     simp[execOp,ho,Instr.alloc,zeroValue,typeInfo,h1,h4,newVar,newRow];rfl
    have d1:=Dyn.push (g:=g) (w:=w) (l:=l) (sp:=sp) (k:=nx) (C:=1) (cs:=z.cells) (E:=t) (hst.fresh nx (Nat.le_refl _)) s.bnd;obtain⟨k1,k2⟩:=allPure_spec (g:=g.newS w.heap.size 1 l sp nx) (w:=World.push w (.cells z.cells t (0,0))) (dom:=fun _=>False) _ _ _ hzs;have hzl:z.cells.size=i.size:=by rw[←h6,←h5];simp
    have hzl2:zs.length=i.size:=by rw[k1,constAVs_length,h6]
    have hblk:SBlk (g.newS w.heap.size 1 l sp nx) (World.push w (.cells z.cells t (0,0))) (w.heap.size,1) i.size [.agg zs]:=by
     refine .inl ⟨z.cells,t,push_new,hpos,⟨by simp,by rw[hzl];simp⟩,fun x hx=>by simp at hx;subst hx;exact hzl2,fun j x hj q y hy=>?_⟩;have ej:j=0:=by have:=(List.getElem?_eq_some_iff.1 hj).1;simp at this;exact this
     subst ej;simp at hj;subst hj;have hy:zs[q]?=some y:=hy;have hq:q<zs.length:=(List.getElem?_eq_some_iff.1 hy).1;have hzc:z.cells.toList[q]?=some (z.cells.toList[q]'(by simp;omega)):=List.getElem?_eq_getElem _;generalize z.cells.toList[q]'(by simp;omega)=u at hzc;refine⟨u,by simpa using hzc,(hty t i hi).one u (by rw[←h5];exact List.mem_of_getElem? hzc),?_⟩;refine k2 q u none (constAV u) y ?_ hy (constAV_rel u);rw[constAVs_get,←h5,hzc];rfl
    have hst2:=hst.add (a:=(w.heap.size,1)) (xs:=[.agg zs]) d1 (fun p hp=>hp) hst.nodup (by simp[Gh.newS]) (fun k hk=>by simp[Gh.newS,hk]) (fun k ys b q1 q2=>by
     obtain⟨b',p1,p2,_⟩:=hst.row k ys q1;rw[q2]at p1;cases p1;have hlt:=s.bnd _ _ p2;have hne:b.1≠w.heap.size:=by omega
     exact⟨hne,by simp[Gh.newS,hne],by simp[Gh.newS,hne],push_old hlt⟩) (by simp[Gh.newS]) (by simp[Gh.newS]) hblk
    obtain⟨s2,hE⟩:=s.dyn hl0 d1 hst2;refine Oper.wp_value hr ⟨_,?_,hE⟩;rw[hdd];exact s2.put (hd d hdd) (.p _ _ _ (.adr sp nx w.heap.size 1 (by simp[imm,Gh.newS])))
   ·exact hk.elim
  ·exact hk.elim
 ·exact hk.elim
theorem dSlice_sound (hty:TyOK P ty) (hd:∀d,o.dst=some d→d<n) {t:Nat} {x u:Operand} (ho:o.op=.slice t x none (some u) none) (hk:dSlice ty o e t (ev e x) u K):∃f,K f∧OpOK P n o e h f:=by
 have m1:x∈o.op.operands:=by simp[ho,Op.operands]
 have m3:u∈o.op.operands:=by simp[ho,Op.operands]
 unfold dSlice at hk;split at hk
 ·rename_i i hi'
  have hu:=(hty t i hi').und;split at hk
  ·rename_i el hde
   rw[hde]at hu;split at hk
   ·rename_i j sp k m kk q hj hx huu
    obtain⟨⟨h0,h1⟩,hk⟩:=hk;refine ret_sound hd hk fun e' h' he g w a s=>?_;obtain⟨_,r1⟩:=s.evo he m1 hx;obtain⟨_,ru⟩:=s.evo he m3 huu;generalize hval':a.eval x=v at r1
    cases r1 with
    |p _ _ _ hp=>
    cases hp with
    |ads _ _ ad _ cap hq hc=>
     have hb:=run_sliceBounds (P:=P) (isS:=true) (len:=m) (cap:=cap) (lo:=none) (hi:=some (a.eval u)) (l:=0) (u:=q) (.inl ⟨rfl,rfl⟩) (.inr ⟨kk,by rw[ru.int]⟩) (by omega) h0 (by omega) w;refine⟨.slice (some ⟨ad,0,none⟩) q.toNat cap,?_,fun d _=>.p _ _ _ (.ads sp k ad q.toNat cap hq (by omega))⟩;simp only[execOp,ho,hval',Instr.sliceAt,Sem.run_bind,run_underlying hu,Result.andThen_ok,Instr.slice,Option.map_none,Option.map_some,hb,run_sizeOf_ty hty hj,Sem.run_pure]
     congr 3
     by_cases hc0:cap=0
     ·subst hc0;simp
     ·have e1:¬(cap=(0:Int).toNat):=by simpa using hc0
      simp[Addr.add_plain,hc0]
   ·rename_i j kk q hj hx huu
    obtain⟨rfl,hk⟩:=hk;refine ret_sound hd hk fun e' h' he g w a s=>?_;obtain⟨_,r1⟩:=s.evo he m1 hx;obtain⟨_,ru⟩:=s.evo he m3 huu;generalize hval':a.eval x=v at r1
    cases r1 with
    |p _ _ _ hp=>
    cases hp with
    |nsl=>
     have hb:=run_sliceBounds (P:=P) (isS:=true) (len:=0) (cap:=0) (lo:=none) (hi:=some (a.eval u)) (l:=0) (u:=0) (.inl ⟨rfl,rfl⟩) (.inr ⟨kk,by rw[ru.int]⟩) (by omega) (by omega) (by omega) w;refine⟨.slice none 0 0,?_,fun d _=>.p _ _ _ .nsl⟩;simp only[execOp,ho,hval',Instr.sliceAt,Sem.run_bind,run_underlying hu,Result.andThen_ok,Instr.slice,Option.map_none,Option.map_some,hb,run_sizeOf_ty hty hj,Sem.run_pure];rfl
   ·exact hk.elim
  ·exact hk.elim
 ·exact hk.elim
end
end Go.AM
end
section
namespace Go.AM
section
variable {P:Program} {ty:Nat→Option TI} {n:Nat} {o:Oper} {e:Env} {h:Heap} {K:AK}
theorem setEl_spec {x x':PV} {c:Nat} {ys:List PV} (h:setEl x c ys=some x') (hne:ys≠[]) (h1:∀y∈ys,y.cells=[y]):
 x'.cells.length=x.cells.length∧c+ys.length≤x.cells.length∧∀j,x'.cells[j]?=if c≤j∧j<c+ys.length then ys[j-c]? else x.cells[j]?:=by
 unfold setEl at h;split at h
 ·split at h
  ·rename_i cs' hcs
   cases h;obtain⟨q1,q2,q3⟩:=setAt_spec _ _ _ _ hcs;exact⟨q1,q2 hne,q3⟩
  ·cases h
 ·rename_i hna
  split at h
  ·rename_i y
   cases h;have e1:x.cells=[x]:=by cases x<;>first|rfl|exact absurd rfl (hna _)
   rw[e1,h1 x' (by simp)];refine⟨rfl,by simp,fun j=>?_⟩
   cases j with
   |zero=>simp
   |succ j=>simp
  ·cases h
theorem StoreOK.set {g:Gh} {w w':World} {l sp nx sz:Nat} {M:List (Nat×List PV)} {k:Nat} {a:Nat×Nat} {xs ys:List PV} (h:StoreOK g w l sp nx sz M) (d:Dyn g w g w' l sp) (hk:slk k M=some xs) (ha:g.σ sp k=some a)
 (hold:∀b,b≠a.1→w'.heap[b]?=w.heap[b]?) (hb:SBlk g w' a sz ys):StoreOK g w' l sp nx sz (sset k ys M):=by
 refine⟨h.sown,h.fresh,fun k' zs q=>?_,fun k1 k2 zs zs' b b' q1 q2 q3 q4 q5=>?_,by rw[sset_keys];exact h.nodup⟩
 ·rcases sset_mem h.nodup q with⟨q1,q2⟩|q1
  ·obtain⟨b,p1,p2,p3,p4⟩:=h.row k' zs q1
   exact⟨b,p1,p2,p3,p4.mono d.imm (hold b.1 fun e=>q2 (h.inj k' k zs xs b a q1 (slk_mem hk) p1 ha e))⟩
  ·cases q1
   obtain⟨b,p1,p2,p3,p4⟩:=h.row k xs (slk_mem hk);rw[ha]at p1;cases p1;exact⟨a,ha,p2,p3,hb⟩
 ·have m:∀{k zs},(k,zs)∈sset k ys M∨True→True:=fun _=>trivial
  have key:∀{k' zs},(k',zs)∈sset k ys M→∃zs',(k',zs')∈M:=fun q=>by
   rcases sset_mem h.nodup q with⟨p,_⟩|p
   ·exact⟨_,p⟩
   ·cases p;exact⟨xs,slk_mem hk⟩
  obtain⟨_,p1⟩:=key q1;obtain⟨_,p2⟩:=key q2;exact h.inj k1 k2 _ _ b b' p1 p2 q3 q4 q5
theorem dStore_sound (hty:TyOK P ty) {x y:Operand} {t:Nat} (ho:o.op=.store t x y) (hdn:o.dst=none) (hk:dStore ty e h t (ev e x) y K):∃f,K f∧OpOK P n o e h f:=by
 have m1:x∈o.op.operands:=by simp[ho,Op.operands]
 have m2:y∈o.op.operands:=by simp[ho,Op.operands]
 have hrun:∀(a:Act) (w w':World) (v u:Value),a.eval x=v→a.eval y=u→(Instr.storeAt t v u).run P w=.ok () w'→(execOp a.eval o).run P w=.ok .skip w':=by
  intro a w w' v u hv hu hr;simp only[execOp,ho,hv,hu,Sem.run_bind,hr,Result.andThen_ok,Sem.run_pure]
 unfold dStore at hk;split at hk
 ·rename_i i hi
  split at hk
  ·rename_i T one sz0 sp0 k m c pv hp hpv
   split at hk
   ·rename_i hpl hz0
    have hpl:pv.cells.length=i.size:=Nat.eq_of_beq_eq_true hpl;have hpos:0<i.size:=Nat.pos_of_ne_zero fun q=>by rw[q]at hz0;cases hz0
    obtain⟨l,sp,nx,sz,M,hg,hk⟩:=AStO_spec hk;obtain⟨⟨rfl,hsn,hsz⟩,xs,hxs,x0,_,hx0,hk⟩:=hk;have hx0:xs[m]?=some x0:=by simpa using hx0
    split at hk
    ·rename_i x' hx'
     refine⟨_,hk,fun e' h' he hl g w a s=>?_⟩;have hl0:hget h' l=some (.store T one sp0 nx sz M):=(hl l (by simp)).trans hg;have hst:=s.blk hl0;obtain⟨_,r1⟩:=s.evo he m1 rfl;obtain⟨_,r2⟩:=s.evo he m2 rfl;have hpr:PRel (imm g w) (a.eval y) pv:=pureL_rel r2 hpv;obtain⟨c1,c2,c3⟩:=prel_cells hpr;obtain⟨A,hA,hv⟩:=dPtr_rel r1 hp;rw[off_eq hsz]at hv;obtain⟨A',hA',hown,hpre,vs,E,hb,h0,⟨hlen1,hlen2⟩,hzz,hxx⟩:=hst.rowC hsn k xs (slk_mem hxs);rw[hA]at hA';cases hA'
     have hone:∀z∈pv.cells,z.cells=[z]:=fun z hz=>by
      obtain⟨q,hq⟩:=List.getElem?_of_mem hz;have hql:q<(a.eval y).cells.toList.length:=by rw[c1];exact(List.getElem?_eq_some_iff.1 hq).1
      exact oneCell_pv (c3 q _ z (List.getElem?_eq_getElem hql) hq) (c2 _ (List.getElem_mem hql))
     have hpne:pv.cells≠[]:=fun q=>by rw[q]at hpl;simp at hpl;omega
     obtain⟨k1,k2,k3⟩:=setEl_spec hx' hpne hone;have hm:m<xs.length:=(List.getElem?_eq_some_iff.1 hx0).1;have hx0z:x0.cells.length=sz:=hzz x0 (List.mem_of_getElem? hx0);have hul:(a.eval y).cells.toList.length=i.size:=by rw[c1];exact hpl
     have hmul:m*sz+sz≤xs.length*sz:=by
      have:=Nat.mul_le_mul_right sz (show m+1≤xs.length by omega);rw[Nat.add_mul,Nat.one_mul]at this;exact this
     have hxl:xs.length*sz≤vs.size:=Nat.le_trans (Nat.mul_le_mul_right sz hlen1) hlen2;have hle:m*sz+c+(a.eval y).cells.toList.length≤vs.size:=by omega
     have hrs:=run_storeAt (P:=P) hty hi hb (v:=a.eval y) (off:=m*sz+c) hul hle c2;have hwl:=splice_length vs.toList (a.eval y).cells.toList (m*sz+c) (by simpa using hle);have hwg:=splice_get vs.toList (a.eval y).cells.toList (m*sz+c) (by simpa using hle);generalize (vs.toList.take (m*sz+c)++(a.eval y).cells.toList++vs.toList.drop (m*sz+c+(a.eval y).cells.toList.length))=row at hrs hwl hwg;have hrs2:row.toArray.size=vs.size:=by rw[List.size_toArray,hwl];simp
     have d1:=Dyn.setRow (g:=g) (w:=w) (l:=l) (sp:=sp0) hown hpre hb hrs2 s.bnd
     have hblk:SBlk g (w.setRow A.1 row.toArray) A sz (xs.set m x'):=by
      refine .inl ⟨row.toArray,E,setRow_heap _ _ _ _ _ _ hb,h0,⟨by simpa using hlen1,by rw[hrs2];exact hlen2⟩,fun z hz=>?_,fun j z hj q yy hq=>?_⟩
      ·rcases List.mem_or_eq_of_mem_set hz with q|q
       ·exact hzz z q
       ·rw[q,k1];exact hx0z
      ·rw[List.getElem?_set]at hj
       rw[List.getElem?_toArray,hwg]
       by_cases ej:m=j
       ·subst ej
        rw[if_pos rfl,if_pos hm]at hj;cases hj;rw[k3]at hq
        by_cases hin:c≤q∧q<c+pv.cells.length
        ·rw[if_pos hin]at hq
         rw[if_pos (by omega)];have hlt:q-c<(a.eval y).cells.toList.length:=by omega
         have e1:m*sz+q-(m*sz+c)=q-c:=by omega
         rw[e1];exact⟨_,List.getElem?_eq_getElem hlt,c2 _ (List.getElem_mem hlt),(c3 _ _ _ (List.getElem?_eq_getElem hlt) hq).mono d1.imm⟩
        ·rw[if_neg hin]at hq
         have hql:q<sz:=by have:=(List.getElem?_eq_some_iff.1 hq).1;omega
         rw[if_neg (by omega)];obtain⟨v,p1,p3,p2⟩:=hxx m x0 hx0 q yy hq;exact⟨v,by simpa using p1,p3,p2.mono d1.imm⟩
       ·rw[if_neg ej]at hj
        have hii:q<sz:=by have:=(List.getElem?_eq_some_iff.1 hq).1;have:=hzz z (List.mem_of_getElem? hj);omega
        have hout:¬(m*sz+c≤j*sz+q∧j*sz+q<m*sz+c+(a.eval y).cells.toList.length):=by
         rcases Nat.lt_or_gt_of_ne ej with q2|q2
         ·have:=Nat.mul_le_mul_right sz (show m+1≤j by omega)
          rw[Nat.add_mul,Nat.one_mul]at this;omega
         ·have:=Nat.mul_le_mul_right sz (show j+1≤m by omega)
          rw[Nat.add_mul,Nat.one_mul]at this;omega
        rw[if_neg hout];obtain⟨v,p1,p3,p2⟩:=hxx j z hj q yy hq;exact⟨v,by simpa using p1,p3,p2.mono d1.imm⟩
     have hst2:=hst.set d1 hxs hA (fun b hb=>setRow_other _ _ _ _ hb) hblk;obtain⟨s2,hE⟩:=s.dyn hl0 d1 hst2;refine Oper.wp_skip (hrun a w _ _ _ hv rfl hrs) ⟨g,?_,hE⟩;simp only[hdn,List.reverse_cons,List.reverse_nil,List.nil_append,List.cons_append,Act.put];exact s2
    ·exact hk.elim
   ·exact hk.elim
  ·exact hk.elim
 ·exact hk.elim
end
end Go.AM
end
