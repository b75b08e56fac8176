/- Part of a machine over plain values. No conditions. -/
import Derived.Test.YtldppkdekklpkaaGreatDoorAMSnd4
set_option linter.all false
section
namespace Go.AM
section
variable {P:Program} {ty:Nat→Option TI} {n:Nat} {o:Oper} {e:Env} {h:Heap} {K:AK}
theorem relabel_cells {g:Gh} {w:World} {h:Heap} (r:HRel g w h) {b l:Nat} {j0:Nat} {o':Owner} (hb:g.own b=some (.cell l j0)) {cs cs':List AV} (hl:hget h l=some (.cells cs))
 (hcs:cs'.length=cs.length) (hj:∀j,j≠j0→cs'[j]?=cs[j]?) (h0:∀v ow c,cs[j0]?=some c→VRel g w (domOf h) ow v c→∀c',cs'[j0]?=some c'→VRel (g.relabel b o') w (domOf ((l,AObj.cells cs')::h)) (some (.cell l j0)) v c'):
 HRel (g.relabel b o') w ((l,.cells cs')::h):=by
 have hne:∀k x,hget h k=some x→x.solid=true→g.ρ k≠b:=fun k x hx hq e=>by have:=r.own k x hx hq;rw[e,hb]at this;cases this
 have up:∀{ow v c},ow≠some (.cell l j0)→VRel g w (domOf h) ow v c→VRel (g.relabel b o') w (domOf ((l,AObj.cells cs')::h)) ow v c:=by
  intro ow v c hw hr;have:=hr.relabel (o':=o') hb hw;exact VRel.keep (g:=g.relabel b o') (g':=g.relabel b o') (w:=w) (w':=w) (fun _ _ _ q=>q) (fun k hk=>⟨(domOf_set hl k).2 hk,rfl⟩) (fun k ds F _ q=>⟨ds,F,q,rfl⟩) (fun _ _ _ q=>⟨q,rfl,rfl⟩) this
 refine⟨fun k x hx=>?_,fun k x hx hq=>?_,fun k x hx hq=>?_⟩
 ·by_cases ek:l=k
  ·subst ek
   rw[hget_self]at hx;cases hx
   cases r.obj l _ hl with
   |cells _ vs E hb' hlen hx' h1=>
    refine .cells cs' vs E hb' (hlen.trans hcs.symm) (fun j v c q1 q2=>?_) h1
    by_cases ej:j=j0
    ·subst ej
     have hlt:j<cs.length:=by have:=(Array.getElem?_eq_some_iff.1 q1).1;omega
     exact h0 v _ cs[j] (by simp[hlt]) (hx' j v cs[j] q1 (by simp[hlt])) c q2
    ·rw[hj j ej]at q2
     exact up (by simp;exact ej) (hx' j v c q1 q2)
  ·rw[hget_ne ek]at hx
   cases r.obj k x hx with
   |cells ds vs E hb' hlen hx' h1=>exact .cells ds vs E hb' hlen (fun j v c q1 q2=>up (by simp;intro e1;exact absurd e1.symm ek) (hx' j v c q1 q2)) h1
   |arr xs vs E hb' hlen hx' h1=>exact .arr xs vs E hb' hlen hx' h1
   |map kd xs es clock hb' hx' hc=>exact .map kd xs es clock hb' hx' hc
   |gr st sz xs hg=>exact .gr st sz xs hg
   |dead=>exact .dead
   |glob gb gvs hgl=>exact ORel.globM hgl (fun h1 _ _=>⟨rfl,by have hne:gb≠b:=(fun e=>by subst e;rw[hb]at h1;cases h1);simp[Gh.relabel,hne,h1]⟩)
   |bld T E bs hbl=>exact ORel.bldM hbl rfl rfl (fun bb hbb=>⟨by have hne:bb≠b:=(fun e=>by subst e;rw[hb]at hbb;cases hbb;exact ek rfl);simp[Gh.relabel,hne,hbb],rfl,rfl⟩)
   |store T3 o3 sp3 nx3 z3 M3 hst=>exact .store T3 o3 sp3 nx3 z3 M3 (hst.mono (fun _ _ _ q=>q) (fun bb hbb=>⟨by have hne:bb≠b:=(fun e=>by subst e;rw[hb]at hbb;cases hbb);simp[Gh.relabel,hne,hbb],rfl,rfl⟩) hst.sown)
 ·have:∃y,hget h k=some y∧y.solid=true:=by
   by_cases ek:l=k
   ·subst ek;exact⟨_,hl,rfl⟩
   ·rw[hget_ne ek]at hx;exact⟨x,hx,hq⟩
  obtain⟨y,hy,hq⟩:=this;show(g.relabel b o').own (g.ρ k)=_;simp[Gh.relabel,hne k y hy hq,r.own k y hy hq]
 ·have:∃y,hget h k=some y∧y.solid=true:=by
   by_cases ek:l=k
   ·subst ek;exact⟨_,hl,rfl⟩
   ·rw[hget_ne ek]at hx;exact⟨x,hx,hq⟩
  obtain⟨y,hy,hq⟩:=this;exact r.pre k y hy hq
theorem aLoad_sound (hty:TyOK P ty) (hd:∀d,o.dst=some d→d<n) {x:Operand} {t:Nat} (ho:o.op=.load t x) {mv:Nat→Bool} (hk:aLoad ty o h t (ev e x) mv K):∃f,K f∧OpOK P n o e h f:=by
 have m1:x∈o.op.operands:=by simp[ho,Op.operands]
 have hrun:∀(a:Act) (w:World) (v u:Value),a.eval x=v→(Instr.loadAt t v).run P w=.ok u w→(execOp a.eval o).run P w=.ok (.value u) w:=by
  intro a w v u hv hr;simp only[execOp,ho,hv,Sem.run_bind,hr,Result.andThen_ok,Sem.run_pure]
 unfold aLoad at hk;split at hk
 ·rename_i i hi
  split at hk
  · -- a pointer to an object
   rename_i l off hx
   split at hk
   ·rename_i cs hh
    -- the cells there
    have cells:∀{e':Env} {h':Heap} {g:Gh} {w:World} {a:Act},(∀t∈slotsOf o,eget e' t=eget e t)→hget h' l=hget h l→Sim g w n a e' h'→
     a.eval x=.pointer (some ⟨g.ρ l,off,none⟩)∧∃(vs:Array Value) (E:TypeId),w.heap[g.ρ l]?=some (.cells vs E (0,0))∧vs.size=cs.length∧
      (∀(j:Nat) (v:Value) (c:AV),vs[j]?=some v→cs[j]?=some c→VRel g w (domOf h') (some (.cell l j)) v c)∧∀v∈vs.toList,v.oneCell'=true:=by
     intro e' h' g w a he hl s;obtain⟨_,r1⟩:=s.evo he m1 hx;rw[hh]at hl;refine⟨?_,?_⟩
     ·generalize hv:a.eval x=v at r1
      cases r1 with
      |ptr _ _ _ hdm=>rfl
     ·cases s.heap.obj l _ hl with
      |cells _ vs E hb hlen hx' h1=>exact⟨vs,E,hb,hlen,hx',h1⟩
    split at hk
    ·rename_i hag
     split at hk
     ·rename_i l1 hl1
      obtain⟨k1,k2⟩:=getAt_spec _ _ _ _ hl1;refine retR_sound hd hk fun e' h' he hl g w a s=>?_;obtain⟨hv,vs,E,hb,hlen,hx',h1⟩:=cells he hl s
      have hle:i.size=0∨off+i.size≤vs.size:=by
       rcases Nat.eq_zero_or_pos i.size with h0|h0
       ·exact .inl h0
       ·right
        have:=k2 (i.size-1) (by omega)
        have hlt:off+(i.size-1)<cs.length:=by
         rcases Nat.lt_or_ge (off+(i.size-1)) cs.length with h2|h2
         ·exact h2
         ·rw[List.getElem?_eq_none h2,List.getElem?_eq_none_iff]at this;omega
        omega
      have hll:((vs.toList.drop off).take i.size).length=i.size:=by simp;omega
      have hget:∀(j:Nat) (v:Value),((vs.toList.drop off).take i.size)[j]?=some v→j<i.size∧vs[off+j]?=some v:=by
       intro j v hj;have hji:j<i.size:=by have:=(List.getElem?_eq_some_iff.1 hj).1;omega
       rw[List.getElem?_take,if_pos hji,List.getElem?_drop]at hj;exact⟨hji,by simpa using hj⟩
      refine⟨.agg ((vs.toList.drop off).take i.size).toArray,hrun a w _ _ hv ?_,fun d _=>mkAgg_rel _ _ _ (hll.trans k1.symm) (fun v hv=>h1 v (List.mem_of_mem_drop (List.mem_of_mem_take hv))) fun j v c hj hc=>?_⟩
      ·exact run_loadAt hty hi rfl _ hll (fun j v hj=>by rw[cell?_of hb];exact(hget j v hj).2) hag
      ·obtain⟨hji,hj'⟩:=hget j v hj
       rw[k2 j hji]at hc;exact⟨_,hx' _ _ _ hj' hc⟩
     ·exact hk.elim
    ·rename_i hag
     split at hk
     · -- a slice with the right to append
      rename_i sz xs hc
      split at hk
      ·rename_i d hdd
       split at hk
       ·split at hk
        ·rename_i cs' hcs'
         obtain⟨q1,q2,q3⟩:=setAt_spec _ _ _ _ hcs';have q2:=q2 (by simp);refine⟨_,hk,fun e' h' he hl g w a s=>?_⟩;have hl0:hget h' l=hget h l:=hl l (by simp);obtain⟨hv,vs,E,hb,hlen,hx',h1⟩:=cells he hl0 s;have hlt:off<vs.size:=by have:=(List.getElem?_eq_some_iff.1 hc).1;omega
         have hcell:vs[off]?=some vs[off]:=by simp[hlt]
         have hr:=hx' off _ _ hcell hc;refine Oper.wp_value (hrun a w _ vs[off] hv (run_loadAt1 hty hi rfl hag (by rw[cell?_of hb];exact hcell))) ?_;rw[hh]at hl0;simp only[hdd,List.reverse_cons,List.reverse_nil,List.nil_append,List.cons_append];have hj3:∀j,j≠off→cs'[j]?=cs[j]?:=fun j hj=>by rw[q3 j,if_neg (by simp;omega)]
         have h03:cs'[off]?=some (.p (.sl sz xs)):=by rw[q3 off,if_pos (by simp)];simp
         generalize hval:vs[off]=v at hr
         cases hr with
         |full _ ad _ _ hz hp=>
          refine⟨g,?_,Ext.refl _ _⟩;have hdm:∀k,domOf h' k→domOf ((l,AObj.cells cs')::h') k:=fun k hk=>(domOf_set hl0 k).2 hk
          have up:∀{ow v c},VRel g w (domOf h') ow v c→VRel g w (domOf ((l,AObj.cells cs')::h')) ow v c:=fun r=>
           VRel.keep (g:=g) (g':=g) (w:=w) (w':=w) (fun _ _ _ q=>q) (fun k hk=>⟨hdm k hk,rfl⟩) (fun k ds F _ q=>⟨ds,F,q,rfl⟩) (fun _ _ _ q=>⟨q,rfl,rfl⟩) r
          have s':Sim g w n a e' ((l,.cells cs')::h'):=by
           refine⟨s.defers,s.size,fun i=>up (s.env i),⟨fun k z hz=>?_,fun k z hz hq=>?_,fun k z hz hq=>?_⟩,s.bnd⟩
           ·by_cases ek:l=k
            ·subst ek;rw[hget_self]at hz;cases hz
             refine .cells cs' vs E hb (hlen.trans q1.symm) (fun j u c w1 w2=>?_) h1
             by_cases ej:j=off
             ·subst ej;rw[h03]at w2;cases w2
              rw[hcell]at w1;cases w1;rw[hval];exact .p _ _ _ hp
             ·rw[hj3 j ej]at w2;exact up (hx' j u c w1 w2)
            ·rw[hget_ne ek]at hz
             cases s.heap.obj k z hz with
             |cells ds vs2 E2 hb2 hlen2 hx2 h12=>exact .cells ds vs2 E2 hb2 hlen2 (fun j v c w1 w2=>up (hx2 j v c w1 w2)) h12
             |arr xs vs2 E2 hb2 hlen2 hx2 h12=>exact .arr xs vs2 E2 hb2 hlen2 hx2 h12
             |map kd xs es clock hb2 hx2 hc2=>exact .map kd xs es clock hb2 hx2 hc2
             |gr st sz xs hg=>exact .gr st sz xs hg
             |dead=>exact .dead
             |glob gb gvs hgl=>exact .glob gb gvs hgl
             |bld T E bs hbl=>exact .bld T E bs hbl
             |store T3 o3 sp3 nx3 z3 M3 hst=>exact .store T3 o3 sp3 nx3 z3 M3 hst
           ·by_cases ek:l=k
            ·subst ek;exact s.heap.own l _ hl0 rfl
            ·rw[hget_ne ek]at hz;exact s.heap.own k z hz hq
           ·by_cases ek:l=k
            ·subst ek;exact s.heap.pre l _ hl0 rfl
            ·rw[hget_ne ek]at hz;exact s.heap.pre k z hz hq
          exact s'.put (hd d hdd) (.full _ ad sz xs hz (hp))
         |own _ ad cap _ _ bs E' hz hp hw hpre hbb hsz=>
          refine⟨g.relabel ad.block (.slot d),?_,Ext.relabel hw⟩
          have hH:=relabel_cells (o':=.slot d) s.heap hw hl0 q1 hj3 (fun v ow c w1 w2 c' w3=>by
           rw[h03]at w3;cases w3;rw[hc]at w1;cases w1;have:=(w2.copy (ow':=none)).relabel (o':=.slot d) hw (by simp)
           cases this with
           |p _ _ _ hp'=>exact .p _ _ _ hp')
          have hdm:∀k,domOf h' k→domOf ((l,AObj.cells cs')::h') k:=fun k hk=>(domOf_set hl0 k).2 hk
          have s':Sim (g.relabel ad.block (.slot d)) w n a e' ((l,.cells cs')::h'):=by
           refine⟨s.defers,s.size,fun i=>?_,hH,fun b o2 hb2=>?_⟩
           ·have:=(s.env i).relabel (o':=.slot d) hw (by simp)
            exact VRel.keep (g:=g.relabel ad.block (.slot d)) (g':=g.relabel ad.block (.slot d)) (w:=w) (w':=w) (fun _ _ _ q=>q) (fun k hk=>⟨hdm k hk,rfl⟩) (fun k ds F _ q=>⟨ds,F,q,rfl⟩) (fun _ _ _ q=>⟨q,rfl,rfl⟩) this
           ·by_cases hbe:b=ad.block
            ·subst hbe;exact s.bnd _ _ hw
            ·simp only[Gh.relabel,if_neg hbe]at hb2;exact s.bnd _ _ hb2
          exact s'.put (hd d hdd) (.own (.slot d) ad cap sz xs bs E' hz hp (by simp[Gh.relabel]) hpre hbb hsz)
        ·exact hk.elim
       ·refine⟨_,hk,fun e' h' he hl g w a s=>?_⟩
        obtain⟨hv,vs,E,hb,hlen,hx',h1⟩:=cells he (hl l (by simp)) s;have hlt:off<vs.size:=by have:=(List.getElem?_eq_some_iff.1 hc).1;omega
        have hcell:vs[off]?=some vs[off]:=by simp[hlt]
        refine Oper.wp_value (hrun a w _ vs[off] hv (run_loadAt1 hty hi rfl hag (by rw[cell?_of hb];exact hcell))) ⟨g,?_,Ext.refl _ _⟩;rw[hdd];exact s.put (hd d hdd) (hx' off _ _ hcell hc).copy
      ·exact hk.elim
     ·rename_i c hns hc
      refine retR_sound hd hk fun e' h' he hl g w a s=>?_;obtain⟨hv,vs,E,hb,hlen,hx',h1⟩:=cells he hl s;have hlt:off<vs.size:=by have:=(List.getElem?_eq_some_iff.1 hc).1;omega
      have hcell:vs[off]?=some vs[off]:=by simp[hlt]
      exact⟨vs[off],hrun a w _ _ hv (run_loadAt1 hty hi rfl hag (by rw[cell?_of hb];exact hcell)),fun d _=>(hx' off _ _ hcell hc).anyOwner (fun sz xs e=>hns sz xs e)⟩
     ·exact hk.elim
   ·exact hk.elim
  · -- a pointer to what is never written
   rename_i cs hx
   split at hk
   ·rename_i hag
    split at hk
    ·rename_i l1 hl1
     obtain⟨k1,k2⟩:=getAt_spec _ _ _ _ hl1;refine ret_sound hd hk fun e' h' he g w a s=>?_;obtain⟨_,r1⟩:=s.evo he m1 hx;generalize hv:a.eval x=v at r1
     cases r1 with
     |vp _ ad _ f hs hm hxx=>
      have hlen:∀j,j<i.size→∃y,cs[j]?=some y∧l1[j]?=some y:=by
       intro j hj;have:=k2 j hj;rw[Nat.zero_add]at this;have hlt:j<l1.length:=by omega
       exact⟨l1[j],by rw[←this];simp[hlt],by simp[hlt]⟩
      refine⟨.agg ((List.range i.size).map f).toArray,hrun a w _ _ hv ?_,fun d _=>.p _ _ _ (.agg _ _ (by simp[k1]) (fun v hv=>?_) fun j v y hj hy=>?_)⟩
      ·refine run_loadAt hty hi hs _ (by simp) (fun j v hj=>?_) hag
       simp only[List.getElem?_map,List.getElem?_range]at hj
       have hji:j<i.size:=by
        rcases Nat.lt_or_ge j i.size with h2|h2
        ·exact h2
        ·rw[List.getElem?_eq_none (by simpa using h2)]at hj;simp at hj
       rw[List.getElem?_range hji]at hj;simp at hj;subst hj;obtain⟨y,hy,_⟩:=hlen j hji;exact imm_cell (hm j y hy).1
      ·obtain⟨j,hj,rfl⟩:=List.mem_map.1 hv
       obtain⟨y,hy,_⟩:=hlen j (by simpa using hj);exact(hm j y hy).2
      ·have hji:j<i.size:=by have:=(List.getElem?_eq_some_iff.1 hy).1;omega
       rw[List.getElem?_map,List.getElem?_range hji]at hj;simp at hj;subst hj;obtain⟨y',hy1,hy2⟩:=hlen j hji;rw[hy2]at hy;cases hy;exact hxx j _ hy1
    ·exact hk.elim
   ·rename_i hag
    split at hk
    ·rename_i y r
     refine ret_sound hd hk fun e' h' he g w a s=>?_;obtain⟨_,r1⟩:=s.evo he m1 hx;generalize hv:a.eval x=v at r1
     cases r1 with
     |vp _ ad _ f hs hm hxx=>
      have h0:=hm 0 y (by simp);exact⟨f 0,hrun a w _ _ hv (run_loadAt1 hty hi hs hag (by simpa using imm_cell h0.1)),fun d _=>.p _ _ _ (hxx 0 y (by simp))⟩
    ·exact hk.elim
  · -- an element of an array of one's own
   rename_i l m hx
   split at hk
   ·rename_i xs hh
    split at hk
    ·exact hk.elim
    ·rename_i hag
     obtain⟨y,_,hy,hk⟩:=hk;refine retR_sound hd hk fun e' h' he hl g w a s=>?_;obtain⟨_,r1⟩:=s.evo he m1 hx;generalize hv:a.eval x=v at r1
     cases r1 with
     |ap _ _ _ hdm=>
      rw[hh]at hl
      cases s.heap.obj l _ hl with
      |arr _ vs E hb hlen hx' h1=>
       have hy:xs[m]?=some y:=by simpa using hy
       have hlt:m<vs.size:=by have:=(List.getElem?_eq_some_iff.1 hy).1;omega
       have hcell:vs[m]?=some vs[m]:=by simp[hlt]
       exact⟨vs[m],hrun a w _ _ hv (run_loadAt1 hty hi rfl hag (by rw[cell?_of hb];exact hcell)),fun d _=>.p _ _ _ (hx' m _ _ hcell hy)⟩
   ·exact hk.elim
  · -- an element of a growing slice
   rename_i l sz m c hx
   split at hk
   ·rename_i sz' xs hh
    have cells:∀{e':Env} {h':Heap} {g:Gh} {w:World} {a:Act} {y:PV},(∀t∈slotsOf o,eget e' t=eget e t)→hget h' l=hget h l→Sim g w n a e' h'→sz=sz'→xs[m]?=some y→
     a.eval x=.pointer (some ⟨g.ρ l,m*sz+c,none⟩)∧∃(vs:Array Value) (E:TypeId),w.heap[g.ρ l]?=some (.cells vs E (0,0))∧
      ∀(i:Nat) (z:PV),y.cells[c+i]?=some z→∃v,vs[m*sz+c+i]?=some v∧v.oneCell'=true∧PRel (imm g w) v z:=by
     intro e' h' g w a y he hl s hz hy;subst hz;obtain⟨_,r1⟩:=s.evo he m1 hx;rw[hh]at hl;refine⟨?_,?_⟩
     ·generalize hv:a.eval x=v at r1
      cases r1 with
      |ep _ _ _ _ _ hdm=>rfl
     ·cases s.heap.obj l _ hl with
      |gr _ _ _ hg=>
       obtain⟨vs,E,hb,h0,hlen,hzz,hxx⟩:=hg (.inr fun e=>by rw[e]at hy;simp at hy);refine⟨vs,E,hb,fun i z hz=>?_⟩;have:=hxx m y hy (c+i) z hz
       rwa [←Nat.add_assoc]at this
    split at hk
    ·rename_i hz hag
     have hz:sz=sz':=Nat.eq_of_beq_eq_true hz;obtain⟨y,_,hy,hk⟩:=hk;have hy:xs[m]?=some y:=by simpa using hy
     split at hk
     ·rename_i l1 hl1
      obtain⟨k1,k2⟩:=getAt_spec _ _ _ _ hl1;refine retR_sound hd hk fun e' h' he hl g w a s=>?_;obtain⟨hv,vs,E,hb,hxx⟩:=cells he hl s hz hy
      have hlen:∀j,j<i.size→∃z,y.cells[c+j]?=some z∧l1[j]?=some z:=by
       intro j hj;have:=k2 j hj;have hlt:j<l1.length:=by omega
       exact⟨l1[j],by rw[←this];simp[hlt],by simp[hlt]⟩
      have hle:i.size=0∨m*sz+c+i.size≤vs.size:=by
       rcases Nat.eq_zero_or_pos i.size with h0|h0
       ·exact .inl h0
       ·right
        obtain⟨z,hz1,_⟩:=hlen (i.size-1) (by omega);obtain⟨v,hv1,_,_⟩:=hxx _ _ hz1;have:=(Array.getElem?_eq_some_iff.1 hv1).1;omega
      have hll:((vs.toList.drop (m*sz+c)).take i.size).length=i.size:=by simp;omega
      have hget:∀(j:Nat) (v:Value),((vs.toList.drop (m*sz+c)).take i.size)[j]?=some v→j<i.size∧vs[m*sz+c+j]?=some v:=by
       intro j v hj;have hji:j<i.size:=by have:=(List.getElem?_eq_some_iff.1 hj).1;omega
       rw[List.getElem?_take,if_pos hji,List.getElem?_drop]at hj;exact⟨hji,by simpa using hj⟩
      refine⟨.agg ((vs.toList.drop (m*sz+c)).take i.size).toArray,hrun a w _ _ hv ?_,fun d _=>.p _ _ _ (.agg _ _ (hll.trans k1.symm) (fun v hv=>?_) fun j v z hj hz2=>?_)⟩
      rotate_left
      ·obtain⟨j,hj⟩:=List.getElem?_of_mem hv
       obtain⟨hji,hj'⟩:=hget j v hj;obtain⟨z',q1,q2⟩:=hlen j hji;obtain⟨v',p1,p2,_⟩:=hxx j _ q1;rw[hj']at p1;cases p1;exact p2
      rotate_left
      ·exact run_loadAt hty hi rfl _ hll (fun j v hj=>by rw[cell?_of hb];exact(hget j v hj).2) hag
      ·obtain⟨hji,hj'⟩:=hget j v hj
       obtain⟨z',q1,q2⟩:=hlen j hji;rw[q2]at hz2;cases hz2;obtain⟨v',p1,_,p2⟩:=hxx j _ q1;rw[hj']at p1;cases p1;exact p2
     ·exact hk.elim
    ·rename_i hz hag
     have hz:sz=sz':=Nat.eq_of_beq_eq_true hz;obtain⟨y,_,hy,hk⟩:=hk;have hy:xs[m]?=some y:=by simpa using hy
     split at hk
     ·rename_i z hz1
      refine retR_sound hd hk fun e' h' he hl g w a s=>?_;obtain⟨hv,vs,E,hb,hxx⟩:=cells he hl s hz hy;obtain⟨v',p1,_,p2⟩:=hxx 0 z (by simpa using hz1);exact⟨v',hrun a w _ _ hv (run_loadAt1 hty hi rfl hag (by rw[cell?_of hb];simpa using p1)),fun d _=>.p _ _ _ p2⟩
     ·exact hk.elim
    ·exact hk.elim
   ·exact hk.elim
  ·exact hk.elim
 ·exact hk.elim
end
end Go.AM
end
section
namespace Go.AM
section
variable {P:Program} {ty:Nat→Option TI} {n:Nat} {o:Oper} {e:Env} {h:Heap} {K:AK}
theorem prel_cells {M:Mm} {v:Value} {x:PV} (r:PRel M v x):v.cells.toList.length=x.cells.length∧(∀u∈v.cells.toList,u.oneCell'=true)∧
 ∀(j:Nat) (u:Value) (y:PV),v.cells.toList[j]?=some u→x.cells[j]?=some y→PRel M u y:=by
 have one:∀{v:Value} {x:PV},v.cells=#[v]→v.oneCell'=true→x.cells=[x]→PRel M v x→v.cells.toList.length=x.cells.length∧(∀u∈v.cells.toList,u.oneCell'=true)∧
  ∀(j:Nat) (u:Value) (y:PV),v.cells.toList[j]?=some u→x.cells[j]?=some y→PRel M u y:=by
  intro v x h1 h2 h3 h4;rw[h1,h3];refine⟨rfl,by simpa using h2,fun j u y hu hy=>?_⟩
  cases j with
  |zero=>simp at hu hy;subst hu;subst hy;exact h4
  |succ j=>simp at hu
 cases r with
 |b x=>exact one rfl rfl rfl (.b x)
 |i k m=>exact one rfl rfl rfl (.i k m)
 |s x=>exact one rfl rfl rfl (.s x)
 |agg vs xs hl h1 hx=>exact⟨by simpa[Value.cells,PV.cells] using hl,by simpa[Value.cells] using h1,fun j u y hu hy=>hx j u y (by simpa[Value.cells] using hu) hy⟩
 |nil sz=>exact one rfl rfl rfl (.nil sz)
 |sl a cap sz xs f hs hc hz hm hx=>exact one rfl rfl rfl (.sl a cap sz xs f hs hc hz hm hx)
 |nilp=>exact one rfl rfl rfl .nilp
 |nsl=>exact one rfl rfl rfl .nsl
 |adr s k a C q=>exact one rfl rfl rfl (.adr s k a C q)
 |ads s k a n cap q hc=>exact one rfl rfl rfl (.ads s k a n cap q hc)
 |pa T o1 sz s k m c a C q=>exact one rfl rfl rfl (.pa T o1 sz s k m c a C q)
 |bx a cs f hs hm hx=>exact one rfl rfl rfl (.bx a cs f hs hm hx)
 |ifv T v x hq=>exact one rfl rfl rfl (.ifv T v x hq)
 |nifc=>exact one rfl rfl rfl .nifc
 |amp s k a C q=>exact one rfl rfl rfl (.amp s k a C q)
theorem VRel.domUp {g:Gh} {w:World} {dom dom':Nat→Prop} (hd:∀k,dom k→dom' k) {ow:Option Owner} {v:Value} {x:AV} (r:VRel g w dom ow v x):VRel g w dom' ow v x:=
 VRel.keep (g:=g) (g':=g) (w:=w) (w':=w) (fun _ _ _ q=>q) (fun k hk=>⟨hd k hk,rfl⟩) (fun _ ds F _ q=>⟨ds,F,q,rfl⟩) (fun _ _ _ q=>⟨q,rfl,rfl⟩) r
theorem VRel.pv {g:Gh} {w:World} {dom:Nat→Prop} {ow:Option Owner} {v:Value} {x:PV} (r:VRel g w dom ow v (.p x)):PRel (imm g w) v x:=by
 cases r with|p _ _ _ h=>exact h
theorem aStore_sound (hty:TyOK P ty) {x y:Operand} {t:Nat} (ho:o.op=.store t x y) (hdn:o.dst=none) (hk:aStore ty e h t (ev e x) y K):∃f,K f∧OpOK P n o e h f:=by
 have m1:x∈o.op.operands:=by simp[ho,Op.operands]
 have m2:y∈o.op.operands:=by simp[ho,Op.operands]
 have hrun:∀(a:Act) (w w':World) (v u:Value),a.eval x=v→a.eval y=u→(Instr.storeAt t v u).run P w=.ok () w'→(execOp a.eval o).run P w=.ok .skip w':=by
  intro a w w' v u hv hu hr;simp only[execOp,ho,hv,hu,Sem.run_bind,hr,Result.andThen_ok,Sem.run_pure]
 unfold aStore at hk;split at hk
 ·rename_i i hi
  split at hk
  ·rename_i l off hx
   split at hk
   ·rename_i cs hh
    have cells:∀{e':Env} {h':Heap} {g:Gh} {w:World} {a:Act},(∀t∈slotsOf o,eget e' t=eget e t)→hget h' l=hget h l→Sim g w n a e' h'→
     a.eval x=.pointer (some ⟨g.ρ l,off,none⟩)∧∃(vs:Array Value) (E:TypeId),w.heap[g.ρ l]?=some (.cells vs E (0,0))∧vs.size=cs.length∧
      (∀(j:Nat) (v:Value) (c:AV),vs[j]?=some v→cs[j]?=some c→VRel g w (domOf h') (some (.cell l j)) v c)∧∀v∈vs.toList,v.oneCell'=true:=by
     intro e' h' g w a he hl s;obtain⟨_,r1⟩:=s.evo he m1 hx;rw[hh]at hl;refine⟨?_,?_⟩
     ·generalize hv:a.eval x=v at r1
      cases r1 with
      |ptr _ _ _ hdm=>rfl
     ·cases s.heap.obj l _ hl with
      |cells _ vs E hb hlen hx' h1=>exact⟨vs,E,hb,hlen,hx',h1⟩
    split at hk
    · -- a slice with the right to append
     rename_i sz xs st hy
     split at hk
     ·rename_i cs' hcs'
      split at hk
      ·rename_i hsz1
       have hsz1:i.size=1:=Nat.eq_of_beq_eq_true hsz1;obtain⟨q1,q2,q3⟩:=setAt_spec _ _ _ _ hcs';have q2:=q2 (by simp);refine⟨_,hk,fun e' h' he hl g w a s=>?_⟩;have hl0:hget h' l=hget h l:=hl l (by simp);obtain⟨hv,vs,E,hb,hlen,hx',h1⟩:=cells he hl0 s;rw[hh]at hl0;have hslot:st∈slotsOf o:=by simp[slotsOf,ho,Op.operands]
       have hr:=s.env st;rw[he st hslot,show eget e st=.so sz xs from hy]at hr;generalize hval:a.tmps.getD st undef=u at hr;have hval':a.eval (.tmp st)=u:=hval;have huc:u.cells=#[u]∧u.oneCell'=true:=by cases hr<;>exact⟨rfl,rfl⟩
       have hoff:off+1≤vs.size:=by simpa[hlen] using q2
       have hrs:=run_storeAt (P:=P) hty hi hb (v:=u) (off:=off) (by rw[huc.1,hsz1];rfl) (by rw[huc.1];exact hoff) (by rw[huc.1];simpa using huc.2);refine Oper.wp_skip (hrun a w _ _ _ hv hval' hrs) ?_;rw[huc.1];simp only[hdn,List.reverse_cons,List.reverse_nil,List.nil_append,List.cons_append,Act.put];have hwl:(vs.toList.take off++[u]++vs.toList.drop (off+[u].length)).length=vs.toList.length:=splice_length _ _ _ (by simpa using hoff);have hwg:=splice_get vs.toList [u] off (by simpa using hoff);have hown:=s.heap.own l _ hl0 rfl;have hpre:=s.heap.pre l _ hl0 rfl;have hdm:∀k,domOf h' k→domOf ((l,AObj.cells cs')::h') k:=fun k hk=>(domOf_set hl0 k).2 hk
       have hone:∀v∈(vs.toList.take off++[u]++vs.toList.drop (off+[u].length)),v.oneCell'=true:=by
        intro v hv;simp only[List.mem_append,List.mem_singleton]at hv;rcases hv with(hv|hv)|hv
        ·exact h1 v (List.mem_of_mem_take hv)
        ·subst hv;exact huc.2
        ·exact h1 v (List.mem_of_mem_drop hv)
       have hj3:∀j,j≠off→cs'[j]?=cs[j]?:=fun j hj=>by rw[q3 j,if_neg (by simp;omega)]
       have h03:cs'[off]?=some (.so sz xs):=by rw[q3 off,if_pos (by simp)];simp
       have hcells:∀(G:Gh) (D:Nat→Prop),G.ρ=g.ρ→(∀j v c,j≠off→VRel g w (domOf h') (some (.cell l j)) v c→VRel G (w.setRow (g.ρ l) (vs.toList.take off++[u]++vs.toList.drop (off+[u].length)).toArray) D (some (.cell l j)) v c)→
        VRel G (w.setRow (g.ρ l) (vs.toList.take off++[u]++vs.toList.drop (off+[u].length)).toArray) D (some (.cell l off)) u (.so sz xs)→
        ORel G (w.setRow (g.ρ l) (vs.toList.take off++[u]++vs.toList.drop (off+[u].length)).toArray) D l (.cells cs'):=by
        intro G D hG hoth hoff';refine .cells cs' (vs.toList.take off++[u]++vs.toList.drop (off+[u].length)).toArray E (by rw[hG];exact setRow_heap _ _ _ _ _ _ hb) (by rw[List.size_toArray,hwl,q1];simpa using hlen) (fun j v c w1 w2=>?_) (by simpa using hone);rw[List.getElem?_toArray,hwg j]at w1
        by_cases ej:j=off
        ·subst ej
         rw[if_pos (by simp)]at w1;simp at w1;subst w1;rw[h03]at w2;cases w2;exact hoff'
        ·rw[if_neg (by simp;omega)]at w1
         rw[hj3 j ej]at w2;exact hoth j v c ej (hx' j v c (by simpa using w1) w2)
       cases hr with
       |full _ ad _ _ hz hp=>
        refine⟨g,?_,Ext.setRow hown hpre hb (by rw[List.size_toArray,hwl];simp)⟩;have s1:=s.setObj (x:=.cells cs') hl0 hb (by rw[List.size_toArray,hwl];simp) (hcells g _ rfl (fun j v c _ r=>r.setRow hown hpre hb (by rw[List.size_toArray,hwl];simp) hdm (by simp)) (.full _ ad sz xs hz (hp.setRow hpre)));refine⟨s1.defers,s1.size,fun i=>?_,s1.heap,s1.bnd⟩
        by_cases hi:st=i
        ·subst hi;rw[eget_self]
         have:=s1.env st;rw[he st hslot,show eget e st=.so sz xs from hy]at this;exact this.copy
        ·rw[eget_ne hi];exact s1.env i
       |own _ ad cap _ _ bs E' hz hp hw hpre' hbb hsz'=>
        have hadl:ad.block≠g.ρ l:=fun eq=>by rw[eq,hown]at hw;cases hw
        have hadl':g.ρ l≠ad.block:=fun eq=>hadl eq.symm;refine⟨g.relabel ad.block (.cell l off),?_,?_⟩
        ·have rl:∀{ow v c},ow≠some (.slot st)→ow≠some (.obj l)→VRel g w (domOf h') ow v c→VRel (g.relabel ad.block (.cell l off)) (w.setRow (g.ρ l) (vs.toList.take off++[Value.slice (some ad) xs.length cap]++vs.toList.drop (off+[Value.slice (some ad) xs.length cap].length)).toArray) (domOf ((l,AObj.cells cs')::h')) ow v c:=by
          intro ow v c n1 n2 r;have r1:=r.relabel (o':=.cell l off) hw n1;exact VRel.setRow (g:=g.relabel ad.block (.cell l off)) (l:=l) (by simp[Gh.relabel,hown,hadl']) hpre hb (by rw[List.size_toArray,hwl];simp) hdm n2 r1
         have hO:=hcells (g.relabel ad.block (.cell l off)) (domOf ((l,AObj.cells cs')::h')) rfl (fun j v c _ r=>rl (by simp) (by simp) r)
          (.own (.cell l off) ad cap sz xs bs E' hz (PRel.setRow (g:=g.relabel ad.block (.cell l off)) (l:=l) hpre hp) (by simp[Gh.relabel]) hpre' (by rw[setRow_other _ _ _ _ hadl];exact hbb) hsz')
         have hwne:∀k z,hget h' k=some z→z.solid=true→g.ρ k≠ad.block:=fun k z hz' hq eq=>by have:=s.heap.own k z hz' hq;rw[eq,hw]at this;cases this
         refine⟨s.defers,s.size,fun i=>?_,⟨fun k z hz'=>?_,fun k z hz' hq=>?_,fun k z hz' hq=>?_⟩,fun b o2 hb2=>?_⟩
         ·by_cases hi:st=i
          ·subst hi;rw[eget_self]
           show VRel _ _ _ _ (a.tmps.getD st undef) _;rw[hval];exact .p _ _ _ (PRel.setRow (g:=g.relabel ad.block (.cell l off)) (l:=l) hpre hp)
          ·rw[eget_ne hi];exact rl (by simp;exact fun eq=>hi eq.symm) (by simp) (s.env i)
         ·by_cases ek:l=k
          ·subst ek;rw[hget_self]at hz';cases hz';exact hO
          ·rw[hget_ne ek]at hz'
           have hkl:z.solid=true→g.ρ k≠g.ρ l:=fun hq eq=>by have:=s.heap.own k z hz' hq;rw[eq,hown]at this;cases this;exact ek rfl
           have eo:z.solid=true→∀vv,(w.setRow (g.ρ l) vv).heap[g.ρ k]?=w.heap[g.ρ k]?:=fun hq vv=>setRow_other _ _ _ _ (hkl hq)
           cases s.heap.obj k z hz' with
           |cells ds vs' E2 hb' hl' hx2 h12=>exact .cells ds vs' E2 ((eo rfl _).trans hb') hl' (fun j v c w1 w2=>rl (by simp) (by simp) (hx2 j v c w1 w2)) h12
           |arr xs2 vs' E2 hb' hl' hx2 h12=>exact .arr xs2 vs' E2 ((eo rfl _).trans hb') hl' (fun j v c w1 w2=>PRel.setRow (g:=g.relabel ad.block (.cell l off)) (l:=l) hpre (hx2 j v c w1 w2)) h12
           |map kd xs2 es clock hb' hx2 hc=>
            exact .map kd xs2 es clock ((eo rfl _).trans hb') ⟨hx2.1,fun j p1 p2 p3 p4=>⟨PRel.setRow (g:=g.relabel ad.block (.cell l off)) (l:=l) hpre (hx2.2 j p1 p2 p3 p4).1,PRel.setRow (g:=g.relabel ad.block (.cell l off)) (l:=l) hpre (hx2.2 j p1 p2 p3 p4).2⟩⟩ hc
           |gr st2 sz2 xs2 hg=>exact .gr st2 sz2 xs2 fun q=>(hg q).mono (fun _ _ _ hv=>imm_setRow (g:=g.relabel ad.block (.cell l off)) (l:=l) hpre hv) (fun _ _ hv=>(eo (gr_solid q) _).trans hv)
           |dead=>exact .dead
           |glob gb gvs hgl=>exact ORel.globM hgl (fun h1 _ _=>⟨setRow_other _ _ _ _ (fun e=>by subst e;rw[hown]at h1;cases h1),by have hne:gb≠ad.block:=(fun e=>by subst e;rw[hw]at h1;cases h1);simp[Gh.relabel,hne,h1]⟩)
           |bld T E2 bs2 hbl=>exact ORel.bldM hbl rfl (eo rfl _) (fun bb hb2=>⟨by have hne:bb≠ad.block:=(fun e=>by subst e;rw[hw]at hb2;cases hb2);simp[Gh.relabel,hne,hb2],setRow_other _ _ _ _ (fun e=>by subst e;rw[hown]at hb2;cases hb2),rfl⟩)
           |store T3 o3 sp3 nx3 z3 M3 hst=>exact .store T3 o3 sp3 nx3 z3 M3 (hst.mono (fun _ _ _ hv=>imm_setRow (g:=g.relabel ad.block (.cell l off)) (l:=l) hpre hv) (fun bb hb2=>⟨by have hne:bb≠ad.block:=(fun e=>by subst e;rw[hw]at hb2;cases hb2);simp[Gh.relabel,hne,hb2],setRow_other _ _ _ _ (fun e=>by subst e;rw[hown]at hb2;cases hb2;exact ek rfl),rfl⟩) hst.sown)
         ·have:∃q,hget h' k=some q∧q.solid=true:=by
           by_cases ek:l=k
           ·subst ek;exact⟨_,hl0,rfl⟩
           ·rw[hget_ne ek]at hz';exact⟨z,hz',hq⟩
          obtain⟨q,hq,hqs⟩:=this;show(g.relabel ad.block (.cell l off)).own (g.ρ k)=_;simp[Gh.relabel,hwne k q hq hqs,s.heap.own k q hq hqs]
         ·have:∃q,hget h' k=some q∧q.solid=true:=by
           by_cases ek:l=k
           ·subst ek;exact⟨_,hl0,rfl⟩
           ·rw[hget_ne ek]at hz';exact⟨z,hz',hq⟩
          obtain⟨q,hq,hqs⟩:=this;exact s.heap.pre k q hq hqs
         ·rw[setRow_size]
          by_cases hbe:b=ad.block
          ·subst hbe;exact s.bnd _ _ hw
          ·simp only[Gh.relabel,if_neg hbe]at hb2;exact s.bnd _ _ hb2
        ·have e1:=Ext.relabel (w:=w) (o':=.cell l off) hw
         exact e1.trans (Ext.setRow (g:=g.relabel ad.block (.cell l off)) (l:=l) (by simp[Gh.relabel,hown,hadl']) hpre hb (by rw[List.size_toArray,hwl];simp))
      ·exact hk.elim
     ·exact hk.elim
    · -- any other value
     rename_i y _ _ hns
     split at hk
     ·rename_i ys hys
      split at hk
      ·rename_i cs' hsz hcs'
       have hsz:ys.length=i.size:=Nat.eq_of_beq_eq_true hsz;obtain⟨q1,q2,q3⟩:=setAt_spec _ _ _ _ hcs';refine⟨_,hk,fun e' h' he hl g w a s=>?_⟩;have hl0:hget h' l=hget h l:=hl l (by simp);obtain⟨hv,vs,E,hb,hlen,hx',h1⟩:=cells he hl0 s;rw[hh]at hl0;obtain⟨owy,r2⟩:=s.evo he m2 rfl;obtain⟨c1,c2,c3⟩:=cells?_rel r2 hys
       have hle:off+(a.eval y).cells.toList.length≤vs.size∨(a.eval y).cells.toList=[]:=by
        by_cases hy0:ys=[]
        ·right;subst hy0;exact List.eq_nil_of_length_eq_zero c1
        ·left;have:=q2 hy0;omega
       have hown:=s.heap.own l _ hl0 rfl;have hpre:=s.heap.pre l _ hl0 rfl;have hdm:∀k,domOf h' k→domOf ((l,AObj.cells cs')::h') k:=fun k hk=>(domOf_set hl0 k).2 hk;rcases hle with hle|hnil
       ·have hrs:=run_storeAt (P:=P) hty hi hb (v:=a.eval y) (off:=off) (by omega) hle c2
        have hwl:=splice_length vs.toList (a.eval y).cells.toList off (by simpa using hle);refine Oper.wp_skip (hrun a w _ _ _ hv rfl hrs) ⟨g,?_,Ext.setRow hown hpre hb (by rw[List.size_toArray,hwl];simp)⟩;simp only[hdn,List.reverse_cons,List.reverse_nil,List.nil_append,List.cons_append,Act.put];have hwg:=splice_get vs.toList (a.eval y).cells.toList off (by simpa using hle);refine s.setObj hl0 hb (by rw[List.size_toArray,hwl];simp) (.cells cs' _ E (setRow_heap _ _ _ _ _ _ hb) (by rw[List.size_toArray,hwl,q1];simpa using hlen) (fun j v c w1 w2=>?_) ?_)
        ·rw[List.getElem?_toArray,hwg j]at w1
         rw[q3 j]at w2
         by_cases hj:off≤j∧j<off+(a.eval y).cells.toList.length
         ·rw[if_pos hj]at w1
          rw[if_pos (by omega)]at w2;rcases c3 _ _ _ w1 w2 with⟨_,_,hvv,hcc⟩|r
          ·rw[hvv,hcc]
           exact((r2.anyOwner (ow':=none) (fun sz xs eq=>by
            cases hyy:y with
            |tmp t'=>exact hns sz xs t' eq hyy
            |const v'=>rw[hyy]at eq;exact(constAV_so eq).elim
            |func f'=>rw[hyy]at eq;simp[ev]at eq
            |global b'=>rw[hyy]at eq;simp[ev]at eq)).setRow hown hpre hb (by rw[List.size_toArray,hwl];simp) hdm (by simp)).anyOwner (fun sz xs eq=>by
            cases hyy:y with
            |tmp t'=>exact hns sz xs t' eq hyy
            |const v'=>rw[hyy]at eq;exact(constAV_so eq).elim
            |func f'=>rw[hyy]at eq;simp[ev]at eq
            |global b'=>rw[hyy]at eq;simp[ev]at eq)
          ·have r':=r.setRow (vs:=(vs.toList.take off++(a.eval y).cells.toList++vs.toList.drop (off+(a.eval y).cells.toList.length)).toArray) hown hpre hb (by rw[List.size_toArray,hwl];simp) hdm (by simp)
           cases c with
           |so sz xs=>
            cases r' with
            |full _ ad _ _ hz hp=>exact .full _ ad sz xs hz hp
           |_=>exact r'.anyOwner (fun _ _ eq=>by cases eq)
         ·rw[if_neg hj]at w1
          rw[if_neg (by omega)]at w2;exact(hx' j v c (by simpa using w1) w2).setRow hown hpre hb (by rw[List.size_toArray,hwl];simp) hdm (by simp)
        ·intro v hv
         simp only[List.mem_append]at hv;rcases hv with(hv|hv)|hv
         ·exact h1 v (List.mem_of_mem_take hv)
         ·exact c2 v hv
         ·exact h1 v (List.mem_of_mem_drop hv)
       · -- nothing is stored
        have hys0:ys=[]:=by rw[hnil]at c1;exact List.eq_nil_of_length_eq_zero c1.symm
        subst hys0;have hcc:cs'=cs:=by cases cs<;>simpa[setAt] using hcs'.symm
        subst hcc
        have hrs:(Instr.storeAt t (.pointer (some ⟨g.ρ l,off,none⟩)) (a.eval y)).run P w=.ok () w:=by
         have hne:¬(a.eval y).cells.size≠i.size:=by
          have:(a.eval y).cells.size=(a.eval y).cells.toList.length:=by simp
          rw[this,hnil];simp at hsz ⊢;omega
         simp only[Instr.storeAt,Instr.sureAddr,Sem.run_bind,Sem.run_pure,Result.andThen_ok,storeVar,run_sizeOf_ty hty hi,if_neg hne,hnil,storeCells]
        refine Oper.wp_skip (hrun a w _ _ _ hv rfl hrs) ⟨g,?_,Ext.refl _ _⟩;simp only[hdn,List.reverse_cons,List.reverse_nil,List.nil_append,List.cons_append,Act.put]
        have:=s.setObj (x:=.cells cs') hl0 hb rfl (by
         rw[setRow_self w _ _ _ _ hb];exact .cells cs' vs E hb hlen (fun j v c w1 w2=>(hx' j v c w1 w2).domUp hdm) h1)
        rw[setRow_self w _ _ _ _ hb]at this;exact this
      ·exact hk.elim
     ·exact hk.elim
   ·exact hk.elim
  · -- an element of an array
   rename_i l m hx
   split at hk
   ·rename_i xs hh
    have store1:∀(pv:PV),ev e y=.p pv→i.size=1→(∀{g:Gh} {w:World} {v},PRel (imm g w) v pv→v.cells=#[v]∧v.oneCell'=true)→m<xs.length→K ⟨[l],[],[(l,.arr (xs.set m pv))]⟩→∃f,K f∧OpOK P n o e h f:=by
     intro pv hy hsz1 hcell hm hk;refine⟨_,hk,fun e' h' he hl g w a s=>?_⟩;have hl0:hget h' l=hget h l:=hl l (by simp);rw[hh]at hl0;obtain⟨_,r1⟩:=s.evo he m1 hx;obtain⟨_,r2⟩:=s.evo he m2 hy;have hp:PRel (imm g w) (a.eval y) pv:=r2.pv;obtain⟨hc,h1c⟩:=hcell hp;generalize hv:a.eval x=v at r1
     cases r1 with
     |ap _ _ _ hdm=>
      cases s.heap.obj l _ hl0 with
      |arr _ vs E hb hlen hx' h1=>
       have hle:m+(a.eval y).cells.toList.length≤vs.size:=by rw[hc];simp;omega
       have hrs:=run_storeAt (P:=P) hty hi hb (v:=a.eval y) (off:=m) (by rw[hc,hsz1];rfl) hle (by rw[hc];simpa using h1c);have hown:=s.heap.own l _ hl0 rfl;have hpre:=s.heap.pre l _ hl0 rfl;have hwl:=splice_length vs.toList (a.eval y).cells.toList m (by simpa using hle);refine Oper.wp_skip (hrun a w _ _ _ hv rfl hrs) ⟨g,?_,Ext.setRow hown hpre hb (by rw[List.size_toArray,hwl];simp)⟩;simp only[hdn,List.reverse_cons,List.reverse_nil,List.nil_append,List.cons_append,Act.put];have hwg:=splice_get vs.toList (a.eval y).cells.toList m (by simpa using hle);refine s.setObj hl0 hb (by rw[List.size_toArray,hwl];simp) (.arr _ _ E (setRow_heap _ _ _ _ _ _ hb) (by rw[List.size_toArray,hwl];simpa using hlen) (fun j v c w1 w2=>?_) ?_)
       ·rw[List.getElem?_toArray,hwg j]at w1
        rw[List.getElem?_set]at w2
        by_cases ej:m=j
        ·subst ej
         rw[if_pos (by rw[hc];simp)]at w1;rw[hc]at w1;simp at w1;subst w1;rw[if_pos rfl,if_pos hm]at w2;cases w2;exact hp.setRow hpre
        ·rw[if_neg (by rw[hc];simp;omega)]at w1
         rw[if_neg ej]at w2;exact(hx' j v c (by simpa using w1) w2).setRow hpre
       ·intro v hv
        simp only[List.mem_append]at hv;rcases hv with(hv|hv)|hv
        ·exact h1 v (List.mem_of_mem_take hv)
        ·rw[hc]at hv;simp at hv;subst hv;exact h1c
        ·exact h1 v (List.mem_of_mem_drop hv)
    split at hk
    ·rename_i k1 q1 hy hsz
     obtain⟨hm,hk⟩:=hk;exact store1 _ hy (Nat.eq_of_beq_eq_true hsz) (fun r=>by cases r;exact⟨rfl,rfl⟩) hm hk
    ·rename_i q1 hy hsz
     obtain⟨hm,hk⟩:=hk;exact store1 _ hy (Nat.eq_of_beq_eq_true hsz) (fun r=>by cases r;exact⟨rfl,rfl⟩) hm hk
    ·rename_i q1 hy hsz
     obtain⟨hm,hk⟩:=hk;exact store1 _ hy (Nat.eq_of_beq_eq_true hsz) (fun r=>by cases r;exact⟨rfl,rfl⟩) hm hk
    ·exact hk.elim
   ·exact hk.elim
  · -- an element of a growing slice
   rename_i l sz m hx
   split at hk
   ·rename_i sz' xs hh
    split at hk
    ·rename_i pv hpv hz hzi hz0
     have hz:sz=sz':=Nat.eq_of_beq_eq_true hz;subst hz;have hzi:sz=i.size:=Nat.eq_of_beq_eq_true hzi;split at hk
     ·rename_i hpl
      have hpl:pv.cells.length=sz:=Nat.eq_of_beq_eq_true hpl;obtain⟨hm,hk⟩:=hk;refine⟨_,hk,fun e' h' he hl g w a s=>?_⟩;have hl0:hget h' l=hget h l:=hl l (by simp);rw[hh]at hl0;obtain⟨_,r1⟩:=s.evo he m1 hx;obtain⟨_,r2⟩:=s.evo he m2 rfl;have hp:PRel (imm g w) (a.eval y) pv:=pureL_rel r2 hpv;obtain⟨c1,c2,c3⟩:=prel_cells hp;generalize hv:a.eval x=v at r1
      cases r1 with
      |ep _ _ _ _ _ hdm=>
       cases s.heap.obj l _ hl0 with
       |gr _ _ _ hg=>
        have hne:xs≠[]:=fun q=>by rw[q]at hm;simp at hm
        have hsol:∀st,(AObj.gr st sz xs).solid=true:=fun st=>gr_solid (.inr hne);obtain⟨vs,E,hb,h0,hlen,hzz,hxx⟩:=hg (.inr hne)
        have hmul:m*sz+sz≤xs.length*sz:=by
         have:=Nat.mul_le_mul_right sz (show m+1≤xs.length by omega);rw[Nat.add_mul,Nat.one_mul]at this;exact this
        have hle:m*sz+0+(a.eval y).cells.toList.length≤vs.size:=by omega
        have hrs:=run_storeAt (P:=P) hty hi hb (v:=a.eval y) (off:=m*sz+0) (by omega) hle c2;have hown:=s.heap.own l _ hl0 (hsol _);have hpre:=s.heap.pre l _ hl0 (hsol _);have hwl:=splice_length vs.toList (a.eval y).cells.toList (m*sz+0) (by simpa using hle);refine Oper.wp_skip (hrun a w _ _ _ hv rfl hrs) ⟨g,?_,Ext.setRow hown hpre hb (by rw[List.size_toArray,hwl];simp)⟩;simp only[hdn,List.reverse_cons,List.reverse_nil,List.nil_append,List.cons_append,Act.put];have hwg:=splice_get vs.toList (a.eval y).cells.toList (m*sz+0) (by simpa using hle);refine s.setObj hl0 hb (by rw[List.size_toArray,hwl];simp) (.gr _ _ _ fun _=>⟨_,E,setRow_heap _ _ _ _ _ _ hb,h0,?_,?_,?_⟩) (gr_solid (.inr fun q=>hne (by cases xs with|nil=>rfl|cons a r=>cases m<;>simp at q)))
        ·rw[List.size_toArray,hwl];simpa using hlen
        ·intro z hz
         rcases List.mem_or_eq_of_mem_set hz with q|q
         ·exact hzz z q
         ·rw[q];exact hpl
        ·intro j z hj ii yy hi2
         rw[List.getElem?_set]at hj;rw[List.getElem?_toArray,hwg]
         by_cases ej:m=j
         ·subst ej
          rw[if_pos rfl,if_pos hm]at hj;cases hj;have hii:ii<sz:=by have:=(List.getElem?_eq_some_iff.1 hi2).1;omega
          rw[if_pos (by omega)];have hlt:ii<(a.eval y).cells.toList.length:=by omega
          have e1:m*sz+ii-(m*sz+0)=ii:=by omega
          rw[e1];exact⟨(a.eval y).cells.toList[ii],List.getElem?_eq_getElem hlt,c2 _ (List.getElem_mem hlt),(c3 ii _ _ (List.getElem?_eq_getElem hlt) hi2).setRow hpre⟩
         ·rw[if_neg ej]at hj
          have hii:ii<sz:=by have:=(List.getElem?_eq_some_iff.1 hi2).1;have:=hzz z (List.mem_of_getElem? hj);omega
          have hout:¬(m*sz+0≤j*sz+ii∧j*sz+ii<m*sz+0+(a.eval y).cells.toList.length):=by
           rcases Nat.lt_or_gt_of_ne ej with q|q
           ·have:=Nat.mul_le_mul_right sz (show m+1≤j by omega)
            rw[Nat.add_mul,Nat.one_mul]at this;omega
           ·have:=Nat.mul_le_mul_right sz (show j+1≤m by omega)
            rw[Nat.add_mul,Nat.one_mul]at this;omega
          rw[if_neg hout];obtain⟨v,p1,p3,p2⟩:=hxx j z hj ii yy hi2;exact⟨v,by simpa using p1,p3,p2.setRow hpre⟩
     ·exact hk.elim
    ·exact hk.elim
   ·exact hk.elim
  ·exact hk.elim
 ·exact hk.elim
end
end Go.AM
end
