/- Part of a machine over plain values. No conditions. -/
import Derived.Test.YtdmopjgjhfhfdaaGreatDoorAMDyn3
import Derived.LaidEql
set_option linter.all false
section
namespace Go.AM
section
variable {P:Program} {ty:Nat→Option TI} {n:Nat} {o:Oper} {e:Env} {h:Heap} {K:AK}
theorem E3 {x x':PV} {c:Nat} {ys:List PV} (h:KB x c ys=some x') (hne:ys≠[]) (h1:∀y∈ys,y.cells=[y]):
 x'.cells.length=x.cells.length∧c+ys.length≤x.cells.length∧∀j,x'.cells[j]?=if c≤j∧j<c+ys.length then ys[j-c]? else x.cells[j]?:=by
 unfold KB at h;split at h
 ·split at h
  ·rename_i cs' hcs
   cases h;obtain⟨q1,q2,q3⟩:=ia _ _ _ _ hcs;exact⟨q1,q2 hne,q3⟩
  ·cases h
 ·rename_i hna
  split at h
  ·rename_i y
   cases h;have e1:x.cells=[x]:=by cases x<;>first|rfl|exact absurd rfl (hna _)
   rw[e1,h1 x' (by simp)];refine⟨rfl,by simp,fun j=>?_⟩
   cases j with
   |zero=>simp
   |succ j=>simp
  ·cases h
theorem er.set {g:Gh} {w w':World} {l sp nx sz:Nat} {M:List (Nat×List PV)} {k:Nat} {a:Nat×Nat} {xs ys:List PV} (h:er g w l sp nx sz M) (d:nE g w g w' l sp) (hk:rD k M=some xs) (ha:g.σ sp k=some a)
 (hold:∀b,b≠a.1→w'.heap[b]?=w.heap[b]?) (hb:uP g w' a sz ys):er g w' l sp nx sz (sset k ys M):=by
 refine⟨h.sown,h.fresh,fun k' zs q=>?_,fun k1 k2 zs zs' b b' q1 q2 q3 q4 q5=>?_,by rw[Ad];exact h.nodup⟩
 ·rcases x7 h.nodup q with⟨q1,q2⟩|q1
  ·obtain⟨b,p1,p2,p3,p4⟩:=h.row k' zs q1
   exact⟨b,p1,p2,p3,p4.mono d.bR (hold b.1 fun e=>q2 (h.inj k' k zs xs b a q1 (cW hk) p1 ha e))⟩
  ·cases q1
   obtain⟨b,p1,p2,p3,p4⟩:=h.row k xs (cW hk);rw[ha]at p1;cases p1;exact⟨a,ha,p2,p3,hb⟩
 ·have m:∀{k zs},(k,zs)∈sset k ys M∨True→True:=fun _=>trivial
  have key:∀{k' zs},(k',zs)∈sset k ys M→∃zs',(k',zs')∈M:=fun q=>by
   rcases x7 h.nodup q with⟨p,_⟩|p
   ·exact⟨_,p⟩
   ·cases p;exact⟨xs,cW hk⟩
  obtain⟨_,p1⟩:=key q1;obtain⟨_,p2⟩:=key q2;exact h.inj k1 k2 _ _ b b' p1 p2 q3 q4 q5
theorem Bw (hty:bz P ty) {x y:Operand} {t:Nat} (ho:o.op=.store t x y) (hdn:o.dst=none) (hk:EP ty e h t (ev e x) y K):∃f,K f∧cF P n o e h f:=by
 have m1:x∈o.op.operands:=by simp[ho,Op.operands]
 have m2:y∈o.op.operands:=by simp[ho,Op.operands]
 have hrun:∀(a:Act) (w w':World) (v u:Value),a.eval x=v→a.eval y=u→(Instr.storeAt t v u).run P w=.ok () w'→(execOp a.eval o).run P w=.ok .skip w':=by
  intro a w w' v u hv hu hr;simp only[execOp,ho,hv,hu,Sem.run_bind,hr,Result.andThen_ok,Sem.run_pure]
 unfold EP at hk;split at hk
 ·rename_i i hi
  split at hk
  ·rename_i T one sz0 sp0 k m c pv hp hpv
   split at hk
   ·rename_i hpl hz0
    have hpl:pv.cells.length=i.size:=Nat.eq_of_beq_eq_true hpl;have hpos:0<i.size:=Nat.pos_of_ne_zero fun q=>by rw[q]at hz0;cases hz0
    obtain⟨l,sp,nx,sz,M,hg,hk⟩:=dI hk;obtain⟨⟨rfl,hsn,hsz⟩,xs,hxs,x0,_,hx0,hk⟩:=hk;have hx0:xs[m]?=some x0:=by simpa using hx0
    split at hk
    ·rename_i x' hx'
     refine⟨_,hk,fun e' h' he hl g w a s=>?_⟩;have hl0:aG h' l=some (.store T one sp0 nx sz M):=(hl l (by simp)).trans hg;have hst:=s.blk hl0;obtain⟨_,r1⟩:=s.cN he m1 rfl;obtain⟨_,r2⟩:=s.cN he m2 rfl;have hpr:aZ (bR g w) (a.eval y) pv:=kL r2 hpv;obtain⟨c1,c2,c3⟩:=nK hpr;obtain⟨A,hA,hv⟩:=De r1 hp;rw[Kl hsz]at hv;obtain⟨A',hA',hown,hpre,vs,E,hb,h0,⟨hlen1,hlen2⟩,hzz,hxx⟩:=hst.D4 hsn k xs (cW hxs);rw[hA]at hA';cases hA'
     have hone:∀z∈pv.cells,z.cells=[z]:=fun z hz=>by
      obtain⟨q,hq⟩:=List.getElem?_of_mem hz;have hql:q<(a.eval y).cells.toList.length:=by rw[c1];exact(List.getElem?_eq_some_iff.1 hq).1
      exact nN (c3 q _ z (List.getElem?_eq_getElem hql) hq) (c2 _ (List.getElem_mem hql))
     have hpne:pv.cells≠[]:=fun q=>by rw[q]at hpl;simp at hpl;omega
     obtain⟨k1,k2,k3⟩:=E3 hx' hpne hone;have hm:m<xs.length:=(List.getElem?_eq_some_iff.1 hx0).1;have hx0z:x0.cells.length=sz:=hzz x0 (List.mem_of_getElem? hx0);have hul:(a.eval y).cells.toList.length=i.size:=by rw[c1];exact hpl
     have hmul:m*sz+sz≤xs.length*sz:=by
      have:=Nat.mul_le_mul_right sz (show m+1≤xs.length by omega);rw[Nat.add_mul,Nat.one_mul]at this;exact this
     have hxl:xs.length*sz≤vs.size:=Nat.le_trans (Nat.mul_le_mul_right sz hlen1) hlen2;have hle:m*sz+c+(a.eval y).cells.toList.length≤vs.size:=by omega
     have hrs:=lV (P:=P) hty hi hb (v:=a.eval y) (off:=m*sz+c) hul hle c2;have hwl:=fz vs.toList (a.eval y).cells.toList (m*sz+c) (by simpa using hle);have hwg:=ju vs.toList (a.eval y).cells.toList (m*sz+c) (by simpa using hle);generalize (vs.toList.take (m*sz+c)++(a.eval y).cells.toList++vs.toList.drop (m*sz+c+(a.eval y).cells.toList.length))=row at hrs hwl hwg;have hrs2:row.toArray.size=vs.size:=by rw[List.size_toArray,hwl];simp
     have d1:=nE.setRow (g:=g) (w:=w) (l:=l) (sp:=sp0) hown hpre hb hrs2 s.bnd
     have hblk:uP g (w.setRow A.1 row.toArray) A sz (xs.set m x'):=by
      refine .inl ⟨row.toArray,E,setRow_heap _ _ _ _ _ _ hb,h0,⟨by simpa using hlen1,by rw[hrs2];exact hlen2⟩,fun z hz=>?_,fun j z hj q yy hq=>?_⟩
      ·rcases List.mem_or_eq_of_mem_set hz with q|q
       ·exact hzz z q
       ·rw[q,k1];exact hx0z
      ·rw[List.getElem?_set]at hj
       rw[List.getElem?_toArray,hwg]
       by_cases ej:m=j
       ·subst ej
        rw[if_pos rfl,if_pos hm]at hj;cases hj;rw[k3]at hq
        by_cases hin:c≤q∧q<c+pv.cells.length
        ·rw[if_pos hin]at hq
         rw[if_pos (by omega)];have hlt:q-c<(a.eval y).cells.toList.length:=by omega
         have e1:m*sz+q-(m*sz+c)=q-c:=by omega
         rw[e1];exact⟨_,List.getElem?_eq_getElem hlt,c2 _ (List.getElem_mem hlt),(c3 _ _ _ (List.getElem?_eq_getElem hlt) hq).mono d1.bR⟩
        ·rw[if_neg hin]at hq
         have hql:q<sz:=by have:=(List.getElem?_eq_some_iff.1 hq).1;omega
         rw[if_neg (by omega)];obtain⟨v,p1,p3,p2⟩:=hxx m x0 hx0 q yy hq;exact⟨v,by simpa using p1,p3,p2.mono d1.bR⟩
       ·rw[if_neg ej]at hj
        have hii:q<sz:=by have:=(List.getElem?_eq_some_iff.1 hq).1;have:=hzz z (List.mem_of_getElem? hj);omega
        have hout:¬(m*sz+c≤j*sz+q∧j*sz+q<m*sz+c+(a.eval y).cells.toList.length):=by
         rcases Nat.lt_or_gt_of_ne ej with q2|q2
         ·have:=Nat.mul_le_mul_right sz (show m+1≤j by omega)
          rw[Nat.add_mul,Nat.one_mul]at this;omega
         ·have:=Nat.mul_le_mul_right sz (show j+1≤m by omega)
          rw[Nat.add_mul,Nat.one_mul]at this;omega
        rw[if_neg hout];obtain⟨v,p1,p3,p2⟩:=hxx j z hj q yy hq;exact⟨v,by simpa using p1,p3,p2.mono d1.bR⟩
     have hst2:=hst.set d1 hxs hA (fun b hb=>setRow_other _ _ _ _ hb) hblk;obtain⟨s2,hE⟩:=s.dyn hl0 d1 hst2;refine Oper.wp_skip (hrun a w _ _ _ hv rfl hrs) ⟨g,?_,hE⟩;simp only[hdn,List.reverse_cons,List.reverse_nil,List.nil_append,List.cons_append,Act.put];exact s2
    ·exact hk.elim
   ·exact hk.elim
  ·exact hk.elim
 ·exact hk.elim
end
end Go.AM
end
section
namespace Go.AM
section
variable {P:Program} {ty:Nat→Option TI} {n:Nat} {o:Oper} {e:Env} {h:Heap} {K:AK}
theorem Ej.rows {g:Gh} {w:World} {a2:Option Addr} {sz:Nat} {ys:List PV} {F2:Nat→Value} (hF2:Ej (bR g w) a2 sz ys F2):∀(jj:Nat) (x:PV) (i:Nat) (y:PV),ys[jj]?=some x→x.cells[i]?=some y→jj*sz+i<ys.length*sz∧(F2 (jj*sz+i)).oneCell'=true∧aZ (bR g w) (F2 (jj*sz+i)) y:=by
 intro jj x i y hx hi;have hi':i<sz:=by have:=(List.getElem?_eq_some_iff.1 hi).1;have:=hF2.hz x (List.mem_of_getElem? hx);omega
 have hjl:jj<ys.length:=(List.getElem?_eq_some_iff.1 hx).1;obtain⟨b2,hb2⟩:=hF2.ad (fun q=>by subst q;simp at hjl);subst hb2;obtain⟨q1,q2,q3⟩:=hF2.cell b2 jj x i y rfl hx hi;refine⟨?_,q2,q3⟩;have:(jj+1)*sz≤ys.length*sz:=Nat.mul_le_mul_right _ hjl;rw[Nat.add_mul]at this;omega
theorem tR (hty:bz P ty) {t t2 el el2:TypeId} {j:TI} (hu:P.underlying t=some (.slice el)) (hu2:P.underlying t2=some (.slice el2)) (hj:ty el=some j) (hs0:0<j.size) (hb0:j.bytes≠0)
 {g:Gh} {w:World} {a:Act} {e':Env} {h':Heap} (s:cp g w n a e' h') {l sp nx:Nat} {M M':List (Nat×List PV)} (hl:aG h' l=some (.store el false sp nx j.size M)) (hsub:∀p∈M',p∈M) (hnd:(M'.map (·.1)).Nodup)
 {xs ys:List PV} {F2:Nat→Value} {a2:Option Addr} {cap2:Nat} (hF2:Ej (bR g w) a2 j.size ys F2) (hroom:(xs.length+ys.length)*j.bytes≤140737488355328) (u:TypeId) (ax:Option Addr) (cap:Nat) (F:Nat→Value)
 (hfit:cap<xs.length+ys.length) (hlc:xs.length≤cap) (hzx:∀x∈xs,x.cells.length=j.size)
 (hxc:∀k,(Builtin.firstCells j.size xs.length (.slice ax xs.length cap)).run P { w with drawn:=k }=.ok ((List.range (xs.length*j.size)).map F).toArray { w with drawn:=k })
 (hx2:∀(jj:Nat) (x:PV) (i:Nat) (y:PV),xs[jj]?=some x→x.cells[i]?=some y→jj*j.size+i<xs.length*j.size∧(F (jj*j.size+i)).oneCell'=true∧aZ (bR g w) (F (jj*j.size+i)) y):
 ∃v' g' w',(Builtin.append_ #[t,t2] u #[.slice ax xs.length cap,.slice a2 ys.length cap2]).run P w=.ok v' w'∧cp g' w' n a e' ((l,.store el false sp (nx+1) j.size ((nx,xs++ys)::M'))::h')∧Ext g w g' w'∧aZ (bR g' w') v' (.jR sp nx (xs.length+ys.length)):=by
 obtain⟨inf,z,i1,i2,i3,i4,i5,i6⟩:=(hty el j hj).inf;have hst:=s.blk hl;have hzs:z.cells.size=j.size:=by rw[←i6,←i5];simp
 have hmul:(xs.length+ys.length)*j.size=xs.length*j.size+ys.length*j.size:=Nat.add_mul _ _ _;have hyc:∀k,(Builtin.firstCells j.size ys.length (.slice a2 ys.length cap2)).run P { w with drawn:=k }=.ok ((List.range (ys.length*j.size)).map F2).toArray { w with drawn:=k }:=fun k=>eR (g:=g) (w:={ w with drawn:=k }) hF2 rfl;obtain⟨c,hc,hrun⟩:=run_append_grow hu hu2 i1 i2 i4 hfit hlc hxc hyc (by rw[i3];exact hroom) (by rw[i3];exact hb0) u;generalize hcells:((List.range (xs.length*j.size)).map F).toArray++((List.range (ys.length*j.size)).map F2).toArray++Builtin.zeroCells z.cells (c-(xs.length+ys.length))=row at hrun
 have hsize:row.size=c*j.size:=by
  rw[←hcells];simp only[Array.size_append,List.size_toArray,List.length_map,List.length_range,p9,hzs];rw[←hmul,←Nat.add_mul];congr 1;omega
 have hrow1:∀k,k<xs.length*j.size→row[k]?=some (F k):=by
  intro k hk;rw[←hcells,Array.append_assoc,Array.getElem?_append_left (by simpa using hk)];simp[hk]
 have hrow2:∀k,k<ys.length*j.size→row[xs.length*j.size+k]?=some (F2 k):=by
  intro k hk;rw[←hcells,Array.getElem?_append_left (by simp;omega),Array.getElem?_append_right (by simp)];simp[hk]
 have d1:nE g w (g.di w.heap.size c l sp nx) (World.push { w with drawn:=w.drawn+1 } (.cells row el (0,0))) l sp:=
  (nE.drew (k:=w.drawn+1) s.bnd).trans (nE.push (w:={ w with drawn:=w.drawn+1 }) (C:=c) (hst.fresh nx (Nat.le_refl _)) s.bnd)
 have hblk:uP (g.di w.heap.size c l sp nx) (World.push { w with drawn:=w.drawn+1 } (.cells row el (0,0))) (w.heap.size,c) j.size (xs++ys):=by
  refine .inl ⟨row,el,eF (w:={ w with drawn:=w.drawn+1 }),hs0,⟨by rw[List.length_append];exact hc,by rw[hsize];exact Nat.le_refl _⟩,fun x hx=>?_,CU (F:=F) (F2:=F2) (fun jj x i y q1 q2=>?_) (fun jj x i y q1 q2=>?_)⟩
  ·rcases List.mem_append.1 hx with hx|hx
   ·exact hzx x hx
   ·exact hF2.hz x hx
  ·obtain⟨k1,k2,k3⟩:=hx2 jj x i y q1 q2
   exact⟨hrow1 _ k1,k2,k3.mono d1.bR d1.σ⟩
  ·obtain⟨k1,k2,k3⟩:=hF2.rows jj x i y q1 q2
   exact⟨hrow2 _ k1,k2,k3.mono d1.bR d1.σ⟩
 have hst2:=hst.add (a:=(w.heap.size,c)) (xs:=xs++ys) d1 hsub hnd (by simp[Gh.di]) (fun k hk=>by simp[Gh.di,hk]) (fun k zs b q1 q2=>by
  obtain⟨b',p1,p2,_⟩:=hst.row k zs (hsub _ q1);rw[q2]at p1;cases p1;have hlt:=s.bnd _ _ p2;have hne:b.1≠w.heap.size:=by omega
  exact⟨hne,by simp[Gh.di,hne],by simp[Gh.di,hne],cD (w:={ w with drawn:=w.drawn+1 }) hlt⟩) (by simp[Gh.di]) (by simp[Gh.di]) hblk
 obtain⟨s2,hE⟩:=s.dyn hl d1 hst2;exact⟨_,_,_,hrun,s2,hE,.jR sp nx w.heap.size _ c (by simp[bR,Gh.di]) hc⟩
theorem DX (hty:bz P ty) {t t2 el el2:TypeId} {j:TI} (hu:P.underlying t=some (.slice el)) (hu2:P.underlying t2=some (.slice el2)) (hj:ty el=some j) (hs0:0<j.size) (hb0:j.bytes≠0)
 {g:Gh} {w:World} {a:Act} {e':Env} {h':Heap} (s:cp g w n a e' h') {l sp nx:Nat} {M:List (Nat×List PV)} (hl:aG h' l=some (.store el false sp nx j.size M)) {k m:Nat} {v1:Value} (r1:aZ (bR g w) v1 (.jR sp k m))
 {xs ys:List PV} (hxs:rD k M=some xs) (hm:m≤xs.length) {F2:Nat→Value} {a2:Option Addr} {cap2:Nat} (hF2:Ej (bR g w) a2 j.size ys F2) (hroom:(m+ys.length)*j.bytes≤140737488355328) (u:TypeId):
 ∃v' g' w',(Builtin.append_ #[t,t2] u #[v1,.slice a2 ys.length cap2]).run P w=.ok v' w'∧cp g' w' n a e' ((l,.store el false sp (nx+1) j.size ((nx,xs.take m++ys)::mH k M))::h')∧Ext g w g' w'∧aZ (bR g' w') v' (.jR sp nx (m+ys.length)):=by
 obtain⟨inf,z,i1,i2,i3,i4,i5,i6⟩:=(hty el j hj).inf;have hst:=s.blk hl
 cases r1 with
 |jR _ _ A _ cap hA hc=>
  replace hA:g.σ sp k=some (A,cap):=hA;obtain⟨A',hA',hown,hpre,vs,E,hb,_,⟨hlen1,hlen2⟩,hzz,hxx⟩:=hst.D4 (Nat.ne_of_gt hs0) k xs (cW hxs);rw[hA]at hA';cases hA';replace hlen1:xs.length≤cap:=hlen1;replace hlen2:cap*j.size≤vs.size:=hlen2;have hb:w.heap[A]?=some (.cells vs E (0,0)):=hb;have htl:(xs.take m).length=m:=by simp;omega
  have hmc:m*j.size≤cap*j.size:=Nat.mul_le_mul_right _ hc
  have hcell:∀q,q<m*j.size→vs[q]?=some ((vs[q]?).getD undef):=fun q hq=>by
   have:q<vs.size:=by omega
   simp[this]
  have hx2:∀(jj:Nat) (x:PV) (i:Nat) (y:PV),(xs.take m)[jj]?=some x→x.cells[i]?=some y→jj*j.size+i<(xs.take m).length*j.size∧((vs[jj*j.size+i]?).getD undef).oneCell'=true∧aZ (bR g w) ((vs[jj*j.size+i]?).getD undef) y:=by
   intro jj x i y hx hi;have hjl:jj<(xs.take m).length:=(List.getElem?_eq_some_iff.1 hx).1;have hx':xs[jj]?=some x:=by rw[List.getElem?_take]at hx;split at hx<;>first|exact hx|cases hx
   have hi':i<j.size:=by have:=(List.getElem?_eq_some_iff.1 hi).1;have:=hzz x (List.mem_of_getElem? hx');omega
   obtain⟨v,q1,q2,q3⟩:=hxx jj x hx' i y hi;refine⟨?_,by rw[q1];exact q2,by rw[q1];exact q3⟩;have:(jj+1)*j.size≤(xs.take m).length*j.size:=Nat.mul_le_mul_right _ hjl;rw[Nat.add_mul]at this;omega
  have hzx:∀x∈xs.take m,x.cells.length=j.size:=fun x hx=>hzz x (List.mem_of_mem_take hx);have hsub:∀p∈mH k M,p∈M:=fun p hp=>mO hp;have hnd:((mH k M).map (·.1)).Nodup:=(uL k M).nodup hst.nodup
  by_cases hfit:m+ys.length≤cap
  · -- in place
   have hy:=eR (P:=P) (g:=g) (w:=w) (len:=ys.length) (cap:=cap2) hF2 rfl;have hle1:(m+ys.length)*j.size≤cap*j.size:=Nat.mul_le_mul_right _ hfit;rw[Nat.add_mul]at hle1;have hl2:((List.range (ys.length*j.size)).map F2).length=ys.length*j.size:=by simp
   have hone2:∀v∈(List.range (ys.length*j.size)).map F2,v.oneCell'=true:=by
    intro v hv;obtain⟨q,hq,rfl⟩:=List.mem_map.1 hv;have hq:q<ys.length*j.size:=by simpa using hq
    obtain⟨b2,hb2⟩:=hF2.ad (fun q=>by subst q;simp at hq);subst hb2;exact(hF2.all hq).2
   have hst1:=run_storeCells_at (P:=P) A (m*j.size) E ((List.range (ys.length*j.size)).map F2) 0 vs w hb (by rw[hl2];omega) hone2;simp only[Nat.add_zero]at hst1;have hrun:=lG hu hu2 i1 i2 (w:=w) (a:=some ⟨A,0,none⟩) (cap:=cap) hfit hy (fun b q=>by cases q;rw[Addr.add_plain,Nat.zero_add];exact hst1) (fun q=>by cases q) u;have hsl':=fz vs.toList ((List.range (ys.length*j.size)).map F2) (m*j.size) (by rw[hl2];simp;omega);have hsg:=ju vs.toList ((List.range (ys.length*j.size)).map F2) (m*j.size) (by rw[hl2];simp;omega);generalize (vs.toList.take (m*j.size)++(List.range (ys.length*j.size)).map F2++vs.toList.drop (m*j.size+((List.range (ys.length*j.size)).map F2).length))=row at hst1 hrun hsl' hsg;have hrows:row.toArray.size=vs.size:=by simpa using hsl'
   have d1:nE g w (g.num sp nx (A,cap)) w l sp:=nE.num (hst.fresh nx (Nat.le_refl _)) s.bnd;have d2:nE (g.num sp nx (A,cap)) w (g.num sp nx (A,cap)) (w.setRow A row.toArray) l sp:=nE.setRow (g:=g.num sp nx (A,cap)) hown hpre hb hrows s.bnd;have d:=d1.trans d2
   have hblk:uP (g.num sp nx (A,cap)) (w.setRow A row.toArray) (A,cap) j.size (xs.take m++ys):=by
    refine .inl ⟨row.toArray,E,setRow_heap _ _ _ _ _ _ hb,hs0,⟨by rw[List.length_append,htl];exact hfit,by rw[hrows];exact hlen2⟩,fun x hx=>?_,CU (F:=fun k=>(vs[k]?).getD undef) (F2:=F2) (fun jj x i y q1 q2=>?_) (fun jj x i y q1 q2=>?_)⟩
    ·rcases List.mem_append.1 hx with hx|hx
     ·exact hzx x hx
     ·exact hF2.hz x hx
    ·obtain⟨k1,k2,k3⟩:=hx2 jj x i y q1 q2
     rw[htl]at k1;refine⟨?_,k2,k3.mono d.bR d.σ⟩;rw[List.getElem?_toArray,hsg,if_neg (by omega)];simpa using hcell _ k1
    ·obtain⟨k1,k2,k3⟩:=hF2.rows jj x i y q1 q2
     refine⟨?_,k2,k3.mono d.bR d.σ⟩;rw[htl,List.getElem?_toArray,hsg,if_pos (by rw[hl2];omega),show m*j.size+(jj*j.size+i)-m*j.size=jj*j.size+i by omega];simp[k1]
   have hst2:=hst.add (a:=(A,cap)) (xs:=xs.take m++ys) d hsub hnd (by simp[Gh.num]) (fun q hq=>by simp[Gh.num,hq]) (fun q zs b q1 q2=>by
    have hne:b.1≠A:=fun e=>Cf hst.nodup q1 (hst.inj q k zs xs b (A,cap) (hsub _ q1) (cW hxs) q2 hA e);exact⟨hne,rfl,rfl,setRow_other _ _ _ _ hne⟩) hown hpre hblk
   obtain⟨s2,hE⟩:=s.dyn hl d hst2;exact⟨_,_,_,hrun,s2,hE,.jR sp nx A _ cap (by simp[bR,Gh.num]) hfit⟩
  ·have:=tR hty hu hu2 hj hs0 hb0 s hl hsub hnd (xs:=xs.take m) (cap2:=cap2) hF2 (by rw[htl];exact hroom) u (some ⟨A,0,none⟩) cap (fun k=>(vs[k]?).getD undef) (by rw[htl];omega) (by rw[htl];exact hc) hzx (fun q=>by
    rw[htl];simp only[Builtin.firstCells];exact run_loadCells { w with drawn:=q } ⟨A,0,none⟩ _ _ (fun i hi=>by rw[Addr.add_plain,Nat.zero_add];exact(dx (w:={ w with drawn:=q }) hb i).trans (hcell i hi))) hx2
   rw[htl]at this;exact this
theorem BO (hty:bz P ty) (hd:∀d,o.dst=some d→d<n) {t len:Nat} {parts:List (Nat×Operand)} (ho:o.op=.buildSlice t len ⟨parts⟩) (hk:FX ty o e h t len parts K):∃f,K f∧cF P n o e h f:=by
 unfold FX at hk;split at hk
 ·rename_i i hi
  split at hk
  ·rename_i el hde
   have hu:=(hty t i hi).und;rw[hde]at hu;split at hk
   ·rename_i j hj
    split at hk
    ·rename_i xs d hxs hdd
     split at hk
     ·rename_i hlen hsm hs0
      have hlen:xs.length=len:=Nat.eq_of_beq_eq_true hlen;have hsm:len*j.size≤16777216:=Nat.le_of_ble_eq_true hsm;have hs0:0<j.size:=Nat.pos_of_ne_zero fun q=>by rw[q]at hs0;cases hs0
      obtain⟨l,sp,nx,sz,M,hg,hk⟩:=dI hk;split at hk
      ·rename_i hsz
       obtain rfl:sz=j.size:=Nat.eq_of_beq_eq_true hsz;refine⟨_,hk,fun e' h' he hl g w a s=>?_⟩;have hl0:=(hl l (by simp)).trans hg;obtain⟨row,hrun,hrow,hrz⟩:=ze hty ho hu hj hxs hlen hsm hs0 he s;have hst:=s.blk hl0;obtain⟨_,k2,_⟩:=iK 0 parts xs hxs;have d1:nE g w (g.di w.heap.size len l sp nx) (World.push w (.cells row el (0,0))) l sp:=nE.push (C:=len) (hst.fresh nx (Nat.le_refl _)) s.bnd
       have hblk:uP (g.di w.heap.size len l sp nx) (World.push w (.cells row el (0,0))) (w.heap.size,len) j.size xs:=.inl ⟨row,el,eF,hs0,⟨by omega,hrz⟩,k2,fun jj x q1 ii y q2=>by
        obtain⟨_,v,p1,p2,p3⟩:=hrow jj x ii y q1 q2;exact⟨v,p1,p2,p3.mono d1.bR d1.σ⟩⟩
       have hst2:=hst.add (a:=(w.heap.size,len)) (xs:=xs) d1 (fun _ hp=>hp) hst.nodup (by simp[Gh.di]) (fun k hk=>by simp[Gh.di,hk]) (fun k zs b q1 q2=>by
        obtain⟨b',p1,p2,_⟩:=hst.row k zs q1;rw[q2]at p1;cases p1;have hlt:=s.bnd _ _ p2;have hne:b.1≠w.heap.size:=by omega
        exact⟨hne,by simp[Gh.di,hne],by simp[Gh.di,hne],cD hlt⟩) (by simp[Gh.di]) (by simp[Gh.di]) hblk
       obtain⟨s2,hE⟩:=s.dyn hl0 d1 hst2;refine Oper.cj hrun ⟨_,?_,hE⟩;rw[hdd];exact s2.put (hd d hdd) (.p _ _ _ (.jR sp nx w.heap.size _ len (by simp[bR,Gh.di]) (Nat.le_refl _)))
      ·exact hk.elim
     ·exact hk.elim
    ·exact hk.elim
   ·exact hk.elim
  ·exact hk.elim
 ·exact hk.elim
theorem zR (hty:bz P ty) (hd:∀d,o.dst=some d→d<n) {x y:Operand} {t t2:Nat} (ho:o.op=.call { callee:=.builtin .append,args:=⟨[x,y]⟩,argTypes:=⟨[t,t2]⟩ })
 (hk:A9 ty o e h t t2 (ev e x) (ev e y) K):∃f,K f∧cF P n o e h f:=by
 have m1:x∈o.op.operands:=by simp[ho,Op.operands,Call.operands]
 have m2:y∈o.op.operands:=by simp[ho,Op.operands,Call.operands]
 have hrun:∀(a:Act) (w w':World) (v:Value),(∀u,(Builtin.append_ #[t,t2] u #[a.eval x,a.eval y]).run P w=.ok v w')→(execOp a.eval o).run P w=.ok (.value v) w':=by
  intro a w w' v hl;obtain⟨cs,hcs⟩:=cc (P:=P) ho a w;rw[hcs];simp only[builtin,List.map_cons,List.map_nil,Sem.run_bind];rw[hl];rfl
 have hrun1:∀(a:Act) (w w':World) (v:Value),(Builtin.append_ #[t,t2] o.type #[a.eval x,a.eval y]).run P w=.ok v w'→(execOp a.eval o).run P w=.ok (.value v) w':=by
  intro a w w' v hl;obtain⟨cs,hcs⟩:=cc (P:=P) ho a w;rw[hcs];simp only[builtin,List.map_cons,List.map_nil,Sem.run_bind];rw[hl];rfl
 unfold A9 at hk;split at hk
 ·rename_i i hi ht2
  obtain⟨el2,hu2⟩:=jz hty ht2;split at hk
  ·rename_i el hde
   have hu:=(hty t i hi).und;rw[hde]at hu;split at hk
   ·rename_i j hj
    split at hk
    ·rename_i ys d hnz hys hdd
     have hnz:j.size*j.bytes≠0:=fun q=>by rw[q]at hnz;cases hnz
     have hs0:0<j.size:=Nat.pos_of_ne_zero fun q=>hnz (by rw[q,Nat.zero_mul]);have hb0:j.bytes≠0:=fun q=>hnz (by rw[q,Nat.mul_zero]);obtain⟨l,sp,nx,sz,M,hg,hk⟩:=dI hk;split at hk
     ·rename_i hsz
      obtain rfl:sz=j.size:=Nat.eq_of_beq_eq_true hsz
      have nil:∀{e':Env} {h':Heap} {g:Gh} {w:World} {a:Act},(∀t∈slotsOf o,aL e' t=aL e t)→aG h' l=aG h l→cp g w n a e' h'→a.eval x=.slice none 0 0→0<ys.length→ys.length*j.bytes≤140737488355328→
       o.wp P a w (fun a' w'=>∃g',cp g' w' n a' ((d,AV.p (.jR sp nx ys.length))::e') ((l,.store el false sp (nx+1) j.size ((nx,ys)::M))::h')∧Ext g w g' w') (fun _ _ _=>False):=by
       intro e' h' g w a he hl s hv hpos hroom;have hl0:=hl.trans hg;obtain⟨_,r2⟩:=s.cN he m2 rfl;obtain⟨a2,cap2,F2,hv2,hF2⟩:=wO r2 hys;obtain⟨v',g',w',q1,q2,q3,q4⟩:=tR hty hu hu2 hj hs0 hb0 s hl0 (fun p hp=>hp) (s.blk hl0).nodup (xs:=[]) (cap2:=cap2) hF2 (by simpa using hroom) o.type none 0 (fun _=>undef) (by simpa using hpos) (by simp) (by simp) (fun q=>by simp[Builtin.firstCells]) (by simp);refine Oper.cj (v:=v') (w':=w') (hrun1 a w w' v' (by rw[hv,hv2];simpa using q1)) ⟨g',?_,q3⟩;rw[hdd];simp only[List.nil_append,List.length_nil,Nat.zero_add]at q2 q4;exact q2.put (hd d hdd) (.p _ _ _ q4)
      split at hk
      ·rename_i sp0 k m hx
       obtain⟨rfl,xs,hxs,⟨hm,hroom⟩,hk⟩:=hk;refine⟨_,hk,fun e' h' he hl g w a s=>?_⟩;have hl0:=(hl l (by simp)).trans hg;obtain⟨_,r1⟩:=s.cN he m1 hx;obtain⟨_,r2⟩:=s.cN he m2 rfl;obtain⟨a2,cap2,F2,hv2,hF2⟩:=wO r2 hys;obtain⟨v',g',w',q1,q2,q3,q4⟩:=DX hty hu hu2 hj hs0 hb0 s hl0 r1.pv hxs hm (cap2:=cap2) hF2 hroom o.type;refine Oper.cj (v:=v') (w':=w') (hrun1 a w w' v' (by rw[hv2];exact q1)) ⟨g',?_,q3⟩;rw[hdd];exact q2.put (hd d hdd) (.p _ _ _ q4)
      ·rename_i hx
       obtain⟨⟨hpos,hroom⟩,hk⟩:=hk;refine⟨_,hk,fun e' h' he hl g w a s=>?_⟩;obtain⟨_,r1⟩:=s.cN he m1 hx;refine nil he (hl l (by simp)) s ?_ hpos hroom;have hp:=r1.pv;generalize a.eval x=v at hp;cases hp;rfl
      ·rename_i hx
       obtain⟨⟨hpos,hroom⟩,hk⟩:=hk;refine⟨_,hk,fun e' h' he hl g w a s=>?_⟩;obtain⟨_,r1⟩:=s.cN he m1 hx;refine nil he (hl l (by simp)) s ?_ hpos hroom;generalize a.eval x=v at r1;cases r1;rfl
      ·exact hk.elim
     ·exact hk.elim
    ·exact hk.elim
   ·exact hk.elim
  ·exact hk.elim
 ·exact hk.elim
end
end Go.AM
end
section
namespace Go.AM
section
variable {P:Program}
theorem qX (d:Nat) {t te:TypeId} {j:TypeInfo} (hp:P.underlying t=some (.pointer te)) (hte:P.info? te=some j) (a:Addr) (w:World):(Op.equalIn (d+1) t (.pointer (some a)) (.pointer (some a))).run P w=.ok true w:=by
 simp[Op.equalIn,run_underlying hp,sizeOf,typeInfo,hte,run_sameAddr_same]
theorem pN (d:Nat) {t te:TypeId} {j:TypeInfo} {a b:Addr} {ca cb:Array Value} {ta tb:TypeId} (hp:P.underlying t=some (.pointer te)) (hte:P.info? te=some j) (hsz:j.size≠0)
 (w:World) (hne:a≠b) (ha:w.heap[a.block]?=some (.cells ca ta (0,0))) (hb:w.heap[b.block]?=some (.cells cb tb (0,0))):(Op.equalIn (d+1) t (.pointer (some a)) (.pointer (some b))).run P w=.ok false w:=by
 simp[Op.equalIn,run_underlying hp,sizeOf,typeInfo,hte,hsz,run_sameAddr_other w hne ha hb]
end
end Go.AM
end
