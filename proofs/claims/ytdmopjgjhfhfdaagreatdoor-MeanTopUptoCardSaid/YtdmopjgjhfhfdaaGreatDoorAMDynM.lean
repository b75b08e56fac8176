/- Part of a machine over plain values. No conditions. -/
import Derived.Test.YtdmopjgjhfhfdaaGreatDoorAMDyn4
import Derived.LaidEql
set_option linter.all false
set_option maxRecDepth 100000
namespace Go.AM
section
variable {P:Program} {ty:Nat->Option TI} {n:Nat} {o:Oper} {e:Env} {h:Heap} {K:AK}
theorem E9.rows {g:Gh} {w:World} {a2:Option Addr} {sz:Nat} {ys:List PV} {F2:Nat->Value} (hF2:E9 (bT g w) a2 sz ys F2):∀(jj:Nat) (x:PV) (i:Nat) (y:PV),ys[jj]?=some x->x.cells[i]?=some y->jj*sz+i<ys.length*sz/\(F2 (jj*sz+i)).oneCell'=true/\bq (bT g w) (F2 (jj*sz+i)) y:=by
 intro jj x i y hx hi;have hi':i<sz:=by have:=(List.getElem?_eq_some_iff.1 hi).1;have:=hF2.hz x (List.mem_of_getElem? hx);omega
 have hjl:jj<ys.length:=(List.getElem?_eq_some_iff.1 hx).1;obtain⟨b2,hb2⟩:=hF2.ad (fun q=>by subst q;simp at hjl);subst hb2;obtain⟨q1,q2,q3⟩:=hF2.cell b2 jj x i y rfl hx hi;refine⟨?_,q2,q3⟩;have:(jj+1)*sz<=ys.length*sz:=Nat.mul_le_mul_right _ hjl;rw[Nat.add_mul]at this;omega
theorem tL (hty:bB P ty) {t t2 el el2:TypeId} {j:TI} (hu:P.underlying t=some (.slice el)) (hu2:P.underlying t2=some (.slice el2)) (hj:ty el=some j) (hs0:0<j.size) (hb0:j.bytes≠0)
 {g:Gh} {w:World} {a:Act} {e':Env} {h':Heap} (s:cw g w n a e' h') {l sp nx:Nat} {M M':List (Nat×List PV)} (hl:aF h' l=some (.store el false sp nx j.size M)) (hsub:∀p∈M',p∈M) (hnd:(M'.map (·.1)).Nodup)
 {xs ys:List PV} {F2:Nat->Value} {a2:Option Addr} {cap2:Nat} (hF2:E9 (bT g w) a2 j.size ys F2) (hroom:(xs.length+ys.length)*j.bytes<=140737488355328) (u:TypeId) (ax:Option Addr) (cap:Nat) (F:Nat->Value)
 (hfit:cap<xs.length+ys.length) (hlc:xs.length<=cap) (hzx:∀x∈xs,x.cells.length=j.size)
 (hxc:∀k,(Builtin.firstCells j.size xs.length (.slice ax xs.length cap)).run P { w with drawn:=k }=.ok ((List.range (xs.length*j.size)).map F).toArray { w with drawn:=k })
 (hx2:∀(jj:Nat) (x:PV) (i:Nat) (y:PV),xs[jj]?=some x->x.cells[i]?=some y->jj*j.size+i<xs.length*j.size/\(F (jj*j.size+i)).oneCell'=true/\bq (bT g w) (F (jj*j.size+i)) y):
 ∃v' g' w',(Builtin.append_ #[t,t2] u #[.slice ax xs.length cap,.slice a2 ys.length cap2]).run P w=.ok v' w'/\cw g' w' n a e' ((l,.store el false sp (nx+1) j.size ((nx,xs++ys)::M'))::h')/\Ext g w g' w'/\bq (bT g' w') v' (.kE sp nx (xs.length+ys.length)):=by
 obtain⟨inf,z,i1,i2,i3,i4,i5,i6⟩:=(hty el j hj).inf;have hst:=s.blk hl;have hzs:z.cells.size=j.size:=by rw[<-i6,<-i5];simp
 have hmul:(xs.length+ys.length)*j.size=xs.length*j.size+ys.length*j.size:=Nat.add_mul _ _ _;have hyc:∀k,(Builtin.firstCells j.size ys.length (.slice a2 ys.length cap2)).run P { w with drawn:=k }=.ok ((List.range (ys.length*j.size)).map F2).toArray { w with drawn:=k }:=fun k=>eW (g:=g) (w:={ w with drawn:=k }) hF2 rfl;obtain⟨c,hc,hrun⟩:=run_append_grow hu hu2 i1 i2 i4 hfit hlc hxc hyc (by rw[i3];exact hroom) (by rw[i3];exact hb0) u;generalize hcells:((List.range (xs.length*j.size)).map F).toArray++((List.range (ys.length*j.size)).map F2).toArray++Builtin.zeroCells z.cells (c-(xs.length+ys.length))=row at hrun
 have hsize:row.size=c*j.size:=by
  rw[<-hcells];simp only[Array.size_append,List.size_toArray,List.length_map,List.length_range,pU,hzs];rw[<-hmul,<-Nat.add_mul];congr 1;omega
 have hrow1:∀k,k<xs.length*j.size->row[k]?=some (F k):=by
  intro k hk;rw[<-hcells,Array.append_assoc,Array.getElem?_append_left (by simpa using hk)];simp[hk]
 have hrow2:∀k,k<ys.length*j.size->row[xs.length*j.size+k]?=some (F2 k):=by
  intro k hk;rw[<-hcells,Array.getElem?_append_left (by simp;omega),Array.getElem?_append_right (by simp)];simp[hk]
 have d1:oe g w (g.dr w.heap.size c l sp nx) (World.push { w with drawn:=w.drawn+1 } (.cells row el (0,0))) l sp:=
  (oe.drew (k:=w.drawn+1) s.bnd).trans (oe.push (w:={ w with drawn:=w.drawn+1 }) (C:=c) (hst.fresh nx (Nat.le_refl _)) s.bnd)
 have hblk:vW (g.dr w.heap.size c l sp nx) (World.push { w with drawn:=w.drawn+1 } (.cells row el (0,0))) (w.heap.size,c) j.size (xs++ys):=by
  refine .inl ⟨row,el,eJ (w:={ w with drawn:=w.drawn+1 }),hs0,⟨by rw[List.length_append];exact hc,by rw[hsize];exact Nat.le_refl _⟩,fun x hx=>?_,Dc (F:=F) (F2:=F2) (fun jj x i y q1 q2=>?_) (fun jj x i y q1 q2=>?_)⟩
  ·rcases List.mem_append.1 hx with hx|hx
   ·exact hzx x hx
   ·exact hF2.hz x hx
  ·obtain⟨k1,k2,k3⟩:=hx2 jj x i y q1 q2
   exact⟨hrow1 _ k1,k2,k3.mono d1.bT d1.σ⟩
  ·obtain⟨k1,k2,k3⟩:=hF2.rows jj x i y q1 q2
   exact⟨hrow2 _ k1,k2,k3.mono d1.bT d1.σ⟩
 have hst2:=hst.add (a:=(w.heap.size,c)) (xs:=xs++ys) d1 hsub hnd (by simp[Gh.dr]) (fun k hk=>by simp[Gh.dr,hk]) (fun k zs b q1 q2=>by
  obtain⟨b',p1,p2,_⟩:=hst.row k zs (hsub _ q1);rw[q2]at p1;cases p1;have hlt:=s.bnd _ _ p2;have hne:b.1≠w.heap.size:=by omega
  exact⟨hne,by simp[Gh.dr,hne],by simp[Gh.dr,hne],cN (w:={ w with drawn:=w.drawn+1 }) hlt⟩) (by simp[Gh.dr]) (by simp[Gh.dr]) hblk
 obtain⟨s2,hE⟩:=s.dyn hl d1 hst2;exact⟨_,_,_,hrun,s2,hE,.kE sp nx w.heap.size _ c (by simp[bT,Gh.dr]) hc⟩
theorem Eo (hty:bB P ty) {t t2 el el2:TypeId} {j:TI} (hu:P.underlying t=some (.slice el)) (hu2:P.underlying t2=some (.slice el2)) (hj:ty el=some j) (hs0:0<j.size) (hb0:j.bytes≠0)
 {g:Gh} {w:World} {a:Act} {e':Env} {h':Heap} (s:cw g w n a e' h') {l sp nx:Nat} {M:List (Nat×List PV)} (hl:aF h' l=some (.store el false sp nx j.size M)) {k m:Nat} {v1:Value} (r1:bq (bT g w) v1 (.kE sp k m))
 {xs ys:List PV} (hxs:th k M=some xs) (hm:m<=xs.length) {F2:Nat->Value} {a2:Option Addr} {cap2:Nat} (hF2:E9 (bT g w) a2 j.size ys F2) (hroom:(m+ys.length)*j.bytes<=140737488355328) (u:TypeId):
 ∃v' g' w',(Builtin.append_ #[t,t2] u #[v1,.slice a2 ys.length cap2]).run P w=.ok v' w'/\cw g' w' n a e' ((l,.store el false sp (nx+1) j.size ((nx,xs.take m++ys)::mX k M))::h')/\Ext g w g' w'/\bq (bT g' w') v' (.kE sp nx (m+ys.length)):=by
 obtain⟨inf,z,i1,i2,i3,i4,i5,i6⟩:=(hty el j hj).inf;have hst:=s.blk hl
 cases r1 with
 |kE _ _ A _ cap hA hc=>
  replace hA:g.σ sp k=some (A,cap):=hA;obtain⟨A',hA',hown,hpre,vs,E,hb,_,⟨hlen1,hlen2⟩,hzz,hxx⟩:=hst.EV (Nat.ne_of_gt hs0) k xs (dc hxs);rw[hA]at hA';cases hA';replace hlen1:xs.length<=cap:=hlen1;replace hlen2:cap*j.size<=vs.size:=hlen2;have hb:w.heap[A]?=some (.cells vs E (0,0)):=hb;have htl:(xs.take m).length=m:=by simp;omega
  have hmc:m*j.size<=cap*j.size:=Nat.mul_le_mul_right _ hc
  have hcell:∀q,q<m*j.size->vs[q]?=some ((vs[q]?).getD undef):=fun q hq=>by
   have:q<vs.size:=by omega
   simp[this]
  have hx2:∀(jj:Nat) (x:PV) (i:Nat) (y:PV),(xs.take m)[jj]?=some x->x.cells[i]?=some y->jj*j.size+i<(xs.take m).length*j.size/\((vs[jj*j.size+i]?).getD undef).oneCell'=true/\bq (bT g w) ((vs[jj*j.size+i]?).getD undef) y:=by
   intro jj x i y hx hi;have hjl:jj<(xs.take m).length:=(List.getElem?_eq_some_iff.1 hx).1;have hx':xs[jj]?=some x:=by rw[List.getElem?_take]at hx;split at hx<;>first|exact hx|cases hx
   have hi':i<j.size:=by have:=(List.getElem?_eq_some_iff.1 hi).1;have:=hzz x (List.mem_of_getElem? hx');omega
   obtain⟨v,q1,q2,q3⟩:=hxx jj x hx' i y hi;refine⟨?_,by rw[q1];exact q2,by rw[q1];exact q3⟩;have:(jj+1)*j.size<=(xs.take m).length*j.size:=Nat.mul_le_mul_right _ hjl;rw[Nat.add_mul]at this;omega
  have hzx:∀x∈xs.take m,x.cells.length=j.size:=fun x hx=>hzz x (List.mem_of_mem_take hx);have hsub:∀p∈mX k M,p∈M:=fun p hp=>nM hp;have hnd:((mX k M).map (·.1)).Nodup:=(vM k M).nodup hst.nodup
  by_cases hfit:m+ys.length<=cap
  · -- in place
   have hy:=eW (P:=P) (g:=g) (w:=w) (len:=ys.length) (cap:=cap2) hF2 rfl;have hle1:(m+ys.length)*j.size<=cap*j.size:=Nat.mul_le_mul_right _ hfit;rw[Nat.add_mul]at hle1;have hl2:((List.range (ys.length*j.size)).map F2).length=ys.length*j.size:=by simp
   have hone2:∀v∈(List.range (ys.length*j.size)).map F2,v.oneCell'=true:=by
    intro v hv;obtain⟨q,hq,rfl⟩:=List.mem_map.1 hv;have hq:q<ys.length*j.size:=by simpa using hq
    obtain⟨b2,hb2⟩:=hF2.ad (fun q=>by subst q;simp at hq);subst hb2;exact(hF2.all hq).2
   have hst1:=run_storeCells_at (P:=P) A (m*j.size) E ((List.range (ys.length*j.size)).map F2) 0 vs w hb (by rw[hl2];omega) hone2;simp only[Nat.add_zero]at hst1;have hrun:=mz hu hu2 i1 i2 (w:=w) (a:=some ⟨A,0,none⟩) (cap:=cap) hfit hy (fun b q=>by cases q;rw[Addr.add_plain,Nat.zero_add];exact hst1) (fun q=>by cases q) u;have hsl':=fJ vs.toList ((List.range (ys.length*j.size)).map F2) (m*j.size) (by rw[hl2];simp;omega);have hsg:=jO vs.toList ((List.range (ys.length*j.size)).map F2) (m*j.size) (by rw[hl2];simp;omega);generalize (vs.toList.take (m*j.size)++(List.range (ys.length*j.size)).map F2++vs.toList.drop (m*j.size+((List.range (ys.length*j.size)).map F2).length))=row at hst1 hrun hsl' hsg;have hrows:row.toArray.size=vs.size:=by simpa using hsl'
   have d1:oe g w (g.num sp nx (A,cap)) w l sp:=oe.num (hst.fresh nx (Nat.le_refl _)) s.bnd;have d2:oe (g.num sp nx (A,cap)) w (g.num sp nx (A,cap)) (w.setRow A row.toArray) l sp:=oe.setRow (g:=g.num sp nx (A,cap)) hown hpre hb hrows s.bnd;have d:=d1.trans d2
   have hblk:vW (g.num sp nx (A,cap)) (w.setRow A row.toArray) (A,cap) j.size (xs.take m++ys):=by
    refine .inl ⟨row.toArray,E,setRow_heap _ _ _ _ _ _ hb,hs0,⟨by rw[List.length_append,htl];exact hfit,by rw[hrows];exact hlen2⟩,fun x hx=>?_,Dc (F:=fun k=>(vs[k]?).getD undef) (F2:=F2) (fun jj x i y q1 q2=>?_) (fun jj x i y q1 q2=>?_)⟩
    ·rcases List.mem_append.1 hx with hx|hx
     ·exact hzx x hx
     ·exact hF2.hz x hx
    ·obtain⟨k1,k2,k3⟩:=hx2 jj x i y q1 q2
     rw[htl]at k1;refine⟨?_,k2,k3.mono d.bT d.σ⟩;rw[List.getElem?_toArray,hsg,if_neg (by omega)];simpa using hcell _ k1
    ·obtain⟨k1,k2,k3⟩:=hF2.rows jj x i y q1 q2
     refine⟨?_,k2,k3.mono d.bT d.σ⟩;rw[htl,List.getElem?_toArray,hsg,if_pos (by rw[hl2];omega),show m*j.size+(jj*j.size+i)-m*j.size=jj*j.size+i by omega];simp[k1]
   have hst2:=hst.add (a:=(A,cap)) (xs:=xs.take m++ys) d hsub hnd (by simp[Gh.num]) (fun q hq=>by simp[Gh.num,hq]) (fun q zs b q1 q2=>by
    have hne:b.1≠A:=fun e=>CA hst.nodup q1 (hst.inj q k zs xs b (A,cap) (hsub _ q1) (dc hxs) q2 hA e);exact⟨hne,rfl,rfl,setRow_other _ _ _ _ hne⟩) hown hpre hblk
   obtain⟨s2,hE⟩:=s.dyn hl d hst2;exact⟨_,_,_,hrun,s2,hE,.kE sp nx A _ cap (by simp[bT,Gh.num]) hfit⟩
  ·have:=tL hty hu hu2 hj hs0 hb0 s hl hsub hnd (xs:=xs.take m) (cap2:=cap2) hF2 (by rw[htl];exact hroom) u (some ⟨A,0,none⟩) cap (fun k=>(vs[k]?).getD undef) (by rw[htl];omega) (by rw[htl];exact hc) hzx (fun q=>by
    rw[htl];simp only[Builtin.firstCells];exact run_loadCells { w with drawn:=q } ⟨A,0,none⟩ _ _ (fun i hi=>by rw[Addr.add_plain,Nat.zero_add];exact(dB (w:={ w with drawn:=q }) hb i).trans (hcell i hi))) hx2
   rw[htl]at this;exact this
theorem Cc (hty:bB P ty) (hd:∀d,o.dst=some d->d<n) {t len:Nat} {parts:List (Nat×Operand)} (ho:o.op=.buildSlice t len ⟨parts⟩) (hk:Fv ty o e h t len parts K):∃f,K f/\cJ P n o e h f:=by
 unfold Fv at hk;split at hk
 ·rename_i i hi
  split at hk
  ·rename_i el hde
   have hu:=(hty t i hi).und;rw[hde]at hu;split at hk
   ·rename_i j hj
    split at hk
    ·rename_i xs d hxs hdd
     split at hk
     ·rename_i hlen hsm hs0
      have hlen:xs.length=len:=Nat.eq_of_beq_eq_true hlen;have hsm:len*j.size<=16777216:=Nat.le_of_ble_eq_true hsm;have hs0:0<j.size:=Nat.pos_of_ne_zero fun q=>by rw[q]at hs0;cases hs0
      obtain⟨l,sp,nx,sz,M,hg,hk⟩:=dK hk;split at hk
      ·rename_i hsz
       obtain rfl:sz=j.size:=Nat.eq_of_beq_eq_true hsz;refine⟨_,hk,fun e' h' he hl g w a s=>?_⟩;have hl0:=(hl l (by simp)).trans hg;obtain⟨row,hrun,hrow,hrz⟩:=ym hty ho hu hj hxs hlen hsm hs0 he s;have hst:=s.blk hl0;obtain⟨_,k2,_⟩:=ji 0 parts xs hxs;have d1:oe g w (g.dr w.heap.size len l sp nx) (World.push w (.cells row el (0,0))) l sp:=oe.push (C:=len) (hst.fresh nx (Nat.le_refl _)) s.bnd
       have hblk:vW (g.dr w.heap.size len l sp nx) (World.push w (.cells row el (0,0))) (w.heap.size,len) j.size xs:=.inl ⟨row,el,eJ,hs0,⟨by omega,hrz⟩,k2,fun jj x q1 ii y q2=>by
        obtain⟨_,v,p1,p2,p3⟩:=hrow jj x ii y q1 q2;exact⟨v,p1,p2,p3.mono d1.bT d1.σ⟩⟩
       have hst2:=hst.add (a:=(w.heap.size,len)) (xs:=xs) d1 (fun _ hp=>hp) hst.nodup (by simp[Gh.dr]) (fun k hk=>by simp[Gh.dr,hk]) (fun k zs b q1 q2=>by
        obtain⟨b',p1,p2,_⟩:=hst.row k zs q1;rw[q2]at p1;cases p1;have hlt:=s.bnd _ _ p2;have hne:b.1≠w.heap.size:=by omega
        exact⟨hne,by simp[Gh.dr,hne],by simp[Gh.dr,hne],cN hlt⟩) (by simp[Gh.dr]) (by simp[Gh.dr]) hblk
       obtain⟨s2,hE⟩:=s.dyn hl0 d1 hst2;refine Oper.cp hrun ⟨_,?_,hE⟩;rw[hdd];exact s2.put (hd d hdd) (.p _ _ _ (.kE sp nx w.heap.size _ len (by simp[bT,Gh.dr]) (Nat.le_refl _)))
      ·exact hk.elim
     ·exact hk.elim
    ·exact hk.elim
   ·exact hk.elim
  ·exact hk.elim
 ·exact hk.elim
theorem At (hty:bB P ty) (hd:∀d,o.dst=some d->d<n) {x y:Operand} {t t2:Nat} (ho:o.op=.call { callee:=.builtin .append,args:=⟨[x,y]⟩,argTypes:=⟨[t,t2]⟩ })
 (hk:BP ty o e h t t2 (ev e x) (ev e y) K):∃f,K f/\cJ P n o e h f:=by
 have m1:x∈o.op.operands:=by simp[ho,Op.operands,Call.operands]
 have m2:y∈o.op.operands:=by simp[ho,Op.operands,Call.operands]
 have hrun:∀(a:Act) (w w':World) (v:Value),(∀u,(Builtin.append_ #[t,t2] u #[a.eval x,a.eval y]).run P w=.ok v w')->(execOp a.eval o).run P w=.ok (.value v) w':=by
  intro a w w' v hl;obtain⟨cs,hcs⟩:=cm (P:=P) ho a w;rw[hcs];simp only[builtin,List.map_cons,List.map_nil,Sem.run_bind];rw[hl];rfl
 have hrun1:∀(a:Act) (w w':World) (v:Value),(Builtin.append_ #[t,t2] o.type #[a.eval x,a.eval y]).run P w=.ok v w'->(execOp a.eval o).run P w=.ok (.value v) w':=by
  intro a w w' v hl;obtain⟨cs,hcs⟩:=cm (P:=P) ho a w;rw[hcs];simp only[builtin,List.map_cons,List.map_nil,Sem.run_bind];rw[hl];rfl
 unfold BP at hk;split at hk
 ·rename_i i hi ht2
  obtain⟨el2,hu2⟩:=jW hty ht2;split at hk
  ·rename_i el hde
   have hu:=(hty t i hi).und;rw[hde]at hu;split at hk
   ·rename_i j hj
    split at hk
    ·rename_i ys d hnz hys hdd
     have hnz:j.size*j.bytes≠0:=fun q=>by rw[q]at hnz;cases hnz
     have hs0:0<j.size:=Nat.pos_of_ne_zero fun q=>hnz (by rw[q,Nat.zero_mul]);have hb0:j.bytes≠0:=fun q=>hnz (by rw[q,Nat.mul_zero]);obtain⟨l,sp,nx,sz,M,hg,hk⟩:=dK hk;split at hk
     ·rename_i hsz
      obtain rfl:sz=j.size:=Nat.eq_of_beq_eq_true hsz
      have nil:∀{e':Env} {h':Heap} {g:Gh} {w:World} {a:Act},(∀t∈slotsOf o,aL e' t=aL e t)->aF h' l=aF h l->cw g w n a e' h'->a.eval x=.slice none 0 0->0<ys.length->ys.length*j.bytes<=140737488355328->
       o.wp P a w (fun a' w'=>∃g',cw g' w' n a' ((d,AV.p (.kE sp nx ys.length))::e') ((l,.store el false sp (nx+1) j.size ((nx,ys)::M))::h')/\Ext g w g' w') (fun _ _ _=>False):=by
       intro e' h' g w a he hl s hv hpos hroom;have hl0:=hl.trans hg;obtain⟨_,r2⟩:=s.cR he m2 rfl;obtain⟨a2,cap2,F2,hv2,hF2⟩:=xd r2 hys;obtain⟨v',g',w',q1,q2,q3,q4⟩:=tL hty hu hu2 hj hs0 hb0 s hl0 (fun p hp=>hp) (s.blk hl0).nodup (xs:=[]) (cap2:=cap2) hF2 (by simpa using hroom) o.type none 0 (fun _=>undef) (by simpa using hpos) (by simp) (by simp) (fun q=>by simp[Builtin.firstCells]) (by simp);refine Oper.cp (v:=v') (w':=w') (hrun1 a w w' v' (by rw[hv,hv2];simpa using q1)) ⟨g',?_,q3⟩;rw[hdd];simp only[List.nil_append,List.length_nil,Nat.zero_add]at q2 q4;exact q2.put (hd d hdd) (.p _ _ _ q4)
      split at hk
      ·rename_i sp0 k m hx
       obtain⟨rfl,xs,hxs,⟨hm,hroom⟩,hk⟩:=hk;refine⟨_,hk,fun e' h' he hl g w a s=>?_⟩;have hl0:=(hl l (by simp)).trans hg;obtain⟨_,r1⟩:=s.cR he m1 hx;obtain⟨_,r2⟩:=s.cR he m2 rfl;obtain⟨a2,cap2,F2,hv2,hF2⟩:=xd r2 hys;obtain⟨v',g',w',q1,q2,q3,q4⟩:=Eo hty hu hu2 hj hs0 hb0 s hl0 r1.pv hxs hm (cap2:=cap2) hF2 hroom o.type;refine Oper.cp (v:=v') (w':=w') (hrun1 a w w' v' (by rw[hv2];exact q1)) ⟨g',?_,q3⟩;rw[hdd];exact q2.put (hd d hdd) (.p _ _ _ q4)
      ·rename_i hx
       obtain⟨⟨hpos,hroom⟩,hk⟩:=hk;refine⟨_,hk,fun e' h' he hl g w a s=>?_⟩;obtain⟨_,r1⟩:=s.cR he m1 hx;refine nil he (hl l (by simp)) s ?_ hpos hroom;have hp:=r1.pv;generalize a.eval x=v at hp;cases hp;rfl
      ·rename_i hx
       obtain⟨⟨hpos,hroom⟩,hk⟩:=hk;refine⟨_,hk,fun e' h' he hl g w a s=>?_⟩;obtain⟨_,r1⟩:=s.cR he m1 hx;refine nil he (hl l (by simp)) s ?_ hpos hroom;generalize a.eval x=v at r1;cases r1;rfl
      ·exact hk.elim
     ·exact hk.elim
    ·exact hk.elim
   ·exact hk.elim
  ·exact hk.elim
 ·exact hk.elim
end
section
variable {P:Program}
theorem rI (d:Nat) {t te:TypeId} {j:TypeInfo} (hp:P.underlying t=some (.pointer te)) (hte:P.info? te=some j) (a:Addr) (w:World):(Op.equalIn (d+1) t (.pointer (some a)) (.pointer (some a))).run P w=.ok true w:=by
 simp[Op.equalIn,run_underlying hp,sizeOf,typeInfo,hte,run_sameAddr_same]
theorem qm (d:Nat) {t te:TypeId} {j:TypeInfo} {a b:Addr} {ca cb:Array Value} {ta tb:TypeId} (hp:P.underlying t=some (.pointer te)) (hte:P.info? te=some j) (hsz:j.size≠0)
 (w:World) (hne:a≠b) (ha:w.heap[a.block]?=some (.cells ca ta (0,0))) (hb:w.heap[b.block]?=some (.cells cb tb (0,0))):(Op.equalIn (d+1) t (.pointer (some a)) (.pointer (some b))).run P w=.ok false w:=by
 simp[Op.equalIn,run_underlying hp,sizeOf,typeInfo,hte,hsz,run_sameAddr_other w hne ha hb]
end
open MapKept
section
variable {P:Program} {ty:Nat->Option TI} {n:Nat} {o:Oper} {e:Env} {h:Heap} {K:AK}
theorem Iy:∀{a b:List (PV×PV)},a.map Jm=b.map Jm->a=b
 | [],[],_=>rfl
 | [],_::_,h=>by simp at h
 |_::_,[],h=>by simp at h
 |(x,y)::r,(x',y')::r',h=>by
  simp only[List.map_cons,List.cons.injEq,Jm,PV.agg.injEq,and_true]at h;obtain⟨⟨h1,h2⟩,h3⟩:=h;subst h1;subst h2;rw[Iy h3]
theorem NF {pk:Bool} {a b:List (PV×PV)} (h:a.map Jm=b.map (Pw pk)) (hk:∀x∈b,O9 pk x.1):a=b/\∀x∈b,u9 x.1=some .ks:=by
 cases pk with
 |false=>exact⟨Iy h,hk⟩
 |true=>
  cases b with
  |nil=>cases a with
   |nil=>exact⟨rfl,by simp⟩
   |cons x r=>simp at h
  |cons y r=>cases a with
   |nil=>simp at h
   |cons x r=>simp[Pw,Jm,Ii]at h
theorem Ho:∀{a b:List (PV×PV)},a.map Ii=b.map Ii->a=b
 | [],[],_=>rfl
 | [],_::_,h=>by simp at h
 |_::_,[],h=>by simp at h
 |(x,y)::r,(x',y')::r',h=>by
  simp only[List.map_cons,List.cons.injEq,Ii,PV.agg.injEq,and_true]at h;obtain⟨⟨h1,h2⟩,h3⟩:=h;subst h1;subst h2;rw[Ho h3]
theorem Ib {pk:Bool} {a b:List (PV×PV)} (h:a.map Ii=b.map (Pw pk)):a=b:=by
 cases pk with
 |true=>exact Ho h
 |false=>
  cases b with
  |nil=>cases a with
   |nil=>rfl
   |cons x r=>simp at h
  |cons y r=>cases a with
   |nil=>simp at h
   |cons x r=>simp[Pw,Jm,Ii]at h
theorem oe.PT {g:Gh} {w:World} {l sp k C:Nat} (hf:g.σ sp k=none) (hbnd:∀b o,g.own b=some o->b<w.heap.size):oe g w (g.dr w.heap.size C l sp k) (World.push w (.map #[] 0)) l sp:=by
 have hp:∀b,b<w.heap.size->(g.dr w.heap.size C l sp k).pre b=g.pre b/\(g.dr w.heap.size C l sp k).own b=g.own b:=fun b hb=>by simp[Gh.dr,Nat.ne_of_lt hb]
 refine⟨rfl,rfl,fun s q a hq=>?_,fun s hs q=>by simp[Gh.dr,hs],fun b o v h=>nO (fun b hb=>(hp b hb).1) h,fun b o h1 _=>?_,fun b hb hn=>⟨cN hb,(hp b hb).1,(hp b hb).2.trans hn⟩,fun b cs2 E2 hb=>⟨cs2,E2,by rw[cN (oh hb)];exact hb,rfl⟩,fun b o ho=>?_,by rw[fK];omega,rfl,rfl,fun a _=>wQ a⟩
 ·have:¬(s=sp/\q=k):=fun⟨e1,e2⟩=>by subst e1;subst e2;rw[hf]at hq;cases hq
  simp only[Gh.dr,if_neg this];exact hq
 ·have hb:=hbnd b o h1
  exact⟨(hp b hb).2.trans h1,(hp b hb).1,cN hb⟩
 ·rw[fK]
  by_cases hb:b=w.heap.size
  ·omega
  ·have:(g.dr w.heap.size C l sp k).own b=g.own b:=by simp[Gh.dr,hb]
   rw[this]at ho;have:=hbnd b o ho;omega
theorem oe.fU {g:Gh} {w:World} {l sp A:Nat} {es es':Array MapEntry} {c c':Nat} (hown:g.own A=some (.obj l)) (hb:w.heap[A]?=some (.map es' c')) (hbnd:∀b o,g.own b=some o->b<w.heap.size):oe g w g (World.fU w A es c) l sp:=
 ⟨rfl,rfl,fun _ _ _ q=>q,fun _ _ _=>rfl,fun _ _ _ hv=>lZ hb hv,fun b o h1 h2=>⟨h1,rfl,fy (fun e=>by subst e;rw[hown]at h1;cases h1;exact h2 rfl)⟩,fun b _ hn=>⟨fy (fun e=>by subst e;rw[hown]at hn;cases hn),rfl,hn⟩,
   fun b cs E' hb'=>⟨cs,E',by rw[fy (fun e=>by subst e;rw[hb]at hb';cases hb')];exact hb',rfl⟩,fun b o ho=>by rw[wj];exact hbnd b o ho,by rw[wj];exact Nat.le_refl _,rfl,rfl,fun a _=>Ag hb a⟩
theorem zQ (hty:bB P ty) (hd:∀d,o.dst=some d->d<n) {t:Nat} (ho:o.op=.makeMap t none) (hk:yS ty o h t K):∃f,K f/\cJ P n o e h f:=by
 unfold yS at hk;split at hk
 ·rename_i i d hi hdd
  split at hk
  ·rename_i kt et hde
   split at hk
   ·rename_i j hj
    split at hk
    ·obtain⟨l,sp,nx,sz,M,hg,hk⟩:=dK hk
     split at hk
     ·rename_i hsz
      obtain rfl:sz=0:=Nat.eq_of_beq_eq_true hsz;refine⟨_,hk,fun e' h' he hl g w a s=>?_⟩;have hl0:aF h' l=some (.store t true sp nx 0 M):=(hl l (by simp)).trans hg;have hst:=s.blk hl0
      have hr:(execOp a.eval o).run P w=.ok (.value (.map (some w.heap.size))) (World.push w (.map #[] 0)):=by
       simp only[execOp,ho,Option.map_none,Instr.makeMap,Sem.run_bind,Sem.run_pure,EB,Result.andThen_ok]
      have d1:=oe.PT (g:=g) (w:=w) (l:=l) (sp:=sp) (k:=nx) (C:=0) (hst.fresh nx (Nat.le_refl _)) s.bnd
      have hblk:vW (g.dr w.heap.size 0 l sp nx) (World.push w (.map #[] 0)) (w.heap.size,0) 0 []:=
       .inr ⟨rfl,false,#[],0,[],eJ,rfl,⟨rfl,by simp⟩,by simp,rfl,by simp⟩
      have hst2:=hst.add (a:=(w.heap.size,0)) (xs:=[]) d1 (fun p hp=>hp) hst.nodup (by simp[Gh.dr]) (fun k hk=>by simp[Gh.dr,hk]) (fun k ys b q1 q2=>by
       obtain⟨b',p1,p2,_⟩:=hst.row k ys q1;rw[q2]at p1;cases p1;have hlt:=s.bnd _ _ p2;have hne:b.1≠w.heap.size:=by omega
       exact⟨hne,by simp[Gh.dr,hne],by simp[Gh.dr,hne],cN hlt⟩) (by simp[Gh.dr]) (by simp[Gh.dr]) hblk
      obtain⟨s2,hE⟩:=s.dyn hl0 d1 hst2;refine Oper.cp hr ⟨_,?_,hE⟩;rw[hdd];exact s2.put (hd d hdd) (.p _ _ _ (.amp sp nx w.heap.size 0 (by simp[bT,Gh.dr])))
     ·exact hk.elim
    ·exact hk.elim
   ·exact hk.elim
  ·exact hk.elim
 ·exact hk.elim
theorem vF (hty:bB P ty) {g:Gh} {w:World} {kt T2 l2 sp2 nx2 sz2 k2:Nat} {j2:TI} {M2:List (Nat×List PV)} (hjd:P.underlying kt=some (.pointer T2)) (hj2:ty T2=some j2) (hz2:Nat.beq j2.size 0=false) (hst:ez g w l2 sp2 nx2 sz2 M2) (hsn:sz2≠0) (hk2:(th k2 M2).isSome=true) {k:Value} (rk:bq (bT g w) k (.bH sp2 k2)):
 ∀(es:List MapEntry) (xs:List (PV×PV)) (i:Nat),iG (bT g w) es xs->BY sp2 M2 xs->
 (kg (.bH sp2 k2) xs=none/\(Instr.findAsking kt k es i).run P w=.ok none w)\/∃(j:Nat) (en:MapEntry) (x:PV×PV),(Instr.findAsking kt k es i).run P w=.ok (some (i+j,en.val)) w/\es[j]?=some en/\xs[j]?=some x/\kg (.bH sp2 k2) xs=some x.2
 | [],xs,i,hr,_=>by
   have:xs=[]:=List.eq_nil_of_length_eq_zero (by simpa using hr.1.symm);subst this;exact .inl ⟨rfl,rfl⟩
 |en::es,[],i,hr,_=>by have:=hr.1;simp at this
 |en::es,x::xs,i,hr,hx=>by
  obtain⟨inf,z,i1,i2,i3,i4,i5,i6⟩:=(hty T2 j2 hj2).inf;have hz0:inf.size≠0:=fun q=>by rw[<-i2,q]at hz2;cases hz2
  obtain⟨p1,p2⟩:=hr.2 0 en x rfl rfl;obtain⟨k1,hx1,hq1⟩:=hx x (by simp);rw[hx1]at p1;have htail:iG (bT g w) es xs:=⟨by have:=hr.1;simpa using this,fun j e' x' h1 h2=>hr.2 (j+1) e' x' (by simpa using h1) (by simpa using h2)⟩
  obtain⟨ys1,hys1⟩:=Option.isSome_iff_exists.1 hq1;obtain⟨ys2,hys2⟩:=Option.isSome_iff_exists.1 hk2;obtain⟨A,hA,_,_,va,Ea,hba,_⟩:=hst.EV hsn k1 ys1 (dc hys1);obtain⟨B,hB,_,_,vb,Eb,hbb,_⟩:=hst.EV hsn k2 ys2 (dc hys2);have ih:=vF hty hjd hj2 hz2 hst hsn hk2 rk es xs (i+1) htail (fun x hx'=>hx x (by simp[hx']));obtain⟨ek,ev,eb⟩:=en;obtain⟨x1,x2⟩:=x;subst hx1
  cases rk with
  |bH _ _ a2 C2 r2=>
  cases p1 with
  |bH _ _ a1 C1 r1=>
   replace r1:g.σ _ k1=some (a1,C1):=r1;replace r2:g.σ _ k2=some (a2,C2):=r2;rw[hA]at r1;cases r1;rw[hB]at r2;cases r2
   by_cases e1:k2=k1
   ·subst e1
    rw[hA]at hB;cases hB;have hq:(Op.equal kt (.pointer (some ⟨a2,0,none⟩)) (.pointer (some ⟨a2,0,none⟩))).run P w=.ok true w:=rI 9999 hjd i1 _ w;refine .inr ⟨0,_,_,?_,rfl,rfl,?_⟩
    ·simp only[Instr.findAsking,Sem.run_bind,hq,Result.andThen_ok,if_true,Sem.run_pure,Nat.add_zero]
    ·simp[kg,uF]
   ·have hne:a2≠a1:=fun q=>e1 (hst.inj k2 k1 ys2 ys1 _ _ (dc hys2) (dc hys1) hB hA q)
    have hq:(Op.equal kt (.pointer (some ⟨a2,0,none⟩)) (.pointer (some ⟨a1,0,none⟩))).run P w=.ok false w:=qm 9999 hjd i1 hz0 w (fun q=>hne (by cases q;rfl)) hbb hba;have hpv:uF (.bH sp2 k2) (.bH sp2 k1)=false:=beq_false e1
    have hrun:∀r,(Instr.findAsking kt (.pointer (some ⟨a2,0,none⟩)) es (i+1)).run P w=r->(Instr.findAsking kt (.pointer (some ⟨a2,0,none⟩)) (⟨.pointer (some ⟨a1,0,none⟩),ev,eb⟩::es) i).run P w=r:=fun r hr=>by
     simp only[Instr.findAsking,Sem.run_bind,hq,Result.andThen_ok];exact hr
    rcases ih with⟨q1,q2⟩|⟨j,e',x',q1,q2,q3,q4⟩
    ·exact .inl ⟨by simp[kg,hpv,q1],hrun _ q2⟩
    ·exact .inr ⟨j+1,e',x',by rw[show i+(j+1)=i+1+j by omega];exact hrun _ q1,by simpa using q2,by simpa using q3,by simp[kg,hpv,q4]⟩
theorem oz {w:World} {kt T2:Nat} {k:Value} {l:List MapEntry} {r:Option (Nat×Value)} (hd:P.underlying kt=some (.pointer T2)) (h:(Instr.findAsking kt k l 0).run P w=.ok r w):(Instr.findKey kt k l).run P w=.ok r w:=by
 cases l with
 |nil=>cases h;simp[Instr.findKey,run_underlying hd,Result.andThen,Instr.findNow]
 |cons e es=>
  have:Instr.findNow (.pointer T2) k (e::es) 0=none:=by simp[Instr.findNow,Instr.sameNow]
  simp only[Instr.findKey,Sem.run_bind,run_underlying hd,Result.andThen_ok,this];exact h
theorem rQ {w:World} {kt T2:Nat} {k:Value} (hd:P.underlying kt=some (.pointer T2)) (b:Bool) (n:Nat):(Instr.checkKey b (n+1) kt k).run P w=.ok () w:=by
 unfold Instr.checkKey;simp only[Sem.run_bind,run_underlying hd,Result.andThen];rfl
theorem GO (hd:∀d,o.dst=some d->d<n) {rd:List Nat} {x:AV} (hk:Ao o rd [] x K)
 (hrun:∀e' h',(∀t∈slotsOf o,aL e' t=aL e t)->(∀l∈rd,aF h' l=aF h l)->∀g w a,cw g w n a e' h'->∃v,(execOp a.eval o).run P w=.ok (.value v) w/\∀d:Nat,aH g w (aE h') (some (.slot d)) v x):∃f,K f/\cJ P n o e h f:=by
 refine⟨_,yA hk,fun e' h' he hl g w a s=>?_⟩
 have hl':∀l∈rd,aF h' l=aF h l:=fun l hlR=>by
  cases hdst:o.dst<;>simp only[hdst]at hl<;>exact hl l (by simp[hlR])
 obtain⟨v,hr,hv⟩:=hrun e' h' he hl' g w a s;refine Oper.cp hr ⟨g,?_,Ext.refl _ _⟩
 cases hdst:o.dst with
 |none=>exact s
 |some d=>exact s.put (hd d hdst) (hv d)
theorem B9 (hty:bB P ty) (hd:∀d,o.dst=some d->d<n) {t T2 s0 q s2 k2 kt et:Nat} {m k:Operand} {ok:Bool} {z:PV} {je:TI} (ho:o.op=.lookup t m k ok) (hu:P.underlying t=some (.map kt et)) (hjd:P.underlying kt=some (.pointer T2)) (hje:ty et=some je) (hz:zb je=some z) (hm:ev e m=.p (.amp s0 q)) (hkp:ev e k=.p (.bH s2 k2)) (hk:Ft ty o h t T2 s0 q s2 k2 ok z K):∃f,K f/\cJ P n o e h f:=by
 have m1:m∈o.op.operands:=by simp[ho,Op.operands]
 have m2:k∈o.op.operands:=by simp[ho,Op.operands]
 have lres:∀{g:Gh} {w:World} {dom:Nat->Prop} {ow:Option bg} {v:Value} {x:PV} (b:Bool),bq (bT g w) v x->aH g w dom ow (if ok then .tuple #[v,.bool b] else v) (xJ ok x b):=by
  intro g w dom ow v x b hr
  cases ok with
  |false=>exact .p _ _ _ hr
  |true=>
   refine .cI _ [v,.bool b] [.p x,.p (.b b)] rfl (fun j v' c hv hc=>?_)
   match j with
   |0=>simp at hv hc;subst hv;subst hc;exact .p _ _ _ hr
   |1=>simp at hv hc;subst hv;subst hc;exact .p _ _ _ (.b b)
   |j+2=>simp at hv
 unfold Ft at hk;split at hk
 ·rename_i j2 hj2
  split at hk
  ·rename_i hz2
   obtain⟨l,sp,nx,sz,M,hg,hk⟩:=dK hk;obtain⟨l2,sp2,nx2,sz2,M2,hg2,⟨rfl,hsz,rfl,hsn,hq2⟩,xs,hxs,hin,x,b,hlook,hk⟩:=dK hk;refine GO hd hk fun e' h' he hl' g w a s=>?_;have hst:=s.blk ((hl' l (by simp)).trans hg);have hst2:=s.blk ((hl' l2 (by simp)).trans hg2);obtain⟨_,r1⟩:=s.cR he m1 hm;obtain⟨_,r2⟩:=s.cR he m2 hkp;have r2:=r2.pv;have r1:=r1.pv;generalize hv:a.eval m=v at r1
   cases r1 with
   |amp _ _ A C hA=>
    obtain⟨A',hA',hown,hpre,pk,es,clock,ps,hb,hps,hxx,hc0,hmk⟩:=hst.Je hsz q _ (dc hxs);have hA:g.σ s0 q=some (A,C):=hA;rw[hA]at hA';cases hA';obtain rfl:=Ib hps;have ck:=rQ (P:=P) (w:=w) (k:=a.eval k) hjd es.isEmpty 9999;obtain⟨zv,hz1,hz2',_⟩:=qJ hty hje hz (bT g w) w;have hb:w.heap[A]?=some (.map es clock):=hb;rcases vF hty hjd hj2 hz2 hst2 hsn hq2 r2 es.toList xs 0 hxx hin with⟨q1,q2⟩|⟨j,en,y,q1,q2,q3,q4⟩
    ·have hf:=oz hjd q2
     rw[qo,q1]at hlook;cases hlook;refine⟨_,?_,fun d=>lres false (v:=zv) hz2'⟩;simp only[execOp,ho,Instr.lookup,Sem.run_bind,run_underlying hu,Result.andThen_ok,hv,run_getObj_map hb,Sem.run_pure,ck,hf,hz1]
    ·have hf:=oz hjd q1
     have hp:=(hxx.2 j en y q2 q3).2;rw[qo,q4]at hlook;cases hlook;refine⟨_,?_,fun d=>lres true (v:=en.val) hp⟩;simp only[execOp,ho,Instr.lookup,Sem.run_bind,run_underlying hu,Result.andThen_ok,hv,run_getObj_map hb,Sem.run_pure,ck,hf]
  ·exact hk.elim
 ·exact hk.elim
theorem DW (hty:bB P ty) {t T2 s0 q s2 k2 kt et:Nat} {m k v:Operand} {vp:PV} {z:List Nat} (ho:o.op=.mapUpdate t m k v\/o.op=.insert t m k v) (hdn:o.dst=none) (hu:P.underlying t=some (.map kt et)) (hjd:P.underlying kt=some (.pointer T2)) (hm:ev e m=.p (.amp s0 q)) (hkp:ev e k=.p (.bH s2 k2)) (hvp:(ev e v).tE z=some vp) (hk:Lu ty h t T2 s0 q s2 k2 vp K):∃f,K f/\cJ P n o e h f:=by
 have m1:m∈o.op.operands:=by rcases ho with ho|ho<;>simp[ho,Op.operands]
 have m2:k∈o.op.operands:=by rcases ho with ho|ho<;>simp[ho,Op.operands]
 have m3:v∈o.op.operands:=by rcases ho with ho|ho<;>simp[ho,Op.operands]
 have hex:∀(a:Act) (w:World),(execOp a.eval o:Sem Next).run P w=((do Instr.mapUpdate t (a.eval m) (a.eval k) (a.eval v);pure .skip):Sem Next).run P w:=by
  intro a w;rcases ho with ho|ho<;>simp only[execOp,ho]
 unfold Lu at hk;split at hk
 ·rename_i j2 hj2
  split at hk
  ·rename_i hz2
   obtain⟨l,sp,nx,sz,M,hg,hk⟩:=dK hk;obtain⟨l2,sp2,nx2,sz2,M2,hg2,⟨rfl,hsz,rfl,hsn,hq2⟩,xs,hxs,⟨hin,hnone⟩,hk⟩:=dK hk;refine⟨_,hk,fun e' h' he hl g w a s=>?_⟩;have hl0:aF h' l=some (.store t true s0 nx sz M):=(hl l (by simp)).trans hg;have hst:=s.blk hl0;have hst2:=s.blk ((hl l2 (by simp)).trans hg2);obtain⟨_,r1⟩:=s.cR he m1 hm;obtain⟨_,r2⟩:=s.cR he m2 hkp;obtain⟨_,r3⟩:=s.cR he m3 rfl;have r2:=r2.pv;have r3:=lE r3 hvp;have r1:=r1.pv;generalize hv:a.eval m=mv at r1
   cases r1 with
   |amp _ _ A C hA=>
    obtain⟨A',hA',hown,hpre,pk,es,clock,ps,hb,hps,hxx,hc0,hmk⟩:=hst.Je hsz q _ (dc hxs);have hA:g.σ s0 q=some (A,C):=hA;rw[hA]at hA';cases hA';obtain rfl:=Ib hps;have hb:w.heap[A]?=some (.map es clock):=hb;have hown:g.own A=some (.obj l):=hown;have ck:=rQ (P:=P) (w:=w) (k:=a.eval k) hjd false 9999;rcases vF hty hjd hj2 hz2 hst2 hsn hq2 r2 es.toList xs 0 hxx hin with⟨q1,q2⟩|⟨j,en,y,q1,q2,q3,q4⟩
    ·have hf:=oz hjd q2
     have hr:(execOp a.eval o).run P w=.ok .skip (World.fU w A (es.push { key:=a.eval k,val:=a.eval v,born:=clock }) (clock+1)):=by
      rw[hex];simp only[Instr.mapUpdate,Sem.run_bind,run_underlying hu,Result.andThen_ok,hv,run_getObj_map hb,ck,hf,run_setObj_map _ hb,Sem.run_pure];rfl
     have hxl:=hxx.1;simp only[Array.length_toList]at hxl;have d1:oe g w g (World.fU w A (es.push { key:=a.eval k,val:=a.eval v,born:=clock }) (clock+1)) l s0:=oe.fU hown hb s.bnd
     have hkx:∀x∈xs++[(PV.bH s2 k2,vp)],O9 true x.1:=fun x hx=>by
      rcases List.mem_append.1 hx with hx|hx
      ·obtain⟨k',e1,_⟩:=hin x hx;exact⟨_,_,e1⟩
      ·simp at hx;subst hx;exact⟨_,_,rfl⟩
     have hst3:=hst.set (a:=(A,C)) (ys:=(xs++[(PV.bH s2 k2,vp)]).map Ii) d1 hxs hA (fun b hb2=>fy hb2) (.inr ⟨hsz,true,_,clock+1,_,pR hb,rfl,⟨by simp[hxl],fun j p1 p2 p3 p4=>by
      have key:bq (bT g w) p1.key p2.1/\bq (bT g w) p1.val p2.2:=by
       simp only[Array.toList_push]at p3
       by_cases hj:j<es.size
       ·rw[List.getElem?_append_left (by simpa using hj)]at p3
        rw[List.getElem?_append_left (by omega)]at p4;exact hxx.2 j p1 p2 p3 p4
       ·rw[List.getElem?_append_right (by simpa using hj)]at p3
        rw[List.getElem?_append_right (by omega)]at p4
        have:j=es.size:=by
         have:=(List.getElem?_eq_some_iff.1 p3).1;simp at this;omega
        subst this;simp at p3;rw[hxl]at p4;simp at p4;subst p3;subst p4;exact⟨r2,r3⟩
      exact⟨key.1.mono fun _ _ _ hv=>lZ hb hv,key.2.mono fun _ _ _ hv=>lZ hb hv⟩⟩,hkx,hmk.push⟩)
     obtain⟨s3,hE⟩:=s.dyn hl0 d1 hst3;refine Oper.wp_skip hr ⟨g,?_,hE⟩;rw[hdn];exact s3
    ·rw[q4]at hnone;cases hnone
  ·exact hk.elim
 ·exact hk.elim
theorem Ah (hty:bB P ty) (hd:∀d,o.dst=some d->d<n) {t:Nat} {m k:Operand} {ok:Bool} (ho:o.op=.lookup t m k ok) (hk:CQ ty o h t (ev e m) (ev e k) ok K):∃f,K f/\cJ P n o e h f:=by
 have m1:m∈o.op.operands:=by simp[ho,Op.operands]
 have m2:k∈o.op.operands:=by simp[ho,Op.operands]
 have lres:∀{g:Gh} {w:World} {dom:Nat->Prop} {ow:Option bg} {v:Value} {x:PV} (b:Bool),bq (bT g w) v x->aH g w dom ow (if ok then .tuple #[v,.bool b] else v) (xJ ok x b):=by
  intro g w dom ow v x b hr
  cases ok with
  |false=>exact .p _ _ _ hr
  |true=>
   refine .cI _ [v,.bool b] [.p x,.p (.b b)] rfl (fun j v' c hv hc=>?_)
   match j with
   |0=>simp at hv hc;subst hv;subst hc;exact .p _ _ _ hr
   |1=>simp at hv hc;subst hv;subst hc;exact .p _ _ _ (.b b)
   |j+2=>simp at hv
 unfold CQ at hk;split at hk
 ·rename_i i hi
  split at hk
  ·rename_i kt et hde
   have hu:=(hty t i hi).und;rw[hde]at hu;split at hk
   ·rename_i jk je hjk hje
    have hjd:=(hty kt jk hjk).und;split at hk
    ·rename_i z s0 q s2 k2 hz hm hkp
     split at hk
     ·rename_i T2 hT2
      rw[hT2]at hjd;exact B9 hty hd ho hu hjd hje hz hm hkp hk
     ·exact hk.elim
    ·rename_i z s0 q kp _ hz hm hkp
     split at hk
     ·rename_i hka hkb
      obtain⟨l,sp,nx,sz,M,hg,⟨rfl,hsz⟩,xs,hxs,x,b,hlook,hk⟩:=dK hk;refine dD hd hk fun e' h' he hl' g w a s=>?_;have hst:=s.blk (hl'.trans hg);obtain⟨_,r1⟩:=s.cR he m1 hm;obtain⟨_,r2⟩:=s.cR he m2 hkp;have r2:=r2.pv;have r1:=r1.pv;generalize hv:a.eval m=v at r1
      cases r1 with
      |amp _ _ A C hA=>
       obtain⟨A',hA',hown,hpre,pk,es,clock,ps,hb,hps,hxx,hc0,hmk⟩:=hst.Je hsz q _ (dc hxs);have hA:g.σ s0 q=some (A,C):=hA;rw[hA]at hA';cases hA';obtain⟨rfl,hc1⟩:=NF hps hc0;have hc:=And.intro hc1 hmk;have huk:=(hty kt jk hjk).und;have ck:=run_checkKey (P:=P) (w:=w) huk (tO hka r2 hkb) es.isEmpty 9999;obtain⟨zv,hz1,hz2,_⟩:=qJ hty hje hz (bT g w) w;have hb:w.heap[A]?=some (.map es clock):=hb;rcases x7 hka r2 hkb z es.toList xs 0 hxx hc.1 with⟨q1,q2,_⟩|⟨j,en,y,q1,q2,q3,q4,q5,_⟩
       ·have hf:=run_findKey (P:=P) (w:=w) huk q2
        rw[qo,q1]at hlook;cases hlook;refine⟨_,?_,fun d _=>lres false (v:=zv) hz2⟩;simp only[execOp,ho,Instr.lookup,Sem.run_bind,run_underlying hu,Result.andThen_ok,hv,run_getObj_map hb,Sem.run_pure,ck,hf,hz1]
       ·have hf:=run_findKey (P:=P) (w:=w) huk q1
        have hp:=(hxx.2 j en y q2 q3).2;rw[qo,q4]at hlook;cases hlook;refine⟨_,?_,fun d _=>lres true (v:=en.val) hp⟩;simp only[execOp,ho,Instr.lookup,Sem.run_bind,run_underlying hu,Result.andThen_ok,hv,run_getObj_map hb,Sem.run_pure,ck,hf]
     ·exact hk.elim
    ·exact hk.elim
   ·exact hk.elim
  ·exact hk.elim
 ·exact hk.elim
theorem nW (hty:bB P ty) {t:Nat} {m k v:Operand} (ho:o.op=.mapUpdate t m k v\/o.op=.insert t m k v) (hdn:o.dst=none) (hk:oB ty h t (ev e m) (ev e k) (ev e v) K):∃f,K f/\cJ P n o e h f:=by
 have m1:m∈o.op.operands:=by rcases ho with ho|ho<;>simp[ho,Op.operands]
 have m2:k∈o.op.operands:=by rcases ho with ho|ho<;>simp[ho,Op.operands]
 have m3:v∈o.op.operands:=by rcases ho with ho|ho<;>simp[ho,Op.operands]
 have hex:∀(a:Act) (w:World),(execOp a.eval o:Sem Next).run P w=((do Instr.mapUpdate t (a.eval m) (a.eval k) (a.eval v);pure .skip):Sem Next).run P w:=by
  intro a w;rcases ho with ho|ho<;>simp only[execOp,ho]
 unfold oB at hk;split at hk
 ·rename_i i hi
  split at hk
  ·rename_i kt et hde
   have hu:=(hty t i hi).und;rw[hde]at hu;split at hk
   ·rename_i jk je hjk hje
    split at hk
    ·rename_i s0 q s2 k2 vp hm hkp hvp
     split at hk
     ·rename_i T2 hT2
      have hjd:=(hty kt jk hjk).und;rw[hT2]at hjd;exact DW hty ho hdn hu hjd hm hkp hvp hk
     ·exact hk.elim
    ·rename_i s0 q kp vp _ hm hkp hvp
     split at hk
     ·rename_i hka hkb
      obtain⟨l,sp,nx,sz,M,hg,⟨rfl,hsz⟩,xs,hxs,hk⟩:=dK hk;refine⟨_,hk,fun e' h' he hl g w a s=>?_⟩;have hl0:aF h' l=some (.store t true s0 nx sz M):=(hl l (by simp)).trans hg;have hst:=s.blk hl0;obtain⟨_,r1⟩:=s.cR he m1 hm;obtain⟨_,r2⟩:=s.cR he m2 hkp;obtain⟨_,r3⟩:=s.cR he m3 rfl;have r2:=r2.pv;have r3:=lE r3 hvp;have r1:=r1.pv;generalize hv:a.eval m=mv at r1
      cases r1 with
      |amp _ _ A C hA=>
       obtain⟨A',hA',hown,hpre,pk,es,clock,ps,hb,hps,hxx,hc0,hmk⟩:=hst.Je hsz q _ (dc hxs);have hA:g.σ s0 q=some (A,C):=hA;rw[hA]at hA';cases hA';obtain⟨rfl,hc1⟩:=NF hps hc0;have hc:=And.intro hc1 hmk;have hb:w.heap[A]?=some (.map es clock):=hb;have hown:g.own A=some (.obj l):=hown;have huk:=(hty kt jk hjk).und;have ik:=tO hka r2 hkb;have ck:=run_checkKey (P:=P) (w:=w) huk ik false 9999
       have fin:∀(es2:Array MapEntry) (c2:Nat) (ys:List (PV×PV)),(execOp a.eval o).run P w=.ok .skip (World.fU w A es2 c2)->iG (bT g w) es2.toList ys->(∀x∈ys,u9 x.1=some .ks)->mU es2 c2->ys=td kp vp xs->
        o.wp P a w (fun a' w'=>∃g',cw g' w' n a' ([]++e') ([(l,bu.store t true s0 nx sz (sset q ((td kp vp xs).map Jm) M))]++h')/\Ext g w g' w') (fun _ _ _=>False):=by
        intro es2 c2 ys hr hx2 hk2 hm2 hys;subst hys;have d1:oe g w g (World.fU w A es2 c2) l s0:=oe.fU hown hb s.bnd;have hst2:=hst.set (a:=(A,C)) (ys:=(td kp vp xs).map Jm) d1 hxs hA (fun b hb2=>fy hb2) (.inr ⟨hsz,false,es2,c2,_,pR hb,rfl,⟨hx2.1,fun j p1 p2 p3 p4=>⟨(hx2.2 j p1 p2 p3 p4).1.mono fun _ _ _ hv=>lZ hb hv,(hx2.2 j p1 p2 p3 p4).2.mono fun _ _ _ hv=>lZ hb hv⟩⟩,hk2,hm2⟩);obtain⟨s2,hE⟩:=s.dyn hl0 d1 hst2;refine Oper.wp_skip hr ⟨g,?_,hE⟩;rw[hdn];exact s2
       rcases x7 hka r2 hkb vp es.toList xs 0 hxx hc.1 with⟨q1,q2,q3⟩|⟨j,en,y,q1,q2,q3,q4,q5,q6⟩
       ·have hf:=run_findKey (P:=P) (w:=w) huk q2
        have hr:(execOp a.eval o).run P w=.ok .skip (World.fU w A (es.push { key:=a.eval k,val:=a.eval v,born:=clock }) (clock+1)):=by
         rw[hex];simp only[Instr.mapUpdate,Sem.run_bind,run_underlying hu,Result.andThen_ok,hv,run_getObj_map hb,ck,hf,run_setObj_map _ hb,Sem.run_pure];rfl
        refine fin _ _ _ hr ⟨?_,fun j p1 p2 p3 p4=>?_⟩ (fun x hx=>?_) hc.2.push q3.symm
        ·have:=hxx.1;simp at this;simp[this]
        ·have hxl:=hxx.1
         simp only[Array.length_toList]at hxl;simp only[Array.toList_push]at p3
         by_cases hj:j<es.size
         ·rw[List.getElem?_append_left (by simpa using hj)]at p3
          rw[List.getElem?_append_left (by omega)]at p4;exact hxx.2 j p1 p2 p3 p4
         ·rw[List.getElem?_append_right (by simpa using hj)]at p3
          rw[List.getElem?_append_right (by omega)]at p4
          have:j=es.size:=by
           have:=(List.getElem?_eq_some_iff.1 p3).1;simp at this;omega
          subst this;simp at p3;rw[hxl]at p4;simp at p4;subst p3;subst p4;exact⟨r2,r3⟩
        ·rcases List.mem_append.1 hx with hx|hx
         ·exact hc.1 x hx
         ·simp at hx;subst hx;exact hkb
       ·have hf:=run_findKey (P:=P) (w:=w) huk q1
        have hr:(execOp a.eval o).run P w=.ok .skip (World.fU w A (es.modify (0+j) fun e=>{ e with key:=a.eval k,val:=a.eval v }) clock):=by
         rw[hex]
         have hkey:((es[0+j]?).map (·.key)).getD (a.eval k)=a.eval k:=by
          have:es[0+j]?=some en:=by simpa using q2
          rw[this];simpa using q5
         simp only[Instr.mapUpdate,Sem.run_bind,run_underlying hu,Result.andThen_ok,hv,run_getObj_map hb,ck,hf,hkey,run_keyThatStays ik,run_setObj_map _ hb,Sem.run_pure];rfl
        refine fin _ _ _ hr ⟨?_,fun j' p1 p2 p3 p4=>?_⟩ (fun x hx=>?_) hc.2.modify q6.symm
        ·have:=hxx.1;simp at this;simp[this]
        ·rw[Array.getElem?_toList,Array.getElem?_modify]at p3
         rw[List.getElem?_set]at p4
         by_cases hjj:j=j'
         ·subst hjj
          have hjl:j<xs.length:=(List.getElem?_eq_some_iff.1 q3).1;rw[if_pos rfl,if_pos hjl]at p4;have:es[j]?=some en:=by simpa using q2
          simp[this]at p3;simp at p4;subst p3;subst p4;exact⟨r2,r3⟩
         ·rw[if_neg (by simpa using hjj)]at p3
          rw[if_neg hjj]at p4;exact hxx.2 j' p1 p2 (by simpa using p3) p4
        ·rcases List.mem_or_eq_of_mem_set hx with hx|rfl
         ·exact hc.1 x hx
         ·exact hkb
     ·exact hk.elim
    ·exact hk.elim
   ·exact hk.elim
  ·exact hk.elim
 ·exact hk.elim
theorem Ge (hty:bB P ty) (hd:∀d,o.dst=some d->d<n) {t:Nat} {x:Operand} (ho:o.op=.box t x) (hk:Oi ty o h t (ev e x) K):∃f,K f/\cJ P n o e h f:=by
 have m1:x∈o.op.operands:=by simp[ho,Op.operands]
 unfold Oi at hk;split at hk
 ·rename_i i d hi hdd
  split at hk
  ·rename_i zs hzs
   obtain⟨l,sp,nx,sz,M,hg,hk⟩:=dK hk;split at hk
   ·rename_i hsz hsz0
    obtain rfl:zs.length=sz:=Nat.eq_of_beq_eq_true hsz;have hpos:0<zs.length:=Nat.pos_of_ne_zero fun q=>by rw[q]at hsz0;cases hsz0
    refine⟨_,hk,fun e' h' he hl g w a s=>?_⟩;have hl0:aF h' l=some (.store t true sp nx zs.length M):=(hl l (by simp)).trans hg;have hst:=s.blk hl0;obtain⟨_,r⟩:=s.cR he m1 rfl;have hpr:bq (bT g w) (a.eval x) (.agg zs):=lE r hzs;obtain⟨c1,c2,c3⟩:=oG hpr;have c1:(a.eval x).cells.toList.length=zs.length:=c1
    have hr:(execOp a.eval o).run P w=.ok (.value (.pointer (some ⟨w.heap.size,0,none⟩))) (World.push w (.cells (a.eval x).cells t (0,0))):=by
     simp[execOp,ho,Instr.box,newVar,newRow];rfl
    have d1:=oe.push (g:=g) (w:=w) (l:=l) (sp:=sp) (k:=nx) (C:=1) (cs:=(a.eval x).cells) (E:=t) (hst.fresh nx (Nat.le_refl _)) s.bnd
    have hblk:vW (g.dr w.heap.size 1 l sp nx) (World.push w (.cells (a.eval x).cells t (0,0))) (w.heap.size,1) zs.length [.agg zs]:=by
     refine .inl ⟨(a.eval x).cells,t,eJ,hpos,⟨by simp,by rw[Nat.one_mul,<-c1];simp⟩,fun x hx=>by simp at hx;subst hx;rfl,fun j x hj q y hy=>?_⟩;have ej:j=0:=by have:=(List.getElem?_eq_some_iff.1 hj).1;simp at this;exact this
     subst ej;simp at hj;subst hj;have hy:zs[q]?=some y:=hy;have hq:q<zs.length:=(List.getElem?_eq_some_iff.1 hy).1;have hzc:(a.eval x).cells.toList[q]?=some ((a.eval x).cells.toList[q]'(by omega)):=List.getElem?_eq_getElem _;generalize (a.eval x).cells.toList[q]'(by omega)=u at hzc;exact⟨u,by simpa using hzc,c2 u (List.mem_of_getElem? hzc),(c3 q u y hzc hy).mono d1.bT d1.σ⟩
    have hst2:=hst.add (a:=(w.heap.size,1)) (xs:=[.agg zs]) d1 (fun p hp=>hp) hst.nodup (by simp[Gh.dr]) (fun k hk=>by simp[Gh.dr,hk]) (fun k ys b q1 q2=>by
     obtain⟨b',p1,p2,_⟩:=hst.row k ys q1;rw[q2]at p1;cases p1;have hlt:=s.bnd _ _ p2;have hne:b.1≠w.heap.size:=by omega
     exact⟨hne,by simp[Gh.dr,hne],by simp[Gh.dr,hne],cN hlt⟩) (by simp[Gh.dr]) (by simp[Gh.dr]) hblk
    obtain⟨s2,hE⟩:=s.dyn hl0 d1 hst2;refine Oper.cp hr ⟨_,?_,hE⟩;rw[hdd];exact s2.put (hd d hdd) (.p _ _ _ (.bH sp nx w.heap.size 1 (by simp[bT,Gh.dr])))
   ·exact hk.elim
  ·exact hk.elim
 ·exact hk.elim
end
end Go.AM
