/- Part of a machine over plain values. No conditions. -/
import Derived.Test.YtldppkdekklpkaaGreatDoorAMDyn4
import Derived.LaidEql
set_option linter.all false
section
namespace Go.AM
section
variable {P:Program} {ty:Nat→Option TI} {n:Nat} {o:Oper} {e:Env} {h:Heap} {K:AK}
theorem SlV.rows {g:Gh} {w:World} {a2:Option Addr} {sz:Nat} {ys:List PV} {F2:Nat→Value} (hF2:SlV (imm g w) a2 sz ys F2):∀(jj:Nat) (x:PV) (i:Nat) (y:PV),ys[jj]?=some x→x.cells[i]?=some y→jj*sz+i<ys.length*sz∧(F2 (jj*sz+i)).oneCell'=true∧PRel (imm g w) (F2 (jj*sz+i)) y:=by
 intro jj x i y hx hi;have hi':i<sz:=by have:=(List.getElem?_eq_some_iff.1 hi).1;have:=hF2.hz x (List.mem_of_getElem? hx);omega
 have hjl:jj<ys.length:=(List.getElem?_eq_some_iff.1 hx).1;obtain⟨b2,hb2⟩:=hF2.ad (fun q=>by subst q;simp at hjl);subst hb2;obtain⟨q1,q2,q3⟩:=hF2.cell b2 jj x i y rfl hx hi;refine⟨?_,q2,q3⟩;have:(jj+1)*sz≤ys.length*sz:=Nat.mul_le_mul_right _ hjl;rw[Nat.add_mul]at this;omega
theorem dappend_grow (hty:TyOK P ty) {t t2 el el2:TypeId} {j:TI} (hu:P.underlying t=some (.slice el)) (hu2:P.underlying t2=some (.slice el2)) (hj:ty el=some j) (hs0:0<j.size) (hb0:j.bytes≠0)
 {g:Gh} {w:World} {a:Act} {e':Env} {h':Heap} (s:Sim g w n a e' h') {l sp nx:Nat} {M M':List (Nat×List PV)} (hl:hget h' l=some (.store el false sp nx j.size M)) (hsub:∀p∈M',p∈M) (hnd:(M'.map (·.1)).Nodup)
 {xs ys:List PV} {F2:Nat→Value} {a2:Option Addr} {cap2:Nat} (hF2:SlV (imm g w) a2 j.size ys F2) (hroom:(xs.length+ys.length)*j.bytes≤140737488355328) (u:TypeId) (ax:Option Addr) (cap:Nat) (F:Nat→Value)
 (hfit:cap<xs.length+ys.length) (hlc:xs.length≤cap) (hzx:∀x∈xs,x.cells.length=j.size)
 (hxc:∀k,(Builtin.firstCells j.size xs.length (.slice ax xs.length cap)).run P { w with drawn:=k }=.ok ((List.range (xs.length*j.size)).map F).toArray { w with drawn:=k })
 (hx2:∀(jj:Nat) (x:PV) (i:Nat) (y:PV),xs[jj]?=some x→x.cells[i]?=some y→jj*j.size+i<xs.length*j.size∧(F (jj*j.size+i)).oneCell'=true∧PRel (imm g w) (F (jj*j.size+i)) y):
 ∃v' g' w',(Builtin.append_ #[t,t2] u #[.slice ax xs.length cap,.slice a2 ys.length cap2]).run P w=.ok v' w'∧Sim g' w' n a e' ((l,.store el false sp (nx+1) j.size ((nx,xs++ys)::M'))::h')∧Ext g w g' w'∧PRel (imm g' w') v' (.ads sp nx (xs.length+ys.length)):=by
 obtain⟨inf,z,i1,i2,i3,i4,i5,i6⟩:=(hty el j hj).inf;have hst:=s.blk hl;have hzs:z.cells.size=j.size:=by rw[←i6,←i5];simp
 have hmul:(xs.length+ys.length)*j.size=xs.length*j.size+ys.length*j.size:=Nat.add_mul _ _ _;have hyc:∀k,(Builtin.firstCells j.size ys.length (.slice a2 ys.length cap2)).run P { w with drawn:=k }=.ok ((List.range (ys.length*j.size)).map F2).toArray { w with drawn:=k }:=fun k=>run_firstCells (g:=g) (w:={ w with drawn:=k }) hF2 rfl;obtain⟨c,hc,hrun⟩:=run_append_grow hu hu2 i1 i2 i4 hfit hlc hxc hyc (by rw[i3];exact hroom) (by rw[i3];exact hb0) u;generalize hcells:((List.range (xs.length*j.size)).map F).toArray++((List.range (ys.length*j.size)).map F2).toArray++Builtin.zeroCells z.cells (c-(xs.length+ys.length))=row at hrun
 have hsize:row.size=c*j.size:=by
  rw[←hcells];simp only[Array.size_append,List.size_toArray,List.length_map,List.length_range,zeroCells_size,hzs];rw[←hmul,←Nat.add_mul];congr 1;omega
 have hrow1:∀k,k<xs.length*j.size→row[k]?=some (F k):=by
  intro k hk;rw[←hcells,Array.append_assoc,Array.getElem?_append_left (by simpa using hk)];simp[hk]
 have hrow2:∀k,k<ys.length*j.size→row[xs.length*j.size+k]?=some (F2 k):=by
  intro k hk;rw[←hcells,Array.getElem?_append_left (by simp;omega),Array.getElem?_append_right (by simp)];simp[hk]
 have d1:Dyn g w (g.newS w.heap.size c l sp nx) (World.push { w with drawn:=w.drawn+1 } (.cells row el (0,0))) l sp:=
  (Dyn.drew (k:=w.drawn+1) s.bnd).trans (Dyn.push (w:={ w with drawn:=w.drawn+1 }) (C:=c) (hst.fresh nx (Nat.le_refl _)) s.bnd)
 have hblk:SBlk (g.newS w.heap.size c l sp nx) (World.push { w with drawn:=w.drawn+1 } (.cells row el (0,0))) (w.heap.size,c) j.size (xs++ys):=by
  refine .inl ⟨row,el,push_new (w:={ w with drawn:=w.drawn+1 }),hs0,⟨by rw[List.length_append];exact hc,by rw[hsize];exact Nat.le_refl _⟩,fun x hx=>?_,rows_app (F:=F) (F2:=F2) (fun jj x i y q1 q2=>?_) (fun jj x i y q1 q2=>?_)⟩
  ·rcases List.mem_append.1 hx with hx|hx
   ·exact hzx x hx
   ·exact hF2.hz x hx
  ·obtain⟨k1,k2,k3⟩:=hx2 jj x i y q1 q2
   exact⟨hrow1 _ k1,k2,k3.mono d1.imm d1.σ⟩
  ·obtain⟨k1,k2,k3⟩:=hF2.rows jj x i y q1 q2
   exact⟨hrow2 _ k1,k2,k3.mono d1.imm d1.σ⟩
 have hst2:=hst.add (a:=(w.heap.size,c)) (xs:=xs++ys) d1 hsub hnd (by simp[Gh.newS]) (fun k hk=>by simp[Gh.newS,hk]) (fun k zs b q1 q2=>by
  obtain⟨b',p1,p2,_⟩:=hst.row k zs (hsub _ q1);rw[q2]at p1;cases p1;have hlt:=s.bnd _ _ p2;have hne:b.1≠w.heap.size:=by omega
  exact⟨hne,by simp[Gh.newS,hne],by simp[Gh.newS,hne],push_old (w:={ w with drawn:=w.drawn+1 }) hlt⟩) (by simp[Gh.newS]) (by simp[Gh.newS]) hblk
 obtain⟨s2,hE⟩:=s.dyn hl d1 hst2;exact⟨_,_,_,hrun,s2,hE,.ads sp nx w.heap.size _ c (by simp[imm,Gh.newS]) hc⟩
theorem dappend_ads (hty:TyOK P ty) {t t2 el el2:TypeId} {j:TI} (hu:P.underlying t=some (.slice el)) (hu2:P.underlying t2=some (.slice el2)) (hj:ty el=some j) (hs0:0<j.size) (hb0:j.bytes≠0)
 {g:Gh} {w:World} {a:Act} {e':Env} {h':Heap} (s:Sim g w n a e' h') {l sp nx:Nat} {M:List (Nat×List PV)} (hl:hget h' l=some (.store el false sp nx j.size M)) {k m:Nat} {v1:Value} (r1:PRel (imm g w) v1 (.ads sp k m))
 {xs ys:List PV} (hxs:slk k M=some xs) (hm:m≤xs.length) {F2:Nat→Value} {a2:Option Addr} {cap2:Nat} (hF2:SlV (imm g w) a2 j.size ys F2) (hroom:(m+ys.length)*j.bytes≤140737488355328) (u:TypeId):
 ∃v' g' w',(Builtin.append_ #[t,t2] u #[v1,.slice a2 ys.length cap2]).run P w=.ok v' w'∧Sim g' w' n a e' ((l,.store el false sp (nx+1) j.size ((nx,xs.take m++ys)::sdel k M))::h')∧Ext g w g' w'∧PRel (imm g' w') v' (.ads sp nx (m+ys.length)):=by
 obtain⟨inf,z,i1,i2,i3,i4,i5,i6⟩:=(hty el j hj).inf;have hst:=s.blk hl
 cases r1 with
 |ads _ _ A _ cap hA hc=>
  replace hA:g.σ sp k=some (A,cap):=hA;obtain⟨A',hA',hown,hpre,vs,E,hb,_,⟨hlen1,hlen2⟩,hzz,hxx⟩:=hst.rowC (Nat.ne_of_gt hs0) k xs (slk_mem hxs);rw[hA]at hA';cases hA';replace hlen1:xs.length≤cap:=hlen1;replace hlen2:cap*j.size≤vs.size:=hlen2;have hb:w.heap[A]?=some (.cells vs E (0,0)):=hb;have htl:(xs.take m).length=m:=by simp;omega
  have hmc:m*j.size≤cap*j.size:=Nat.mul_le_mul_right _ hc
  have hcell:∀q,q<m*j.size→vs[q]?=some ((vs[q]?).getD undef):=fun q hq=>by
   have:q<vs.size:=by omega
   simp[this]
  have hx2:∀(jj:Nat) (x:PV) (i:Nat) (y:PV),(xs.take m)[jj]?=some x→x.cells[i]?=some y→jj*j.size+i<(xs.take m).length*j.size∧((vs[jj*j.size+i]?).getD undef).oneCell'=true∧PRel (imm g w) ((vs[jj*j.size+i]?).getD undef) y:=by
   intro jj x i y hx hi;have hjl:jj<(xs.take m).length:=(List.getElem?_eq_some_iff.1 hx).1;have hx':xs[jj]?=some x:=by rw[List.getElem?_take]at hx;split at hx<;>first|exact hx|cases hx
   have hi':i<j.size:=by have:=(List.getElem?_eq_some_iff.1 hi).1;have:=hzz x (List.mem_of_getElem? hx');omega
   obtain⟨v,q1,q2,q3⟩:=hxx jj x hx' i y hi;refine⟨?_,by rw[q1];exact q2,by rw[q1];exact q3⟩;have:(jj+1)*j.size≤(xs.take m).length*j.size:=Nat.mul_le_mul_right _ hjl;rw[Nat.add_mul]at this;omega
  have hzx:∀x∈xs.take m,x.cells.length=j.size:=fun x hx=>hzz x (List.mem_of_mem_take hx);have hsub:∀p∈sdel k M,p∈M:=fun p hp=>sdel_sub hp;have hnd:((sdel k M).map (·.1)).Nodup:=(sdel_keys k M).nodup hst.nodup
  by_cases hfit:m+ys.length≤cap
  · -- in place
   have hy:=run_firstCells (P:=P) (g:=g) (w:=w) (len:=ys.length) (cap:=cap2) hF2 rfl;have hle1:(m+ys.length)*j.size≤cap*j.size:=Nat.mul_le_mul_right _ hfit;rw[Nat.add_mul]at hle1;have hl2:((List.range (ys.length*j.size)).map F2).length=ys.length*j.size:=by simp
   have hone2:∀v∈(List.range (ys.length*j.size)).map F2,v.oneCell'=true:=by
    intro v hv;obtain⟨q,hq,rfl⟩:=List.mem_map.1 hv;have hq:q<ys.length*j.size:=by simpa using hq
    obtain⟨b2,hb2⟩:=hF2.ad (fun q=>by subst q;simp at hq);subst hb2;exact(hF2.all hq).2
   have hst1:=run_storeCells_at (P:=P) A (m*j.size) E ((List.range (ys.length*j.size)).map F2) 0 vs w hb (by rw[hl2];omega) hone2;simp only[Nat.add_zero]at hst1;have hrun:=run_append_fit hu hu2 i1 i2 (w:=w) (a:=some ⟨A,0,none⟩) (cap:=cap) hfit hy (fun b q=>by cases q;rw[Addr.add_plain,Nat.zero_add];exact hst1) (fun q=>by cases q) u;have hsl':=splice_length vs.toList ((List.range (ys.length*j.size)).map F2) (m*j.size) (by rw[hl2];simp;omega);have hsg:=splice_get vs.toList ((List.range (ys.length*j.size)).map F2) (m*j.size) (by rw[hl2];simp;omega);generalize (vs.toList.take (m*j.size)++(List.range (ys.length*j.size)).map F2++vs.toList.drop (m*j.size+((List.range (ys.length*j.size)).map F2).length))=row at hst1 hrun hsl' hsg;have hrows:row.toArray.size=vs.size:=by simpa using hsl'
   have d1:Dyn g w (g.num sp nx (A,cap)) w l sp:=Dyn.num (hst.fresh nx (Nat.le_refl _)) s.bnd;have d2:Dyn (g.num sp nx (A,cap)) w (g.num sp nx (A,cap)) (w.setRow A row.toArray) l sp:=Dyn.setRow (g:=g.num sp nx (A,cap)) hown hpre hb hrows s.bnd;have d:=d1.trans d2
   have hblk:SBlk (g.num sp nx (A,cap)) (w.setRow A row.toArray) (A,cap) j.size (xs.take m++ys):=by
    refine .inl ⟨row.toArray,E,setRow_heap _ _ _ _ _ _ hb,hs0,⟨by rw[List.length_append,htl];exact hfit,by rw[hrows];exact hlen2⟩,fun x hx=>?_,rows_app (F:=fun k=>(vs[k]?).getD undef) (F2:=F2) (fun jj x i y q1 q2=>?_) (fun jj x i y q1 q2=>?_)⟩
    ·rcases List.mem_append.1 hx with hx|hx
     ·exact hzx x hx
     ·exact hF2.hz x hx
    ·obtain⟨k1,k2,k3⟩:=hx2 jj x i y q1 q2
     rw[htl]at k1;refine⟨?_,k2,k3.mono d.imm d.σ⟩;rw[List.getElem?_toArray,hsg,if_neg (by omega)];simpa using hcell _ k1
    ·obtain⟨k1,k2,k3⟩:=hF2.rows jj x i y q1 q2
     refine⟨?_,k2,k3.mono d.imm d.σ⟩;rw[htl,List.getElem?_toArray,hsg,if_pos (by rw[hl2];omega),show m*j.size+(jj*j.size+i)-m*j.size=jj*j.size+i by omega];simp[k1]
   have hst2:=hst.add (a:=(A,cap)) (xs:=xs.take m++ys) d hsub hnd (by simp[Gh.num]) (fun q hq=>by simp[Gh.num,hq]) (fun q zs b q1 q2=>by
    have hne:b.1≠A:=fun e=>sdel_ne hst.nodup q1 (hst.inj q k zs xs b (A,cap) (hsub _ q1) (slk_mem hxs) q2 hA e);exact⟨hne,rfl,rfl,setRow_other _ _ _ _ hne⟩) hown hpre hblk
   obtain⟨s2,hE⟩:=s.dyn hl d hst2;exact⟨_,_,_,hrun,s2,hE,.ads sp nx A _ cap (by simp[imm,Gh.num]) hfit⟩
  ·have:=dappend_grow hty hu hu2 hj hs0 hb0 s hl hsub hnd (xs:=xs.take m) (cap2:=cap2) hF2 (by rw[htl];exact hroom) u (some ⟨A,0,none⟩) cap (fun k=>(vs[k]?).getD undef) (by rw[htl];omega) (by rw[htl];exact hc) hzx (fun q=>by
    rw[htl];simp only[Builtin.firstCells];exact run_loadCells { w with drawn:=q } ⟨A,0,none⟩ _ _ (fun i hi=>by rw[Addr.add_plain,Nat.zero_add];exact(cell?_of (w:={ w with drawn:=q }) hb i).trans (hcell i hi))) hx2
   rw[htl]at this;exact this
theorem build_core (hty:TyOK P ty) {t len:Nat} {parts:List (Nat×Operand)} (ho:o.op=.buildSlice t len ⟨parts⟩) {el:TypeId} {j:TI} {xs:List PV} (hu:P.underlying t=some (.slice el)) (hj:ty el=some j) (hxs:partsPure j.size j.csz e 0 parts=some xs) (hlen:xs.length=len) (hsm:len*j.size≤16777216) (hs0:0<j.size):
 ∀{e':Env} {h':Heap} {g:Gh} {w:World} {a:Act},(∀t∈slotsOf o,eget e' t=eget e t)→Sim g w n a e' h'→∃row:Array Value,(execOp a.eval o).run P w=.ok (.value (.slice (some ⟨w.heap.size,0,none⟩) len len)) (World.push w (.cells row el (0,0)))∧(∀(jj:Nat) (x:PV) (ii:Nat) (y:PV),xs[jj]?=some x→x.cells[ii]?=some y→jj*j.size+ii<len*j.size∧∃v,row[jj*j.size+ii]?=some v∧v.oneCell'=true∧PRel (imm g w) v y)∧len*j.size≤row.size:=by
 have hm:∀p∈parts,p.2∈o.op.operands:=fun p hp=>by simp[ho,Op.operands];exact⟨p.1,hp⟩
 obtain⟨k1,k2,k3⟩:=partsPure_spec 0 parts xs hxs;obtain⟨inf,z,i1,i2,i3,i4,i5,i6⟩:=(hty el j hj).inf;intro e' h' g w a he s
 -- the parts' values
 have hvals:∀(jj:Nat) (p:Nat×Operand) (x:PV),parts[jj]?=some p→xs[jj]?=some x→PRel (imm g w) (a.eval p.2) x:=by
  intro jj p x hp hx;obtain⟨_,r⟩:=s.evo he (hm p (List.mem_of_getElem? hp)) rfl;exact pureL_rel r (k3 jj p x hp hx).2
 have hsz:∀v∈parts.map (fun p=>a.eval p.2),v.cells.size=j.size:=by
  intro v hv;obtain⟨p,hp,rfl⟩:=List.mem_map.1 hv;obtain⟨jj,hjj⟩:=List.getElem?_of_mem hp;have hlt:jj<xs.length:=by have:=(List.getElem?_eq_some_iff.1 hjj).1;omega
  have:=(prel_cells (hvals jj p xs[jj] hjj (by simp[hlt]))).1;have h2:=k2 xs[jj] (List.getElem_mem hlt);have:(a.eval p.2).cells.size=(a.eval p.2).cells.toList.length:=by simp
  omega
 have hz:z.cells.size=j.size:=by rw[←i6,←i5];simp
 have hcells:∃row:Array Value,(execOp a.eval o).run P w=.ok (.value (.slice (some ⟨w.heap.size,0,none⟩) len len)) (World.push w (.cells row el (0,0)))∧
  ∀(jj:Nat) (p:Nat×Operand) (ii:Nat),parts[jj]?=some p→ii<j.size→row[jj*j.size+ii]?=(a.eval p.2).cells[ii]?:=by
  by_cases h0:len=0
  ·subst h0
   have hp0:parts=[]:=List.eq_nil_of_length_eq_zero (by omega);subst hp0;refine⟨#[],?_,by simp⟩;simp[execOp,ho,Instr.buildSlice,run_underlying hu,sizeOf,typeInfo,i1,Instr.fill,newRow];exact congrArg (fun q=>World.push w (.cells q el (0,0))) (by simp)
  ·have hpos:0<len*j.size:=Nat.mul_pos (Nat.pos_of_ne_zero h0) hs0
   obtain⟨row,hr1,hr2,hr3⟩:=Great.fill_dense hs0 (parts.map (fun p=>a.eval p.2)) 0 ((Array.range (len*j.size)).map (z.cells[· % z.cells.size]!)) hsz (by simp;rw[←k1,hlen];exact Nat.le_refl _)
   have hparts:((parts.map (fun p=>a.eval p.2)).zipIdx 0).map (fun x=>(x.2,x.1))=parts.map fun p=>(p.1,a.eval p.2):=by
    apply List.ext_getElem?
    intro jj;simp only[List.getElem?_map,List.getElem?_zipIdx]
    cases hp:parts[jj]? with
    |none=>simp
    |some p=>
     have hlt:jj<xs.length:=by have:=(List.getElem?_eq_some_iff.1 hp).1;omega
     have:=(k3 jj p xs[jj] hp (by simp[hlt])).1;simp;omega
   rw[hparts]at hr1;refine⟨row,?_,fun jj p ii hp hii=>?_⟩
   ·have:=run_buildSlice (P:=P) w t el len (parts.map fun p=>(p.1,a.eval p.2)).toArray row inf z hu i1 i4 (by rw[i2];omega) (by rw[i2];omega) (by rw[i2];simpa using hr1)
    simp only[execOp,ho,Sem.run_bind,List.map_toArray,this,Result.andThen_ok,Sem.run_pure];rfl
   ·have hjl:jj<parts.length:=(List.getElem?_eq_some_iff.1 hp).1
    obtain⟨e1,e2⟩:=div_mod_row (j:=jj) hii
    have hk:jj*j.size+ii<(0+(parts.map (fun p=>a.eval p.2)).length)*j.size:=by
     have:(jj+1)*j.size≤parts.length*j.size:=Nat.mul_le_mul_right _ hjl;rw[Nat.add_mul]at this;simp;omega
    rw[hr3,if_pos ⟨by omega,hk⟩,e1,e2];simp[hp]
 obtain⟨row,hrun,hrow⟩:=hcells;refine⟨row,hrun,fun jj x ii y hx hy=>?_,?_⟩
 ·have hjl:jj<xs.length:=(List.getElem?_eq_some_iff.1 hx).1
  have hil:ii<j.size:=by have:=(List.getElem?_eq_some_iff.1 hy).1;have:=k2 x (List.mem_of_getElem? hx);omega
  have hpl:jj<parts.length:=by omega
  have hpj:parts[jj]?=some parts[jj]:=List.getElem?_eq_getElem hpl;obtain⟨c1,c2,c3⟩:=prel_cells (hvals jj _ x hpj hx);have hlt:ii<(a.eval parts[jj].2).cells.toList.length:=by rw[c1];exact(List.getElem?_eq_some_iff.1 hy).1
  have hcell:row[jj*j.size+ii]?=some (a.eval parts[jj].2).cells.toList[ii]:=by
   rw[hrow jj _ ii hpj hil,←Array.getElem?_toList];simp only[List.getElem?_eq_getElem hlt]
  refine⟨?_,_,hcell,c2 _ (List.getElem_mem hlt),c3 ii _ y (List.getElem?_eq_getElem hlt) hy⟩;have:(jj+1)*j.size≤xs.length*j.size:=Nat.mul_le_mul_right _ hjl;rw[Nat.add_mul,hlen]at this;omega
 ·by_cases h0:len=0
  ·subst h0;simp
  ·have hpl:len-1<parts.length:=by omega
   have hpj:parts[len-1]?=some parts[len-1]:=List.getElem?_eq_getElem hpl;have hv:=hsz (a.eval parts[len-1].2) (List.mem_map.2 ⟨_,List.getElem_mem hpl,rfl⟩);have:=hrow (len-1) _ (j.size-1) hpj (by omega);have hsome:(a.eval parts[len-1].2).cells[j.size-1]?.isSome=true:=by simp;omega
   rw[←this]at hsome;simp at hsome
   have e1:(len-1)*j.size+j.size=len*j.size:=by
    rw[←Nat.succ_mul];congr 1;omega
   omega
theorem dBuild_sound (hty:TyOK P ty) (hd:∀d,o.dst=some d→d<n) {t len:Nat} {parts:List (Nat×Operand)} (ho:o.op=.buildSlice t len ⟨parts⟩) (hk:dBuild ty o e h t len parts K):∃f,K f∧OpOK P n o e h f:=by
 unfold dBuild at hk;split at hk
 ·rename_i i hi
  split at hk
  ·rename_i el hde
   have hu:=(hty t i hi).und;rw[hde]at hu;split at hk
   ·rename_i j hj
    split at hk
    ·rename_i xs d hxs hdd
     split at hk
     ·rename_i hlen hsm hs0
      have hlen:xs.length=len:=Nat.eq_of_beq_eq_true hlen;have hsm:len*j.size≤16777216:=Nat.le_of_ble_eq_true hsm;have hs0:0<j.size:=Nat.pos_of_ne_zero fun q=>by rw[q]at hs0;cases hs0
      obtain⟨l,sp,nx,sz,M,hg,hk⟩:=AStO_spec hk;split at hk
      ·rename_i hsz
       obtain rfl:sz=j.size:=Nat.eq_of_beq_eq_true hsz;refine⟨_,hk,fun e' h' he hl g w a s=>?_⟩;have hl0:=(hl l (by simp)).trans hg;obtain⟨row,hrun,hrow,hrz⟩:=build_core hty ho hu hj hxs hlen hsm hs0 he s;have hst:=s.blk hl0;obtain⟨_,k2,_⟩:=partsPure_spec 0 parts xs hxs;have d1:Dyn g w (g.newS w.heap.size len l sp nx) (World.push w (.cells row el (0,0))) l sp:=Dyn.push (C:=len) (hst.fresh nx (Nat.le_refl _)) s.bnd
       have hblk:SBlk (g.newS w.heap.size len l sp nx) (World.push w (.cells row el (0,0))) (w.heap.size,len) j.size xs:=.inl ⟨row,el,push_new,hs0,⟨by omega,hrz⟩,k2,fun jj x q1 ii y q2=>by
        obtain⟨_,v,p1,p2,p3⟩:=hrow jj x ii y q1 q2;exact⟨v,p1,p2,p3.mono d1.imm d1.σ⟩⟩
       have hst2:=hst.add (a:=(w.heap.size,len)) (xs:=xs) d1 (fun _ hp=>hp) hst.nodup (by simp[Gh.newS]) (fun k hk=>by simp[Gh.newS,hk]) (fun k zs b q1 q2=>by
        obtain⟨b',p1,p2,_⟩:=hst.row k zs q1;rw[q2]at p1;cases p1;have hlt:=s.bnd _ _ p2;have hne:b.1≠w.heap.size:=by omega
        exact⟨hne,by simp[Gh.newS,hne],by simp[Gh.newS,hne],push_old hlt⟩) (by simp[Gh.newS]) (by simp[Gh.newS]) hblk
       obtain⟨s2,hE⟩:=s.dyn hl0 d1 hst2;refine Oper.wp_value hrun ⟨_,?_,hE⟩;rw[hdd];exact s2.put (hd d hdd) (.p _ _ _ (.ads sp nx w.heap.size _ len (by simp[imm,Gh.newS]) (Nat.le_refl _)))
      ·exact hk.elim
     ·exact hk.elim
    ·exact hk.elim
   ·exact hk.elim
  ·exact hk.elim
 ·exact hk.elim
theorem dAppend_sound (hty:TyOK P ty) (hd:∀d,o.dst=some d→d<n) {x y:Operand} {t t2:Nat} (ho:o.op=.call { callee:=.builtin .append,args:=⟨[x,y]⟩,argTypes:=⟨[t,t2]⟩ })
 (hk:dAppend ty o e h t t2 (ev e x) (ev e y) K):∃f,K f∧OpOK P n o e h f:=by
 have m1:x∈o.op.operands:=by simp[ho,Op.operands,Call.operands]
 have m2:y∈o.op.operands:=by simp[ho,Op.operands,Call.operands]
 have hrun:∀(a:Act) (w w':World) (v:Value),(∀u,(Builtin.append_ #[t,t2] u #[a.eval x,a.eval y]).run P w=.ok v w')→(execOp a.eval o).run P w=.ok (.value v) w':=by
  intro a w w' v hl;obtain⟨cs,hcs⟩:=run_builtin_call (P:=P) ho a w;rw[hcs];simp only[builtin,List.map_cons,List.map_nil,Sem.run_bind];rw[hl];rfl
 have hrun1:∀(a:Act) (w w':World) (v:Value),(Builtin.append_ #[t,t2] o.type #[a.eval x,a.eval y]).run P w=.ok v w'→(execOp a.eval o).run P w=.ok (.value v) w':=by
  intro a w w' v hl;obtain⟨cs,hcs⟩:=run_builtin_call (P:=P) ho a w;rw[hcs];simp only[builtin,List.map_cons,List.map_nil,Sem.run_bind];rw[hl];rfl
 unfold dAppend at hk;split at hk
 ·rename_i i hi ht2
  obtain⟨el2,hu2⟩:=isSliceT_spec hty ht2;split at hk
  ·rename_i el hde
   have hu:=(hty t i hi).und;rw[hde]at hu;split at hk
   ·rename_i j hj
    split at hk
    ·rename_i ys d hnz hys hdd
     have hnz:j.size*j.bytes≠0:=fun q=>by rw[q]at hnz;cases hnz
     have hs0:0<j.size:=Nat.pos_of_ne_zero fun q=>hnz (by rw[q,Nat.zero_mul]);have hb0:j.bytes≠0:=fun q=>hnz (by rw[q,Nat.mul_zero]);obtain⟨l,sp,nx,sz,M,hg,hk⟩:=AStO_spec hk;split at hk
     ·rename_i hsz
      obtain rfl:sz=j.size:=Nat.eq_of_beq_eq_true hsz
      have nil:∀{e':Env} {h':Heap} {g:Gh} {w:World} {a:Act},(∀t∈slotsOf o,eget e' t=eget e t)→hget h' l=hget h l→Sim g w n a e' h'→a.eval x=.slice none 0 0→0<ys.length→ys.length*j.bytes≤140737488355328→
       o.wp P a w (fun a' w'=>∃g',Sim g' w' n a' ((d,AV.p (.ads sp nx ys.length))::e') ((l,.store el false sp (nx+1) j.size ((nx,ys)::M))::h')∧Ext g w g' w') (fun _ _ _=>False):=by
       intro e' h' g w a he hl s hv hpos hroom;have hl0:=hl.trans hg;obtain⟨_,r2⟩:=s.evo he m2 rfl;obtain⟨a2,cap2,F2,hv2,hF2⟩:=aYs_rel r2 hys;obtain⟨v',g',w',q1,q2,q3,q4⟩:=dappend_grow hty hu hu2 hj hs0 hb0 s hl0 (fun p hp=>hp) (s.blk hl0).nodup (xs:=[]) (cap2:=cap2) hF2 (by simpa using hroom) o.type none 0 (fun _=>undef) (by simpa using hpos) (by simp) (by simp) (fun q=>by simp[Builtin.firstCells]) (by simp);refine Oper.wp_value (v:=v') (w':=w') (hrun1 a w w' v' (by rw[hv,hv2];simpa using q1)) ⟨g',?_,q3⟩;rw[hdd];simp only[List.nil_append,List.length_nil,Nat.zero_add]at q2 q4;exact q2.put (hd d hdd) (.p _ _ _ q4)
      split at hk
      ·rename_i sp0 k m hx
       obtain⟨rfl,xs,hxs,⟨hm,hroom⟩,hk⟩:=hk;refine⟨_,hk,fun e' h' he hl g w a s=>?_⟩;have hl0:=(hl l (by simp)).trans hg;obtain⟨_,r1⟩:=s.evo he m1 hx;obtain⟨_,r2⟩:=s.evo he m2 rfl;obtain⟨a2,cap2,F2,hv2,hF2⟩:=aYs_rel r2 hys;obtain⟨v',g',w',q1,q2,q3,q4⟩:=dappend_ads hty hu hu2 hj hs0 hb0 s hl0 r1.pv hxs hm (cap2:=cap2) hF2 hroom o.type;refine Oper.wp_value (v:=v') (w':=w') (hrun1 a w w' v' (by rw[hv2];exact q1)) ⟨g',?_,q3⟩;rw[hdd];exact q2.put (hd d hdd) (.p _ _ _ q4)
      ·rename_i hx
       obtain⟨⟨hpos,hroom⟩,hk⟩:=hk;refine⟨_,hk,fun e' h' he hl g w a s=>?_⟩;obtain⟨_,r1⟩:=s.evo he m1 hx;refine nil he (hl l (by simp)) s ?_ hpos hroom;have hp:=r1.pv;generalize a.eval x=v at hp;cases hp;rfl
      ·rename_i hx
       obtain⟨⟨hpos,hroom⟩,hk⟩:=hk;refine⟨_,hk,fun e' h' he hl g w a s=>?_⟩;obtain⟨_,r1⟩:=s.evo he m1 hx;refine nil he (hl l (by simp)) s ?_ hpos hroom;generalize a.eval x=v at r1;cases r1;rfl
      ·exact hk.elim
     ·exact hk.elim
    ·exact hk.elim
   ·exact hk.elim
  ·exact hk.elim
 ·exact hk.elim
end
end Go.AM
end
section
namespace Go.AM
section
variable {P:Program}
theorem run_eqIn_same (d:Nat) {t te:TypeId} {j:TypeInfo} (hp:P.underlying t=some (.pointer te)) (hte:P.info? te=some j) (a:Addr) (w:World):(Op.equalIn (d+1) t (.pointer (some a)) (.pointer (some a))).run P w=.ok true w:=by
 simp[Op.equalIn,run_underlying hp,sizeOf,typeInfo,hte,run_sameAddr_same]
theorem run_eqIn_other (d:Nat) {t te:TypeId} {j:TypeInfo} {a b:Addr} {ca cb:Array Value} {ta tb:TypeId} (hp:P.underlying t=some (.pointer te)) (hte:P.info? te=some j) (hsz:j.size≠0)
 (w:World) (hne:a≠b) (ha:w.heap[a.block]?=some (.cells ca ta (0,0))) (hb:w.heap[b.block]?=some (.cells cb tb (0,0))):(Op.equalIn (d+1) t (.pointer (some a)) (.pointer (some b))).run P w=.ok false w:=by
 simp[Op.equalIn,run_underlying hp,sizeOf,typeInfo,hte,hsz,run_sameAddr_other w hne ha hb]
end
end Go.AM
end
