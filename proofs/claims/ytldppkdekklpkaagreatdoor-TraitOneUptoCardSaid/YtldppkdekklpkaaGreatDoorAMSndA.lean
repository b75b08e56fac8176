/- Part of a machine over plain values. No conditions. -/
import Derived.Test.YtldppkdekklpkaaGreatDoorAMSnd9
set_option linter.all false
namespace Go.AM
section
variable {P:Program} {ty:Nat→Option TI} {n:Nat} {o:Oper} {e:Env} {h:Heap} {K:AK}
theorem partsPure_spec {sz:Nat} {z:List Nat} {e:Env}:∀(n:Nat) (ps:List (Nat×Operand)) (xs:List PV),partsPure sz z e n ps=some xs→xs.length=ps.length∧(∀x∈xs,x.cells.length=sz)∧
 ∀(j:Nat) (p:Nat×Operand) (x:PV),ps[j]?=some p→xs[j]?=some x→p.1=n+j∧(ev e p.2).pureL z=some x
 |n,[],xs,h=>by simp[partsPure]at h;subst h;simp
 |n,(i,x)::r,xs,h=>by
  simp only[partsPure]at h;split at h
  ·rename_i v hi hv
   split at h
   ·rename_i l hl hr
    cases h;obtain⟨k1,k2,k3⟩:=partsPure_spec (n+1) r l hr;have hi:i=n:=Nat.eq_of_beq_eq_true hi;refine⟨by simp[k1],fun x hx=>?_,fun j p x hp hx=>?_⟩
    ·rcases List.mem_cons.1 hx with rfl|hx
     ·exact Nat.eq_of_beq_eq_true hl
     ·exact k2 x hx
    ·cases j with
     |zero=>simp at hp hx;subst hp;subst hx;exact⟨hi,hv⟩
     |succ j=>simp at hp hx;obtain⟨q1,q2⟩:=k3 j p x hp hx;exact⟨by omega,q2⟩
   ·cases h
  ·cases h
theorem fnParts_spec {e:Env}:∀(n:Nat) (ps:List (Nat×Operand)) (cs:List AV),fnParts e n ps=some cs→cs.length=ps.length∧
 ∀(j:Nat) (p:Nat×Operand) (c:AV),ps[j]?=some p→cs[j]?=some c→p.1=n+j∧ev e p.2=c∧∃f a b,c=.fn f a b
 |n,[],cs,h=>by simp[fnParts]at h;subst h;simp
 |n,(i,x)::r,cs,h=>by
  simp only[fnParts]at h;split at h
  ·rename_i f a b hi hv
   split at h
   ·rename_i l hl
    cases h;obtain⟨k1,k3⟩:=fnParts_spec (n+1) r l hl;have hi:i=n:=Nat.eq_of_beq_eq_true hi;refine⟨by simp[k1],fun j p c hp hc=>?_⟩
    cases j with
    |zero=>simp at hp hc;subst hp;subst hc;exact⟨hi,hv,f,a,b,rfl⟩
    |succ j=>simp at hp hc;obtain⟨q1,q2,q3⟩:=k3 j p c hp hc;exact⟨by omega,q2,q3⟩
   ·cases h
  ·cases h
theorem aBuildFns_sound (hty:TyOK P ty) (hd:∀d,o.dst=some d→d<n) {t el len:Nat} {parts:List (Nat×Operand)} {i j:TI} (ho:o.op=.buildSlice t len ⟨parts⟩) (hi:ty t=some i) (hde:i.desc=.slice el) (hj:ty el=some j) (hk:aBuildFns o e h j len parts K):∃f,K f∧OpOK P n o e h f:=by
 have hm:∀p∈parts,p.2∈o.op.operands:=fun p hp=>by simp[ho,Op.operands];exact⟨p.1,hp⟩
 have hu:=(hty t i hi).und;rw[hde]at hu;unfold aBuildFns at hk;split at hk
 ·rename_i cs d hcs hdst
  split at hk
  ·rename_i hlen hsm hs1 hfr
   have hlen:cs.length=len:=Nat.eq_of_beq_eq_true hlen;rw[Bool.and_eq_true]at hsm;have hs0:1≤len:=Nat.le_of_ble_eq_true hsm.1;have hsm:len≤16777216:=Nat.le_of_ble_eq_true hsm.2;have hs1:j.size=1:=Nat.eq_of_beq_eq_true hs1;obtain⟨k1,k3⟩:=fnParts_spec 0 parts cs hcs;obtain⟨inf,z,i1,i2,i3,i4,i5,i6⟩:=(hty el j hj).inf;obtain⟨hfr1,hfr2⟩:=freshId_spec hfr;refine⟨_,hk,fun e' h' he hl g w a s=>?_⟩
   have hvals:∀(jj:Nat) (p:Nat×Operand) (c:AV),parts[jj]?=some p→cs[jj]?=some c→VRel g w (domOf h') none (a.eval p.2) c∧(a.eval p.2).cells=#[a.eval p.2]∧(a.eval p.2).oneCell'=true:=by
    intro jj p c hp hc;obtain⟨q1,q2,f,fa,fb,rfl⟩:=k3 jj p c hp hc;obtain⟨_,r⟩:=s.evo he (hm p (List.mem_of_getElem? hp)) q2;generalize a.eval p.2=v at r ⊢
    cases r with
    |fn _ _ fs cs _ _ h1 h2 hf hc=>exact⟨.fn none _ fs cs _ _ h1 h2 hf hc,rfl,rfl⟩
   have hsz:∀v∈parts.map (fun p=>a.eval p.2),v.cells.size=1:=by
    intro v hv;obtain⟨p,hp,rfl⟩:=List.mem_map.1 hv;obtain⟨jj,hjj⟩:=List.getElem?_of_mem hp;have hlt:jj<cs.length:=by have:=(List.getElem?_eq_some_iff.1 hjj).1;omega
    rw[(hvals jj p cs[jj] hjj (by simp[hlt])).2.1];rfl
   have hz:z.cells.size=1:=by rw[←hs1,←i6,←i5];simp
   have hcells:∃row:Array Value,(execOp a.eval o).run P w=.ok (.value (.slice (some ⟨w.heap.size,0,none⟩) len len)) (World.push w (.cells row el (0,0)))∧row.size=len∧
    ∀(jj:Nat) (p:Nat×Operand),parts[jj]?=some p→row[jj]?=some (a.eval p.2):=by
    obtain⟨row,hr1,hr2,hr3⟩:=Great.fill_dense (s:=1) (by omega) (parts.map (fun p=>a.eval p.2)) 0 ((Array.range (len*1)).map (z.cells[· % z.cells.size]!)) hsz (by simp;rw[←k1,hlen];exact Nat.le_refl _)
    have hparts:((parts.map (fun p=>a.eval p.2)).zipIdx 0).map (fun x=>(x.2,x.1))=parts.map fun p=>(p.1,a.eval p.2):=by
     apply List.ext_getElem?
     intro jj;simp only[List.getElem?_map,List.getElem?_zipIdx]
     cases hp:parts[jj]? with
     |none=>simp
     |some p=>
      have hlt:jj<cs.length:=by have:=(List.getElem?_eq_some_iff.1 hp).1;omega
      have:=(k3 jj p cs[jj] hp (by simp[hlt])).1;simp;omega
    rw[hparts]at hr1;refine⟨row,?_,by rw[hr2];simp,fun jj p hp=>?_⟩
    ·have:=run_buildSlice (P:=P) w t el len (parts.map fun p=>(p.1,a.eval p.2)).toArray row inf z hu i1 i4 (by rw[i2,hs1];omega) (by rw[i2,hs1];omega) (by rw[i2,hs1];simpa using hr1)
     simp only[execOp,ho,Sem.run_bind,List.map_toArray,this,Result.andThen_ok,Sem.run_pure];rfl
    ·have hjl:jj<parts.length:=(List.getElem?_eq_some_iff.1 hp).1
     have hlt:jj<cs.length:=by omega
     have hc1:=(hvals jj p cs[jj] hp (by simp[hlt])).2.1;rw[hr3,if_pos ⟨by omega,by simp;omega⟩];simp[hp,hc1,Nat.mod_one]
   obtain⟨row,hrun,hrs,hrow⟩:=hcells
   have hnew:(World.push w (.cells row el (0,0))).heap[(g.newObj w.heap.size d).ρ d]?=some (.cells row el (0,0)):=by
    simp only[Gh.newObj,if_true];exact push_new (w:=w)
   have hext:Ext g w (g.newObj w.heap.size d) (World.push w (.cells row el (0,0))):=
    Ext.push (w:=w) (fun b hb=>by simp[Gh.newObj,Nat.ne_of_lt hb]) (fun a=>frozen_push a) (fun l hl=>newObj_ρ hfr2 l hl)
   have hone:∀(q:Nat) (v:Value) (c:AV),row[q]?=some v→cs[q]?=some c→VRel g w (domOf h') none v c∧v.oneCell'=true∧∃f fa fb,c=.fn f fa fb:=by
    intro q v c q1 q2;have hlt:q<parts.length:=by have:=(List.getElem?_eq_some_iff.1 q2).1;omega
    have hp:=hrow q _ (List.getElem?_eq_getElem hlt);rw[hp]at q1;cases q1;have:=hvals q _ c (List.getElem?_eq_getElem hlt) q2;exact⟨this.1,this.2.2,(k3 q _ c (List.getElem?_eq_getElem hlt) q2).2.2⟩
   have s2:=s.pushObj ((hl d (by simp)).trans hfr1) (.cells row el (0,0)) (.cells cs) (fun dom' _ up=>.cells cs row el hnew (by omega) (fun q v c q1 q2=>by
    obtain⟨r,_,f,fa,fb,rfl⟩:=hone q v c q1 q2;exact(up r).anyOwner (fun _ _ x=>by cases x)) (fun v hv=>by
    obtain⟨q,hq⟩:=List.getElem?_of_mem hv;have hq2:row[q]?=some v:=by rw[←Array.getElem?_toList];exact hq
    have hlt:q<cs.length:=by have:=(Array.getElem?_eq_some_iff.1 hq2).1;omega
    exact(hone q v cs[q] hq2 (by simp[hlt])).2.1))
   refine Oper.wp_value hrun ⟨g.newObj w.heap.size d,?_,hext⟩;rw[hdst];refine s2.put (hd d hdst) ?_;have:w.heap.size=(g.newObj w.heap.size d).ρ d:=by simp[Gh.newObj]
   conv=>arg 5;rw[this]
   exact .ar _ _ _ (by simp[domOf,hget_self]) ⟨_,_,hnew,hrs⟩
  ·exact hk.elim
 ·exact hk.elim
theorem aBuildSlice_sound (hty:TyOK P ty) (hd:∀d,o.dst=some d→d<n) {t len:Nat} {parts:List (Nat×Operand)} (ho:o.op=.buildSlice t len ⟨parts⟩) (hk:aBuildSlice ty o e h t len parts K):∃f,K f∧OpOK P n o e h f:=by
 have hm:∀p∈parts,p.2∈o.op.operands:=fun p hp=>by simp[ho,Op.operands];exact⟨p.1,hp⟩
 unfold aBuildSlice at hk;split at hk
 ·rename_i i hi
  split at hk
  ·rename_i el hde
   have hu:=(hty t i hi).und;rw[hde]at hu;split at hk
   ·rename_i j hj
    split at hk
    ·rename_i xs hxs
     split at hk
     ·rename_i hlen hsm hs0
      have hlen:xs.length=len:=Nat.eq_of_beq_eq_true hlen;have hsm:len*j.size≤16777216:=Nat.le_of_ble_eq_true hsm;have hs0:0<j.size:=Nat.pos_of_ne_zero fun q=>by rw[q]at hs0;cases hs0
      obtain⟨k1,k2,k3⟩:=partsPure_spec 0 parts xs hxs;obtain⟨inf,z,i1,i2,i3,i4,i5,i6⟩:=(hty el j hj).inf
      have core:∀{e':Env} {h':Heap} {g:Gh} {w:World} {a:Act},(∀t∈slotsOf o,eget e' t=eget e t)→Sim g w n a e' h'→∃row:Array Value,(execOp a.eval o).run P w=.ok (.value (.slice (some ⟨w.heap.size,0,none⟩) len len)) (World.push w (.cells row el (0,0)))∧
       (∀(jj:Nat) (x:PV) (ii:Nat) (y:PV),xs[jj]?=some x→x.cells[ii]?=some y→jj*j.size+ii<len*j.size∧∃v,row[jj*j.size+ii]?=some v∧v.oneCell'=true∧PRel (imm g w) v y)∧len*j.size≤row.size:=by
       intro e' h' g w a he s
       -- the parts' values
       have hvals:∀(jj:Nat) (p:Nat×Operand) (x:PV),parts[jj]?=some p→xs[jj]?=some x→PRel (imm g w) (a.eval p.2) x:=by
        intro jj p x hp hx;obtain⟨_,r⟩:=s.evo he (hm p (List.mem_of_getElem? hp)) rfl;exact pureL_rel r (k3 jj p x hp hx).2
       have hsz:∀v∈parts.map (fun p=>a.eval p.2),v.cells.size=j.size:=by
        intro v hv;obtain⟨p,hp,rfl⟩:=List.mem_map.1 hv;obtain⟨jj,hjj⟩:=List.getElem?_of_mem hp;have hlt:jj<xs.length:=by have:=(List.getElem?_eq_some_iff.1 hjj).1;omega
        have:=(prel_cells (hvals jj p xs[jj] hjj (by simp[hlt]))).1;have h2:=k2 xs[jj] (List.getElem_mem hlt);have:(a.eval p.2).cells.size=(a.eval p.2).cells.toList.length:=by simp
        omega
       have hz:z.cells.size=j.size:=by rw[←i6,←i5];simp
       have hcells:∃row:Array Value,(execOp a.eval o).run P w=.ok (.value (.slice (some ⟨w.heap.size,0,none⟩) len len)) (World.push w (.cells row el (0,0)))∧
        ∀(jj:Nat) (p:Nat×Operand) (ii:Nat),parts[jj]?=some p→ii<j.size→row[jj*j.size+ii]?=(a.eval p.2).cells[ii]?:=by
        by_cases h0:len=0
        ·subst h0
         have hp0:parts=[]:=List.eq_nil_of_length_eq_zero (by omega);subst hp0;refine⟨#[],?_,by simp⟩;simp[execOp,ho,Instr.buildSlice,run_underlying hu,sizeOf,typeInfo,i1,Instr.fill,newRow];exact congrArg (fun q=>World.push w (.cells q el (0,0))) (by simp)
        ·have hpos:0<len*j.size:=Nat.mul_pos (Nat.pos_of_ne_zero h0) hs0
         obtain⟨row,hr1,hr2,hr3⟩:=Great.fill_dense hs0 (parts.map (fun p=>a.eval p.2)) 0 ((Array.range (len*j.size)).map (z.cells[· % z.cells.size]!)) hsz (by simp;rw[←k1,hlen];exact Nat.le_refl _)
         have hparts:((parts.map (fun p=>a.eval p.2)).zipIdx 0).map (fun x=>(x.2,x.1))=parts.map fun p=>(p.1,a.eval p.2):=by
          apply List.ext_getElem?
          intro jj;simp only[List.getElem?_map,List.getElem?_zipIdx]
          cases hp:parts[jj]? with
          |none=>simp
          |some p=>
           have hlt:jj<xs.length:=by have:=(List.getElem?_eq_some_iff.1 hp).1;omega
           have:=(k3 jj p xs[jj] hp (by simp[hlt])).1;simp;omega
         rw[hparts]at hr1;refine⟨row,?_,fun jj p ii hp hii=>?_⟩
         ·have:=run_buildSlice (P:=P) w t el len (parts.map fun p=>(p.1,a.eval p.2)).toArray row inf z hu i1 i4 (by rw[i2];omega) (by rw[i2];omega) (by rw[i2];simpa using hr1)
          simp only[execOp,ho,Sem.run_bind,List.map_toArray,this,Result.andThen_ok,Sem.run_pure];rfl
         ·have hjl:jj<parts.length:=(List.getElem?_eq_some_iff.1 hp).1
          obtain⟨e1,e2⟩:=div_mod_row (j:=jj) hii
          have hk:jj*j.size+ii<(0+(parts.map (fun p=>a.eval p.2)).length)*j.size:=by
           have:(jj+1)*j.size≤parts.length*j.size:=Nat.mul_le_mul_right _ hjl;rw[Nat.add_mul]at this;simp;omega
          rw[hr3,if_pos ⟨by omega,hk⟩,e1,e2];simp[hp]
       obtain⟨row,hrun,hrow⟩:=hcells;refine⟨row,hrun,fun jj x ii y hx hy=>?_,?_⟩
       ·have hjl:jj<xs.length:=(List.getElem?_eq_some_iff.1 hx).1
        have hil:ii<j.size:=by have:=(List.getElem?_eq_some_iff.1 hy).1;have:=k2 x (List.mem_of_getElem? hx);omega
        have hpl:jj<parts.length:=by omega
        have hpj:parts[jj]?=some parts[jj]:=List.getElem?_eq_getElem hpl;obtain⟨c1,c2,c3⟩:=prel_cells (hvals jj _ x hpj hx);have hlt:ii<(a.eval parts[jj].2).cells.toList.length:=by rw[c1];exact(List.getElem?_eq_some_iff.1 hy).1
        have hcell:row[jj*j.size+ii]?=some (a.eval parts[jj].2).cells.toList[ii]:=by
         rw[hrow jj _ ii hpj hil,←Array.getElem?_toList];simp only[List.getElem?_eq_getElem hlt]
        refine⟨?_,_,hcell,c2 _ (List.getElem_mem hlt),c3 ii _ y (List.getElem?_eq_getElem hlt) hy⟩;have:(jj+1)*j.size≤xs.length*j.size:=Nat.mul_le_mul_right _ hjl;rw[Nat.add_mul,hlen]at this;omega
       ·by_cases h0:len=0
        ·subst h0;simp
        ·have hpl:len-1<parts.length:=by omega
         have hpj:parts[len-1]?=some parts[len-1]:=List.getElem?_eq_getElem hpl;have hv:=hsz (a.eval parts[len-1].2) (List.mem_map.2 ⟨_,List.getElem_mem hpl,rfl⟩);have:=hrow (len-1) _ (j.size-1) hpj (by omega);have hsome:(a.eval parts[len-1].2).cells[j.size-1]?.isSome=true:=by simp;omega
         rw[←this]at hsome;simp at hsome
         have e1:(len-1)*j.size+j.size=len*j.size:=by
          rw[←Nat.succ_mul];congr 1;omega
         omega
      clear hm k3
      -- what becomes of it
      split at hk
      ·rename_i d hdst
       split at hk
       ·refine⟨_,hk,fun e' h' he _ g w a s=>?_⟩
        obtain⟨row,hrun,hrow,_⟩:=core he s;refine Oper.wp_value hrun ⟨g.new w.heap.size (len*j.size) none,?_,Ext.push (g:=g) (g':=g.new w.heap.size (len*j.size) none) (w:=w) (ob:=.cells row el (0,0)) (fun b hb=>by simp[Gh.new,Nat.ne_of_lt hb]) (fun a=>frozen_push a) (fun _ _=>rfl)⟩;have s1:=s.pushOwn (.cells row el (0,0)) (len*j.size) none;rw[hdst];refine s1.put (hd d hdst) ?_;have hext:∀{v x},PRel (imm g w) v x→PRel (imm (g.new w.heap.size (len*j.size) none) (World.push w (.cells row el (0,0)))) v x:=fun r=>r.push (fun b hb=>by simp[Gh.new,Nat.ne_of_lt hb])
        have hS:SlV (imm (g.new w.heap.size (len*j.size) none) (World.push w (.cells row el (0,0)))) (some ⟨w.heap.size,0,none⟩) j.size xs (fun k=>row[k]?.getD undef):=by
         refine⟨k2,fun _=>⟨_,rfl⟩,fun b q _=>by cases q;rfl,fun b jj x ii y q hx hy=>?_⟩;cases q;obtain⟨hk,v,hcell,c2,c3⟩:=hrow jj x ii y hx hy;rw[hcell];refine⟨?_,c2,hext c3⟩;simp only[imm_eq];simp only[Gh.new,if_true,Nat.zero_add];rw[if_pos hk,cell?_of (push_new (w:=w)),hcell];rfl
        have hp:=hS.prel (cap:=xs.length) (Nat.le_refl _) (fun _=>rfl);rw[←hlen];rw[←hlen]at hp;exact .full _ _ j.size xs hs0 hp
       ·split at hk
        ·rename_i hfr
         obtain⟨hfr1,hfr2⟩:=freshId_spec hfr;refine⟨_,hk,fun e' h' he hl g w a s=>?_⟩;obtain⟨row,hrun,hrow,hrs⟩:=core he s
         have hnew:(World.push w (.cells row el (0,0))).heap[(g.newObj w.heap.size d).ρ d]?=some (.cells row el (0,0)):=by
          simp only[Gh.newObj,if_true];exact push_new (w:=w)
         have hext:Ext g w (g.newObj w.heap.size d) (World.push w (.cells row el (0,0))):=
          Ext.push (w:=w) (fun b hb=>by simp[Gh.newObj,Nat.ne_of_lt hb]) (fun a=>frozen_push a) (fun l hl=>newObj_ρ hfr2 l hl)
         have s2:=s.pushObj ((hl d (by simp)).trans hfr1) (.cells row el (0,0)) (.gr true j.size xs) (fun dom' _ _=>.gr _ _ _ fun _=>⟨row,el,hnew,hs0,by rw[hlen];exact hrs,k2,fun jj x hx ii y hy=>by
          obtain⟨_,v,q1,q2,q3⟩:=hrow jj x ii y hx hy;exact⟨v,q1,q2,q3.mono fun _ _ _ hv=>hext.imm _ _ _ hv⟩⟩)
         refine Oper.wp_value hrun ⟨g.newObj w.heap.size d,?_,hext⟩;rw[hdst];refine s2.put (hd d hdst) ?_;have:=VRel.al (g:=g.newObj w.heap.size d) (w:=World.push w (.cells row el (0,0))) (dom:=domOf ((d,AObj.gr true j.size xs)::h')) (some (.slot d)) true d j.size len len (by simp[domOf,hget_self]) (.inl rfl) (Nat.le_refl _) ⟨row,el,hnew,hrs⟩;simpa[Gh.newObj] using this
        ·exact hk.elim
      ·rename_i hdst
       refine⟨_,hk,fun e' h' he _ g w a s=>?_⟩;obtain⟨row,hrun,hrow,_⟩:=core he s;refine Oper.wp_value hrun ⟨g.new w.heap.size (len*j.size) none,?_,Ext.push (g:=g) (g':=g.new w.heap.size (len*j.size) none) (w:=w) (ob:=.cells row el (0,0)) (fun b hb=>by simp[Gh.new,Nat.ne_of_lt hb]) (fun a=>frozen_push a) (fun _ _=>rfl)⟩;rw[hdst];exact s.pushOwn (.cells row el (0,0)) (len*j.size) none
     ·exact hk.elim
    ·exact aBuildFns_sound hty hd ho hi hde hj hk
   ·exact hk.elim
  ·exact hk.elim
 ·exact hk.elim
theorem boundOf_spec {e':Env} {h':Heap} {g:Gh} {w:World} {a:Act} (s:Sim g w n a e' h') (he:∀t∈slotsOf o,eget e' t=eget e t) {dflt:Int} {b:Option Operand} (hb:∀x,b=some x→x∈o.op.operands) {m:Int}
 (hm:boundOf e dflt b=some m):(b=none∧m=dflt)∨∃x k,b=some x∧a.eval x=.int k m:=by
 cases b with
 |none=>simp[boundOf]at hm;exact .inl ⟨rfl,hm.symm⟩
 |some x=>
  right
  simp only[boundOf]at hm;split at hm
  ·rename_i k m' hx
   cases hm;obtain⟨_,r⟩:=s.evo he (hb x rfl) hx;exact⟨x,k,rfl,r.int⟩
  ·cases hm
theorem run_sliceBound {k:IntKind} {m:Int} {y:Nat} {c:BoundsCode} (h0:0≤m) (h1:m≤y) (w:World):(Instr.sliceBound (.int k m) y c).run P w=.ok m.toNat w:=by
 simp[Instr.sliceBound,asIntOf,h0,h1]
theorem run_sliceBounds {isS:Bool} {len cap:Nat} {lo hi:Option Value} {l u:Int} (hlo:(lo=none∧l=0)∨∃k,lo=some (.int k l)) (hhi:(hi=none∧u=len)∨∃k,hi=some (.int k u)) (h0:0≤l) (h1:l≤u) (h2:u≤cap) (w:World):
 (Instr.sliceBounds isS len cap lo hi none).run P w=.ok (l.toNat,u.toNat,cap) w:=by
 have hu:0≤u:=by omega
 rcases hlo with⟨rfl,rfl⟩|⟨k,rfl⟩<;>rcases hhi with⟨rfl,rfl⟩|⟨k',rfl⟩
 ·simp[Instr.sliceBounds]
 ·simp[Instr.sliceBounds,run_sliceBound hu h2]
 ·have:(l:Int)≤(len:Int):=h1
  simp[Instr.sliceBounds,run_sliceBound h0 this]
 ·have:l≤(u.toNat:Int):=by omega
  simp[Instr.sliceBounds,run_sliceBound hu h2,run_sliceBound h0 this]
theorem PRel.sub {M:Mm} {b:Addr} {len cap sz:Nat} {xs:List PV} (r:PRel M (.slice (some b) len cap) (.sl sz xs)) {l u:Nat} (h1:l≤u) (h2:u≤xs.length):
 PRel M (.slice (some (if cap=l then b else ⟨b.block,b.off+l*sz,none⟩)) (u-l) (cap-l)) (.sl sz ((xs.take u).drop l)):=by
 obtain⟨_,hc,F,hF⟩:=r.slv;obtain⟨hl,_⟩:=r.slv;have hlen:((xs.take u).drop l).length=u-l:=by simp;omega
 rw[←hlen]
 have hget:∀(j:Nat) (x:PV),((xs.take u).drop l)[j]?=some x→xs[l+j]?=some x:=by
  intro j x hj;rw[List.getElem?_drop,List.getElem?_take]at hj;split at hj
  ·exact hj
  ·cases hj
 have hmem:∀x∈(xs.take u).drop l,x∈xs:=fun x hx=>List.mem_of_mem_take (List.mem_of_mem_drop hx);refine .sl _ _ sz _ (fun j i=>F ((l+j)*sz+i)) ?_ (by rw[hlen];omega) (fun x hx=>hF.hz x (hmem x hx)) (fun j x hj i y hi=>?_) (fun j x hj i y hi=>(hF.cell b (l+j) x i y rfl (hget j x hj) hi).2.2)
 ·intro hc0
  split
  ·rename_i q;omega
  ·rfl
 ·have hlt:l<cap:=by
   have:=(List.getElem?_eq_some_iff.1 (hget j x hj)).1;omega
  rw[if_neg (by omega)];obtain⟨q1,q2,_⟩:=hF.cell b (l+j) x i y rfl (hget j x hj) hi;refine⟨?_,q2⟩;rw[←q1];congr 1;simp only[Nat.add_mul];omega
theorem aSlice_sound (hty:TyOK P ty) (hd:∀d,o.dst=some d→d<n) {x:Operand} {t:Nat} {lo hi:Option Operand} (ho:o.op=.slice t x lo hi none) (hk:aSlice ty o e t (ev e x).copy lo hi K):∃f,K f∧OpOK P n o e h f:=by
 have m1:x∈o.op.operands:=by simp[ho,Op.operands]
 have m2:∀y,lo=some y→y∈o.op.operands:=by intro y hy;subst hy;simp[ho,Op.operands]
 have m3:∀y,hi=some y→y∈o.op.operands:=by intro y hy;subst hy;simp[ho,Op.operands]
 have bnd:∀{e':Env} {h':Heap} {g:Gh} {w:World} {a:Act},Sim g w n a e' h'→(∀t∈slotsOf o,eget e' t=eget e t)→∀{dflt:Int} {b:Option Operand} {m:Int},(∀x,b=some x→x∈o.op.operands)→boundOf e dflt b=some m→
  (b.map a.eval=none∧m=dflt)∨∃k,b.map a.eval=some (.int k m):=by
  intro e' h' g w a s he dflt b m hb hm;rcases boundOf_spec s he hb hm with⟨rfl,q⟩|⟨y,k,rfl,q⟩
  ·exact .inl ⟨rfl,q⟩
  ·exact .inr ⟨k,by simp[q]⟩
 unfold aSlice at hk;split at hk
 ·rename_i i hi'
  have hu:=(hty t i hi').und;split at hk
  ·rename_i el hde
   rw[hde]at hu;split at hk
   ·rename_i j sz xs hj hx
    split at hk
    ·rename_i l u hz hl hu'
     obtain rfl:sz=j.size:=Nat.eq_of_beq_eq_true hz;obtain⟨⟨h0,h1,h2⟩,hk⟩:=hk;refine ret_sound hd hk fun e' h' he g w a s=>?_;obtain⟨_,r1⟩:=s.evo he m1 rfl;have r1:=r1.copy (ow':=none);rw[hx]at r1;have b1:=bnd s he m2 hl;have b2:=bnd s he m3 hu';have hp:=r1.pv;generalize hv:a.eval x=v at hp;have hp':=hp
     cases hp with
     |nil=>
      have hl0:l=0:=by simp at h2;omega
      have hu0:u=0:=by simp at h2;omega
      subst hl0;subst hu0;refine⟨.slice none 0 0,?_,fun d _=>.p _ _ _ (by simpa using PRel.nil j.size)⟩;have hb:=run_sliceBounds (P:=P) (isS:=true) (len:=0) (cap:=0) b1 (by rcases b2 with⟨q1,_⟩|q;exact .inl ⟨q1,rfl⟩;exact .inr q) (by omega) (by omega) (by omega) w;simp[execOp,ho,hv,Instr.sliceAt,run_underlying hu,Instr.slice,hb,run_sizeOf_ty hty hj]
     |sl ad cap _ _ f hs hc=>
      have hb:=run_sliceBounds (P:=P) (isS:=true) (len:=xs.length) (cap:=cap) b1 b2 h0 h1 (by omega) w;refine⟨_,?_,fun d _=>.p _ _ _ (hp'.sub (l:=l.toNat) (u:=u.toNat) (by omega) (by omega))⟩;simp only[execOp,ho,hv,Instr.sliceAt,Sem.run_bind,run_underlying hu,Result.andThen_ok,Instr.slice,Option.map_none,hb,run_sizeOf_ty hty hj,Sem.run_pure]
      congr 3
      split
      ·rfl
      ·rename_i q;simp[Addr.add_of_spot (hs (by omega))]
    ·exact hk.elim
   ·exact hk.elim
  ·rename_i hde
   rw[hde]at hu;split at hk
   ·rename_i y hx
    split at hk
    ·rename_i l u hl hu'
     obtain⟨⟨h0,h1,h2⟩,hk⟩:=hk;refine ret_sound hd hk fun e' h' he g w a s=>?_;obtain⟨_,r1⟩:=s.evo he m1 rfl;have r1:=r1.copy (ow':=none);rw[hx]at r1;have b1:=bnd s he m2 hl;have b2:=bnd s he m3 hu';have hb:=run_sliceBounds (P:=P) (isS:=false) (len:=y.size) (cap:=y.size) b1 b2 h0 h1 h2 w;refine⟨.string (y.extract l.toNat u.toNat),?_,fun d _=>.p _ _ _ (.s _)⟩;simp[execOp,ho,r1.str,Instr.sliceAt,run_underlying hu,Instr.slice,hb]
    ·exact hk.elim
   ·exact hk.elim
  ·exact hk.elim
 ·exact hk.elim
theorem Sim.relabelTo {g:Gh} {w:World} {a:Act} {e':Env} {h':Heap} (s:Sim g w n a e' h') {b sl d:Nat} (ho:g.own b=some (.slot sl)) (hsl:∀sz zs,eget e' sl≠.so sz zs):Sim (g.relabel b (.slot d)) w n a e' h':=by
 refine⟨s.defers,s.size,fun i=>?_,s.heap.relabel ho,fun b2 o2 hb2=>?_⟩
 ·by_cases hi:sl=i
  ·subst hi
   have:=s.env sl
   cases hc:eget e' sl with
   |so sz zs=>exact absurd hc (hsl sz zs)
   |_=>rw[hc]at this;exact(this.anyOwner (ow':=none) (fun _ _ q=>by cases q)).relabel (o':=.slot d) ho (by simp) |>.anyOwner (fun _ _ q=>by cases q)
  ·exact(s.env i).relabel ho (by simp;exact fun q=>hi q.symm)
 ·by_cases hbe:b2=b
  ·subst hbe;exact s.bnd _ _ ho
  ·simp only[Gh.relabel,if_neg hbe]at hb2;exact s.bnd _ _ hb2
theorem aSliceO_sound (hty:TyOK P ty) (hd:∀d,o.dst=some d→d<n) {st:Nat} {t:Nat} {lo:Option Operand} (ho:o.op=.slice t (.tmp st) lo none none) {sz:Nat} {xs:List PV} (hx:eget e st=.so sz xs) (hk:aSliceO ty o e t st sz xs lo K):∃f,K f∧OpOK P n o e h f:=by
 have m2:∀y,lo=some y→y∈o.op.operands:=by intro y hy;subst hy;simp[ho,Op.operands]
 unfold aSliceO at hk;split at hk
 ·rename_i i d hi' hdd
  have hu:=(hty t i hi').und;split at hk
  ·rename_i el hde
   rw[hde]at hu;split at hk
   ·rename_i j hj
    split at hk
    ·rename_i l hz hne hl
     obtain rfl:sz=j.size:=Nat.eq_of_beq_eq_true hz;have hne:d≠st:=fun q=>by rw[q,beq_self]at hne;cases hne
     obtain⟨⟨h0,h1⟩,hk⟩:=hk;refine⟨_,hk,fun e' h' he _ g w a s=>?_⟩;have hslot:st∈slotsOf o:=by simp[slotsOf,ho,Op.operands]
     have hst:eget e' st=.so j.size xs:=by rw[he st hslot];exact hx
     have r1:=s.env st;rw[hst]at r1;have s1:=s.dropSlot hst
     have b1:(lo.map a.eval=none∧l=0)∨∃k,lo.map a.eval=some (.int k l):=by
      rcases boundOf_spec s he m2 hl with⟨rfl,q⟩|⟨y,k,rfl,q⟩
      ·exact .inl ⟨rfl,q⟩
      ·exact .inr ⟨k,by simp[q]⟩
     have htk:xs.take xs.length=xs:=List.take_length;have hdl:(xs.drop l.toNat).length=xs.length-l.toNat:=by simp
     -- the run
     have hrun:∀(ad:Addr) (cap:Nat),a.eval (.tmp st)=.slice (some ad) xs.length cap→xs.length≤cap→(cap≠0→ad.spot=none)→
      (execOp a.eval o).run P w=.ok (.value (.slice (some (if cap=l.toNat then ad else ⟨ad.block,ad.off+l.toNat*j.size,none⟩)) (xs.length-l.toNat) (cap-l.toNat))) w:=by
      intro ad cap hv hc hs;have hb:=run_sliceBounds (P:=P) (isS:=true) (len:=xs.length) (cap:=cap) (hi:=none) (u:=xs.length) b1 (.inl ⟨rfl,rfl⟩) h0 h1 (by omega) w;simp only[execOp,ho,hv,Instr.sliceAt,Sem.run_bind,run_underlying hu,Result.andThen_ok,Instr.slice,Option.map_none,hb,run_sizeOf_ty hty hj,Sem.run_pure,Int.toNat_natCast]
      congr 3
      split
      ·rfl
      ·rename_i q;simp[Addr.add_of_spot (hs (by omega))]
     have fin:∀(g':Gh) (v':Value),(execOp a.eval o).run P w=.ok (.value v') w→Sim g' w n a ((st,.p (.sl j.size xs))::e') h'→Ext g w g' w→VRel g' w (domOf h') (some (.slot d)) v' (.so j.size (xs.drop l.toNat))→
      o.wp P a w (fun a' w'=>∃g',Sim g' w' n a' ([(d,AV.so j.size (xs.drop l.toNat)),(st,AV.p (.sl j.size xs))].reverse++e') (([]:Heap).reverse++h')∧Ext g w g' w') (fun _ _ _=>False):=by
      intro g' v' hr hs' hE hv';refine Oper.wp_value hr ⟨g',?_,hE⟩;rw[hdd];exact(hs'.put (hd d hdd) hv').envEq (fun i=>by simp only[List.reverse_cons,List.reverse_nil,List.nil_append,List.cons_append];exact eget_swap hne _ _ _ i)
     generalize hval:a.tmps.getD st undef=u at r1;have hval':a.eval (.tmp st)=u:=hval
     cases r1 with
     |full _ ad _ _ hz0 hp=>
      cases ad with
      |none=>
       have hx0:xs=[]:=by
        generalize hq:PV.sl j.size xs=pv at hp;generalize hq2:Value.slice none xs.length xs.length=v at hp
        cases hp with
        |nil=>cases hq;rfl
        |_=>first|(cases hq;done)|(cases hq2;done)
       subst hx0;have hl0:l=0:=by simp at h1;omega
       subst hl0;refine fin g (.slice none 0 0) ?_ s1 (Ext.refl _ _) (.full _ none j.size [] hz0 (.nil _));have hb:=run_sliceBounds (P:=P) (isS:=true) (len:=0) (cap:=0) (hi:=none) (u:=0) b1 (.inl ⟨rfl,rfl⟩) (by omega) (by omega) (by omega) w;simp only[List.length_nil]at hval';simp[execOp,ho,hval',Instr.sliceAt,run_underlying hu,Instr.slice,hb,run_sizeOf_ty hty hj]
      |some ad=>
       have hp2:=hp.sub (l:=l.toNat) (u:=xs.length) (by omega) (Nat.le_refl _);rw[htk]at hp2;refine fin g _ (hrun ad xs.length hval' (Nat.le_refl _) hp.spot) s1 (Ext.refl _ _) ?_;rw[←hdl]at hp2 ⊢;exact .full _ _ j.size _ hz0 hp2
     |own _ ad cap _ _ cs E hz0 hp how hpre hb hs=>
      obtain⟨_,hlc,_⟩:=hp.slv;have hp2:=hp.sub (l:=l.toNat) (u:=xs.length) (by omega) (Nat.le_refl _);rw[htk]at hp2
      by_cases hcl:cap=l.toNat
      ·have hx0:xs.drop l.toNat=[]:=List.drop_eq_nil_of_le (by omega)
       refine fin g _ (hrun ad cap hval' hlc hp.spot) s1 (Ext.refl _ _) ?_;rw[if_pos hcl]at hp2 ⊢;rw[hx0]at hp2 ⊢;have e1:xs.length-l.toNat=([]:List PV).length:=by simp;omega
       have e2:cap-l.toNat=([]:List PV).length:=by simp;omega
       rw[e1,e2]at hp2 ⊢;exact .full _ _ j.size [] hz0 hp2
      ·refine fin (g.relabel ad.block (.slot d)) _ (hrun ad cap hval' hlc hp.spot) (s1.relabelTo how (fun sz zs q=>by rw[eget_self]at q;cases q)) (Ext.relabel how) ?_
       rw[if_neg hcl]at hp2 ⊢;rw[←hdl]at hp2 ⊢;refine .own (.slot d) ⟨ad.block,ad.off+l.toNat*j.size,none⟩ (cap-l.toNat) j.size (xs.drop l.toNat) cs E hz0 hp2 (by simp[Gh.relabel]) ?_ hb ?_
       ·show g.pre ad.block=ad.off+l.toNat*j.size+(xs.drop l.toNat).length*j.size
        rw[hpre,hdl,Nat.add_assoc,←Nat.add_mul];congr 2;omega
       ·show ad.off+l.toNat*j.size+(cap-l.toNat)*j.size≤cs.size
        rw[Nat.add_assoc,←Nat.add_mul,show l.toNat+(cap-l.toNat)=cap by omega];exact hs
    ·exact hk.elim
   ·exact hk.elim
  ·exact hk.elim
 ·exact hk.elim
theorem Sim.lessObj {g:Gh} {w:World} {a:Act} {e:Env} {h:Heap} {d sz k:Nat} {xs:List PV} (s:Sim g w n a e ((d,.gr true sz xs)::h)):Sim g w n a e ((d,.gr true sz (xs.take k))::h):=by
 have hd:∀l,domOf ((d,AObj.gr true sz xs)::h) l→domOf ((d,AObj.gr true sz (xs.take k))::h) l:=fun l hl=>by
  unfold domOf at hl ⊢
  by_cases ek:d=l
  ·subst ek;rw[hget_self];rfl
  ·rw[hget_ne ek]at hl ⊢;exact hl
 refine⟨s.defers,s.size,fun i=>(s.env i).domUp hd,⟨fun l y hy=>?_,fun l y hy hq=>?_,fun l y hy hq=>?_⟩,s.bnd⟩
 ·by_cases ek:d=l
  ·subst ek;rw[hget_self]at hy;cases hy
   cases s.heap.obj d _ (hget_self ..) with
   |gr _ _ _ hg=>
    refine .gr _ _ _ fun _=>?_;obtain⟨vs,E,q1,q2,q3,q4,q5⟩:=hg (.inl rfl);refine⟨vs,E,q1,q2,Nat.le_trans (Nat.mul_le_mul_right _ (by simp;omega)) q3,fun x hx=>q4 x (List.mem_of_mem_take hx),fun j x hx=>q5 j x ?_⟩;rw[List.getElem?_take]at hx;split at hx
    ·exact hx
    ·cases hx
  ·have hy2:hget ((d,AObj.gr true sz xs)::h) l=some y:=by rw[hget_ne ek]at hy ⊢;exact hy
   cases s.heap.obj l y hy2 with
   |cells cs vs E hb hl hx' h1=>exact .cells cs vs E hb hl (fun j v c q1 q2=>(hx' j v c q1 q2).domUp hd) h1
   |arr xs vs E hb hl hx' h1=>exact .arr xs vs E hb hl hx' h1
   |map kd xs es clock hb hx' hc=>exact .map kd xs es clock hb hx' hc
   |gr st sz xs hg=>exact .gr st sz xs hg
   |dead=>exact .dead
   |glob gb gvs hgl=>exact .glob gb gvs hgl
   |bld T E2 bs2 hbl=>exact .bld T E2 bs2 hbl
   |store T3 o3 sp3 nx3 z3 M3 hst=>exact .store T3 o3 sp3 nx3 z3 M3 hst
 ·by_cases ek:d=l
  ·subst ek;exact s.heap.own d _ (hget_self ..) rfl
  ·exact s.heap.own l y (by rw[hget_ne ek]at hy ⊢;exact hy) hq
 ·by_cases ek:d=l
  ·subst ek;exact s.heap.pre d _ (hget_self ..) rfl
  ·exact s.heap.pre l y (by rw[hget_ne ek]at hy ⊢;exact hy) hq
theorem aSliceR_sound (hty:TyOK P ty) (hd:∀d,o.dst=some d→d<n) {st:Nat} {t l:Nat} {u:Operand} (ho:o.op=.slice t (.tmp st) none (some u) none) (hx:eget e st=.ar l) (hk:aSliceR ty o e h t l u K):∃f,K f∧OpOK P n o e h f:=by
 have m1:(Operand.tmp st)∈o.op.operands:=by simp[ho,Op.operands]
 have m3:u∈o.op.operands:=by simp[ho,Op.operands]
 unfold aSliceR at hk;split at hk
 ·rename_i i hi'
  have hu:=(hty t i hi').und;split at hk
  ·rename_i el hde
   rw[hde]at hu;split at hk
   ·rename_i j xs kk k hj hh huu
    split at hk
    ·rename_i hz
     obtain⟨hkx,hk⟩:=hk;have hz1:j.size=1:=Nat.eq_of_beq_eq_true hz;refine retR_sound hd hk fun e' h' he hl g w a s=>?_;obtain⟨_,r1⟩:=s.evo he m1 (show Go.AM.ev e (.tmp st)=.ar l from hx);obtain⟨_,ru⟩:=s.evo he m3 huu;have hl0:hget h' l=some (.arr xs):=hl.trans hh
     have hn:∃(vs:Array Value) (E:TypeId),w.heap[g.ρ l]?=some (.cells vs E (0,0))∧vs.size=xs.length:=by
      cases s.heap.obj l _ hl0 with
      |arr _ vs E hb hlen _ _=>exact⟨vs,E,hb,hlen⟩
     generalize hval:a.eval (.tmp st)=v at r1
     cases r1 with
     |ar _ _ m hdm hn'=>
      have hm:m=xs.length:=by
       obtain⟨vs,E,q1,q2⟩:=hn;obtain⟨vs',E',q3,q4⟩:=hn';rw[q1]at q3;cases q3;omega
      subst hm;subst hkx;have hb:=run_sliceBounds (P:=P) (isS:=true) (len:=xs.length) (cap:=xs.length) (lo:=none) (hi:=some (a.eval u)) (l:=0) (u:=(xs.length:Int)) (.inl ⟨rfl,rfl⟩) (.inr ⟨kk,by rw[ru.int]⟩) (by omega) (by omega) (by omega) w;refine⟨.slice (some ⟨g.ρ l,0,none⟩) xs.length xs.length,?_,fun d _=>.ar _ l xs.length hdm hn'⟩;simp only[execOp,ho,hval,Instr.sliceAt,Sem.run_bind,run_underlying hu,Result.andThen_ok,Instr.slice,Option.map_none,Option.map_some,hb,run_sizeOf_ty hty hj,Sem.run_pure]
      congr 3
      by_cases hc0:xs.length=0
      ·simp[hc0]
      ·simp[Addr.add_plain,hc0]
    ·exact hk.elim
   ·exact hk.elim
  ·exact hk.elim
 ·exact hk.elim
theorem aSliceA_sound (hty:TyOK P ty) (hd:∀d,o.dst=some d→d<n) {st:Nat} {t l sz m:Nat} {u:Operand} (ho:o.op=.slice t (.tmp st) none (some u) none) (hx:eget e st=.al true l sz m) (hk:aSliceA ty o e h t l sz m u K):∃f,K f∧OpOK P n o e h f:=by
 have m3:u∈o.op.operands:=by simp[ho,Op.operands]
 unfold aSliceA at hk;split at hk
 ·rename_i i d hi' hdd
  have hu:=(hty t i hi').und;split at hk
  ·rename_i el hde
   rw[hde]at hu;split at hk
   ·rename_i j sz' xs kk k hj hh huu
    split at hk
    ·rename_i hz hz' hfr
     obtain rfl:sz=j.size:=Nat.eq_of_beq_eq_true hz;obtain rfl:j.size=sz':=Nat.eq_of_beq_eq_true hz';obtain⟨hfr1,hfr2⟩:=freshId_spec hfr;obtain⟨⟨h0,h1,h1x⟩,hk⟩:=hk;refine⟨_,hk,fun e' h' he hl g w a s=>?_⟩;have hslot:st∈slotsOf o:=by simp[slotsOf,ho,Op.operands]
     have hst:eget e' st=.al true l j.size m:=by rw[he st hslot];exact hx
     have r1:=s.env st;rw[hst]at r1;obtain⟨_,ru⟩:=s.evo he m3 huu;have hl0:hget h' l=some (.gr true j.size xs):=(hl l (by simp)).trans hh;have hd0:hget h' d=none:=(hl d (by simp)).trans hfr1;obtain⟨s1,hE1⟩:=s.moveTo hl0 (.inl rfl) hd0 hfr2;have hρ:(g.moveTo l d).ρ d=g.ρ l:=by simp[Gh.moveTo]
     generalize hval:a.tmps.getD st undef=v at r1;have hval':a.eval (.tmp st)=v:=hval
     cases r1 with
     |al _ _ _ _ _ cap hdm h0' hc hn=>
      have hb:=run_sliceBounds (P:=P) (isS:=true) (len:=m) (cap:=cap) (lo:=none) (hi:=some (a.eval u)) (l:=0) (u:=k) (.inl ⟨rfl,rfl⟩) (.inr ⟨kk,by rw[ru.int]⟩) (by omega) h0 (by omega) w
      have hrun:(execOp a.eval o).run P w=.ok (.value (.slice (some ⟨g.ρ l,0,none⟩) k.toNat cap)) w:=by
       simp only[execOp,ho,hval',Instr.sliceAt,Sem.run_bind,run_underlying hu,Result.andThen_ok,Instr.slice,Option.map_none,Option.map_some,hb,run_sizeOf_ty hty hj,Sem.run_pure]
       congr 3
       by_cases hc0:cap=0
       ·subst hc0;simp
       ·have e1:¬(cap=(0:Int).toNat):=by simpa using hc0
        simp[Addr.add_plain,hc0]
      refine Oper.wp_value hrun ⟨g.moveTo l d,?_,hE1⟩;rw[hdd];have hb2:∃(vs:Array Value) (E:TypeId),w.heap[(g.moveTo l d).ρ d]?=some (.cells vs E (0,0))∧cap*j.size≤vs.size:=by rw[hρ];exact hn
      have s2:Sim (g.moveTo l d) w n a e' ((d,.gr true j.size (xs.take k.toNat))::(l,.dead)::h'):=s1.lessObj;refine s2.put (hd d hdd) ?_;have:=VRel.al (g:=g.moveTo l d) (w:=w) (dom:=domOf ((d,AObj.gr true j.size (xs.take k.toNat))::(l,.dead)::h')) (some (.slot d)) true d j.size k.toNat cap (by simp[domOf,hget_self]) (.inl rfl) (by omega) hb2;rw[hρ]at this;exact this
    ·exact hk.elim
   ·exact hk.elim
  ·exact hk.elim
 ·exact hk.elim
end
end Go.AM
