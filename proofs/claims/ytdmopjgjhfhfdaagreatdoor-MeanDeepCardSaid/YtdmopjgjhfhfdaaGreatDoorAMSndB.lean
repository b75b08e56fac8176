/- Part of a machine over plain values. No conditions. -/
import Derived.Test.YtdmopjgjhfhfdaaGreatDoorAMSndA
namespace Go.AM
section
variable {P:Program} {ty:Nat→Option TI} {n:Nat} {o:Oper} {e:Env} {h:Heap} {K:AK}
theorem aSliceT_sound (hty:TyOK P ty) (hd:∀d,o.dst=some d→d<n) {st:Nat} {t l sz m:Nat} {lo:Option Operand} (ho:o.op=.slice t (.tmp st) lo none none) (hx:eget e st=.al true l sz m) (hk:aSliceT ty o e t l sz m lo K):∃f,K f∧OpOK P n o e h f:=by
 unfold aSliceT at hk;split at hk
 ·rename_i i d u hi' hdd
  have hu:=(hty t i hi').und;have m3:u∈o.op.operands:=by simp[ho,Op.operands]
  split at hk
  ·rename_i el hde
   rw[hde]at hu;split at hk
   ·rename_i j kk k hj huu
    split at hk
    ·rename_i hz
     obtain rfl:sz=j.size:=Nat.eq_of_beq_eq_true hz;obtain⟨⟨h0,h1⟩,hk⟩:=hk;refine⟨_,hk,fun e' h' he hl g w a s=>?_⟩;have hslot:st∈slotsOf o:=by simp[slotsOf,ho,Op.operands]
     have hst:eget e' st=.al true l j.size m:=by rw[he st hslot];exact hx
     have r1:=s.env st;rw[hst]at r1;obtain⟨_,ru⟩:=s.evo he m3 huu;generalize hval:a.tmps.getD st undef=v at r1;have hval':a.eval (.tmp st)=v:=hval
     cases r1 with
     |al _ _ _ _ _ cap hdm h0' hc hn=>
      have hb:=run_sliceBounds (P:=P) (isS:=true) (len:=m) (cap:=cap) (lo:=some (a.eval u)) (hi:=none) (l:=k) (u:=m) (.inr ⟨kk,by rw[ru.int]⟩) (.inl ⟨rfl,rfl⟩) h0 h1 (by omega) w
      obtain⟨ad,had,hrun⟩:∃ad:Addr,(0<m-k.toNat→ad=⟨g.ρ l,k.toNat*j.size,none⟩)∧(execOp a.eval o).run P w=.ok (.value (.slice (some ad) (m-k.toNat) (cap-k.toNat))) w:=by
       by_cases hc0:cap=k.toNat
       ·refine⟨⟨g.ρ l,0,none⟩,fun q=>by omega,?_⟩
        simp only[execOp,ho,hval',Instr.sliceAt,Sem.run_bind,run_underlying hu,Result.andThen_ok,Instr.slice,Option.map_none,Option.map_some,hb,run_sizeOf_ty hty hj,Sem.run_pure];simp[hc0]
       ·refine⟨⟨g.ρ l,k.toNat*j.size,none⟩,fun _=>rfl,?_⟩
        simp only[execOp,ho,hval',Instr.sliceAt,Sem.run_bind,run_underlying hu,Result.andThen_ok,Instr.slice,Option.map_none,Option.map_some,hb,run_sizeOf_ty hty hj,Sem.run_pure];simp[Addr.add_plain,hc0]
      refine Oper.wp_value hrun ⟨g,?_,Ext.refl g w⟩;rw[hdd];refine s.put (hd d hdd) (.tl _ ad l j.size k.toNat (m-k.toNat) _ hdm had ?_);obtain⟨cs,E,q1,q2⟩:=hn;refine⟨cs,E,q1,Nat.le_trans (Nat.mul_le_mul_right _ ?_) q2⟩;omega
    ·exact hk.elim
   ·exact hk.elim
  ·exact hk.elim
 ·exact hk.elim
theorem zeroCells_len (z:Array Value) (m:Nat):(Builtin.zeroCells z m).toList.length=m*z.size:=by simp[Builtin.zeroCells]
theorem zeroCells_one (z:Array Value) (m:Nat) (hz:∀v∈z.toList,v.oneCell'=true):∀v∈(Builtin.zeroCells z m).toList,v.oneCell'=true:=by
 intro v hv;simp only[Builtin.zeroCells,Array.toList_map,List.mem_map,Array.toList_range,List.mem_range]at hv;obtain⟨i,hi,rfl⟩:=hv
 have h0:0<z.size:=by
  rcases Nat.eq_zero_or_pos z.size with q|q
  ·rw[q]at hi;simp at hi
  ·exact q
 have hlt:=Nat.mod_lt i h0;refine hz _ ?_;rw[getElem!_pos z (i % z.size) hlt];exact Array.getElem_mem_toList hlt
theorem aClear_sound (hty:TyOK P ty) {x:Operand} {t:Nat} {ts:List TypeId} (ho:o.op=.call { callee:=.builtin .clear,args:=⟨[x]⟩,argTypes:=⟨t::ts⟩ }) (hk:aClear ty o e h t x K):∃f,K f∧OpOK P n o e h f:=by
 have m1:x∈o.op.operands:=by simp[ho,Op.operands,Call.operands]
 have hrun:∀(a:Act) (w w':World),(∀u,(Builtin.clear_ (t::ts).toArray u #[a.eval x]).run P w=.ok (.tuple #[]) w')→(execOp a.eval o).run P w=.ok (.value (.tuple #[])) w':=by
  intro a w w' hl;obtain⟨cs,hcs⟩:=run_builtin_call (P:=P) ho a w;rw[hcs];simp only[builtin,List.map_cons,List.map_nil,Sem.run_bind];rw[show(⟨t::ts⟩:Array TypeId)=(t::ts).toArray from rfl,hl];rfl
 unfold aClear at hk;split at hk
 ·rename_i i hi hdn
  have hu:=(hty t i hi).und;split at hk
  ·rename_i el hde
   rw[hde]at hu;split at hk
   ·rename_i j l sz k mm hj hx
    split at hk
    ·rename_i sz' xs hh hz
     obtain rfl:sz=j.size:=Nat.eq_of_beq_eq_true hz;split at hk
     ·rename_i hz'
      obtain rfl:j.size=sz':=Nat.eq_of_beq_eq_true hz';refine⟨_,hk,fun e' h' he hl g w a s=>?_⟩;have hl0:hget h' l=some (.gr true j.size xs):=(hl l (by simp)).trans hh;obtain⟨_,r1⟩:=s.evo he m1 hx;obtain⟨inf,zv,f1,f2,f3,f4,f5,f6⟩:=(hty el j hj).inf;have hzero:(zeroValue el).run P w=.ok zv w:=by simp[zeroValue,typeInfo,f1,f4]
      have hzs:zv.cells.size=j.size:=by rw[←f6,←f5];simp
      generalize hv:a.eval x=v at r1;simp only[hdn,List.reverse_cons,List.reverse_nil,List.nil_append,List.cons_append]
      cases r1 with
      |tl _ ad _ _ _ _ cap hdm ha hn=>
       by_cases hm0:mm=0
       ·subst hm0
        have hr:∀u,(Builtin.clear_ (t::ts).toArray u #[.slice (some ad) 0 cap]).run P w=.ok (.tuple #[]) w:=by
         intro u;simp[Builtin.clear_,run_underlying hu]
        refine Oper.wp_value (hrun a w w (by rw[hv];exact hr)) ⟨g,?_,Ext.refl g w⟩;rw[hdn];refine Sim.lessObj (s.heapEq fun q=>?_)
        by_cases ek:l=q
        ·subst ek;rw[hget_self,hl0]
        ·rw[hget_ne ek]
       ·cases s.heap.obj l _ hl0 with
        |gr _ _ _ hg=>
        obtain⟨vs,E,hb,h0,hlen,hzz,hxx⟩:=hg (.inl rfl);obtain⟨cs,E',hb',hsz⟩:=hn;rw[hb]at hb';cases hb';have hown:=s.heap.own l _ hl0 rfl;have hpre:=s.heap.pre l _ hl0 rfl;have hadd:=ha (by omega);subst hadd;have hZl:=zeroCells_len zv.cells mm;have hZ1:=zeroCells_one zv.cells mm (by rw[f5];exact(hty el j hj).one)
        have hclr:∀u,(Builtin.clear_ (t::ts).toArray u #[.slice (some ⟨g.ρ l,k*j.size,none⟩) mm cap]).run P w=((storeCells ⟨g.ρ l,k*j.size,none⟩ (Builtin.zeroCells zv.cells mm).toList).run P w).andThen (fun _ w'=>.ok (.tuple #[]) w'):=by
         intro u;obtain⟨m',rfl⟩:∃m',mm=m'+1:=⟨mm-1,by omega⟩
         simp[Builtin.clear_,run_underlying hu,hzero]
        generalize (Builtin.zeroCells zv.cells mm).toList=Z at hZl hZ1 hclr;rw[hzs]at hZl;have hle:k*j.size+Z.length≤vs.size:=by rw[hZl,←Nat.add_mul];exact hsz
        have hst:=run_storeCells_at (P:=P) (g.ρ l) (k*j.size) E Z 0 vs w hb (by simpa using hle) hZ1;have hwl:=splice_length vs.toList Z (k*j.size) (by simpa using hle);have hwg:=splice_get vs.toList Z (k*j.size) (by simpa using hle);have hst2:(storeCells ⟨g.ρ l,k*j.size,none⟩ Z).run P w=.ok () (w.setRow (g.ρ l) (vs.toList.take (k*j.size)++Z++vs.toList.drop (k*j.size+Z.length)).toArray):=by simpa using hst
        refine Oper.wp_value (hrun a w _ (by rw[hv];intro u;rw[hclr u,hst2];rfl)) ⟨g,?_,Ext.setRow hown hpre hb (by rw[List.size_toArray,hwl];simp)⟩;rw[hdn];refine s.setObj hl0 hb (by rw[List.size_toArray,hwl];simp) (.gr _ _ _ fun _=>⟨_,E,setRow_heap _ _ _ _ _ _ hb,h0,?_,?_,?_⟩) rfl
        ·rw[List.size_toArray,hwl]
         refine Nat.le_trans (Nat.mul_le_mul_right _ ?_) (by simpa using hlen);simp;omega
        ·intro z hz;exact hzz z (List.mem_of_mem_take hz)
        ·intro q z hq ii yy hi2
         rw[List.getElem?_take]at hq;split at hq
         ·rename_i hqk
          obtain⟨v,p1,p3,p2⟩:=hxx q z hq ii yy hi2;have hii:ii<j.size:=by have:=(List.getElem?_eq_some_iff.1 hi2).1;have:=hzz z (List.mem_of_getElem? hq);omega
          have:=Nat.mul_le_mul_right j.size (show q+1≤k by omega);rw[Nat.add_mul,Nat.one_mul]at this;rw[List.getElem?_toArray,hwg,if_neg (by omega)];exact⟨v,by simpa using p1,p3,p2.setRow hpre⟩
         ·cases hq
     ·exact hk.elim
    ·exact hk.elim
   ·exact hk.elim
  ·exact hk.elim
 ·exact hk.elim
end
end Go.AM
