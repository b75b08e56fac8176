/- Part of a machine over plain values. No conditions. -/
import Derived.Test.YtldppkdekklpkaaGreatDoorAMSndA
import Derived.Test.YtldppkdekklpkaaGreatDoorAMDyn
import Derived.Test.YtldppkdekklpkaaGreatDoorAMDyn6
set_option linter.all false
section
namespace Go.AM
section
variable {P:Program} {ty:Nat→Option TI} {n:Nat} {o:Oper} {e:Env} {h:Heap} {K:AK}
theorem aSliceT_sound (hty:TyOK P ty) (hd:∀d,o.dst=some d→d<n) {st:Nat} {t l sz m:Nat} {lo:Option Operand} (ho:o.op=.slice t (.tmp st) lo none none) (hx:eget e st=.al true l sz m) (hk:aSliceT ty o e t l sz m lo K):∃f,K f∧OpOK P n o e h f:=by
 unfold aSliceT at hk;split at hk
 ·rename_i i d u hi' hdd
  have hu:=(hty t i hi').und;have m3:u∈o.op.operands:=by simp[ho,Op.operands]
  split at hk
  ·rename_i el hde
   rw[hde]at hu;split at hk
   ·rename_i j kk k hj huu
    split at hk
    ·rename_i hz
     obtain rfl:sz=j.size:=Nat.eq_of_beq_eq_true hz;obtain⟨⟨h0,h1⟩,hk⟩:=hk;refine⟨_,hk,fun e' h' he hl g w a s=>?_⟩;have hslot:st∈slotsOf o:=by simp[slotsOf,ho,Op.operands]
     have hst:eget e' st=.al true l j.size m:=by rw[he st hslot];exact hx
     have r1:=s.env st;rw[hst]at r1;obtain⟨_,ru⟩:=s.evo he m3 huu;generalize hval:a.tmps.getD st undef=v at r1;have hval':a.eval (.tmp st)=v:=hval
     cases r1 with
     |al _ _ _ _ _ cap hdm h0' hc hn=>
      have hb:=run_sliceBounds (P:=P) (isS:=true) (len:=m) (cap:=cap) (lo:=some (a.eval u)) (hi:=none) (l:=k) (u:=m) (.inr ⟨kk,by rw[ru.int]⟩) (.inl ⟨rfl,rfl⟩) h0 h1 (by omega) w
      obtain⟨ad,had,hrun⟩:∃ad:Addr,(0<m-k.toNat→ad=⟨g.ρ l,k.toNat*j.size,none⟩)∧(execOp a.eval o).run P w=.ok (.value (.slice (some ad) (m-k.toNat) (cap-k.toNat))) w:=by
       by_cases hc0:cap=k.toNat
       ·refine⟨⟨g.ρ l,0,none⟩,fun q=>by omega,?_⟩
        simp only[execOp,ho,hval',Instr.sliceAt,Sem.run_bind,run_underlying hu,Result.andThen_ok,Instr.slice,Option.map_none,Option.map_some,hb,run_sizeOf_ty hty hj,Sem.run_pure];simp[hc0]
       ·refine⟨⟨g.ρ l,k.toNat*j.size,none⟩,fun _=>rfl,?_⟩
        simp only[execOp,ho,hval',Instr.sliceAt,Sem.run_bind,run_underlying hu,Result.andThen_ok,Instr.slice,Option.map_none,Option.map_some,hb,run_sizeOf_ty hty hj,Sem.run_pure];simp[Addr.add_plain,hc0]
      refine Oper.wp_value hrun ⟨g,?_,Ext.refl g w⟩;rw[hdd];refine s.put (hd d hdd) (.tl _ ad l j.size k.toNat (m-k.toNat) _ hdm had ?_);obtain⟨cs,E,q1,q2⟩:=hn;refine⟨cs,E,q1,Nat.le_trans (Nat.mul_le_mul_right _ ?_) q2⟩;omega
    ·exact hk.elim
   ·exact hk.elim
  ·exact hk.elim
 ·exact hk.elim
theorem zeroCells_len (z:Array Value) (m:Nat):(Builtin.zeroCells z m).toList.length=m*z.size:=by simp[Builtin.zeroCells]
theorem zeroCells_one (z:Array Value) (m:Nat) (hz:∀v∈z.toList,v.oneCell'=true):∀v∈(Builtin.zeroCells z m).toList,v.oneCell'=true:=by
 intro v hv;simp only[Builtin.zeroCells,Array.toList_map,List.mem_map,Array.toList_range,List.mem_range]at hv;obtain⟨i,hi,rfl⟩:=hv
 have h0:0<z.size:=by
  rcases Nat.eq_zero_or_pos z.size with q|q
  ·rw[q]at hi;simp at hi
  ·exact q
 have hlt:=Nat.mod_lt i h0;refine hz _ ?_;rw[getElem!_pos z (i % z.size) hlt];exact Array.getElem_mem_toList hlt
theorem aClear_sound (hty:TyOK P ty) {x:Operand} {t:Nat} {ts:List TypeId} (ho:o.op=.call { callee:=.builtin .clear,args:=⟨[x]⟩,argTypes:=⟨t::ts⟩ }) (hk:aClear ty o e h t x K):∃f,K f∧OpOK P n o e h f:=by
 have m1:x∈o.op.operands:=by simp[ho,Op.operands,Call.operands]
 have hrun:∀(a:Act) (w w':World),(∀u,(Builtin.clear_ (t::ts).toArray u #[a.eval x]).run P w=.ok (.tuple #[]) w')→(execOp a.eval o).run P w=.ok (.value (.tuple #[])) w':=by
  intro a w w' hl;obtain⟨cs,hcs⟩:=run_builtin_call (P:=P) ho a w;rw[hcs];simp only[builtin,List.map_cons,List.map_nil,Sem.run_bind];rw[show(⟨t::ts⟩:Array TypeId)=(t::ts).toArray from rfl,hl];rfl
 unfold aClear at hk;split at hk
 ·rename_i i hi hdn
  have hu:=(hty t i hi).und;split at hk
  ·rename_i el hde
   rw[hde]at hu;split at hk
   ·rename_i j l sz k mm hj hx
    split at hk
    ·rename_i sz' xs hh hz
     obtain rfl:sz=j.size:=Nat.eq_of_beq_eq_true hz;split at hk
     ·rename_i hz'
      obtain rfl:j.size=sz':=Nat.eq_of_beq_eq_true hz';refine⟨_,hk,fun e' h' he hl g w a s=>?_⟩;have hl0:hget h' l=some (.gr true j.size xs):=(hl l (by simp)).trans hh;obtain⟨_,r1⟩:=s.evo he m1 hx;obtain⟨inf,zv,f1,f2,f3,f4,f5,f6⟩:=(hty el j hj).inf;have hzero:(zeroValue el).run P w=.ok zv w:=by simp[zeroValue,typeInfo,f1,f4]
      have hzs:zv.cells.size=j.size:=by rw[←f6,←f5];simp
      generalize hv:a.eval x=v at r1;simp only[hdn,List.reverse_cons,List.reverse_nil,List.nil_append,List.cons_append]
      cases r1 with
      |tl _ ad _ _ _ _ cap hdm ha hn=>
       by_cases hm0:mm=0
       ·subst hm0
        have hr:∀u,(Builtin.clear_ (t::ts).toArray u #[.slice (some ad) 0 cap]).run P w=.ok (.tuple #[]) w:=by
         intro u;simp[Builtin.clear_,run_underlying hu]
        refine Oper.wp_value (hrun a w w (by rw[hv];exact hr)) ⟨g,?_,Ext.refl g w⟩;rw[hdn];refine Sim.lessObj (s.heapEq fun q=>?_)
        by_cases ek:l=q
        ·subst ek;rw[hget_self,hl0]
        ·rw[hget_ne ek]
       ·cases s.heap.obj l _ hl0 with
        |gr _ _ _ hg=>
        obtain⟨vs,E,hb,h0,hlen,hzz,hxx⟩:=hg (.inl rfl);obtain⟨cs,E',hb',hsz⟩:=hn;rw[hb]at hb';cases hb';have hown:=s.heap.own l _ hl0 rfl;have hpre:=s.heap.pre l _ hl0 rfl;have hadd:=ha (by omega);subst hadd;have hZl:=zeroCells_len zv.cells mm;have hZ1:=zeroCells_one zv.cells mm (by rw[f5];exact(hty el j hj).one)
        have hclr:∀u,(Builtin.clear_ (t::ts).toArray u #[.slice (some ⟨g.ρ l,k*j.size,none⟩) mm cap]).run P w=((storeCells ⟨g.ρ l,k*j.size,none⟩ (Builtin.zeroCells zv.cells mm).toList).run P w).andThen (fun _ w'=>.ok (.tuple #[]) w'):=by
         intro u;obtain⟨m',rfl⟩:∃m',mm=m'+1:=⟨mm-1,by omega⟩
         simp[Builtin.clear_,run_underlying hu,hzero]
        generalize (Builtin.zeroCells zv.cells mm).toList=Z at hZl hZ1 hclr;rw[hzs]at hZl;have hle:k*j.size+Z.length≤vs.size:=by rw[hZl,←Nat.add_mul];exact hsz
        have hst:=run_storeCells_at (P:=P) (g.ρ l) (k*j.size) E Z 0 vs w hb (by simpa using hle) hZ1;have hwl:=splice_length vs.toList Z (k*j.size) (by simpa using hle);have hwg:=splice_get vs.toList Z (k*j.size) (by simpa using hle);have hst2:(storeCells ⟨g.ρ l,k*j.size,none⟩ Z).run P w=.ok () (w.setRow (g.ρ l) (vs.toList.take (k*j.size)++Z++vs.toList.drop (k*j.size+Z.length)).toArray):=by simpa using hst
        refine Oper.wp_value (hrun a w _ (by rw[hv];intro u;rw[hclr u,hst2];rfl)) ⟨g,?_,Ext.setRow hown hpre hb (by rw[List.size_toArray,hwl];simp)⟩;rw[hdn];refine s.setObj hl0 hb (by rw[List.size_toArray,hwl];simp) (.gr _ _ _ fun _=>⟨_,E,setRow_heap _ _ _ _ _ _ hb,h0,?_,?_,?_⟩) rfl
        ·rw[List.size_toArray,hwl]
         refine Nat.le_trans (Nat.mul_le_mul_right _ ?_) (by simpa using hlen);simp;omega
        ·intro z hz;exact hzz z (List.mem_of_mem_take hz)
        ·intro q z hq ii yy hi2
         rw[List.getElem?_take]at hq;split at hq
         ·rename_i hqk
          obtain⟨v,p1,p3,p2⟩:=hxx q z hq ii yy hi2;have hii:ii<j.size:=by have:=(List.getElem?_eq_some_iff.1 hi2).1;have:=hzz z (List.mem_of_getElem? hq);omega
          have:=Nat.mul_le_mul_right j.size (show q+1≤k by omega);rw[Nat.add_mul,Nat.one_mul]at this;rw[List.getElem?_toArray,hwg,if_neg (by omega)];exact⟨v,by simpa using p1,p3,p2.setRow hpre⟩
         ·cases hq
     ·exact hk.elim
    ·exact hk.elim
   ·exact hk.elim
  ·exact hk.elim
 ·exact hk.elim
end
end Go.AM
end
section
namespace Go.AM
section
variable {P:Program} {ty:Nat→Option TI} {n:Nat}
theorem ifcOf {g w dom ow} {b:Bool} {v:Value} (r:VRel g w dom ow v (.ifc b)):ifcOK b v:=by
 cases r with
 |ifc _ _ _ h=>exact h
theorem eqIfc (d:Nat) {t:TypeId} {ms:Array (String×TypeId)} (hu:P.underlying t=some (.interface ms)) {b:Bool} {v:Value} (w:World) (hv:ifcOK b v):(Op.equalIn (d+1) t v .nilIface).run P w=.ok (!b) w:=by
 cases b with
 |false=>
  have:v=.nilIface:=hv;subst this;simp only[Op.equalIn,Sem.run_bind,run_underlying hu,Result.andThen_ok,Sem.run_pure];rfl
 |true=>
  obtain⟨T,y,rfl⟩:=hv;simp only[Op.equalIn,Sem.run_bind,run_underlying hu,Result.andThen_ok,Sem.run_pure];rfl
theorem aIfc_sound (hty:TyOK P ty) {o:Oper} {e:Env} {h:Heap} {K:AK} (hd:∀d,o.dst=some d→d<n) {op:BinOp} {t t':TypeId} {x:Operand} {b:Bool} (hx:ev e x=.ifc b) (hk:(match isIfaceT ty t,op with|true,.eql=>ret o (.p (.b (!b))) K|true,.neq=>ret o (.p (.b b)) K|_,_=>AStuck "binOp iface")) (ho:o.op=.binOp op t x (.const .nilIface) t'):∃f,K f∧OpOK P n o e h f:=by
 have m1:x∈o.op.operands:=by simp[ho,Op.operands]
 have hu:isIfaceT ty t=true→∃ms,P.underlying t=some (.interface ms):=by
  intro hb;unfold isIfaceT at hb;split at hb
  ·rename_i i hi
   split at hb
   ·rename_i ms hdd;exact⟨ms,by rw[←hdd];exact(hty t i hi).und⟩
   ·cases hb
  ·cases hb
 have heq:isIfaceT ty t=true→∀(v:Value) (w:World),ifcOK b v→(Op.equal t v .nilIface).run P w=.ok (!b) w:=by
  intro h1 v w hv;obtain⟨ms,hu⟩:=hu h1;exact eqIfc 9999 hu w hv
 have hgd:∀(v:Value) (w:World),ifcOK b v→(eqGuard op t x (.const .nilIface) v .nilIface).run P w=.ok () w:=by
  intro v w hv
  cases b with
  |false=>
   have:v=.nilIface:=hv;subst this;unfold eqGuard;cases op<;>simp
  |true=>
   obtain⟨T,y,rfl⟩:=hv;unfold eqGuard;cases op<;>simp
 have fin:∀(q:Bool),ret o (.p (.b q)) K→(∀(v:Value) (w:World),ifcOK b v→(eqGuard op t x (.const .nilIface) v .nilIface).run P w=.ok () w→(binOp op t v .nilIface).run P w=.ok (.bool q) w)→∃f,K f∧OpOK P n o e h f:=by
  intro q hq hb;refine ret_sound hd hq fun e' h' he g w a s=>?_;obtain⟨_,r1⟩:=s.evo he m1 hx;have hv:=ifcOf r1
  ·refine⟨.bool q,?_,fun d _=>.p _ _ _ (.b _)⟩
   have:=hb _ w hv (hgd _ w hv);have hc:a.eval (.const .nilIface)=.nilIface:=rfl;simp only[execOp,ho,hc,Sem.run_bind,hgd _ w hv,Result.andThen_ok,this,Sem.run_pure]
 cases hI:isIfaceT ty t with
 |false=>rw[hI]at hk;cases op<;>exact hk.elim
 |true=>
  rw[hI]at hk
  cases op<;>first|exact hk.elim|skip
  ·exact fin _ hk (by intro v w hv _;simp[binOp,heq hI _ _ hv])
  ·exact fin _ hk (by intro v w hv _;simp[binOp,heq hI _ _ hv])
theorem aopO_sound (hty:TyOK P ty) {mv:Nat→Bool} {o:Oper} {e:Env} {h:Heap} {K:AK} (hd:∀d,o.dst=some d→d<n) (hst:∀t x y,o.op=.store t x y→o.dst=none) (hst2:∀t m k v,o.op=.mapUpdate t m k v∨o.op=.insert t m k v→o.dst=none) (hk:aopO ty (pcall P) mv o e h K):∃f,K f∧OpOK P n o e h f:=by
 unfold aopO at hk;split at hk
 ·rename_i t ho;exact aMove_sound hd (.inl ho) hk
 ·rename_i x hx ho;exact operand_sound hd (.inl ho) (fun t q=>hx t q) hk
 ·rename_i t ho;exact aMove_sound hd (.inr ho) hk
 ·rename_i x hx ho;exact operand_sound hd (.inr ho) (fun t q=>hx t q) hk
 ·rename_i c x y ho
  split at hk
  ·rename_i gd hc;exact aPick_sound hd ho hc hk
  ·exact hk.elim
 ·rename_i t ho;exact aAlloc_sound hty hd ho hk
 ·rename_i t x ho;exact aBox_sound hd ho hk
 ·rename_i t parts ho;exact aBuild_sound hty hd ho hk
 ·rename_i t len parts ho;exact aBuildSlice_sound hty hd ho hk
 ·rename_i t x ho;exact aLoad_sound hty hd ho hk
 ·rename_i t x y ho;exact aStore_sound hty ho (hst _ _ _ ho) hk
 ·rename_i x ho;exact aNil_sound hd ho hk
 ·rename_i op t x t' ho
  split at hk
  ·rename_i b hx;exact aIfc_sound hty hd hx hk ho
  ·exact hk.elim
 ·rename_i op t x y t' _ ho;exact aBin_sound hty hd ho hk
 ·rename_i op t x ho;exact aUn_sound hd ho hk
 ·rename_i src dst x ho;exact aConv_sound hty hd ho hk
 ·rename_i f first caps ho;exact aFunc_sound hd ho hk
 ·rename_i t st lo ho
  split at hk
  ·rename_i sz xs hx;exact aSliceO_sound hty hd ho hx hk
  ·rename_i l sz m hx;exact aSliceT_sound hty hd ho hx hk
  ·exact aSlice_sound hty hd ho hk
 ·rename_i t st u ho
  split at hk
  ·rename_i l sz m hx;exact aSliceA_sound hty hd ho hx hk
  ·rename_i l hx;exact aSliceR_sound hty hd ho hx hk
  ·exact aSlice_sound hty hd ho hk
 ·rename_i t x lo hi _ _ ho;exact aSlice_sound hty hd ho hk
 ·rename_i s x f ho;exact aFieldAddr_sound hty hd ho hk
 ·rename_i t x f ho
  exact aField_sound hty hd ho hk
 ·rename_i t x ix ho;exact aIndexAddr_sound hty hd ho hk
 ·rename_i x m ho;exact aExtract_sound hd ho hk
 ·rename_i x t ts ho;exact aLen_sound hty hd ho hk
 ·rename_i x y t t2 ho;exact aAppend_sound hty hd ho hk
 ·rename_i x y ts ho;exact aMin_sound hd ho hk
 ·rename_i x y ts ho;exact aMax_sound hd ho hk
 ·rename_i x y z ts ho;exact aMax3_sound hd ho hk
 ·rename_i x t ts ho;exact aClear_sound hty ho hk
 ·rename_i x az ts ho
  split at hk
  ·rename_i f first caps hx;exact aCall_sound hd (.value x ho hx) hk
  ·exact hk.elim
 ·rename_i x name az ts ho
  split at hk
  ·rename_i T y hx
   split at hk
   ·rename_i f hm;exact aCall_sound hd (.invoke x name T y ho hx (methOf_spec hty hm) rfl rfl) hk
   ·exact hk.elim
  ·exact hk.elim
 ·rename_i t ho;exact aMakeMap_sound hty hd ho hk
 ·rename_i t m k ok ho;exact aLookup_sound hty hd ho hk
 ·rename_i t m k v ho;exact aMapUpdate_sound hty (.inl ho) (hst2 _ _ _ _ (.inl ho)) hk
 ·rename_i t m k v ho;exact aMapUpdate_sound hty (.inr ho) (hst2 _ _ _ _ (.inr ho)) hk
 ·rename_i t x y ho;exact aMakeSlice_sound hty hd ho hk
 ·rename_i t x ix ho;exact aIndex_sound hty hd ho hk
 ·exact hk.elim
theorem aop_sound (hty:TyOK P ty) {mv:Nat→Bool} {o:Oper} {e:Env} {h:Heap} {K:AK} (hd:∀d,o.dst=some d→d<n) (hst:∀t x y,o.op=.store t x y→o.dst=none) (hst2:∀t m k v,o.op=.mapUpdate t m k v∨o.op=.insert t m k v→o.dst=none) (hk:aop ty (pcall P) mv o e h K):∃f,K f∧OpOK P n o e h f:=by
 unfold aop at hk;split at hk
 ·exact aopD_sound hty hd hst hst2 hk
 ·exact aopO_sound hty hd hst hst2 hk
end
end Go.AM
end
section
namespace Go.AM
section
variable {P:Program} {ty:Nat→Option TI} {n:Nat}
theorem Oper.wp_monoQ {o:Oper} {a:Act} {w:World} {K:Act→World→Prop} {Q:Exit→Act→World→Prop} (hh:o.wp P a w K (fun _ _ _=>False)):o.wp P a w K Q:=by
 unfold Oper.wp at *;generalize (execOp a.eval o).run P w=r at *
 cases r with
 |ok m w'=>
  cases m<;>simp only[Oper.upon]at hh ⊢ <;>
   first
    |exact hh
    |exact Calls.mono hh (fun e w'' he=>by
      cases e with
      |returned v=>exact he
      |panicked c=>exact he.elim
      |outgrown=>obtain⟨_,_,q⟩:=he;exact q.elim)
 |halt x w'=>cases x<;>simp only[Oper.upon]at hh ⊢<;>exact hh.elim
def okOp (n:Nat) (o:Oper):Bool:=(match o.dst with|some d=>Nat.blt d n|none=>true)&&(match o.op,o.dst with|.store ..,some _=>false|.mapUpdate ..,some _=>false|.insert ..,some _=>false|_,_=>true)
theorem okOp_dst {n:Nat} {o:Oper} (h:okOp n o=true):∀d,o.dst=some d→d<n:=by
 intro d hd;simp only[okOp,hd,Bool.and_eq_true]at h;exact Nat.blt_eq ▸ h.1|>fun q=>by simpa using q
theorem okOp_store {n:Nat} {o:Oper} (h:okOp n o=true):∀t x y,o.op=.store t x y→o.dst=none:=by
 intro t x y ho
 cases hd:o.dst with
 |none=>rfl
 |some d=>simp[okOp,ho,hd]at h
theorem okOp_map {n:Nat} {o:Oper} (h:okOp n o=true):∀t m k v,o.op=.mapUpdate t m k v∨o.op=.insert t m k v→o.dst=none:=by
 intro t m k v ho;simp only[okOp,Bool.and_eq_true]at h
 cases hd:o.dst with
 |none=>rfl
 |some d=>rcases ho with ho|ho<;>(rw[ho,hd]at h;simp at h)
theorem pushE_iff:∀(r e:Env) (K:Env→Prop),pushE r e K=K (r.reverse++e)
 | [],e,K=>rfl
 |(d,v)::r,e,K=>by rw[pushE,pushE_iff r];simp
theorem pushH_iff:∀(r e:Heap) (K:Heap→Prop),pushH r e K=K (r.reverse++e)
 | [],e,K=>rfl
 |(d,v)::r,e,K=>by rw[pushH,pushH_iff r];simp
theorem yielded_of {ops:Array Oper} {j d:Nat} {og:Oper} {a:Act} {b:Bool} (ho:ops[j]?=some og) (hd:og.dst=some d) (hv:a.tmps.getD d undef=.bool b):yielded ops a.tmps j=some b:=by
 have hin:a.tmps[d]?=some (.bool b):=by
  rw[Array.getD_eq_getD_getElem?]at hv
  cases hq:a.tmps[d]? with
  |none=>rw[hq]at hv;simp[undef]at hv
  |some v=>rw[hq]at hv;simp at hv;rw[hv]
 simp[yielded,ho,hd,hin]
theorem VRel.und0 {g:Gh} {w:World} {dom:Nat→Prop} {ow:Option Owner}:VRel g w dom ow undef (.tup []):=.tup _ [] [] rfl (by simp)
theorem VRel.isUndef {g:Gh} {w:World} {dom:Nat→Prop} {ow:Option Owner} {v:Value} (r:VRel g w dom ow v (.tup [])):v=undef:=by
 cases r with
 |tup _ vs _ hl _=>have:vs=[]:=List.eq_nil_of_length_eq_zero (by simpa using hl);subst this;rfl
theorem yielded_none {ops:Array Oper} {j d:Nat} {og:Oper} {a:Act} (ho:ops[j]?=some og) (hd:og.dst=some d) (hv:a.tmps.getD d undef=undef):yielded ops a.tmps j=none:=by
 cases hq:a.tmps[d]? with
 |none=>simp[yielded,ho,hd,hq]
 |some v=>
  rw[Array.getD_eq_getD_getElem?,hq]at hv;simp at hv;subst hv;simp[yielded,ho,hd,hq,undef]
theorem guard_sound {ops:Array Oper} {o:Oper} {e:Env} {S X:Env→Prop} (hg:guardOf ops.toList o e S X) {g:Gh} {w:World} {a:Act} {h:Heap} (s:Sim g w n a e h):
 (Region.wanted o (yielded ops a.tmps)=true∧∃e1,X e1∧∀i,eget e1 i=eget e i)∨(Region.wanted o (yielded ops a.tmps)=false∧∃e1,S e1∧∀i,eget e1 i=eget e i):=by
 unfold guardOf at hg;split at hg
 ·rename_i hn;exact .inl ⟨by simp[Region.wanted,hn],e,hg,fun _=>rfl⟩
 ·rename_i j want hn
  split at hg
  ·rename_i og hog
   split at hg
   ·rename_i d hd
    split at hg
    ·rename_i b hb
     have hv:=s.env d;rw[hb]at hv;have hy:=yielded_of (by simpa using hog) hd hv.bool
     have hsame:∀i,eget ((d,AV.p (.b b))::e) i=eget e i:=fun i=>by
      by_cases q:d=i
      ·subst q;rw[eget_self,hb]
      ·rw[eget_ne q]
     have hw:Region.wanted o (yielded ops a.tmps)=(some b==some want):=by simp[Region.wanted,hn,hy]
     cases b<;>cases want<;>simp only[ASplit]at hg
     ·exact .inl ⟨by rw[hw];rfl,_,hg,hsame⟩
     ·exact .inr ⟨by rw[hw];rfl,_,hg,hsame⟩
     ·exact .inr ⟨by rw[hw];rfl,_,hg,hsame⟩
     ·exact .inl ⟨by rw[hw];rfl,_,hg,hsame⟩
    ·rename_i hb
     have hv:=s.env d;rw[hb]at hv;have hy:=yielded_none (by simpa using hog) hd hv.isUndef;exact .inr ⟨by simp[Region.wanted,hn,hy],e,hg,fun _=>rfl⟩
    ·exact hg.elim
   ·exact hg.elim
  ·exact hg.elim
def QOf (n:Nat) (K:Exit→Env→Heap→Prop) (g0:Gh) (w0:World):Exit→Act→World→Prop:=fun x a w=>∃g e h,K x e h∧Sim g w n a e h∧Ext g0 w0 g w
theorem aops_sound (hty:TyOK P ty) {ops:Array Oper} (hok:ops.toList.all (okOp n)=true) {K:Exit→Env→Heap→Prop} {g0:Gh} {w0:World}:∀(l:List Oper) (k:Nat) (e:Env) (h:Heap) (g:Gh) (w:World) (a:Act),
 (∀j,l[j]?=ops[k+j]?)→aops ty (pcall P) ops.toList l e h (fun e h=>K .normal e h)→Sim g w n a e h→Ext g0 w0 g w→wpOps P ops (QOf n K g0 w0) (List.range' k l.length) a w
 | [],k,e,h,g,w,a,_,hk,s,hE=>⟨g,e,h,hk,s,hE⟩
 |o::r,k,e,h,g,w,a,hl,hk,s,hE=>by
  have ho:ops[k]?=some o:=by have:=hl 0;simpa using this.symm
  have hmem:o∈ops.toList:=by rw[←Array.getElem?_toList]at ho;exact List.mem_of_getElem? ho
  have hoko:okOp n o=true:=List.all_eq_true.1 hok o hmem;have hrest:∀j,r[j]?=ops[k+1+j]?:=fun j=>by have:=hl (j+1);rw[show k+1+j=k+(j+1) by omega,←this];simp
  simp only[List.length_cons,List.range'_succ];rw[wpOps_cons];simp only[wpOp,ho];rw[aops_cons]at hk;rcases guard_sound hk s with⟨hw,e1,hk,hee⟩|⟨hw,e1,hk,hee⟩
  ·rw[if_pos hw]
   left
   obtain⟨f,hk,hop⟩:=aop_sound hty (okOp_dst hoko) (okOp_store hoko) (okOp_map hoko) hk;simp only[pushE_iff,pushH_iff]at hk;have s1:=s.envEq hee;refine Oper.wp_monoQ (Oper.wp_mono ?_ (hop e1 h (fun _ _=>rfl) (fun _ _=>rfl) g w a s1));rintro a' w' ⟨g',s',hE'⟩;exact aops_sound hty hok r (k+1) _ _ g' w' a' hrest hk s' (hE.trans hE')
  ·rw[if_neg (by rw[hw];simp)]
   have s1:=s.envEq hee;unfold putT at hk;split at hk
   ·rename_i d hd
    rw[hd];exact aops_sound hty hok r (k+1) _ _ g w _ hrest hk (s1.put (okOp_dst hoko d hd) VRel.und0) hE
   ·rename_i hd
    rw[hd];exact aops_sound hty hok r (k+1) _ _ g w _ hrest hk s1 hE
def envL:List Env→(Nat→Bool)→Nat→Env→Env
 | [],_,_,e=>e
 |W::r,L,k,e=>envL r L (k+1) (if L k then W.reverse++e else e)
def heapL:List Heap→(Nat→Bool)→Nat→Heap→Heap
 | [],_,_,e=>e
 |W::r,L,k,e=>heapL r L (k+1) (if L k then W.reverse++e else e)
theorem eget_append_none (W e:Env) (i:Nat) (h:∀x∈W,x.1≠i):eget (W++e) i=eget e i:=by
 induction W with
 |nil=>rfl
 |cons x r ih=>
  obtain⟨d,v⟩:=x;rw[List.cons_append,eget_ne (h (d,v) (by simp))];exact ih (fun y hy=>h y (by simp[hy]))
theorem hget_append_none (W e:Heap) (i:Nat) (h:∀x∈W,x.1≠i):hget (W++e) i=hget e i:=by
 induction W with
 |nil=>rfl
 |cons x r ih=>
  obtain⟨d,v⟩:=x;rw[List.cons_append,hget_ne (h (d,v) (by simp))];exact ih (fun y hy=>h y (by simp[hy]))
theorem eget_append_some (W e e':Env) (i:Nat) (h:∃x∈W,x.1=i):eget (W++e) i=eget (W++e') i:=by
 induction W with
 |nil=>obtain⟨x,hx,_⟩:=h;cases hx
 |cons x r ih=>
  obtain⟨d,v⟩:=x
  by_cases q:d=i
  ·subst q;rw[List.cons_append,List.cons_append,eget_self,eget_self]
  ·rw[List.cons_append,List.cons_append,eget_ne q,eget_ne q]
   obtain⟨y,hy,hyi⟩:=h;rcases List.mem_cons.1 hy with rfl|hy
   ·exact absurd hyi q
   ·exact ih ⟨y,hy,hyi⟩
theorem hget_append_some (W e e':Heap) (i:Nat) (h:∃x∈W,x.1=i):hget (W++e) i=hget (W++e') i:=by
 induction W with
 |nil=>obtain⟨x,hx,_⟩:=h;cases hx
 |cons x r ih=>
  obtain⟨d,v⟩:=x
  by_cases q:d=i
  ·subst q;rw[List.cons_append,List.cons_append,hget_self,hget_self]
  ·rw[List.cons_append,List.cons_append,hget_ne q,hget_ne q]
   obtain⟨y,hy,hyi⟩:=h;rcases List.mem_cons.1 hy with rfl|hy
   ·exact absurd hyi q
   ·exact ih ⟨y,hy,hyi⟩
theorem envL_congr (i:Nat):∀(ws:List Env) (L L':Nat→Bool) (k:Nat) (e e':Env),eget e i=eget e' i→(∀j W,ws[j]?=some W→(∃x∈W,x.1=i)→L (k+j)=L' (k+j))→eget (envL ws L k e) i=eget (envL ws L' k e') i
 | [],L,L',k,e,e',h,_=>h
 |W::r,L,L',k,e,e',h,hw=>by
  rw[envL,envL];refine envL_congr i r L L' (k+1) _ _ ?_ (fun j W' hj hx=>by have:=hw (j+1) W' (by simpa using hj) hx;rw[show k+1+j=k+(j+1) by omega];exact this)
  by_cases hx:∃x∈W,x.1=i
  ·have h0:=hw 0 W rfl hx
   simp only[Nat.add_zero]at h0;rw[h0];split
   ·obtain⟨x,hx1,hx2⟩:=hx
    exact eget_append_some _ _ _ _ ⟨x,by simpa using hx1,hx2⟩
   ·exact h
  ·have hn:∀x∈W.reverse,x.1≠i:=fun x hx1 q=>hx ⟨x,by simpa using hx1,q⟩
   split<;>split
   ·rw[eget_append_none _ _ _ hn,eget_append_none _ _ _ hn];exact h
   ·rw[eget_append_none _ _ _ hn];exact h
   ·rw[eget_append_none _ _ _ hn];exact h
   ·exact h
theorem heapL_congr (i:Nat):∀(ws:List Heap) (L L':Nat→Bool) (k:Nat) (e e':Heap),hget e i=hget e' i→(∀j W,ws[j]?=some W→(∃x∈W,x.1=i)→L (k+j)=L' (k+j))→hget (heapL ws L k e) i=hget (heapL ws L' k e') i
 | [],L,L',k,e,e',h,_=>h
 |W::r,L,L',k,e,e',h,hw=>by
  rw[heapL,heapL];refine heapL_congr i r L L' (k+1) _ _ ?_ (fun j W' hj hx=>by have:=hw (j+1) W' (by simpa using hj) hx;rw[show k+1+j=k+(j+1) by omega];exact this)
  by_cases hx:∃x∈W,x.1=i
  ·have h0:=hw 0 W rfl hx
   simp only[Nat.add_zero]at h0;rw[h0];split
   ·obtain⟨x,hx1,hx2⟩:=hx
    exact hget_append_some _ _ _ _ ⟨x,by simpa using hx1,hx2⟩
   ·exact h
  ·have hn:∀x∈W.reverse,x.1≠i:=fun x hx1 q=>hx ⟨x,by simpa using hx1,q⟩
   split<;>split
   ·rw[hget_append_none _ _ _ hn,hget_append_none _ _ _ hn];exact h
   ·rw[hget_append_none _ _ _ hn];exact h
   ·rw[hget_append_none _ _ _ hn];exact h
   ·exact h
theorem envL_last (i m:Nat):∀(ws:List Env) (L:Nat→Bool) (k:Nat) (e:Env) (W:Env) (X:Env),ws[m]?=some W→(∃x∈W,x.1=i)→L (k+m)=true→(∀j W',m<j→ws[j]?=some W'→(∃x∈W',x.1=i)→L (k+j)=false)→
 eget (envL ws L k e) i=eget (W.reverse++X) i:=by
 induction m with
 |zero=>
  intro ws L k e W X hm hx hL hafter
  cases ws with
  |nil=>simp at hm
  |cons W0 r=>
   simp at hm;subst hm;rw[envL];simp only[Nat.add_zero]at hL;rw[if_pos hL]
   rw[envL_congr i r L (fun _=>false) (k+1) _ (W0.reverse++X) (by obtain⟨x,hx1,hx2⟩:=hx;exact eget_append_some _ _ _ _ ⟨x,by simpa using hx1,hx2⟩) (fun j W' hj hx'=>by
    have:=hafter (j+1) W' (by omega) (by simpa using hj) hx';rw[show k+1+j=k+(j+1) by omega];exact this)]
   generalize W0.reverse++X=Y;clear hafter hL hx;generalize k+1=k'
   induction r generalizing k' with
   |nil=>rfl
   |cons W1 r ih=>rw[envL];simp only[Bool.false_eq_true,if_false];exact ih (k'+1)
 |succ m ih=>
  intro ws L k e W X hm hx hL hafter
  cases ws with
  |nil=>simp at hm
  |cons W0 r=>
   simp at hm;rw[envL]
   exact ih r L (k+1) _ W X hm hx (by rw[show k+1+m=k+(m+1) by omega];exact hL) (fun j W' hj hjw hx'=>by
    have:=hafter (j+1) W' (by omega) (by simpa using hjw) hx';rw[show k+1+j=k+(j+1) by omega];exact this)
theorem heapL_last (i m:Nat):∀(ws:List Heap) (L:Nat→Bool) (k:Nat) (e:Heap) (W:Heap) (X:Heap),ws[m]?=some W→(∃x∈W,x.1=i)→L (k+m)=true→(∀j W',m<j→ws[j]?=some W'→(∃x∈W',x.1=i)→L (k+j)=false)→
 hget (heapL ws L k e) i=hget (W.reverse++X) i:=by
 induction m with
 |zero=>
  intro ws L k e W X hm hx hL hafter
  cases ws with
  |nil=>simp at hm
  |cons W0 r=>
   simp at hm;subst hm;rw[heapL];simp only[Nat.add_zero]at hL;rw[if_pos hL]
   rw[heapL_congr i r L (fun _=>false) (k+1) _ (W0.reverse++X) (by obtain⟨x,hx1,hx2⟩:=hx;exact hget_append_some _ _ _ _ ⟨x,by simpa using hx1,hx2⟩) (fun j W' hj hx'=>by
    have:=hafter (j+1) W' (by omega) (by simpa using hj) hx';rw[show k+1+j=k+(j+1) by omega];exact this)]
   generalize W0.reverse++X=Y;clear hafter hL hx;generalize k+1=k'
   induction r generalizing k' with
   |nil=>rfl
   |cons W1 r ih=>rw[heapL];simp only[Bool.false_eq_true,if_false];exact ih (k'+1)
 |succ m ih=>
  intro ws L k e W X hm hx hL hafter
  cases ws with
  |nil=>simp at hm
  |cons W0 r=>
   simp at hm;rw[heapL]
   exact ih r L (k+1) _ W X hm hx (by rw[show k+1+m=k+(m+1) by omega];exact hL) (fun j W' hj hjw hx'=>by
    have:=hafter (j+1) W' (by omega) (by simpa using hjw) hx';rw[show k+1+j=k+(j+1) by omega];exact this)
end
end Go.AM
end
section
namespace Go.AM
section
variable {P:Program} {ty:Nat→Option TI} {n:Nat}
def guardA (all:List Oper) (o:Oper) (e:Env):Option Bool:=match o.guard with
 |none=>some true
 |some (j,want)=>match all[j]? with
  |some og=>match og.dst with
   |some d=>match eget e d with
    |.p (.b g)=>some (g==want)
    |.tup []=>some false
    |_=>none
   |none=>none
  |none=>none
def StepOK (P:Program) (n:Nat) (all:List Oper) (o:Oper) (e:Env) (h:Heap):Option Eff→Prop
 |some f=>guardA all o e=some true∧OpOK P n o e h f
 |none=>guardA all o e=some false
theorem guardA_congr {all:List Oper} {o:Oper} {e e':Env} (h:∀i∈guardSlot all o,eget e' i=eget e i):guardA all o e'=guardA all o e:=by
 unfold guardA;unfold guardSlot at h
 cases hg:o.guard with
 |none=>rfl
 |some x=>
  obtain⟨j,want⟩:=x;simp only[hg]at h ⊢
  cases ha:all[j]? with
  |none=>rfl
  |some og=>
   simp only[ha]at h ⊢
   cases hd:og.dst with
   |none=>rfl
   |some d=>simp only[hd]at h ⊢;rw[h d (by simp)]
theorem StepOK.congr {all:List Oper} {o:Oper} {e e':Env} {h h':Heap} {f:Option Eff} (hs:StepOK P n all o e h f) (he:∀i∈slotsOf o++guardSlot all o,eget e' i=eget e i) (hh:∀l∈rdH f,hget h' l=hget h l):StepOK P n all o e' h' f:=by
 have hg:guardA all o e'=guardA all o e:=guardA_congr (fun i hi=>he i (List.mem_append_right _ hi))
 cases f with
 |none=>simp only[StepOK]at *;rw[hg];exact hs
 |some f=>
  simp only[StepOK]at *;refine⟨by rw[hg];exact hs.1,fun e2 h2 he2 hh2=>hs.2 e2 h2 (fun t ht=>(he2 t ht).trans (he t (by simp[ht]))) (fun l hl=>(hh2 l hl).trans (hh l hl))⟩
inductive Path (P:Program) (n:Nat) (all:List Oper):List Oper→Env→Heap→List (Option Eff)→Prop
 |nil (e:Env) (h:Heap):Path P n all [] e h []
 |cons (o:Oper) (r:List Oper) (e:Env) (h:Heap) (f:Option Eff) (fs:List (Option Eff)) (h0:StepOK P n all o e h f) (h1:Path P n all r ((wrE o f).reverse++e) ((wrH f).reverse++h) fs):Path P n all (o::r) e h (f::fs)
def ewS (l:List Oper) (fs:List (Option Eff)):List Env:=List.zipWith wrE l fs
def hwS (fs:List (Option Eff)):List Heap:=fs.map wrH
theorem eget_append_congr (W:Env) {e e':Env} (h:∀i,eget e i=eget e' i) (i:Nat):eget (W++e) i=eget (W++e') i:=by
 induction W with
 |nil=>exact h i
 |cons x r ih=>
  obtain⟨d,v⟩:=x
  by_cases q:d=i
  ·subst q;rw[List.cons_append,List.cons_append,eget_self,eget_self]
  ·rw[List.cons_append,List.cons_append,eget_ne q,eget_ne q];exact ih
theorem hget_append_congr (W:Heap) {e e':Heap} (h:∀i,hget e i=hget e' i) (i:Nat):hget (W++e) i=hget (W++e') i:=by
 induction W with
 |nil=>exact h i
 |cons x r ih=>
  obtain⟨d,v⟩:=x
  by_cases q:d=i
  ·subst q;rw[List.cons_append,List.cons_append,hget_self,hget_self]
  ·rw[List.cons_append,List.cons_append,hget_ne q,hget_ne q];exact ih
theorem guard_path {all:List Oper} {o:Oper} {e:Env} {S X:Env→Prop} (hg:guardOf all o e S X):
 (guardA all o e=some true∧∃e1,X e1∧∀i,eget e1 i=eget e i)∨(guardA all o e=some false∧∃e1,S e1∧∀i,eget e1 i=eget e i):=by
 unfold guardOf at hg;split at hg
 ·rename_i hn;exact .inl ⟨by simp[guardA,hn],e,hg,fun _=>rfl⟩
 ·rename_i j want hn
  split at hg
  ·rename_i og hog
   split at hg
   ·rename_i d hd
    split at hg
    ·rename_i b hb
     have hsame:∀i,eget ((d,AV.p (.b b))::e) i=eget e i:=fun i=>by
      by_cases q:d=i
      ·subst q;rw[eget_self,hb]
      ·rw[eget_ne q]
     have hw:guardA all o e=some (b==want):=by simp[guardA,hn,hog,hd,hb]
     cases b<;>cases want<;>simp only[ASplit]at hg
     ·exact .inl ⟨by rw[hw];rfl,_,hg,hsame⟩
     ·exact .inr ⟨by rw[hw];rfl,_,hg,hsame⟩
     ·exact .inr ⟨by rw[hw];rfl,_,hg,hsame⟩
     ·exact .inl ⟨by rw[hw];rfl,_,hg,hsame⟩
    ·rename_i hb;exact .inr ⟨by simp[guardA,hn,hog,hd,hb],e,hg,fun _=>rfl⟩
    ·exact hg.elim
   ·exact hg.elim
  ·exact hg.elim
theorem aopsR_path (hty:TyOK P ty) {all:List Oper} {K:Env→Heap→List (Option Eff)→Prop}:∀(l:List Oper) (e:Env) (h:Heap) (rs:List (Option Eff)) (e2:Env) (h2:Heap),(∀o∈l,okOp n o=true)→
 aopsR ty (pcall P) all l e h rs K→(∀i,eget e2 i=eget e i)→(∀i,hget h2 i=hget h i)→
 ∃fs e' h',Path P n all l e2 h2 fs∧fs.length=l.length∧K e' h' (fs.reverse++rs)∧(∀i,eget e' i=eget (envL (ewS l fs) (fun _=>true) 0 e2) i)∧(∀i,hget h' i=hget (heapL (hwS fs) (fun _=>true) 0 h2) i)
 | [],e,h,rs,e2,h2,_,hk,he,hh=>⟨[],e,h,.nil e2 h2,rfl,hk,fun i=>(he i).symm,fun i=>(hh i).symm⟩
 |o::r,e,h,rs,e2,h2,hok,hk,he,hh=>by
  have envShift:∀(ws:List Env) (k k':Nat) (e:Env),envL ws (fun _=>true) k e=envL ws (fun _=>true) k' e:=by
   intro ws
   induction ws with
   |nil=>intros;rfl
   |cons W r ih=>intro k k' e;rw[envL,envL];exact ih _ _ _
  have heapShift:∀(ws:List Heap) (k k':Nat) (e:Heap),heapL ws (fun _=>true) k e=heapL ws (fun _=>true) k' e:=by
   intro ws
   induction ws with
   |nil=>intros;rfl
   |cons W r ih=>intro k k' e;rw[heapL,heapL];exact ih _ _ _
  have hoko:=hok o (by simp);rw[aopsR_cons]at hk;rcases guard_path hk with⟨hg,e1,hk,hee⟩|⟨hg,e1,hk,hee⟩
  ·obtain⟨f,hk,hop⟩:=aop_sound hty (okOp_dst hoko) (okOp_store hoko) (okOp_map hoko) hk
   simp only[pushE_iff,pushH_iff]at hk;have he12:∀i,eget e2 i=eget e1 i:=fun i=>(he i).trans (hee i).symm;obtain⟨fs,e',h',q1,q2,q3,q4,q5⟩:=aopsR_path hty r _ _ _ (f.ew.reverse++e2) (f.hw.reverse++h2) (fun o' ho'=>hok o' (by simp[ho'])) hk (eget_append_congr _ he12) (hget_append_congr _ hh);have hst:StepOK P n all o e2 h2 (some f):=StepOK.congr (e:=e1) (h:=h) (f:=some f) ⟨by rw[guardA_congr (fun i _=>hee i)];exact hg,hop⟩ (fun i _=>he12 i) (fun i _=>hh i);refine⟨some f::fs,e',h',.cons o r e2 h2 (some f) fs hst q1,by simp[q2],by simpa using q3,fun i=>?_,fun i=>?_⟩
   ·rw[q4 i];simp only[ewS,List.zipWith_cons_cons,envL,if_true,wrE];rw[envShift]
   ·rw[q5 i];simp only[hwS,List.map_cons,heapL,if_true,wrH];rw[heapShift]
  ·have key:aopsR ty (pcall P) all r ((wrE o none).reverse++e1) h (none::rs) K:=by
    unfold putT at hk;simp only[wrE];split at hk
    ·rename_i d hd;simpa using hk
    ·rename_i hd;simpa using hk
   have he12:∀i,eget e2 i=eget e1 i:=fun i=>(he i).trans (hee i).symm;obtain⟨fs,e',h',q1,q2,q3,q4,q5⟩:=aopsR_path hty r _ _ _ ((wrE o none).reverse++e2) h2 (fun o' ho'=>hok o' (by simp[ho'])) key (eget_append_congr _ he12) hh;have hst:StepOK P n all o e2 h2 none:=StepOK.congr (e:=e1) (h:=h) (f:=none) (by simp only[StepOK];rw[guardA_congr (fun i _=>hee i)];exact hg) (fun i _=>he12 i) (fun i _=>hh i);refine⟨none::fs,e',h',.cons o r e2 h2 none fs hst q1,by simp[q2],by simpa using q3,fun i=>?_,fun i=>?_⟩
   ·rw[q4 i];simp only[ewS,List.zipWith_cons_cons,envL,if_true];rw[envShift]
   ·rw[q5 i];simp only[hwS,List.map_cons,heapL,if_true,wrH,List.reverse_nil,List.nil_append];rw[heapShift]
theorem Path.len {all:List Oper} {l:List Oper} {e:Env} {h:Heap} {fs:List (Option Eff)} (hp:Path P n all l e h fs):fs.length=l.length:=by
 induction hp with
 |nil=>rfl
 |cons o r e h f fs h0 h1 ih=>simp[ih]
theorem Path.at {all:List Oper}:∀{l:List Oper} {e:Env} {h:Heap} {fs:List (Option Eff)},Path P n all l e h fs→∀(k j:Nat) (o:Oper) (f:Option Eff),l[j]?=some o→fs[j]?=some f→
 StepOK P n all o (envL (ewS l fs) (fun i=>decide (i<k+j)) k e) (heapL (hwS fs) (fun i=>decide (i<k+j)) k h) f:=by
 intro l e h fs hp
 have stopE:∀(ws:List Env) (k m:Nat) (e:Env),m≤k→envL ws (fun i=>decide (i<m)) k e=e:=by
  intro ws
  induction ws with
  |nil=>intros;rfl
  |cons W r ih=>intro k m e hm;rw[envL];simp only[show ¬k<m by omega,decide_false,Bool.false_eq_true,if_false];exact ih _ _ _ (by omega)
 have stopH:∀(ws:List Heap) (k m:Nat) (e:Heap),m≤k→heapL ws (fun i=>decide (i<m)) k e=e:=by
  intro ws
  induction ws with
  |nil=>intros;rfl
  |cons W r ih=>intro k m e hm;rw[heapL];simp only[show ¬k<m by omega,decide_false,Bool.false_eq_true,if_false];exact ih _ _ _ (by omega)
 induction hp with
 |nil=>intro k j o f ho;simp at ho
 |cons o r e h f fs h0 h1 ih=>
  intro k j o' f' ho hf
  cases j with
  |zero=>
   simp at ho hf;subst ho;subst hf;rw[stopE _ k (k+0) _ (Nat.le_refl k),stopH _ k (k+0) _ (Nat.le_refl k)];exact h0
  |succ j=>
   simp at ho hf;have:=ih (k+1) j o' f' ho hf;simp only[ewS,hwS,List.zipWith_cons_cons,List.map_cons,envL,heapL];simp only[show k<k+(j+1) by omega,decide_true,if_true];rw[show k+(j+1)=k+1+j by omega];exact this
end
end Go.AM
end
