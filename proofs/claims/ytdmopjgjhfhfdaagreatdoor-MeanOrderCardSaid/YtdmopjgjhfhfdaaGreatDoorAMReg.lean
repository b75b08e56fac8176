/- Part of a machine over plain values. No conditions. -/
import Derived.Test.YtdmopjgjhfhfdaaGreatDoorAMMap2
import Derived.Test.YtdmopjgjhfhfdaaGreatDoorAMDyn
import Derived.Test.YtdmopjgjhfhfdaaGreatDoorAMSndB
namespace Go.AM
section
variable {P:Program} {ty:Nat→Option TI} {n:Nat}
theorem ifcOf {g w dom ow} {b:Bool} {v:Value} (r:VRel g w dom ow v (.ifc b)):ifcOK b v:=by
 cases r with
 |ifc _ _ _ h=>exact h
theorem eqIfc (d:Nat) {t:TypeId} {ms:Array (String×TypeId)} (hu:P.underlying t=some (.interface ms)) {b:Bool} {v:Value} (w:World) (hv:ifcOK b v):(Op.equalIn (d+1) t v .nilIface).run P w=.ok (!b) w:=by
 cases b with
 |false=>
  have:v=.nilIface:=hv;subst this;simp only[Op.equalIn,Sem.run_bind,run_underlying hu,Result.andThen_ok,Sem.run_pure];rfl
 |true=>
  obtain⟨T,y,rfl⟩:=hv;simp only[Op.equalIn,Sem.run_bind,run_underlying hu,Result.andThen_ok,Sem.run_pure];rfl
theorem aIfc_sound (hty:TyOK P ty) {o:Oper} {e:Env} {h:Heap} {K:AK} (hd:∀d,o.dst=some d→d<n) {op:BinOp} {t t':TypeId} {x:Operand} {b:Bool} (hx:ev e x=.ifc b) (hk:(match isIfaceT ty t,op with|true,.eql=>ret o (.p (.b (!b))) K|true,.neq=>ret o (.p (.b b)) K|_,_=>AStuck "binOp iface")) (ho:o.op=.binOp op t x (.const .nilIface) t'):∃f,K f∧OpOK P n o e h f:=by
 have m1:x∈o.op.operands:=by simp[ho,Op.operands]
 have hu:isIfaceT ty t=true→∃ms,P.underlying t=some (.interface ms):=by
  intro hb;unfold isIfaceT at hb;split at hb
  ·rename_i i hi
   split at hb
   ·rename_i ms hdd;exact⟨ms,by rw[←hdd];exact(hty t i hi).und⟩
   ·cases hb
  ·cases hb
 have heq:isIfaceT ty t=true→∀(v:Value) (w:World),ifcOK b v→(Op.equal t v .nilIface).run P w=.ok (!b) w:=by
  intro h1 v w hv;obtain⟨ms,hu⟩:=hu h1;exact eqIfc 9999 hu w hv
 have hgd:∀(v:Value) (w:World),ifcOK b v→(eqGuard op t x (.const .nilIface) v .nilIface).run P w=.ok () w:=by
  intro v w hv
  cases b with
  |false=>
   have:v=.nilIface:=hv;subst this;unfold eqGuard;cases op<;>simp
  |true=>
   obtain⟨T,y,rfl⟩:=hv;unfold eqGuard;cases op<;>simp
 have fin:∀(q:Bool),ret o (.p (.b q)) K→(∀(v:Value) (w:World),ifcOK b v→(eqGuard op t x (.const .nilIface) v .nilIface).run P w=.ok () w→(binOp op t v .nilIface).run P w=.ok (.bool q) w)→∃f,K f∧OpOK P n o e h f:=by
  intro q hq hb;refine ret_sound hd hq fun e' h' he g w a s=>?_;obtain⟨_,r1⟩:=s.evo he m1 hx;have hv:=ifcOf r1
  ·refine⟨.bool q,?_,fun d _=>.p _ _ _ (.b _)⟩
   have:=hb _ w hv (hgd _ w hv);have hc:a.eval (.const .nilIface)=.nilIface:=rfl;simp only[execOp,ho,hc,Sem.run_bind,hgd _ w hv,Result.andThen_ok,this,Sem.run_pure]
 cases hI:isIfaceT ty t with
 |false=>rw[hI]at hk;cases op<;>exact hk.elim
 |true=>
  rw[hI]at hk
  cases op<;>first|exact hk.elim|skip
  ·exact fin _ hk (by intro v w hv _;simp[binOp,heq hI _ _ hv])
  ·exact fin _ hk (by intro v w hv _;simp[binOp,heq hI _ _ hv])
theorem aopO_sound (hty:TyOK P ty) {mv:Nat→Bool} {o:Oper} {e:Env} {h:Heap} {K:AK} (hd:∀d,o.dst=some d→d<n) (hst:∀t x y,o.op=.store t x y→o.dst=none) (hst2:∀t m k v,o.op=.mapUpdate t m k v∨o.op=.insert t m k v→o.dst=none) (hk:aopO ty (pcall P) mv o e h K):∃f,K f∧OpOK P n o e h f:=by
 unfold aopO at hk;split at hk
 ·rename_i t ho;exact aMove_sound hd (.inl ho) hk
 ·rename_i x hx ho;exact operand_sound hd (.inl ho) (fun t q=>hx t q) hk
 ·rename_i t ho;exact aMove_sound hd (.inr ho) hk
 ·rename_i x hx ho;exact operand_sound hd (.inr ho) (fun t q=>hx t q) hk
 ·rename_i c x y ho
  split at hk
  ·rename_i gd hc;exact aPick_sound hd ho hc hk
  ·exact hk.elim
 ·rename_i t ho;exact aAlloc_sound hty hd ho hk
 ·rename_i t x ho;exact aBox_sound hd ho hk
 ·rename_i t parts ho;exact aBuild_sound hty hd ho hk
 ·rename_i t len parts ho;exact aBuildSlice_sound hty hd ho hk
 ·rename_i t x ho;exact aLoad_sound hty hd ho hk
 ·rename_i t x y ho;exact aStore_sound hty ho (hst _ _ _ ho) hk
 ·rename_i x ho;exact aNil_sound hd ho hk
 ·rename_i op t x t' ho
  split at hk
  ·rename_i b hx;exact aIfc_sound hty hd hx hk ho
  ·exact hk.elim
 ·rename_i op t x y t' _ ho;exact aBin_sound hty hd ho hk
 ·rename_i op t x ho;exact aUn_sound hd ho hk
 ·rename_i src dst x ho;exact aConv_sound hty hd ho hk
 ·rename_i f first caps ho;exact aFunc_sound hd ho hk
 ·rename_i t st lo ho
  split at hk
  ·rename_i sz xs hx;exact aSliceO_sound hty hd ho hx hk
  ·exact aSlice_sound hty hd ho hk
 ·rename_i t st u ho
  split at hk
  ·rename_i l hx;exact aSliceR_sound hty hd ho hx hk
  ·exact aSlice_sound hty hd ho hk
 ·rename_i t x lo hi _ _ ho;exact aSlice_sound hty hd ho hk
 ·rename_i s x f ho;exact aFieldAddr_sound hty hd ho hk
 ·rename_i t x f ho
  exact aField_sound hty hd ho hk
 ·rename_i t x ix ho;exact aIndexAddr_sound hty hd ho hk
 ·rename_i x m ho;exact aExtract_sound hd ho hk
 ·rename_i x t ts ho;exact aLen_sound hty hd ho hk
 ·rename_i x y t t2 ho;exact aAppend_sound hty hd ho hk
 ·rename_i x y ts ho;exact aMin_sound hd ho hk
 ·rename_i x y ts ho;exact aMax_sound hd ho hk
 ·rename_i x y z ts ho;exact aMax3_sound hd ho hk
 ·rename_i x as ts ho
  split at hk
  ·rename_i f first caps hx;exact aCall_sound hd (.value x ho hx) hk
  ·exact hk.elim
 ·rename_i x name as ts ho
  split at hk
  ·rename_i T y hx
   split at hk
   ·rename_i f hm;exact aCall_sound hd (.invoke x name T y ho hx (methOf_spec hty hm) rfl rfl) hk
   ·exact hk.elim
  ·exact hk.elim
 ·rename_i t x y ho;exact aMakeSlice_sound hty hd ho hk
 ·rename_i t x ix ho;exact aIndex_sound hty hd ho hk
 ·exact hk.elim
theorem aop_sound (hty:TyOK P ty) {mv:Nat→Bool} {o:Oper} {e:Env} {h:Heap} {K:AK} (hd:∀d,o.dst=some d→d<n) (hst:∀t x y,o.op=.store t x y→o.dst=none) (hst2:∀t m k v,o.op=.mapUpdate t m k v∨o.op=.insert t m k v→o.dst=none) (hk:aop ty (pcall P) mv o e h K):∃f,K f∧OpOK P n o e h f:=by
 unfold aop at hk;split at hk
 ·exact aopD_sound hty hd hst hst2 hk
 ·exact aopO_sound hty hd hst hst2 hk
end
end Go.AM
namespace Go.AM
section
variable {P:Program} {ty:Nat→Option TI} {n:Nat}
theorem Oper.wp_monoQ {o:Oper} {a:Act} {w:World} {K:Act→World→Prop} {Q:Exit→Act→World→Prop} (hh:o.wp P a w K (fun _ _ _=>False)):o.wp P a w K Q:=by
 unfold Oper.wp at *;generalize (execOp a.eval o).run P w=r at *
 cases r with
 |ok m w'=>
  cases m<;>simp only[Oper.upon]at hh ⊢ <;>
   first
    |exact hh
    |exact Calls.mono hh (fun e w'' he=>by
      cases e with
      |returned v=>exact he
      |panicked c=>exact he.elim
      |outgrown=>obtain⟨_,_,q⟩:=he;exact q.elim)
 |halt x w'=>cases x<;>simp only[Oper.upon]at hh ⊢<;>exact hh.elim
def okOp (n:Nat) (o:Oper):Bool:=(match o.dst with|some d=>Nat.blt d n|none=>true)&&(match o.op,o.dst with|.store ..,some _=>false|.mapUpdate ..,some _=>false|.insert ..,some _=>false|_,_=>true)
theorem okOp_dst {n:Nat} {o:Oper} (h:okOp n o=true):∀d,o.dst=some d→d<n:=by
 intro d hd;simp only[okOp,hd,Bool.and_eq_true]at h;exact Nat.blt_eq ▸ h.1|>fun q=>by simpa using q
theorem okOp_store {n:Nat} {o:Oper} (h:okOp n o=true):∀t x y,o.op=.store t x y→o.dst=none:=by
 intro t x y ho
 cases hd:o.dst with
 |none=>rfl
 |some d=>simp[okOp,ho,hd]at h
theorem okOp_map {n:Nat} {o:Oper} (h:okOp n o=true):∀t m k v,o.op=.mapUpdate t m k v∨o.op=.insert t m k v→o.dst=none:=by
 intro t m k v ho;simp only[okOp,Bool.and_eq_true]at h
 cases hd:o.dst with
 |none=>rfl
 |some d=>rcases ho with ho|ho<;>(rw[ho,hd]at h;simp at h)
theorem pushE_iff:∀(r e:Env) (K:Env→Prop),pushE r e K=K (r.reverse++e)
 | [],e,K=>rfl
 |(d,v)::r,e,K=>by rw[pushE,pushE_iff r];simp
theorem pushH_iff:∀(r e:Heap) (K:Heap→Prop),pushH r e K=K (r.reverse++e)
 | [],e,K=>rfl
 |(d,v)::r,e,K=>by rw[pushH,pushH_iff r];simp
theorem yielded_of {ops:Array Oper} {j d:Nat} {og:Oper} {a:Act} {b:Bool} (ho:ops[j]?=some og) (hd:og.dst=some d) (hv:a.tmps.getD d undef=.bool b):yielded ops a.tmps j=some b:=by
 have hin:a.tmps[d]?=some (.bool b):=by
  rw[Array.getD_eq_getD_getElem?]at hv
  cases hq:a.tmps[d]? with
  |none=>rw[hq]at hv;simp[undef]at hv
  |some v=>rw[hq]at hv;simp at hv;rw[hv]
 simp[yielded,ho,hd,hin]
theorem VRel.und0 {g:Gh} {w:World} {dom:Nat→Prop} {ow:Option Owner}:VRel g w dom ow undef (.tup []):=.tup _ [] [] rfl (by simp)
theorem VRel.isUndef {g:Gh} {w:World} {dom:Nat→Prop} {ow:Option Owner} {v:Value} (r:VRel g w dom ow v (.tup [])):v=undef:=by
 cases r with
 |tup _ vs _ hl _=>have:vs=[]:=List.eq_nil_of_length_eq_zero (by simpa using hl);subst this;rfl
theorem yielded_none {ops:Array Oper} {j d:Nat} {og:Oper} {a:Act} (ho:ops[j]?=some og) (hd:og.dst=some d) (hv:a.tmps.getD d undef=undef):yielded ops a.tmps j=none:=by
 cases hq:a.tmps[d]? with
 |none=>simp[yielded,ho,hd,hq]
 |some v=>
  rw[Array.getD_eq_getD_getElem?,hq]at hv;simp at hv;subst hv;simp[yielded,ho,hd,hq,undef]
theorem guard_sound {ops:Array Oper} {o:Oper} {e:Env} {S X:Env→Prop} (hg:guardOf ops.toList o e S X) {g:Gh} {w:World} {a:Act} {h:Heap} (s:Sim g w n a e h):
 (Region.wanted o (yielded ops a.tmps)=true∧∃e1,X e1∧∀i,eget e1 i=eget e i)∨(Region.wanted o (yielded ops a.tmps)=false∧∃e1,S e1∧∀i,eget e1 i=eget e i):=by
 unfold guardOf at hg;split at hg
 ·rename_i hn;exact .inl ⟨by simp[Region.wanted,hn],e,hg,fun _=>rfl⟩
 ·rename_i j want hn
  split at hg
  ·rename_i og hog
   split at hg
   ·rename_i d hd
    split at hg
    ·rename_i b hb
     have hv:=s.env d;rw[hb]at hv;have hy:=yielded_of (by simpa using hog) hd hv.bool
     have hsame:∀i,eget ((d,AV.p (.b b))::e) i=eget e i:=fun i=>by
      by_cases q:d=i
      ·subst q;rw[eget_self,hb]
      ·rw[eget_ne q]
     have hw:Region.wanted o (yielded ops a.tmps)=(some b==some want):=by simp[Region.wanted,hn,hy]
     cases b<;>cases want<;>simp only[ASplit]at hg
     ·exact .inl ⟨by rw[hw];rfl,_,hg,hsame⟩
     ·exact .inr ⟨by rw[hw];rfl,_,hg,hsame⟩
     ·exact .inr ⟨by rw[hw];rfl,_,hg,hsame⟩
     ·exact .inl ⟨by rw[hw];rfl,_,hg,hsame⟩
    ·rename_i hb
     have hv:=s.env d;rw[hb]at hv;have hy:=yielded_none (by simpa using hog) hd hv.isUndef;exact .inr ⟨by simp[Region.wanted,hn,hy],e,hg,fun _=>rfl⟩
    ·exact hg.elim
   ·exact hg.elim
  ·exact hg.elim
def QOf (n:Nat) (K:Exit→Env→Heap→Prop) (g0:Gh) (w0:World):Exit→Act→World→Prop:=fun x a w=>∃g e h,K x e h∧Sim g w n a e h∧Ext g0 w0 g w
theorem aops_sound (hty:TyOK P ty) {ops:Array Oper} (hok:ops.toList.all (okOp n)=true) {K:Exit→Env→Heap→Prop} {g0:Gh} {w0:World}:∀(l:List Oper) (k:Nat) (e:Env) (h:Heap) (g:Gh) (w:World) (a:Act),
 (∀j,l[j]?=ops[k+j]?)→aops ty (pcall P) ops.toList l e h (fun e h=>K .normal e h)→Sim g w n a e h→Ext g0 w0 g w→wpOps P ops (QOf n K g0 w0) (List.range' k l.length) a w
 | [],k,e,h,g,w,a,_,hk,s,hE=>⟨g,e,h,hk,s,hE⟩
 |o::r,k,e,h,g,w,a,hl,hk,s,hE=>by
  have ho:ops[k]?=some o:=by have:=hl 0;simpa using this.symm
  have hmem:o∈ops.toList:=by rw[←Array.getElem?_toList]at ho;exact List.mem_of_getElem? ho
  have hoko:okOp n o=true:=List.all_eq_true.1 hok o hmem;have hrest:∀j,r[j]?=ops[k+1+j]?:=fun j=>by have:=hl (j+1);rw[show k+1+j=k+(j+1) by omega,←this];simp
  simp only[List.length_cons,List.range'_succ];rw[wpOps_cons];simp only[wpOp,ho];rw[aops_cons]at hk;rcases guard_sound hk s with⟨hw,e1,hk,hee⟩|⟨hw,e1,hk,hee⟩
  ·rw[if_pos hw]
   left
   obtain⟨f,hk,hop⟩:=aop_sound hty (okOp_dst hoko) (okOp_store hoko) (okOp_map hoko) hk;simp only[pushE_iff,pushH_iff]at hk;have s1:=s.envEq hee;refine Oper.wp_monoQ (Oper.wp_mono ?_ (hop e1 h (fun _ _=>rfl) (fun _ _=>rfl) g w a s1));rintro a' w' ⟨g',s',hE'⟩;exact aops_sound hty hok r (k+1) _ _ g' w' a' hrest hk s' (hE.trans hE')
  ·rw[if_neg (by rw[hw];simp)]
   have s1:=s.envEq hee;unfold putT at hk;split at hk
   ·rename_i d hd
    rw[hd];exact aops_sound hty hok r (k+1) _ _ g w _ hrest hk (s1.put (okOp_dst hoko d hd) VRel.und0) hE
   ·rename_i hd
    rw[hd];exact aops_sound hty hok r (k+1) _ _ g w _ hrest hk s1 hE
def envL:List Env→(Nat→Bool)→Nat→Env→Env
 | [],_,_,e=>e
 |W::r,L,k,e=>envL r L (k+1) (if L k then W.reverse++e else e)
def heapL:List Heap→(Nat→Bool)→Nat→Heap→Heap
 | [],_,_,e=>e
 |W::r,L,k,e=>heapL r L (k+1) (if L k then W.reverse++e else e)
theorem eget_append_none (W e:Env) (i:Nat) (h:∀x∈W,x.1≠i):eget (W++e) i=eget e i:=by
 induction W with
 |nil=>rfl
 |cons x r ih=>
  obtain⟨d,v⟩:=x;rw[List.cons_append,eget_ne (h (d,v) (by simp))];exact ih (fun y hy=>h y (by simp[hy]))
theorem hget_append_none (W e:Heap) (i:Nat) (h:∀x∈W,x.1≠i):hget (W++e) i=hget e i:=by
 induction W with
 |nil=>rfl
 |cons x r ih=>
  obtain⟨d,v⟩:=x;rw[List.cons_append,hget_ne (h (d,v) (by simp))];exact ih (fun y hy=>h y (by simp[hy]))
theorem eget_append_some (W e e':Env) (i:Nat) (h:∃x∈W,x.1=i):eget (W++e) i=eget (W++e') i:=by
 induction W with
 |nil=>obtain⟨x,hx,_⟩:=h;cases hx
 |cons x r ih=>
  obtain⟨d,v⟩:=x
  by_cases q:d=i
  ·subst q;rw[List.cons_append,List.cons_append,eget_self,eget_self]
  ·rw[List.cons_append,List.cons_append,eget_ne q,eget_ne q]
   obtain⟨y,hy,hyi⟩:=h;rcases List.mem_cons.1 hy with rfl|hy
   ·exact absurd hyi q
   ·exact ih ⟨y,hy,hyi⟩
theorem hget_append_some (W e e':Heap) (i:Nat) (h:∃x∈W,x.1=i):hget (W++e) i=hget (W++e') i:=by
 induction W with
 |nil=>obtain⟨x,hx,_⟩:=h;cases hx
 |cons x r ih=>
  obtain⟨d,v⟩:=x
  by_cases q:d=i
  ·subst q;rw[List.cons_append,List.cons_append,hget_self,hget_self]
  ·rw[List.cons_append,List.cons_append,hget_ne q,hget_ne q]
   obtain⟨y,hy,hyi⟩:=h;rcases List.mem_cons.1 hy with rfl|hy
   ·exact absurd hyi q
   ·exact ih ⟨y,hy,hyi⟩
theorem envL_congr (i:Nat):∀(ws:List Env) (L L':Nat→Bool) (k:Nat) (e e':Env),eget e i=eget e' i→(∀j W,ws[j]?=some W→(∃x∈W,x.1=i)→L (k+j)=L' (k+j))→eget (envL ws L k e) i=eget (envL ws L' k e') i
 | [],L,L',k,e,e',h,_=>h
 |W::r,L,L',k,e,e',h,hw=>by
  rw[envL,envL];refine envL_congr i r L L' (k+1) _ _ ?_ (fun j W' hj hx=>by have:=hw (j+1) W' (by simpa using hj) hx;rw[show k+1+j=k+(j+1) by omega];exact this)
  by_cases hx:∃x∈W,x.1=i
  ·have h0:=hw 0 W rfl hx
   simp only[Nat.add_zero]at h0;rw[h0];split
   ·obtain⟨x,hx1,hx2⟩:=hx
    exact eget_append_some _ _ _ _ ⟨x,by simpa using hx1,hx2⟩
   ·exact h
  ·have hn:∀x∈W.reverse,x.1≠i:=fun x hx1 q=>hx ⟨x,by simpa using hx1,q⟩
   split<;>split
   ·rw[eget_append_none _ _ _ hn,eget_append_none _ _ _ hn];exact h
   ·rw[eget_append_none _ _ _ hn];exact h
   ·rw[eget_append_none _ _ _ hn];exact h
   ·exact h
theorem heapL_congr (i:Nat):∀(ws:List Heap) (L L':Nat→Bool) (k:Nat) (e e':Heap),hget e i=hget e' i→(∀j W,ws[j]?=some W→(∃x∈W,x.1=i)→L (k+j)=L' (k+j))→hget (heapL ws L k e) i=hget (heapL ws L' k e') i
 | [],L,L',k,e,e',h,_=>h
 |W::r,L,L',k,e,e',h,hw=>by
  rw[heapL,heapL];refine heapL_congr i r L L' (k+1) _ _ ?_ (fun j W' hj hx=>by have:=hw (j+1) W' (by simpa using hj) hx;rw[show k+1+j=k+(j+1) by omega];exact this)
  by_cases hx:∃x∈W,x.1=i
  ·have h0:=hw 0 W rfl hx
   simp only[Nat.add_zero]at h0;rw[h0];split
   ·obtain⟨x,hx1,hx2⟩:=hx
    exact hget_append_some _ _ _ _ ⟨x,by simpa using hx1,hx2⟩
   ·exact h
  ·have hn:∀x∈W.reverse,x.1≠i:=fun x hx1 q=>hx ⟨x,by simpa using hx1,q⟩
   split<;>split
   ·rw[hget_append_none _ _ _ hn,hget_append_none _ _ _ hn];exact h
   ·rw[hget_append_none _ _ _ hn];exact h
   ·rw[hget_append_none _ _ _ hn];exact h
   ·exact h
theorem envL_last (i m:Nat):∀(ws:List Env) (L:Nat→Bool) (k:Nat) (e:Env) (W:Env) (X:Env),ws[m]?=some W→(∃x∈W,x.1=i)→L (k+m)=true→(∀j W',m<j→ws[j]?=some W'→(∃x∈W',x.1=i)→L (k+j)=false)→
 eget (envL ws L k e) i=eget (W.reverse++X) i:=by
 induction m with
 |zero=>
  intro ws L k e W X hm hx hL hafter
  cases ws with
  |nil=>simp at hm
  |cons W0 r=>
   simp at hm;subst hm;rw[envL];simp only[Nat.add_zero]at hL;rw[if_pos hL]
   rw[envL_congr i r L (fun _=>false) (k+1) _ (W0.reverse++X) (by obtain⟨x,hx1,hx2⟩:=hx;exact eget_append_some _ _ _ _ ⟨x,by simpa using hx1,hx2⟩) (fun j W' hj hx'=>by
    have:=hafter (j+1) W' (by omega) (by simpa using hj) hx';rw[show k+1+j=k+(j+1) by omega];exact this)]
   generalize W0.reverse++X=Y;clear hafter hL hx;generalize k+1=k'
   induction r generalizing k' with
   |nil=>rfl
   |cons W1 r ih=>rw[envL];simp only[Bool.false_eq_true,if_false];exact ih (k'+1)
 |succ m ih=>
  intro ws L k e W X hm hx hL hafter
  cases ws with
  |nil=>simp at hm
  |cons W0 r=>
   simp at hm;rw[envL]
   exact ih r L (k+1) _ W X hm hx (by rw[show k+1+m=k+(m+1) by omega];exact hL) (fun j W' hj hjw hx'=>by
    have:=hafter (j+1) W' (by omega) (by simpa using hjw) hx';rw[show k+1+j=k+(j+1) by omega];exact this)
theorem heapL_last (i m:Nat):∀(ws:List Heap) (L:Nat→Bool) (k:Nat) (e:Heap) (W:Heap) (X:Heap),ws[m]?=some W→(∃x∈W,x.1=i)→L (k+m)=true→(∀j W',m<j→ws[j]?=some W'→(∃x∈W',x.1=i)→L (k+j)=false)→
 hget (heapL ws L k e) i=hget (W.reverse++X) i:=by
 induction m with
 |zero=>
  intro ws L k e W X hm hx hL hafter
  cases ws with
  |nil=>simp at hm
  |cons W0 r=>
   simp at hm;subst hm;rw[heapL];simp only[Nat.add_zero]at hL;rw[if_pos hL]
   rw[heapL_congr i r L (fun _=>false) (k+1) _ (W0.reverse++X) (by obtain⟨x,hx1,hx2⟩:=hx;exact hget_append_some _ _ _ _ ⟨x,by simpa using hx1,hx2⟩) (fun j W' hj hx'=>by
    have:=hafter (j+1) W' (by omega) (by simpa using hj) hx';rw[show k+1+j=k+(j+1) by omega];exact this)]
   generalize W0.reverse++X=Y;clear hafter hL hx;generalize k+1=k'
   induction r generalizing k' with
   |nil=>rfl
   |cons W1 r ih=>rw[heapL];simp only[Bool.false_eq_true,if_false];exact ih (k'+1)
 |succ m ih=>
  intro ws L k e W X hm hx hL hafter
  cases ws with
  |nil=>simp at hm
  |cons W0 r=>
   simp at hm;rw[heapL]
   exact ih r L (k+1) _ W X hm hx (by rw[show k+1+m=k+(m+1) by omega];exact hL) (fun j W' hj hjw hx'=>by
    have:=hafter (j+1) W' (by omega) (by simpa using hjw) hx';rw[show k+1+j=k+(j+1) by omega];exact this)
end
end Go.AM
namespace Go.AM
section
variable {P:Program} {ty:Nat→Option TI} {n:Nat}
def guardA (all:List Oper) (o:Oper) (e:Env):Option Bool:=match o.guard with
 |none=>some true
 |some (j,want)=>match all[j]? with
  |some og=>match og.dst with
   |some d=>match eget e d with
    |.p (.b g)=>some (g==want)
    |.tup []=>some false
    |_=>none
   |none=>none
  |none=>none
def StepOK (P:Program) (n:Nat) (all:List Oper) (o:Oper) (e:Env) (h:Heap):Option Eff→Prop
 |some f=>guardA all o e=some true∧OpOK P n o e h f
 |none=>guardA all o e=some false
theorem guardA_congr {all:List Oper} {o:Oper} {e e':Env} (h:∀i∈guardSlot all o,eget e' i=eget e i):guardA all o e'=guardA all o e:=by
 unfold guardA;unfold guardSlot at h
 cases hg:o.guard with
 |none=>rfl
 |some x=>
  obtain⟨j,want⟩:=x;simp only[hg]at h ⊢
  cases ha:all[j]? with
  |none=>rfl
  |some og=>
   simp only[ha]at h ⊢
   cases hd:og.dst with
   |none=>rfl
   |some d=>simp only[hd]at h ⊢;rw[h d (by simp)]
theorem StepOK.congr {all:List Oper} {o:Oper} {e e':Env} {h h':Heap} {f:Option Eff} (hs:StepOK P n all o e h f) (he:∀i∈slotsOf o++guardSlot all o,eget e' i=eget e i) (hh:∀l∈rdH f,hget h' l=hget h l):StepOK P n all o e' h' f:=by
 have hg:guardA all o e'=guardA all o e:=guardA_congr (fun i hi=>he i (List.mem_append_right _ hi))
 cases f with
 |none=>simp only[StepOK]at *;rw[hg];exact hs
 |some f=>
  simp only[StepOK]at *;refine⟨by rw[hg];exact hs.1,fun e2 h2 he2 hh2=>hs.2 e2 h2 (fun t ht=>(he2 t ht).trans (he t (by simp[ht]))) (fun l hl=>(hh2 l hl).trans (hh l hl))⟩
inductive Path (P:Program) (n:Nat) (all:List Oper):List Oper→Env→Heap→List (Option Eff)→Prop
 |nil (e:Env) (h:Heap):Path P n all [] e h []
 |cons (o:Oper) (r:List Oper) (e:Env) (h:Heap) (f:Option Eff) (fs:List (Option Eff)) (h0:StepOK P n all o e h f) (h1:Path P n all r ((wrE o f).reverse++e) ((wrH f).reverse++h) fs):Path P n all (o::r) e h (f::fs)
def ewS (l:List Oper) (fs:List (Option Eff)):List Env:=List.zipWith wrE l fs
def hwS (fs:List (Option Eff)):List Heap:=fs.map wrH
theorem eget_append_congr (W:Env) {e e':Env} (h:∀i,eget e i=eget e' i) (i:Nat):eget (W++e) i=eget (W++e') i:=by
 induction W with
 |nil=>exact h i
 |cons x r ih=>
  obtain⟨d,v⟩:=x
  by_cases q:d=i
  ·subst q;rw[List.cons_append,List.cons_append,eget_self,eget_self]
  ·rw[List.cons_append,List.cons_append,eget_ne q,eget_ne q];exact ih
theorem hget_append_congr (W:Heap) {e e':Heap} (h:∀i,hget e i=hget e' i) (i:Nat):hget (W++e) i=hget (W++e') i:=by
 induction W with
 |nil=>exact h i
 |cons x r ih=>
  obtain⟨d,v⟩:=x
  by_cases q:d=i
  ·subst q;rw[List.cons_append,List.cons_append,hget_self,hget_self]
  ·rw[List.cons_append,List.cons_append,hget_ne q,hget_ne q];exact ih
theorem guard_path {all:List Oper} {o:Oper} {e:Env} {S X:Env→Prop} (hg:guardOf all o e S X):
 (guardA all o e=some true∧∃e1,X e1∧∀i,eget e1 i=eget e i)∨(guardA all o e=some false∧∃e1,S e1∧∀i,eget e1 i=eget e i):=by
 unfold guardOf at hg;split at hg
 ·rename_i hn;exact .inl ⟨by simp[guardA,hn],e,hg,fun _=>rfl⟩
 ·rename_i j want hn
  split at hg
  ·rename_i og hog
   split at hg
   ·rename_i d hd
    split at hg
    ·rename_i b hb
     have hsame:∀i,eget ((d,AV.p (.b b))::e) i=eget e i:=fun i=>by
      by_cases q:d=i
      ·subst q;rw[eget_self,hb]
      ·rw[eget_ne q]
     have hw:guardA all o e=some (b==want):=by simp[guardA,hn,hog,hd,hb]
     cases b<;>cases want<;>simp only[ASplit]at hg
     ·exact .inl ⟨by rw[hw];rfl,_,hg,hsame⟩
     ·exact .inr ⟨by rw[hw];rfl,_,hg,hsame⟩
     ·exact .inr ⟨by rw[hw];rfl,_,hg,hsame⟩
     ·exact .inl ⟨by rw[hw];rfl,_,hg,hsame⟩
    ·rename_i hb;exact .inr ⟨by simp[guardA,hn,hog,hd,hb],e,hg,fun _=>rfl⟩
    ·exact hg.elim
   ·exact hg.elim
  ·exact hg.elim
theorem aopsR_path (hty:TyOK P ty) {all:List Oper} {K:Env→Heap→List (Option Eff)→Prop}:∀(l:List Oper) (e:Env) (h:Heap) (rs:List (Option Eff)) (e2:Env) (h2:Heap),(∀o∈l,okOp n o=true)→
 aopsR ty (pcall P) all l e h rs K→(∀i,eget e2 i=eget e i)→(∀i,hget h2 i=hget h i)→
 ∃fs e' h',Path P n all l e2 h2 fs∧fs.length=l.length∧K e' h' (fs.reverse++rs)∧(∀i,eget e' i=eget (envL (ewS l fs) (fun _=>true) 0 e2) i)∧(∀i,hget h' i=hget (heapL (hwS fs) (fun _=>true) 0 h2) i)
 | [],e,h,rs,e2,h2,_,hk,he,hh=>⟨[],e,h,.nil e2 h2,rfl,hk,fun i=>(he i).symm,fun i=>(hh i).symm⟩
 |o::r,e,h,rs,e2,h2,hok,hk,he,hh=>by
  have envShift:∀(ws:List Env) (k k':Nat) (e:Env),envL ws (fun _=>true) k e=envL ws (fun _=>true) k' e:=by
   intro ws
   induction ws with
   |nil=>intros;rfl
   |cons W r ih=>intro k k' e;rw[envL,envL];exact ih _ _ _
  have heapShift:∀(ws:List Heap) (k k':Nat) (e:Heap),heapL ws (fun _=>true) k e=heapL ws (fun _=>true) k' e:=by
   intro ws
   induction ws with
   |nil=>intros;rfl
   |cons W r ih=>intro k k' e;rw[heapL,heapL];exact ih _ _ _
  have hoko:=hok o (by simp);rw[aopsR_cons]at hk;rcases guard_path hk with⟨hg,e1,hk,hee⟩|⟨hg,e1,hk,hee⟩
  ·obtain⟨f,hk,hop⟩:=aop_sound hty (okOp_dst hoko) (okOp_store hoko) (okOp_map hoko) hk
   simp only[pushE_iff,pushH_iff]at hk;have he12:∀i,eget e2 i=eget e1 i:=fun i=>(he i).trans (hee i).symm;obtain⟨fs,e',h',q1,q2,q3,q4,q5⟩:=aopsR_path hty r _ _ _ (f.ew.reverse++e2) (f.hw.reverse++h2) (fun o' ho'=>hok o' (by simp[ho'])) hk (eget_append_congr _ he12) (hget_append_congr _ hh);have hst:StepOK P n all o e2 h2 (some f):=StepOK.congr (e:=e1) (h:=h) (f:=some f) ⟨by rw[guardA_congr (fun i _=>hee i)];exact hg,hop⟩ (fun i _=>he12 i) (fun i _=>hh i);refine⟨some f::fs,e',h',.cons o r e2 h2 (some f) fs hst q1,by simp[q2],by simpa using q3,fun i=>?_,fun i=>?_⟩
   ·rw[q4 i];simp only[ewS,List.zipWith_cons_cons,envL,if_true,wrE];rw[envShift]
   ·rw[q5 i];simp only[hwS,List.map_cons,heapL,if_true,wrH];rw[heapShift]
  ·have key:aopsR ty (pcall P) all r ((wrE o none).reverse++e1) h (none::rs) K:=by
    unfold putT at hk;simp only[wrE];split at hk
    ·rename_i d hd;simpa using hk
    ·rename_i hd;simpa using hk
   have he12:∀i,eget e2 i=eget e1 i:=fun i=>(he i).trans (hee i).symm;obtain⟨fs,e',h',q1,q2,q3,q4,q5⟩:=aopsR_path hty r _ _ _ ((wrE o none).reverse++e2) h2 (fun o' ho'=>hok o' (by simp[ho'])) key (eget_append_congr _ he12) hh;have hst:StepOK P n all o e2 h2 none:=StepOK.congr (e:=e1) (h:=h) (f:=none) (by simp only[StepOK];rw[guardA_congr (fun i _=>hee i)];exact hg) (fun i _=>he12 i) (fun i _=>hh i);refine⟨none::fs,e',h',.cons o r e2 h2 none fs hst q1,by simp[q2],by simpa using q3,fun i=>?_,fun i=>?_⟩
   ·rw[q4 i];simp only[ewS,List.zipWith_cons_cons,envL,if_true];rw[envShift]
   ·rw[q5 i];simp only[hwS,List.map_cons,heapL,if_true,wrH,List.reverse_nil,List.nil_append];rw[heapShift]
theorem Path.len {all:List Oper} {l:List Oper} {e:Env} {h:Heap} {fs:List (Option Eff)} (hp:Path P n all l e h fs):fs.length=l.length:=by
 induction hp with
 |nil=>rfl
 |cons o r e h f fs h0 h1 ih=>simp[ih]
theorem Path.at {all:List Oper}:∀{l:List Oper} {e:Env} {h:Heap} {fs:List (Option Eff)},Path P n all l e h fs→∀(k j:Nat) (o:Oper) (f:Option Eff),l[j]?=some o→fs[j]?=some f→
 StepOK P n all o (envL (ewS l fs) (fun i=>decide (i<k+j)) k e) (heapL (hwS fs) (fun i=>decide (i<k+j)) k h) f:=by
 intro l e h fs hp
 have stopE:∀(ws:List Env) (k m:Nat) (e:Env),m≤k→envL ws (fun i=>decide (i<m)) k e=e:=by
  intro ws
  induction ws with
  |nil=>intros;rfl
  |cons W r ih=>intro k m e hm;rw[envL];simp only[show ¬k<m by omega,decide_false,Bool.false_eq_true,if_false];exact ih _ _ _ (by omega)
 have stopH:∀(ws:List Heap) (k m:Nat) (e:Heap),m≤k→heapL ws (fun i=>decide (i<m)) k e=e:=by
  intro ws
  induction ws with
  |nil=>intros;rfl
  |cons W r ih=>intro k m e hm;rw[heapL];simp only[show ¬k<m by omega,decide_false,Bool.false_eq_true,if_false];exact ih _ _ _ (by omega)
 induction hp with
 |nil=>intro k j o f ho;simp at ho
 |cons o r e h f fs h0 h1 ih=>
  intro k j o' f' ho hf
  cases j with
  |zero=>
   simp at ho hf;subst ho;subst hf;rw[stopE _ k (k+0) _ (Nat.le_refl k),stopH _ k (k+0) _ (Nat.le_refl k)];exact h0
  |succ j=>
   simp at ho hf;have:=ih (k+1) j o' f' ho hf;simp only[ewS,hwS,List.zipWith_cons_cons,List.map_cons,envL,heapL];simp only[show k<k+(j+1) by omega,decide_true,if_true];rw[show k+(j+1)=k+1+j by omega];exact this
end
end Go.AM
namespace Go.AM
section
variable {P:Program} {ty:Nat→Option TI} {n:Nat}
theorem disj_spec {a b:List Nat} (h:disj a b=true) {x:Nat} (h1:x∈a) (h2:x∈b):False:=by
 have:=List.all_eq_true.1 (List.all_eq_true.1 h x h1) x h2;simp at this
theorem fold_mask (acc:List Nat):∀(l:List Edge) (s i:Nat),(l.foldl (fun s x=>if Region.binds .any x then s |||2 ^ x.on |||(acc[x.on]?.getD 0) else s) s).testBit i=true→
 s.testBit i=true∨∃x∈l,Region.binds .any x=true∧(x.on=i∨∃m,acc[x.on]?=some m∧m.testBit i=true)
 | [],s,i,h=>.inl h
 |x::l,s,i,h=>by
  rw[List.foldl_cons]at h;rcases fold_mask acc l _ i h with h|⟨y,hy,hb⟩
  ·split at h
   ·rename_i hb
    simp only[Nat.testBit_or,Bool.or_eq_true]at h;rcases h with(h|h)|h
    ·exact .inl h
    ·rw[Nat.testBit_two_pow]at h;exact .inr ⟨x,by simp,hb,.inl (by simpa using h)⟩
    ·refine .inr ⟨x,by simp,hb,.inr ?_⟩
     cases hq:acc[x.on]? with
     |none=>simp[hq]at h
     |some m=>exact⟨m,rfl,by simpa[hq] using h⟩
   ·exact .inl h
  ·exact .inr ⟨y,by simp[hy],hb⟩
def GoodM (ops:List Oper) (ms:List Nat):Prop:=∀(j m i:Nat),ms[j]?=some m→m.testBit i=true→∃o x,ops[j]?=some o∧x∈o.after∧Region.binds .any x=true∧(x.on=i∨(x.on<j∧∃m',ms[x.on]?=some m'∧m'.testBit i=true))
theorem masks_good (ops:List Oper):∀(r:List Oper) (acc:List Nat),(∀j,r[j]?=ops[acc.length+j]?)→GoodM ops acc→GoodM ops (masks r acc)
 | [],acc,_,h=>h
 |o::r,acc,hr,h=>by
  rw[masks];refine masks_good ops r _ (fun j=>by have:=hr (j+1);simp at this;rw[this];simp;congr 1;omega) ?_;intro j m i hj hb
  by_cases hlt:j<acc.length
  ·rw[List.getElem?_append_left hlt]at hj
   obtain⟨o',x,h1,h2,h3,h4⟩:=h j m i hj hb;refine⟨o',x,h1,h2,h3,?_⟩;rcases h4 with h4|⟨h4,m',h5,h6⟩
   ·exact .inl h4
   ·exact .inr ⟨h4,m',by rw[List.getElem?_append_left (by omega)];exact h5,h6⟩
  ·rw[List.getElem?_append_right (by omega)]at hj
   have hj0:j=acc.length:=by
    have:=(List.getElem?_eq_some_iff.1 hj).1;simp at this;omega
   subst hj0;simp at hj;subst hj;rcases fold_mask acc _ _ _ hb with h0|⟨x,hx,hbx,hxx⟩
   ·simp at h0
   ·refine⟨o,x,by have:=hr 0;simpa using this.symm,by simpa using hx,hbx,?_⟩
    rcases hxx with hxx|⟨m',h5,h6⟩
    ·exact .inl hxx
    ·have:x.on<acc.length:=(List.getElem?_eq_some_iff.1 h5).1
     exact .inr ⟨this,m',by rw[List.getElem?_append_left this];exact h5,h6⟩
def Closed (ops:List Oper) (L:Nat→Bool):Prop:=∀j o,ops[j]?=some o→L j=true→∀x∈o.after,Region.binds .any x=true→L x.on=true
theorem closed_anc {ops:List Oper} {ms:List Nat} (hm:GoodM ops ms) {L:Nat→Bool} (hc:Closed ops L):∀(j:Nat),L j=true→∀m i,ms[j]?=some m→m.testBit i=true→L i=true:=by
 intro j
 induction j using Nat.strongRecOn with
 |_ j ih=>
  intro hj m i hmj hb;obtain⟨o,x,h1,h2,h3,h4⟩:=hm j m i hmj hb;have hx:=hc j o h1 hj x h2 h3;rcases h4 with rfl|⟨h4,m',h5,h6⟩
  ·exact hx
  ·exact ih x.on h4 hx m' i h5 h6
theorem ready_anc {ops:List Oper} {ms:List Nat} (hm:GoodM ops ms) {L:Nat→Bool} (hc:Closed ops L) {i:Nat} {o:Oper} (ho:ops[i]?=some o) (hr:∀x∈o.after,Region.binds .any x=true→L x.on=true) (m j:Nat) (hmi:ms[i]?=some m) (hb:m.testBit j=true):L j=true:=by
 obtain⟨o',x,h1,h2,h3,h4⟩:=hm i m j hmi hb;rw[ho]at h1;cases h1;have hx:=hr x h2 h3;rcases h4 with rfl|⟨h4,m',h5,h6⟩
 ·exact hx
 ·exact closed_anc hm hc x.on hx m' j h5 h6
theorem ewS_get {l:List Oper} {fs:List (Option Eff)} {j:Nat} {W:Env} (h:(ewS l fs)[j]?=some W):∃o f,l[j]?=some o∧fs[j]?=some f∧W=wrE o f:=by
 unfold ewS at h;rw[List.getElem?_zipWith]at h
 cases ho:l[j]? with
 |none=>simp[ho]at h
 |some o=>
  cases hf:fs[j]? with
  |none=>simp[ho,hf]at h
  |some f=>simp[ho,hf]at h;exact⟨o,f,rfl,rfl,h.symm⟩
theorem hwS_get {fs:List (Option Eff)} {j:Nat} {W:Heap} (h:(hwS fs)[j]?=some W):∃f,fs[j]?=some f∧W=wrH f:=by
 unfold hwS at h;rw[List.getElem?_map]at h
 cases hf:fs[j]? with
 |none=>simp[hf]at h
 |some f=>simp[hf]at h;exact⟨f,rfl,h.symm⟩
def unl (n:Nat) (L:Nat→Bool):Nat:=((List.range n).filter fun i=>!L i).length
theorem filter_le (L L':Nat→Bool) (i:Nat) (h:∀j,L' j=if j=i then true else L j):∀(l:List Nat),(l.filter fun j=>!L' j).length≤(l.filter fun j=>!L j).length
 | []=>Nat.le_refl _
 |y::r=>by
  have ih:=filter_le L L' i h r;rw[List.filter_cons,List.filter_cons,h y]
  by_cases q:y=i
  ·rw[if_pos q]
   simp only[Bool.not_true,Bool.false_eq_true,if_false];split
   ·rw[List.length_cons];omega
   ·exact ih
  ·rw[if_neg q]
   split
   ·rw[List.length_cons,List.length_cons];omega
   ·exact ih
theorem filter_lt (L L':Nat→Bool) (i:Nat) (h:∀j,L' j=if j=i then true else L j) (hi:L i=false):∀(l:List Nat),i∈l→(l.filter fun j=>!L' j).length<(l.filter fun j=>!L j).length
 | [],hl=>by cases hl
 |y::r,hl=>by
  have hle:=filter_le L L' i h r;rw[List.filter_cons,List.filter_cons,h y]
  by_cases q:y=i
  ·subst q
   rw[if_pos rfl,hi];simp only[Bool.not_true,Bool.false_eq_true,if_false,Bool.not_false,if_true,List.length_cons];omega
  ·have ih:=filter_lt L L' i h hi r (by rcases List.mem_cons.1 hl with rfl|hl;exact absurd rfl q;exact hl)
   rw[if_neg q];split
   ·rw[List.length_cons,List.length_cons];omega
   ·exact ih
theorem inW_mem {i j:Nat}:∀{W:List (Nat×Nat)},inW i j W=true→(i,j)∈W
 | [],h=>by cases h
 |(a,b)::r,h=>by
  simp only[inW,Bool.or_eq_true,Bool.and_eq_true]at h;rcases h with⟨h1,h2⟩|h
  ·rw[Nat.eq_of_beq_eq_true h1,Nat.eq_of_beq_eq_true h2];exact List.mem_cons_self ..
  ·exact List.mem_cons_of_mem _ (inW_mem h)
theorem uniqW_spec:∀{W:List (Nat×Nat)},uniqW W=true→∀{i j j':Nat},(i,j)∈W→(i,j')∈W→j=j'
 | [],_,_,_,_,h,_=>by cases h
 |(a,b)::r,hu,i,j,j',h1,h2=>by
  simp only[uniqW,Bool.and_eq_true]at hu;obtain⟨u1,u2⟩:=hu
  have key:∀{k},(a,k)∈r→k=b:=fun hk=>by
   have:=List.all_eq_true.1 u1 _ hk;simp only[Nat.beq_refl,Bool.not_true,Bool.false_or]at this;exact Nat.eq_of_beq_eq_true this
  rcases List.mem_cons.1 h1 with h1|h1<;>rcases List.mem_cons.1 h2 with h2|h2
  ·cases h1;cases h2;rfl
  ·cases h1;exact(key h2).symm
  ·cases h2;exact key h1
  ·exact uniqW_spec u2 h1 h2
theorem apartB_W {all:List Oper} {o1 o2:Oper} {f1 f2:Option Eff} (h:apartB all o1 f1 o2 f2=true):apartW all o1 f1 o2 f2=true:=by
 simp only[apartB,apartW,Bool.and_eq_true]at h ⊢;exact h.1
theorem indB_W {ops:List Oper} {rs:List (Option Eff)} (h:indB ops rs=true):indW [] ops rs=true:=by
 unfold indB at h;unfold indW;simp only[Bool.and_eq_true]at h ⊢;refine⟨⟨h.1,rfl⟩,List.all_eq_true.2 fun x hx=>List.all_eq_true.2 fun y hy=>?_⟩;have:=List.all_eq_true.1 (List.all_eq_true.1 h.2 x hx) y hy;rw[this];rfl
theorem indW_pair {W:List (Nat×Nat)} {ops:List Oper} {fs:List (Option Eff)} (h:indW W ops fs.reverse=true) {i j:Nat} (hij:i<j) {o1 o2:Oper} {f1 f2:Option Eff} (h1:ops[i]?=some o1) (h2:ops[j]?=some o2) (g1:fs[i]?=some f1) (g2:fs[j]?=some f2):
 (∃m,(masks ops [])[j]?=some m∧m.testBit i=true)∨apartB ops o1 f1 o2 f2=true∨((i,j)∈W∧apartW ops o1 f1 o2 f2=true):=by
 unfold indW at h;simp only[List.reverse_reverse,Bool.and_eq_true]at h;have h:=h.2
 have z1:((o1,f1),i)∈(ops.zip fs).zipIdx:=by
  rw[List.mem_zipIdx_iff_getElem?];simp[List.getElem?_zip_eq_some,h1,g1]
 have z2:((o2,f2),j)∈(ops.zip fs).zipIdx:=by
  rw[List.mem_zipIdx_iff_getElem?];simp[List.getElem?_zip_eq_some,h2,g2]
 have:=List.all_eq_true.1 (List.all_eq_true.1 h _ z1) _ z2;simp only[Bool.or_eq_true,Bool.not_eq_true',Bool.and_eq_true]at this;rcases this with((this|this)|this)|this
 ·have hh:Nat.blt i j=true:=by rw[Nat.blt_eq];exact hij
  rw[hh]at this;cases this
 ·left
  cases hq:(masks ops [])[j]? with
  |none=>simp[hq]at this
  |some m=>exact⟨m,rfl,by simpa[hq] using this⟩
 ·exact .inr (.inl this)
 ·exact .inr (.inr ⟨inW_mem this.1,this.2⟩)
theorem indW_back {W:List (Nat×Nat)} {ops:List Oper} {fs:List (Option Eff)} (h:indW W ops fs.reverse=true) {i:Nat} {o:Oper} (ho:ops[i]?=some o) {x:Edge} (hx:x∈o.after) (hb:Region.binds .any x=true):x.on<i:=by
 unfold indW at h;simp only[Bool.and_eq_true]at h;have z:(o,i)∈ops.zipIdx:=by rw[List.mem_zipIdx_iff_getElem?];exact ho
 have:=List.all_eq_true.1 (List.all_eq_true.1 h.1.1 _ z) x (by simpa using hx);simp only[hb,Bool.not_true,Bool.false_or]at this;simpa using this
theorem indW_uniq {W:List (Nat×Nat)} {ops:List Oper} {rs:List (Option Eff)} (h:indW W ops rs=true):uniqW W=true:=by
 unfold indW at h;simp only[Bool.and_eq_true]at h;exact h.1.2
theorem region_anyW {W:List (Nat×Nat)} {ops:Array Oper} (hok:ops.toList.all (okOp n)=true) {e:Env} {h:Heap} {fs:List (Option Eff)} (hp:Path P n ops.toList ops.toList e h fs) (hlen:fs.length=ops.toList.length) (hind:indW W ops.toList fs.reverse=true)
 (hW:∀(i j:Nat) (o:Oper) (f fj:Option Eff),(i,j)∈W→ops.toList[i]?=some o→fs[i]?=some f→fs[j]?=some fj→i<j→wrH f=[]∧StepOK P n ops.toList o (envL (ewS ops.toList fs) (fun k=>decide (k<i)) 0 e) ((wrH fj).reverse++heapL (hwS fs) (fun k=>decide (k<i)) 0 h) f)
 {g0:Gh} {w0:World} {K:Exit→Env→Heap→Prop} (hK:∀e' h',(∀i,eget e' i=eget (envL (ewS ops.toList fs) (fun _=>true) 0 e) i)→(∀i,hget h' i=hget (heapL (hwS fs) (fun _=>true) 0 h) i)→∃e2 h2,K .normal e2 h2∧(∀i,eget e2 i=eget e' i)∧(∀i,hget h2 i=hget h' i)):
 ∀(fuel:Nat) (listed:Array Bool) (a:Act) (w:World),listed.size=ops.size→unl ops.size (fun i=>listed.getD i false)≤fuel→Closed ops.toList (fun i=>listed.getD i false)→
  (∃g,Sim g w n a (envL (ewS ops.toList fs) (fun i=>listed.getD i false) 0 e) (heapL (hwS fs) (fun i=>listed.getD i false) 0 h)∧Ext g0 w0 g w)→wpAny P .any ops (QOf n K g0 w0) fuel listed a w:=by
 have hm:GoodM ops.toList (masks ops.toList []):=masks_good _ _ _ (fun j=>by simp) (fun j m i hj=>by simp at hj)
 -- all are listed where none is ready
 have done:∀(listed:Array Bool),listed.size=ops.size→Region.ready .any ops listed=[]→∀i,i<ops.size→listed.getD i false=true:=by
  intro listed hls hr i
  induction i using Nat.strongRecOn with
  |_ i ih=>
   intro hi
   cases hq:listed.getD i false with
   |true=>rfl
   |false=>
    exfalso;have ho:ops[i]?=some ops[i]:=by simp[hi]
    have hmem:i∈Region.ready .any ops listed:=by
     rw[mem_ready];refine⟨?_,ops[i],ho,fun x hx hb=>?_⟩
     ·rw[Array.getD_eq_getD_getElem?]at hq ⊢
      rw[Array.getElem?_eq_getElem (by omega)]at hq ⊢;simpa using hq
     ·have:=indW_back hind (by rw[Array.getElem?_toList];exact ho) hx hb
      exact ih x.on this (by omega)
    rw[hr]at hmem;cases hmem
 have final:∀(listed:Array Bool) (a:Act) (w:World),listed.size=ops.size→Region.ready .any ops listed=[]→
  (∃g,Sim g w n a (envL (ewS ops.toList fs) (fun i=>listed.getD i false) 0 e) (heapL (hwS fs) (fun i=>listed.getD i false) 0 h)∧Ext g0 w0 g w)→QOf n K g0 w0 .normal a w:=by
  intro listed a w hls hr ⟨g,s,hE⟩;have hall:=done listed hls hr
  obtain⟨e2,h2,hk,q1,q2⟩:=hK (envL (ewS ops.toList fs) (fun i=>listed.getD i false) 0 e) (heapL (hwS fs) (fun i=>listed.getD i false) 0 h)
   (fun i=>envL_congr i _ _ _ 0 e e rfl (fun j W hj _=>by
     obtain⟨o,f,ho,_,_⟩:=ewS_get hj;have:j<ops.size:=by have:=(List.getElem?_eq_some_iff.1 ho).1;simpa using this
     simpa using hall j this))
   (fun i=>heapL_congr i _ _ _ 0 h h rfl (fun j W hj _=>by
     obtain⟨f,hf,_⟩:=hwS_get hj;have:j<ops.size:=by have:=(List.getElem?_eq_some_iff.1 hf).1;rw[hlen]at this;simpa using this
     simpa using hall j this))
  exact⟨g,e2,h2,hk,(s.envEq q1).heapEq q2,hE⟩
 intro fuel
 induction fuel with
 |zero=>
  intro listed a w hls hf hc hs
  have hr:Region.ready .any ops listed=[]:=by
   cases hq:Region.ready .any ops listed with
   |nil=>rfl
   |cons i r=>
    exfalso;have hmem:i∈Region.ready .any ops listed:=by rw[hq];simp
    obtain⟨h0,o,ho,_⟩:=mem_ready.1 hmem;have hi:i<ops.size:=(Array.getElem?_eq_some_iff.1 ho).1
    have h1:listed.getD i false=false:=by
     rw[Array.getD_eq_getD_getElem?]at h0 ⊢;rw[Array.getElem?_eq_getElem (by omega)]at h0 ⊢;simpa using h0
    have:i∈(List.range ops.size).filter fun i=>!listed.getD i false:=by simp only[List.mem_filter,List.mem_range,hi,true_and];rw[h1];rfl
    have:=List.length_pos_of_mem this;have hf0:((List.range ops.size).filter fun i=>!listed.getD i false).length≤0:=hf;omega
  exact⟨hr,final listed a w hls hr hs⟩
 |succ fuel ih=>
  intro listed a w hls hf hc hs;refine⟨fun hr=>final listed a w hls hr hs,fun i hi=>?_⟩;obtain⟨h0,o,ho,hpre⟩:=mem_ready.1 hi;have hil:i<ops.size:=(Array.getElem?_eq_some_iff.1 ho).1
  have hnl:listed.getD i false=false:=by
   rw[Array.getD_eq_getD_getElem?]at h0 ⊢;rw[Array.getElem?_eq_getElem (by omega)]at h0 ⊢;simpa using h0
  have ho':ops.toList[i]?=some o:=by simpa using ho
  have hfi:i<fs.length:=by rw[hlen];simpa using hil
  have hf':fs[i]?=some fs[i]:=by simp[hfi]
  generalize fs[i]=f at hf'
  -- the new set
  have hset:∀j,(listed.setIfInBounds i true).getD j false=if j=i then true else listed.getD j false:=by
   intro j
   by_cases q:j=i
   ·subst q;simp[hls,hil]
   ·rw[getD_set_ne false (Ne.symm q),if_neg q]
  have hls':(listed.setIfInBounds i true).size=ops.size:=by simp[hls]
  have hc':Closed ops.toList (fun j=>(listed.setIfInBounds i true).getD j false):=by
   intro j oj hoj hj x hx hb;simp only[hset]at hj ⊢
   by_cases q:j=i
   ·subst q
    rw[ho']at hoj;cases hoj;have:=hpre x hx hb;split
    ·rfl
    ·exact this
   ·rw[if_neg q]at hj
    have:=hc j oj hoj hj x hx hb;simp only at this;split
    ·rfl
    ·exact this
  have hf2:unl ops.size (fun j=>(listed.setIfInBounds i true).getD j false)≤fuel:=by
   have:unl ops.size (fun j=>(listed.setIfInBounds i true).getD j false)<unl ops.size (fun j=>listed.getD j false):=by
    exact filter_lt _ _ i hset hnl _ (by simpa using hil)
   omega
  -- agreement with the text's order
  have hst:=hp.at 0 i o f ho' hf';simp only[Nat.zero_add]at hst
  have before:∀{j:Nat} {oj:Oper} {fj:Option Eff},j<i→ops.toList[j]?=some oj→fs[j]?=some fj→apartW ops.toList oj fj o f=true∨listed.getD j false=true:=by
   intro j oj fj hji hoj hfj;rcases indW_pair hind hji hoj ho' hfj hf' with⟨m,q1,q2⟩|q|q
   ·exact .inr (ready_anc hm hc ho' hpre m j q1 q2)
   ·exact .inl (apartB_W q)
   ·exact .inl q.2
  have behind:∀{j:Nat} {oj:Oper} {fj:Option Eff},i<j→ops.toList[j]?=some oj→fs[j]?=some fj→(apartW ops.toList o f oj fj=true∧(disj (rdH f) ((wrH fj).map (·.1))=true∨(i,j)∈W))∨listed.getD j false=false:=by
   intro j oj fj hij hoj hfj;rcases indW_pair hind hij ho' hoj hf' hfj with⟨m,q1,q2⟩|q|q
   ·right
    cases hq:listed.getD j false with
    |false=>rfl
    |true=>have:=closed_anc hm hc j hq m i q1 q2;simp only[hnl]at this;cases this
   ·exact .inl ⟨apartB_W q,.inl (by simp only[apartB,Bool.and_eq_true]at q;exact q.2)⟩
   ·exact .inl ⟨q.2,.inr q.1⟩
  have agE:∀t,t∈slotsOf o++guardSlot ops.toList o→eget (envL (ewS ops.toList fs) (fun i=>listed.getD i false) 0 e) t=eget (envL (ewS ops.toList fs) (fun j=>decide (j<i)) 0 e) t:=by
   intro t ht;refine envL_congr t _ _ _ 0 e e rfl (fun j W hj hx=>?_);obtain⟨oj,fj,hoj,hfj,rfl⟩:=ewS_get hj;obtain⟨y,hy,hyt⟩:=hx;have hkey:t∈(wrE oj fj).map (·.1):=List.mem_map.2 ⟨y,hy,hyt⟩;rw[Nat.zero_add];rcases Nat.lt_trichotomy j i with q|q|q
   ·rcases before q hoj hfj with hap|hl
    ·simp only[apartW,Bool.and_eq_true]at hap
     exact(disj_spec hap.1.1 hkey (List.mem_append_left _ ht)).elim
    ·rw[hl];simp[q]
   ·subst q;rw[hnl];simp
   ·rcases behind q hoj hfj with⟨hap,_⟩|hl
    ·simp only[apartW,Bool.and_eq_true]at hap
     exact(disj_spec hap.1.2 ht hkey).elim
    ·rw[hl];simp;omega
  -- what it reads in memory,but for the writer of its pair
  have agL:∀(j:Nat) (fj:Option Eff),(i,j)∈W→fs[j]?=some fj→i<j→listed.getD j false=true→∀l,l∈rdH f→hget (heapL (hwS fs) (fun i=>listed.getD i false) 0 h) l=hget ((wrH fj).reverse++heapL (hwS fs) (fun j=>decide (j<i)) 0 h) l:=by
   intro j fj hjW hfj hij hlj l hl;have hwj:(hwS fs)[j]?=some (wrH fj):=by unfold hwS;rw[List.getElem?_map,hfj];rfl
   by_cases hx:∃y∈wrH fj,y.1=l
   ·refine heapL_last l j _ _ 0 h (wrH fj) _ hwj hx (by rw[Nat.zero_add];exact hlj) (fun k W' hjk hk hxk=>?_)
    obtain⟨fk,hfk,rfl⟩:=hwS_get hk;have hkl:k<ops.toList.length:=by have:=(List.getElem?_eq_some_iff.1 hfk).1;omega
    have hok2:ops.toList[k]?=some ops.toList[k]:=List.getElem?_eq_getElem hkl;obtain⟨y,hy,hyt⟩:=hxk;have hkey:l∈(wrH fk).map (·.1):=List.mem_map.2 ⟨y,hy,hyt⟩;rw[Nat.zero_add];rcases behind (by omega) hok2 hfk with⟨_,hap|hap⟩|hll
    ·exact(disj_spec hap hl hkey).elim
    ·have:=uniqW_spec (indW_uniq hind) hjW hap;omega
    ·exact hll
   ·rw[hget_append_none _ _ _ (fun y hy q=>hx ⟨y,by simpa using hy,q⟩)]
    refine heapL_congr l _ _ _ 0 h h rfl (fun k W' hk hxk=>?_);obtain⟨fk,hfk,rfl⟩:=hwS_get hk;have hkl:k<ops.toList.length:=by have:=(List.getElem?_eq_some_iff.1 hfk).1;omega
    have hok2:ops.toList[k]?=some ops.toList[k]:=List.getElem?_eq_getElem hkl;obtain⟨y,hy,hyt⟩:=hxk;have hkey:l∈(wrH fk).map (·.1):=List.mem_map.2 ⟨y,hy,hyt⟩;rw[Nat.zero_add];rcases Nat.lt_trichotomy k i with q|q|q
    ·rcases before q hok2 hfk with hap|hll
     ·simp only[apartW,Bool.and_eq_true]at hap
      exact(disj_spec hap.2 hkey hl).elim
     ·rw[hll];simp[q]
    ·subst q;rw[hnl];simp
    ·rcases behind q hok2 hfk with⟨_,hap|hap⟩|hll
     ·exact(disj_spec hap hl hkey).elim
     ·have ek:=uniqW_spec (indW_uniq hind) hjW hap
      subst ek;rw[hfj]at hfk;cases hfk;exact absurd ⟨y,hy,hyt⟩ hx
     ·rw[hll];simp;omega
  have agH:(∀(j:Nat) (fj:Option Eff),(i,j)∈W→fs[j]?=some fj→i<j→listed.getD j false=false)→∀l,l∈rdH f→hget (heapL (hwS fs) (fun i=>listed.getD i false) 0 h) l=hget (heapL (hwS fs) (fun j=>decide (j<i)) 0 h) l:=by
   intro hno l hl;refine heapL_congr l _ _ _ 0 h h rfl (fun j W' hj hx=>?_);obtain⟨fj,hfj,rfl⟩:=hwS_get hj;have hjl:j<ops.toList.length:=by have:=(List.getElem?_eq_some_iff.1 hfj).1;omega
   have hoj:ops.toList[j]?=some ops.toList[j]:=List.getElem?_eq_getElem hjl;obtain⟨y,hy,hyt⟩:=hx;have hkey:l∈(wrH fj).map (·.1):=List.mem_map.2 ⟨y,hy,hyt⟩;rw[Nat.zero_add];rcases Nat.lt_trichotomy j i with q|q|q
   ·rcases before q hoj hfj with hap|hll
    ·simp only[apartW,Bool.and_eq_true]at hap
     exact(disj_spec hap.2 hkey hl).elim
    ·rw[hll];simp[q]
   ·subst q;rw[hnl];simp
   ·rcases behind q hoj hfj with⟨_,hap|hap⟩|hll
    ·exact(disj_spec hap hl hkey).elim
    ·rw[hno j fj hap hfj q];simp;omega
    ·rw[hll];simp;omega
  have hwrH:∀t,t∈(wrH f).map (·.1)→t∈rdH f:=by
   intro t ht
   cases f with
   |none=>simp[wrH]at ht
   |some f=>simp only[rdH,wrH]at *;exact List.mem_append_right _ ht
  -- the state behind it
  have ewi:(ewS ops.toList fs)[i]?=some (wrE o f):=by unfold ewS;rw[List.getElem?_zipWith,ho',hf']
  have hwi:(hwS fs)[i]?=some (wrH f):=by unfold hwS;rw[List.getElem?_map,hf'];rfl
  have newE:∀t,eget (envL (ewS ops.toList fs) (fun j=>(listed.setIfInBounds i true).getD j false) 0 e) t=eget ((wrE o f).reverse++envL (ewS ops.toList fs) (fun i=>listed.getD i false) 0 e) t:=by
   intro t
   by_cases hx:∃y∈wrE o f,y.1=t
   ·refine envL_last t i _ _ 0 e (wrE o f) _ ewi hx (by simp only[Nat.zero_add,hset];simp) (fun j W hij hj hxj=>?_)
    obtain⟨oj,fj,hoj,hfj,rfl⟩:=ewS_get hj;simp only[Nat.zero_add,hset];rw[if_neg (by omega)];rcases behind hij hoj hfj with⟨hap,_⟩|hl
    ·simp only[apartW,Bool.and_eq_true]at hap
     obtain⟨y,hy,hyt⟩:=hx;obtain⟨z,hz,hzt⟩:=hxj;exact(disj_spec hap.1.1 (List.mem_map.2 ⟨y,hy,hyt⟩) (List.mem_append_right _ (List.mem_map.2 ⟨z,hz,hzt⟩))).elim
    ·exact hl
   ·rw[eget_append_none _ _ _ (fun y hy q=>hx ⟨y,by simpa using hy,q⟩)]
    refine envL_congr t _ _ _ 0 e e rfl (fun j W hj hxj=>?_);simp only[Nat.zero_add,hset];split
    ·rename_i q;subst q;rw[ewi]at hj;cases hj;exact absurd hxj hx
    ·rfl
  have newH:∀t,hget (heapL (hwS fs) (fun j=>(listed.setIfInBounds i true).getD j false) 0 h) t=hget ((wrH f).reverse++heapL (hwS fs) (fun i=>listed.getD i false) 0 h) t:=by
   intro t
   by_cases hx:∃y∈wrH f,y.1=t
   ·refine heapL_last t i _ _ 0 h (wrH f) _ hwi hx (by simp only[Nat.zero_add,hset];simp) (fun j W hij hj hxj=>?_)
    obtain⟨fj,hfj,rfl⟩:=hwS_get hj;have hjl:j<ops.toList.length:=by have:=(List.getElem?_eq_some_iff.1 hfj).1;omega
    have hoj:ops.toList[j]?=some ops.toList[j]:=List.getElem?_eq_getElem hjl;simp only[Nat.zero_add,hset];rw[if_neg (by omega)];rcases behind hij hoj hfj with⟨_,hap|hap⟩|hl
    ·obtain⟨y,hy,hyt⟩:=hx
     obtain⟨z,hz,hzt⟩:=hxj;exact(disj_spec hap (hwrH t (List.mem_map.2 ⟨y,hy,hyt⟩)) (List.mem_map.2 ⟨z,hz,hzt⟩)).elim
    ·obtain⟨y,hy,_⟩:=hx
     rw[(hW i j o f fj hap ho' hf' hfj hij).1]at hy;cases hy
    ·exact hl
   ·rw[hget_append_none _ _ _ (fun y hy q=>hx ⟨y,by simpa using hy,q⟩)]
    refine heapL_congr t _ _ _ 0 h h rfl (fun j W hj hxj=>?_);simp only[Nat.zero_add,hset];split
    ·rename_i q;subst q;rw[hwi]at hj;cases hj;exact absurd hxj hx
    ·rfl
  obtain⟨g,s,hE⟩:=hs
  have hst':StepOK P n ops.toList o (envL (ewS ops.toList fs) (fun i=>listed.getD i false) 0 e) (heapL (hwS fs) (fun i=>listed.getD i false) 0 h) f:=by
   by_cases hq:∃j fj,(i,j)∈W∧fs[j]?=some fj∧i<j∧listed.getD j false=true
   ·obtain⟨j,fj,q1,q2,q3,q4⟩:=hq
    exact((hW i j o f fj q1 ho' hf' q2 q3).2).congr agE (agL j fj q1 q2 q3 q4)
   ·refine hst.congr agE (agH fun j fj q1 q2 q3=>?_)
    cases hl:listed.getD j false with
    |false=>rfl
    |true=>exact absurd ⟨j,fj,q1,q2,q3,hl⟩ hq
  -- the guard
  have hguard:∀b,guardA ops.toList o (envL (ewS ops.toList fs) (fun i=>listed.getD i false) 0 e)=some b→Region.wanted o (yielded ops a.tmps)=b:=by
   intro b hb;unfold guardA at hb
   cases hgd:o.guard with
   |none=>simp[hgd]at hb;subst hb;simp[Region.wanted,hgd]
   |some x=>
    obtain⟨j,want⟩:=x;simp only[hgd]at hb;split at hb
    ·rename_i og hog
     split at hb
     ·rename_i d hd
      split at hb
      ·rename_i b0 hb0
       have hv:=s.env d;rw[hb0]at hv;have hy:=yielded_of (by simpa using hog) hd hv.bool;simp only[Option.some.injEq]at hb;subst hb;simp[Region.wanted,hgd,hy]
      ·rename_i hb0
       have hv:=s.env d;rw[hb0]at hv;have hy:=yielded_none (by simpa using hog) hd hv.isUndef;simp only[Option.some.injEq]at hb;subst hb;simp[Region.wanted,hgd,hy]
      ·cases hb
     ·cases hb
    ·cases hb
  simp only[wpOp,ho]
  cases f with
  |none=>
   simp only[StepOK]at hst';rw[if_neg (by rw[hguard false hst'];simp)];refine ih _ _ _ hls' hf2 hc' ⟨g,?_,hE⟩;simp only[wrH,List.reverse_nil,List.nil_append]at newH
   have s2:Sim g w n (a.put o.dst undef) ((wrE o none).reverse++envL (ewS ops.toList fs) (fun i=>listed.getD i false) 0 e) (heapL (hwS fs) (fun i=>listed.getD i false) 0 h):=by
    cases hdst:o.dst with
    |none=>simp only[wrE,hdst];exact s
    |some d=>simp only[wrE,hdst];exact s.put (okOp_dst (List.all_eq_true.1 hok o (by rw[←Array.getElem?_toList]at ho;exact List.mem_of_getElem? ho)) d hdst) VRel.und0
   exact(s2.envEq newE).heapEq newH
  |some f=>
   obtain⟨hg1,hop⟩:=hst';rw[if_pos (hguard true hg1)]
   left
   refine Oper.wp_monoQ (Oper.wp_mono ?_ (hop _ _ (fun _ _=>rfl) (fun _ _=>rfl) g w a s));rintro a' w' ⟨g',s',hE'⟩;exact ih _ _ _ hls' hf2 hc' ⟨g',(s'.envEq newE).heapEq newH,hE.trans hE'⟩
end
end Go.AM
namespace Go.AM
def codeOK (n:Nat):Code→Bool
 |.region _ ops _=>ops.toList.all (okOp n)
 |.seq a b=>codeOK n a&&codeOK n b
 |.cond _ a b=>codeOK n a&&codeOK n b
 |.block _ c=>codeOK n c
 |.loop c=>codeOK n c
 |_=>true
def AWp (P:Program) (n:Nat) (c:Code) (K:Exit→Env→Heap→Prop) (e:Env) (h:Heap):Prop:=
 ∀g0 w0 g w a,Sim g w n a e h→Ext g0 w0 g w→c.wp P (QOf n K g0 w0) a w
def lpOf (P:Program) (n:Nat) (c:Code) (K:Exit→Env→Heap→Prop) (e:Env) (h:Heap):Prop:=AWp P n (.loop c) K e h
section
variable {P:Program} {ty:Nat→Option TI} {n:Nat}
theorem wk_spec (hty:TyOK P ty) {ops:List Oper} (hok:∀o∈ops,okOp n o=true) {fs:List (Option Eff)} {e e':Env} {h h':Heap} (hp:Path P n ops ops e h fs) (q4:∀i,eget e' i=eget (envL (ewS ops fs) (fun _=>true) 0 e) i) (q5:∀i,hget h' i=hget (heapL (hwS fs) (fun _=>true) 0 h) i):
 ∀{W:List (Nat×Nat)},wkAll ty (pcall P) ops fs e' h' W→∀(i j:Nat) (o:Oper) (f fj:Option Eff),(i,j)∈W→ops[i]?=some o→fs[i]?=some f→fs[j]?=some fj→i<j→wrH f=[]∧StepOK P n ops o (envL (ewS ops fs) (fun k=>decide (k<i)) 0 e) ((wrH fj).reverse++heapL (hwS fs) (fun k=>decide (k<i)) 0 h) f
 | [],_,i,j,_,_,_,hm,_,_,_,_=>by cases hm
 |p::r,hw,i,j,o,f,fj,hm,ho,hf,hfj,hij=>by
  rcases List.mem_cons.1 hm with hm|hm
  ·cases hm
   have hw:=hw.1;simp only[ho,hf,hfj]at hw
   cases f with
   |none=>exact hw.elim
   |some f0=>
    cases fj with
    |none=>exact hw.elim
    |some fj0=>
     obtain⟨hb,ha⟩:=hw;simp only[wkB,Bool.and_eq_true]at hb;obtain⟨⟨_,hemp⟩,hall⟩:=hb;have hemp:f0.hw=[]:=List.isEmpty_iff.1 hemp;have hoko:=hok o (List.mem_of_getElem? ho);obtain⟨f1,rfl,hop⟩:=aop_sound hty (okOp_dst hoko) (okOp_store hoko) (okOp_map hoko) ha
     have key:∀{k:Nat} {ok:Oper} {fk:Option Eff},ops[k]?=some ok→fs[k]?=some fk→¬k<i→disj ((wrE ok fk).map (·.1)) (slotsOf o)=true∧(k=j∨disj ((wrH fk).map (·.1)) (f1.rd.filter fun l=>!(fj0.hw.any fun y=>Nat.beq y.1 l))=true):=by
      intro k ok fk h1 h2 hk
      have z:((ok,fk),k)∈(ops.zip fs).zipIdx:=by
       rw[List.mem_zipIdx_iff_getElem?];simp[List.getElem?_zip_eq_some,h1,h2]
      have:=List.all_eq_true.1 hall _ z;simp only[Bool.or_eq_true,Bool.and_eq_true]at this;rcases this with this|⟨t1,t2⟩
      ·rw[Nat.blt_eq]at this;exact absurd this hk
      ·refine⟨t1,?_⟩
       rcases t2 with t2|t2
       ·exact .inl (Nat.eq_of_beq_eq_true t2)
       ·exact .inr t2
     have hst:=hp.at 0 i o (some f1) ho hf;simp only[Nat.zero_add]at hst;refine⟨hemp,hst.1,fun e2 h2 he2 hh2=>hop e2 h2 (fun t ht=>(he2 t ht).trans ?_) (fun l hl=>(hh2 l hl).trans ?_)⟩
     ·rw[q4 t]
      refine envL_congr t _ _ _ 0 e e rfl (fun k X hk hx=>?_);obtain⟨ok,fk,h1,h2',rfl⟩:=ewS_get hk;rw[Nat.zero_add]
      by_cases hki:k<i
      ·simp[hki]
      ·obtain⟨y,hy,hyt⟩:=hx
       exact(disj_spec (key h1 h2' hki).1 (List.mem_map.2 ⟨y,hy,hyt⟩) ht).elim
     ·rw[hemp,List.map_nil,List.append_nil]at hl
      by_cases hx:∃y∈fj0.hw,y.1=l
      ·obtain⟨y,hy,hyl⟩:=hx
       exact hget_append_some _ _ _ _ ⟨y,by simpa[wrH] using hy,hyl⟩
      ·rw[hget_append_none _ _ _ (fun y hy q=>hx ⟨y,by simpa[wrH] using hy,q⟩),hget_append_none _ _ _ (fun y hy q=>hx ⟨y,by simpa using hy,q⟩),q5 l]
       refine heapL_congr l _ _ _ 0 h h rfl (fun k X hk hxk=>?_);obtain⟨fk,h2',rfl⟩:=hwS_get hk;rw[Nat.zero_add]
       by_cases hki:k<i
       ·simp[hki]
       ·have hlen:k<ops.length∨¬k<ops.length:=Nat.lt_or_ge _ _ |>.imp id (fun q=>by omega)
        rcases hlen with hlen|hlen
        ·rcases (key (List.getElem?_eq_getElem hlen) h2' hki).2 with q|q
         ·subst q
          rw[hfj]at h2';cases h2';exact absurd hxk hx
         ·obtain⟨y,hy,hyl⟩:=hxk
          refine(disj_spec q (List.mem_map.2 ⟨y,hy,hyl⟩) (List.mem_filter.2 ⟨hl,?_⟩)).elim
          cases hq:fj0.hw.any fun y=>Nat.beq y.1 l with
          |false=>rfl
          |true=>
           obtain⟨z,hz,hzl⟩:=List.any_eq_true.1 hq;exact absurd ⟨z,hz,Nat.eq_of_beq_eq_true hzl⟩ hx
        ·have:=hp.len
         have:=(List.getElem?_eq_some_iff.1 h2').1;omega
  ·exact wk_spec hty hok hp q4 q5 hw.2 i j o f fj hm ho hf hfj hij
theorem awp_draw (hty:TyOK P ty) {lp:Code→(Exit→Env→Heap→Prop)→Env→Heap→Prop} {id:Nat} {ops:Array Oper} {K:Exit→Env→Heap→Prop} {e:Env} {h:Heap} (hok':ops.toList.all (okOp n)=true) (hk:awp ty (pcall P) lp (.region id ops true) K e h) {g0 g:Gh} {w0 w:World} {a:Act} (s:Sim g w n a e h) (hE:Ext g0 w0 g w):wpAny P .any ops (QOf n K g0 w0) ops.size (Array.replicate ops.size false) a { w with drawn:=w.drawn+1 }:=by
 obtain⟨fs,e',h',q1,q2,⟨q3,q3'⟩,q4,q5⟩:=aopsR_path (n:=n) hty ops.toList e h [] e h (fun o ho=>List.all_eq_true.1 hok' o ho) hk (fun _=>rfl) (fun _=>rfl);simp only[List.append_nil]at q3;have hz:∀i,(Array.replicate ops.size false).getD i false=false:=fun i=>by simp[Array.getD_eq_getD_getElem?,Array.getElem?_replicate];split<;>rfl
 have hnoneE:∀(ws:List Env) (k:Nat) (e:Env),envL ws (fun _=>false) k e=e:=by
  intro ws;induction ws with
  |nil=>intros;rfl
  |cons W r ih=>intro k e;rw[envL];simp only[Bool.false_eq_true,if_false];exact ih _ _
 have hnoneH:∀(ws:List Heap) (k:Nat) (e:Heap),heapL ws (fun _=>false) k e=e:=by
  intro ws;induction ws with
  |nil=>intros;rfl
  |cons W r ih=>intro k e;rw[heapL];simp only[Bool.false_eq_true,if_false];exact ih _ _
 have hok2:∀o∈ops.toList,okOp n o=true:=fun o ho=>List.all_eq_true.1 hok' o ho
 obtain⟨W,hind,hwk⟩:∃W,indW W ops.toList fs.reverse=true∧∀(i j:Nat) (o:Oper) (f fj:Option Eff),(i,j)∈W→ops.toList[i]?=some o→fs[i]?=some f→fs[j]?=some fj→i<j→wrH f=[]∧StepOK P n ops.toList o (envL (ewS ops.toList fs) (fun k=>decide (k<i)) 0 e) ((wrH fj).reverse++heapL (hwS fs) (fun k=>decide (k<i)) 0 h) f:=by
  rcases q3 with q3|⟨W,r1,r2⟩
  ·exact⟨[],indB_W q3,fun _ _ _ _ _ q=>by cases q⟩
  ·rw[List.reverse_reverse]at r2
   exact⟨W,r1,wk_spec hty hok2 q1 q4 q5 r2⟩
 refine region_anyW hok' q1 q2 hind hwk (g0:=g0) (w0:=w0) (K:=K) (fun e2 h2 r1 r2=>⟨e',h',q3',fun i=>(q4 i).trans (r1 i).symm,fun i=>(q5 i).trans (r2 i).symm⟩) ops.size _ a _ (by simp) ?_ ?_ ⟨g,?_,hE.trans Ext.drew⟩
 ·unfold unl;simpa using List.length_filter_le (fun i=>!(Array.replicate ops.size false).getD i false) (List.range ops.size)
 ·intro j o ho hj;simp only[hz]at hj;cases hj
 ·simp only[hz,hnoneE,hnoneH];exact s.drew
theorem awp_sound (hty:TyOK P ty) (hmix:P.follows .mixedOrders=true):∀(c:Code) (K:Exit→Env→Heap→Prop) (e:Env) (h:Heap),codeOK n c=true→awp ty (pcall P) (lpOf P n) c K e h→AWp P n c K e h
 |.skip,K,e,h,_,hk=>fun g0 w0 g w a s hE=>wp_skip ⟨g,e,h,hk,s,hE⟩
 |.region id ops false,K,e,h,hok,hk=>fun g0 w0 g w a s hE=>by
  refine wp_region ?_;rw[List.range_eq_range'];have:=aops_sound hty (by simpa[codeOK] using hok) ops.toList 0 e h g w a (fun j=>by simp) hk s hE;simpa using this
 |.region id ops true,K,e,h,hok,hk=>fun g0 w0 g w a s hE=>wp_region_any hmix (awp_draw hty (by simpa[codeOK] using hok) hk s hE)
 |.seq x y,K,e,h,hok,hk=>fun g0 w0 g w a s hE=>by
  have hok:codeOK n x=true∧codeOK n y=true:=by simpa[codeOK] using hok
  refine wp_seq (wp_mono (awp_sound hty hmix x _ e h hok.1 hk g0 w0 g w a s hE) ?_);rintro ex a' w' ⟨g',e',h',hk',s',hE'⟩
  cases ex with
  |normal=>exact awp_sound hty hmix y K e' h' hok.2 hk' g0 w0 g' w' a' s' hE'
  |_=>exact⟨g',e',h',hk',s',hE'⟩
 |.cond c x y,K,e,h,hok,hk=>fun g0 w0 g w a s hE=>by
  have hok:codeOK n x=true∧codeOK n y=true:=by simpa[codeOK] using hok
  have hk:(match Go.AM.ev e c with|.p (.b g)=>ASplit g (awp ty (pcall P) (lpOf P n) x K e h) (awp ty (pcall P) (lpOf P n) y K e h)|_=>AStuck "cond"):=hk;split at hk
  ·rename_i b hb
   obtain⟨_,r⟩:=s.ev c;rw[hb]at r;refine wp_cond r.bool ?_
   cases b with
   |true=>exact awp_sound hty hmix x K e h hok.1 hk g0 w0 g w a s hE
   |false=>exact awp_sound hty hmix y K e h hok.2 hk g0 w0 g w a s hE
  ·exact hk.elim
 |.block id c,K,e,h,hok,hk=>fun g0 w0 g w a s hE=>by
  refine wp_block (wp_mono (awp_sound hty hmix c _ e h (by simpa[codeOK] using hok) hk g0 w0 g w a s hE) ?_);rintro ex a' w' ⟨g',e',h',hk',s',hE'⟩
  cases ex with
  |exit i=>
   simp only[Exit.inBlock]
   by_cases q:i=id
   ·subst q
    rw[if_pos rfl];simp only[beq_self]at hk';exact⟨g',e',h',hk',s',hE'⟩
   ·rw[if_neg q]
    simp only[beq_false q]at hk';exact⟨g',e',h',hk',s',hE'⟩
  |_=>exact⟨g',e',h',hk',s',hE'⟩
 |.exit id,K,e,h,_,hk=>fun g0 w0 g w a s hE=>wp_exit ⟨g,e,h,hk,s,hE⟩
 |.ret,K,e,h,_,hk=>fun g0 w0 g w a s hE=>wp_ret ⟨g,e,h,hk,s,hE⟩
 |.loop c,K,e,h,_,hk=>hk
 |.rangeFunc ..,K,e,h,_,hk=>hk.elim
 |.scope _,K,e,h,_,hk=>hk.elim
 |.label _,K,e,h,_,hk=>hk.elim
 |.goto _,K,e,h,_,hk=>hk.elim
 |.refuse _,K,e,h,_,hk=>hk.elim
theorem least_of (p:Nat→Prop) (h:∃m,p m):∃m,p m∧∀k,p k→m≤k:=by
 obtain⟨m,hm⟩:=h
 induction m using Nat.strongRecOn with
 |_ m ih=>
  by_cases hx:∃k,k<m∧p k
  ·obtain⟨k,hk,hpk⟩:=hx;exact ih k hk hpk
  ·refine⟨m,hm,fun k hk=>?_⟩
   rcases Nat.lt_or_ge k m with q|q
   ·exact absurd ⟨k,q,hk⟩ hx
   ·exact q
theorem AWp.loop {c:Code} {K:Exit→Env→Heap→Prop} (Inv:Nat→Env→Heap→Prop) {m:Nat} {e:Env} {h:Heap} (h0:Inv m e h)
 (round:∀m e h,Inv m e h→AWp P n c (fun x e' h'=>match x with|.normal=>∃m',m'<m∧Inv m' e' h'|x=>K x e' h') e h):AWp P n (.loop c) K e h:=by
 intro g0 w0 g w a s hE
 let p:Act→World→Nat→Prop:=fun a w m=>∃g e h,Inv m e h∧Sim g w n a e h∧Ext g0 w0 g w
 have mu:∃μ:Act→World→Nat,∀a w,(∃m,p a w m)→p a w (μ a w)∧∀k,p a w k→μ a w≤k:=by
  exact⟨fun a w=>Classical.epsilon (fun m=>p a w m∧∀k,p a w k→m≤k),fun a w hx=>Classical.epsilon_spec (least_of _ hx)⟩
 obtain⟨μ,hμ⟩:=mu;refine wp_loop (fun a w=>∃m,p a w m) μ ⟨m,g,e,h,h0,s,hE⟩ (fun a w hx=>?_);obtain⟨⟨g1,e1,h1,hi,s1,hE1⟩,_⟩:=hμ a w hx;refine wp_mono (round _ e1 h1 hi g0 w0 g1 w a s1 hE1) ?_;rintro ex a' w' ⟨g',e',h',hk',s',hE'⟩
 cases ex with
 |normal=>
  obtain⟨m',hlt,hi'⟩:=hk';have hp:p a' w' m':=⟨g',e',h',hi',s',hE'⟩
  exact⟨⟨m',hp⟩,Nat.lt_of_le_of_lt ((hμ a' w' ⟨m',hp⟩).2 m' hp) hlt⟩
 |_=>exact⟨g',e',h',hk',s',hE'⟩
end
def withinObjs (d:Nat→Bool):List AObj→Bool
 | []=>true
 |o::r=>o.within d&&withinObjs d r
theorem eget_zip:∀(lv:List Nat) (f:Nat→AV) (i:Nat),eget (lv.zip (lv.map f)) i=f i∨eget (lv.zip (lv.map f)) i=.top
 | [],f,i=>.inr rfl
 |x::r,f,i=>by
  simp only[List.map_cons,List.zip_cons_cons]
  by_cases q:x=i
  ·subst q;rw[eget_self];exact .inl rfl
  ·rw[eget_ne q];exact eget_zip r f i
theorem eget_zip_mem:∀(lv:List Nat) (vals:List AV) (i:Nat),eget (lv.zip vals) i=.top∨∃j:Nat,vals[j]?=some (eget (lv.zip vals) i)
 | [],vals,i=>.inl rfl
 |x::r,[],i=>.inl rfl
 |x::r,v::vals,i=>by
  simp only[List.zip_cons_cons]
  by_cases q:x=i
  ·subst q;rw[eget_self];exact .inr ⟨0,rfl⟩
  ·rw[eget_ne q]
   rcases eget_zip_mem r vals i with h|⟨j,hj⟩
   ·exact .inl h
   ·exact .inr ⟨j+1,by simpa using hj⟩
theorem hget_zip:∀(ll:List Nat) (h:Heap) (objs:List AObj),ll.map (hget h)=objs.map some→(∀l o,hget (ll.zip objs) l=some o→hget h l=some o∧∃j:Nat,objs[j]?=some o)∧∀l,l∈ll→(hget (ll.zip objs) l).isSome=true
 | [],h,[],_=>⟨fun l o q=>by simp[hget]at q,fun l hl=>by cases hl⟩
 | [],h,_::_,hh=>by simp at hh
 |x::r,h,[],hh=>by simp at hh
 |x::r,h,o::objs,hh=>by
  simp only[List.map_cons,List.cons.injEq]at hh;obtain⟨k1,k2⟩:=hget_zip r h objs hh.2;simp only[List.zip_cons_cons];refine⟨fun l o' q=>?_,fun l hl=>?_⟩
  ·by_cases e1:x=l
   ·subst e1;rw[hget_self]at q;cases q;exact⟨hh.1,0,rfl⟩
   ·rw[hget_ne e1]at q
    obtain⟨q1,j,q2⟩:=k1 l o' q;exact⟨q1,j+1,by simpa using q2⟩
  ·by_cases e1:x=l
   ·subst e1;rw[hget_self];rfl
   ·rw[hget_ne e1]
    rcases List.mem_cons.1 hl with rfl|hl
    ·exact absurd rfl e1
    ·exact k2 l hl
theorem withinObjs_get (d:Nat→Bool):∀(xs:List AObj),withinObjs d xs=true→∀(j:Nat) (x:AObj),xs[j]?=some x→x.within d=true
 | [],_,j,x,hx=>by simp at hx
 |y::r,h,j,x,hx=>by
  simp only[withinObjs,Bool.and_eq_true]at h
  cases j with
  |zero=>simp at hx;subst hx;exact h.1
  |succ j=>simp at hx;exact withinObjs_get d r h.2 j x hx
section
variable {P:Program} {ty:Nat→Option TI} {n:Nat}
theorem Sim.mask {g:Gh} {w:World} {a:Act} {e:Env} {h:Heap} (s:Sim g w n a e h) {lv ll:List Nat} {objs:List AObj} (ho:ll.map (hget h)=objs.map some) (h1:AV.withins (memB ll) (lv.map (eget e))=true) (h2:withinObjs (memB ll) objs=true):
 Sim g w n a (lv.zip (lv.map (eget e))) (ll.zip objs):=by
 obtain⟨k1,k2⟩:=hget_zip ll h objs ho;have hd:∀l,memB ll l=true→domOf (ll.zip objs) l:=fun l hl=>k2 l (memB_mem ll l hl);refine⟨s.defers,s.size,fun i=>?_,⟨fun l o hl=>?_,fun l o hl=>s.heap.own l o (k1 l o hl).1,fun l o hl=>s.heap.pre l o (k1 l o hl).1⟩,s.bnd⟩
 ·rcases eget_zip lv (eget e) i with q|q
  ·rcases eget_zip_mem lv (lv.map (eget e)) i with q'|⟨j,hj⟩
   ·rw[q'];exact .top _ _
   ·rw[q]at hj ⊢
    exact(s.env i).within hd (withins_get _ _ h1 j _ hj)
  ·rw[q];exact .top _ _
 ·obtain⟨q1,j,q2⟩:=k1 l o hl
  have hw:=withinObjs_get _ _ h2 j o q2
  cases s.heap.obj l o q1 with
  |cells cs vs E hb hlen hx' h1'=>exact .cells cs vs E hb hlen (fun j v c r1 r2=>(hx' j v c r1 r2).within hd (withins_get _ cs (by simpa[AObj.within] using hw) j c r2)) h1'
  |arr xs vs E hb hlen hx' h1'=>exact .arr xs vs E hb hlen hx' h1'
  |store T3 o3 sp3 nx3 z3 M3 hst=>exact .store T3 o3 sp3 nx3 z3 M3 hst
  |glob gb gvs hgl=>exact .glob gb gvs hgl
def loadRes (ty:Nat→Option TI) (e:Env) (h:Heap) (a t:Nat):Option AV:=match ty t with
 |some i=>match eget e a with
  |.ptr l off=>match hget h l with
   |some (.cells cs)=>match isAggD i.desc with
    |true=>match getAt cs off i.size with|some l1=>some (mkAgg l1 i.csz)|none=>none
    |false=>match cs[off]? with|some v=>some v.copy|none=>none
   |_=>none
  |_=>none
 |none=>none
def resTup (ty:Nat→Option TI) (e:Env) (h:Heap):List ResultVar→List Nat→Option (List AV)
 | [],_=>some []
 |.tmp t::r,ts=>match resTup ty e h r ts.tail with
  |some l=>some ((match eget e t with
   |.nilS=>.p (.sl (elemSz ty (headD ts)) [])
   |.so sz xs=>.p (.sl sz xs)
   |.agg cs=>aggTy ty (headD ts) cs
   |v=>v)::l)
  |none=>none
 |.cell a t::r,ts=>match resTup ty e h r ts.tail,loadRes ty e h a t with
  |some l,some v=>some (v::l)
  |_,_=>none
def resOf (ty:Nat→Option TI) (rs:List ResultVar) (ts:List Nat) (e:Env) (h:Heap):Option AV:=match rs with
 | [.tmp t]=>match eget e t with
   |.nilS=>match elemSz ty (headD ts) with
    |0=>none
    |k+1=>some (.so (k+1) [])
   |.agg cs=>some (aggTy ty (headD ts) cs)
   |v=>some v
 | [.cell a t]=>loadRes ty e h a t
 |rs=>match resTup ty e h rs ts with|some l=>some (.tup l)|none=>none
def okRes:AV→Bool
 |.so _ _=>true
 |v=>v.free
def RetOK (v r:AV):Prop:=v=r∨v.copy=r
def RetAr (h:Heap) (v r:AV):Prop:=∃l xs,v=.ar l∧hget h l=some (.arr xs)∧r=.p (.sl 1 xs)
def RetOKB (h:Heap) (v r:AV):Prop:=v=r∨v.copy=r∨RetAr h v r
def retK (ty:Nat→Option TI) (rs:List ResultVar) (ts:List Nat) (r:AV):Exit→Env→Heap→Prop:=fun x e h=>match x with
 |.ret=>(match resOf ty rs ts e h with|some v=>RetOKB h v r|none=>False)
 |.normal=>(match resOf ty rs ts e h with|some v=>RetOKB h v r|none=>False)
 |_=>False
def argEnv:Nat→List AV→Env
 |_,[]=>[]
 |k,v::r=>(k,v)::argEnv (k+1) r
theorem VRel.fromNone {g:Gh} {w:World} {dom:Nat→Prop} {ow:Option Owner} {v:Value} {x:AV} (r:VRel g w dom none v x):VRel g w dom ow v x:=by
 cases x with
 |so sz xs=>cases r with
  |full _ a _ _ hz h=>exact .full _ a sz xs hz h
 |_=>exact r.anyOwner (fun _ _ q=>by cases q)
theorem argEnv_get:∀(k:Nat) (args:List AV) (i:Nat),(i<k∧eget (argEnv k args) i=.top)∨(k≤i∧eget (argEnv k args) i=(args[i-k]?).getD .top)
 |k,[],i=>by
  rcases Nat.lt_or_ge i k with h|h
  ·exact .inl ⟨h,rfl⟩
  ·exact .inr ⟨h,by simp[argEnv,eget]⟩
 |k,v::r,i=>by
  rw[argEnv]
  by_cases q:k=i
  ·subst q;right;exact⟨Nat.le_refl _,by rw[eget_self];simp⟩
  ·rw[eget_ne q]
   rcases argEnv_get (k+1) r i with⟨h1,h2⟩|⟨h1,h2⟩
   ·exact .inl ⟨by omega,h2⟩
   ·exact .inr ⟨by omega,by rw[h2,show i-k=(i-(k+1))+1 by omega];simp⟩
def resSem (tmps:Array Value):ResultVar→Sem Value
 |.tmp t=>pure (tmps.getD t undef)
 |.cell a t=>do loadVar t (←asAddr (tmps.getD a undef))
theorem copy_noSo (x:AV) (sz:Nat) (xs:List PV):x.copy≠.so sz xs:=by cases x<;>simp[AV.copy]
theorem mkAgg_noSo (cs:List AV) (z:List Nat) (sz:Nat) (xs:List PV):mkAgg cs z≠.so sz xs:=by
 unfold mkAgg;split<;>simp
theorem loadRes_rel (hty:TyOK P ty) {g:Gh} {w:World} {a:Act} {e:Env} {h:Heap} (s:Sim g w n a e h) {b t:Nat} {x:AV} (hx:loadRes ty e h b t=some x):
 ∃v,(resSem a.tmps (.cell b t)).run P w=.ok v w∧VRel g w (domOf h) none v x∧∀sz xs,x≠.so sz xs:=by
 unfold loadRes at hx;split at hx
 ·rename_i i hi
  split at hx
  ·rename_i l off hp
   split at hx
   ·rename_i cs hl
    have hv:=s.env b;rw[hp]at hv;generalize hvv:a.tmps.getD b undef=v0 at hv
    cases hv with
    |ptr _ _ _ hd=>
     cases s.heap.obj l _ hl with
     |cells _ vs E hb hlen hxx h1=>
      have hcell:∀k,w.cell? ⟨g.ρ l,k,none⟩=vs[k]?:=fun k=>cell?_of hb k
      have e0:∀u,(Instr.loadAt t (.pointer (some ⟨g.ρ l,off,none⟩))).run P w=.ok u w→(resSem a.tmps (.cell b t)).run P w=.ok u w:=by
       intro u hu;simpa[resSem,hvv,Instr.loadAt,Instr.sureAddr,asAddr] using hu
      split at hx
      ·rename_i hag
       split at hx
       ·rename_i l1 hl1
        cases hx;obtain⟨k1,k2⟩:=getAt_spec _ _ _ _ hl1
        have hle:i.size=0∨off+i.size≤vs.size:=by
         rcases Nat.eq_zero_or_pos i.size with h0|h0
         ·exact .inl h0
         ·right
          have:=k2 (i.size-1) (by omega)
          have hlt:off+(i.size-1)<cs.length:=by
           rcases Nat.lt_or_ge (off+(i.size-1)) cs.length with h2|h2
           ·exact h2
           ·rw[List.getElem?_eq_none h2,List.getElem?_eq_none_iff]at this;omega
          omega
        have hll:((vs.toList.drop off).take i.size).length=i.size:=by simp;omega
        have hget:∀(j:Nat) (v:Value),((vs.toList.drop off).take i.size)[j]?=some v→j<i.size∧vs[off+j]?=some v:=by
         intro j v hj;have hji:j<i.size:=by have:=(List.getElem?_eq_some_iff.1 hj).1;omega
         rw[List.getElem?_take,if_pos hji,List.getElem?_drop]at hj;exact⟨hji,by simpa using hj⟩
        refine⟨.agg ((vs.toList.drop off).take i.size).toArray,e0 _ ?_,mkAgg_rel _ _ _ (hll.trans k1.symm) (fun v hv=>h1 v (List.mem_of_mem_drop (List.mem_of_mem_take hv))) fun j v c hj hc=>?_,mkAgg_noSo _ _⟩
        ·exact run_loadAt hty hi rfl _ hll (fun j v hj=>by rw[cell?_of hb];exact(hget j v hj).2) hag
        ·obtain⟨hji,hj'⟩:=hget j v hj
         rw[k2 j hji]at hc;exact⟨_,hxx _ _ _ hj' hc⟩
       ·cases hx
      ·rename_i hag
       split at hx
       ·rename_i c hc
        cases hx;have hlt:off<vs.size:=by rw[hlen];exact(List.getElem?_eq_some_iff.1 hc).1
        have hv:vs[off]?=some vs[off]:=Array.getElem?_eq_getElem hlt;exact⟨vs[off],e0 _ (run_loadAt1 hty hi rfl hag (by rw[cell?_of hb];exact hv)),(hxx off _ c hv hc).copy,copy_noSo c⟩
       ·cases hx
   ·cases hx
  ·cases hx
 ·cases hx
theorem resTup_rel (hty:TyOK P ty) {g:Gh} {w:World} {a:Act} {e:Env} {h:Heap} (s:Sim g w n a e h):∀(rs:List ResultVar) (ts:List Nat) (l:List AV),resTup ty e h rs ts=some l→
 ∃vs:List Value,(rs.mapM (resSem a.tmps)).run P w=.ok vs w∧vs.length=l.length∧l.length=rs.length∧∀(j:Nat) (v:Value) (c:AV),vs[j]?=some v→l[j]?=some c→VRel g w (domOf h) none v c
 | [],ts,l,hl=>by
   simp[resTup]at hl;subst hl;exact⟨[],by simp,rfl,rfl,by simp⟩
 |.tmp t::r,ts,l,hl=>by
  simp only[resTup]at hl;split at hl
  ·rename_i l1 hl1
   cases hl;obtain⟨vs,h1,h2,h2',h3⟩:=resTup_rel hty s r ts.tail l1 hl1;refine⟨a.tmps.getD t undef::vs,by simp only[List.mapM_cons,Sem.run_bind,resSem,Sem.run_pure,Result.andThen_ok,h1],by simp[h2],by simp[h2'],fun j v c hv hc=>?_⟩
   cases j with
   |zero=>
    simp only[List.getElem?_cons_zero,Option.some.injEq]at hv hc;subst hv;subst hc;have:=s.env t;split
    ·rename_i hq
     rw[hq]at this;generalize a.tmps.getD t undef=v at this
     cases this with
     |nilS=>exact .p _ _ _ (.nil _)
    ·rename_i sz xs hq;rw[hq]at this;exact this.copy
    ·rename_i cs hq;rw[hq]at this;exact aggTy_rel _ (this.anyOwner (fun _ _ q=>by cases q))
    ·rename_i hq1 hq2 hq3;exact this.anyOwner (fun sz xs q=>hq2 sz xs q)
   |succ j=>simp only[List.getElem?_cons_succ]at hv hc;exact h3 j v c hv hc
  ·cases hl
 |.cell b t::r,ts,l,hl=>by
  simp only[resTup]at hl;split at hl
  ·rename_i l1 x hl1 hx
   cases hl;obtain⟨vs,h1,h2,h2',h3⟩:=resTup_rel hty s r ts.tail l1 hl1;obtain⟨v0,q1,q2,_⟩:=loadRes_rel (P:=P) hty s hx;refine⟨v0::vs,by simp only[List.mapM_cons,Sem.run_bind,q1,Sem.run_pure,Result.andThen_ok,h1],by simp[h2],by simp[h2'],fun j v c hv hc=>?_⟩
   cases j with
   |zero=>
    simp only[List.getElem?_cons_zero,Option.some.injEq]at hv hc;subst hv;subst hc;exact q2
   |succ j=>simp only[List.getElem?_cons_succ]at hv hc;exact h3 j v c hv hc
  ·cases hl
theorem resOf_rel (hty:TyOK P ty) {fn:Func} {g:Gh} {w:World} {a:Act} {e:Env} {h:Heap} (s:Sim g w n a e h) {x:AV} (hx:resOf ty fn.results.toList fn.resultTypes.toList e h=some x):
 ∃v,(results fn a.tmps).run P w=.ok v w∧∃t,VRel g w (domOf h) (some (.slot t)) v x:=by
 unfold resOf at hx;split at hx
 ·rename_i t hrs
  have hres:fn.results=#[.tmp t]:=by apply Array.ext';rw[hrs]
  have hrun:(results fn a.tmps).run P w=.ok (a.tmps.getD t undef) w:=by simp[results,hres]
  have he:=s.env t;refine⟨_,hrun,t,?_⟩;split at hx
  ·rename_i hn
   rw[hn]at he;split at hx
   ·cases hx
   ·rename_i k hk
    cases hx;generalize a.tmps.getD t undef=u at he
    cases he with
    |nilS=>exact .full _ none (k+1) [] (by omega) (.nil _)
  ·rename_i cs hn;rw[hn]at he;cases hx;exact aggTy_rel _ he
  ·cases hx;exact he
 ·rename_i b t hrs
  have hres:fn.results=#[.cell b t]:=by apply Array.ext';rw[hrs]
  obtain⟨v,q1,q2,q3⟩:=loadRes_rel (P:=P) hty s hx;refine⟨v,?_,0,q2.fromNone⟩
  have e1:results fn a.tmps=(do let vs ←fn.results.mapM (resSem a.tmps);pure (if h:vs.size=1 then vs[0] else .tuple vs)):=by
   unfold results
   congr 2
  rw[e1,Sem.run_bind,hres,Array.mapM_eq_mapM_toList,Sem.run_map];simp[q1]
 ·rename_i hne1 hne2
  split at hx
  ·rename_i l hl
   cases hx;obtain⟨us,k1,k2,k3,k4⟩:=resTup_rel (P:=P) hty s _ _ _ hl
   have hlen1:us.length≠1:=by
    intro q;have h1:fn.results.toList.length=1:=by omega
    match hrs:fn.results.toList,h1 with
    | [.tmp t],_=>exact hne1 t hrs
    | [.cell b t],_=>exact hne2 b t hrs
   refine⟨.tuple us.toArray,?_,0,.tup _ us l k2 k4⟩
   have e1:results fn a.tmps=(do let vs ←fn.results.mapM (resSem a.tmps);pure (if h:vs.size=1 then vs[0] else .tuple vs)):=by
    unfold results
    congr 2
   rw[e1,Sem.run_bind,Array.mapM_eq_mapM_toList,Sem.run_map,k1];simp[hlen1]
  ·cases hx
theorem okRes_rel {g g1:Gh} {w w1:World} {h1:Heap} {t:Nat} {v:Value} {r:AV} (hno:∀b,g.own b=none) (hE:Ext g w g1 w1) (hr:okRes r=true) (hv:VRel g1 w1 (domOf h1) (some (.slot t)) v r):
 ∃g',VRel g' w1 (fun _=>False) (some .ret) v r∧Ext g w g' w1:=by
 have ext:∀own':Nat→Option Owner,(∀b,b<w.heap.size→own' b=none)→Ext g w { g1 with own:=own' } w1:=fun own' ho=>
  ⟨hE.size,hE.os,hE.out,hE.imm,fun b hb hn=>⟨(hE.kept b hb hn).1,(hE.kept b hb hn).2.1,ho b hb⟩,hE.frz,hE.frz',hE.ρk,hE.siz⟩
 cases r with
 |so sz xs=>
  cases hv with
  |full _ a _ _ hz hp=>exact⟨{ g1 with own:=fun _=>none },.full _ a sz xs hz hp,ext _ (fun _ _=>rfl)⟩
  |own _ a cap _ _ cs E hz hp ho hpre hb hs=>
   have hge:¬a.block<w.heap.size:=fun hlt=>by rw[(hE.kept _ hlt (hno _)).2.2]at ho;cases ho
   refine⟨{ g1 with own:=fun b=>if b=a.block then some .ret else none },.own .ret a cap sz xs cs E hz hp (by simp) hpre hb hs,ext _ (fun b hb=>?_)⟩;have:b≠a.block:=fun q=>hge (by omega);simp[this]
 |_=>exact⟨{ g1 with own:=fun _=>none },hv.toFree (by simpa[okRes] using hr) _ _,ext _ (fun _ _=>rfl)⟩
theorem Sim.start {fn:Func} {g:Gh} {w:World} {vs:List Value} {args:List AV} {hs:Heap} (hlen:args.length≤fn.ntmps) (hH:HRel g w hs) (hbn:∀b ow,g.own b=some ow→b<w.heap.size) (hl:vs.length=args.length)
 (hrel:∀(j:Nat) (v:Value) (x:AV),vs[j]?=some v→args[j]?=some x→VRel g w (domOf hs) none v x):
 Sim g w fn.ntmps { tmps:=vs.toArray++Array.replicate (fn.ntmps-vs.toArray.size) undef,defers:=[] } (argEnv 0 args) hs:=by
 refine⟨rfl,by simp;omega,fun i=>?_,hH,hbn⟩;rcases argEnv_get 0 args i with⟨h1,_⟩|⟨_,h2⟩
 ·omega
 ·rw[h2,Nat.sub_zero]
  by_cases hi:i<args.length
  ·have hvi:vs[i]?=some vs[i]:=List.getElem?_eq_getElem (by omega)
   have hai:args[i]?=some args[i]:=List.getElem?_eq_getElem hi
   have hg:(vs.toArray++Array.replicate (fn.ntmps-vs.toArray.size) undef).getD i undef=vs[i]:=by
    rw[Array.getD_eq_getD_getElem?,Array.getElem?_append_left (by simp;omega),List.getElem?_toArray,hvi];rfl
   rw[hai,hg];exact(hrel i _ _ hvi hai).fromNone
  ·rw[List.getElem?_eq_none (by omega)];exact .top _ _
theorem APure.intro (hty:TyOK P ty) (hmix:P.follows .mixedOrders=true) {f:Nat} {fn:Func} {c:Code} {args:List AV} {r:AV} (hf:P.funcs[f]?=some fn) (hb:fn.body=some c) (hname:(fn.name== "runtime.NumGoroutine")=false)
 (hok:codeOK fn.ntmps c=true) (hlen:args.length≤fn.ntmps) (hr:okRes r=true)
 (hk:awp ty (pcall P) (lpOf P fn.ntmps) c (retK ty fn.results.toList fn.resultTypes.toList r) (argEnv 0 args) []):APure P f args r:=by
 refine⟨⟨fn,c,hf,hb,hname⟩,fun g w vs hno hsw hl hrel=>?_⟩
 have s0:=Sim.start (fn:=fn) (hs:=[]) hlen (g:=g) (w:=w) ⟨fun l o q=>by simp[hget]at q,fun l o q=>by simp[hget]at q,fun l o q=>by simp[hget]at q⟩ (fun b o q=>by rw[hno b]at q;cases q) hl
  (fun j v x q1 q2=>(hrel j v x q1 q2).domUp (fun _ q=>q.elim))
 refine calls_of_wp hf hb (wp_mono (awp_sound hty hmix c _ _ _ hok hk g w g w _ s0 (Ext.refl _ _)) ?_);rintro ex a' w' ⟨g1,e1,h1,hk1,s1,hE1⟩
 have fin:(match resOf ty fn.results.toList fn.resultTypes.toList e1 h1 with|some v=>RetOKB h1 v r|none=>False)→a'.defers=[]∧∃v,(results fn a'.tmps).run P w'=.ok v w'∧(∃v1 g',Ending.returned v=.returned v1∧VRel g' w' (fun _=>False) (some .ret) v1 r∧Ext g w g' w'):=by
  intro hq;refine⟨s1.defers,?_⟩;split at hq
  ·rename_i x hx
   obtain⟨v,hrun,t,hv⟩:=resOf_rel (P:=P) hty s1 hx;refine⟨v,hrun,?_⟩;rcases hq with rfl|rfl|⟨l,xs,rfl,hh,rfl⟩
   ·obtain⟨g',q1,q2⟩:=okRes_rel hno hE1 hr hv;exact⟨v,g',rfl,q1,q2⟩
   ·obtain⟨g',q1,q2⟩:=okRes_rel hno hE1 hr (t:=t) hv.copy;exact⟨v,g',rfl,q1,q2⟩
   ·refine⟨v,g1.lay w',rfl,.p _ _ _ (by cases hv with|ar _ _ m hdm hn=>exact arr_show s1.heap hh hn),hE1.size,hE1.os,hE1.out,fun b k u hu=>imm_show (hE1.imm b k u hu),fun b hb hn=>⟨(hE1.kept b hb hn).1,?_,rfl⟩,⟨hE1.frz.1,funext fun q=>(hsw q).symm,hE1.frz.2.2⟩,hE1.frz',hE1.ρk,hE1.siz⟩
    show layPre g1 w' b=g.pre b;unfold layPre;rw[(hE1.kept b hb hn).2.2];exact(hE1.kept b hb hn).2.1
  ·exact hq.elim
 cases ex with
 |normal=>exact fin hk1
 |ret=>exact fin hk1
 |_=>exact hk1.elim
def AVLe (x y:AV):Prop:=x=y∨x.copy=y∨(x=.nilS∧∃sz,y=.so (sz+1) [])
def CLe:List AV→List AV→Prop
 | [],[]=>True
 |x::r,y::r'=>AVLe x y∧CLe r r'
 |_,_=>False
def ObLe:AObj→AObj→Prop
 |.cells cs,.cells cs'=>CLe cs cs'
 |.arr xs,.arr ys=>xs=ys
 |.glob b vs,.glob b' vs'=>b=b'∧vs=vs'
 |.store T o sp nx z M,.store T' o' sp' nx' z' M'=>T=T'∧o=o'∧sp=sp'∧nx=nx'∧z=z'∧M=M'
 |_,_=>False
theorem ObLe.solid {x y:AObj} (h:ObLe x y) (hy:y.solid=true):x.solid=true:=by
 cases x<;>cases y<;>first|rfl|(cases hy;done)|exact h.elim|skip
def heapOK (h:Heap):Heap→Prop
 | []=>True
 |(l,ob)::r=>(match hget h l with|some ob0=>ObLe ob0 ob|none=>False)∧heapOK h r
def objsIn (d:Nat→Bool):Heap→Bool
 | []=>true
 |(_,ob)::r=>ob.within d&&objsIn d r
theorem VRel.le {g:Gh} {w:World} {dom:Nat→Prop} {ow:Option Owner} {v:Value} {x y:AV} (r:VRel g w dom ow v x) (hl:AVLe x y):VRel g w dom ow v y:=by
 rcases hl with rfl|rfl|⟨rfl,sz,rfl⟩
 ·exact r
 ·exact r.copy
 ·cases r;exact .full _ none (sz+1) [] (by omega) (.nil _)
theorem CLe.get:∀(cs cs':List AV),CLe cs cs'→cs.length=cs'.length∧∀(j:Nat) (y:AV),cs'[j]?=some y→∃x,cs[j]?=some x∧AVLe x y
 | [],[],_=>⟨rfl,by simp⟩
 |x::r,y::r',h=>by
  obtain⟨k1,k2⟩:=CLe.get r r' h.2;refine⟨by simp[k1],fun j z hz=>?_⟩
  cases j with
  |zero=>simp at hz;subst hz;exact⟨x,rfl,h.1⟩
  |succ j=>simp at hz;obtain⟨x',q1,q2⟩:=k2 j z hz;exact⟨x',by simpa using q1,q2⟩
 | [],_::_,h=>h.elim
 |_::_,[],h=>h.elim
theorem ORel.le {g:Gh} {w:World} {dom:Nat→Prop} {l:Nat} {x y:AObj} (r:ORel g w dom l x) (hl:ObLe x y):ORel g w dom l y:=by
 cases y with
 |glob gb gvs=>
  cases r with
  |glob b vs h=>obtain⟨rfl,rfl⟩:=hl;exact .glob _ _ h
  |_=>exact hl.elim
 |store T0 o0 sp0 nx0 z0 M0=>
  cases r with
  |store _ _ _ _ _ _ h=>obtain⟨rfl,rfl,rfl,rfl,rfl,rfl⟩:=hl;exact .store _ _ _ _ _ _ h
  |_=>exact hl.elim
 |cells cs'=>
  cases r with
  |cells cs vs E hb hlen hx h1=>
   obtain⟨k1,k2⟩:=CLe.get cs cs' hl;refine .cells cs' vs E hb (by omega) (fun j v c q1 q2=>?_) h1;obtain⟨x',q3,q4⟩:=k2 j c q2;exact(hx j v x' q1 q3).le q4
  |_=>exact hl.elim
 |arr _=>
  cases r with
  |arr xs vs E hb hlen hx h1=>cases hl;exact .arr _ vs E hb hlen hx h1
  |_=>exact hl.elim
theorem heapOK_get {h:Heap}:∀(h':Heap),heapOK h h'→∀l ob,hget h' l=some ob→∃ob0,hget h l=some ob0∧ObLe ob0 ob
 | [],_,l,ob,hq=>by simp[hget]at hq
 |(k,x)::r,hh,l,ob,hq=>by
  by_cases e1:k=l
  ·subst e1;rw[hget_self]at hq;cases hq
   have:=hh.1;split at this
   ·rename_i ob0 h0;exact⟨ob0,h0,this⟩
   ·exact this.elim
  ·rw[hget_ne e1]at hq;exact heapOK_get r hh.2 l ob hq
theorem objsIn_get {d:Nat→Bool}:∀(h':Heap),objsIn d h'=true→∀l ob,hget h' l=some ob→ob.within d=true
 | [],_,l,ob,hq=>by simp[hget]at hq
 |(k,x)::r,hh,l,ob,hq=>by
  simp only[objsIn,Bool.and_eq_true]at hh
  by_cases e1:k=l
  ·subst e1;rw[hget_self]at hq;cases hq;exact hh.1
  ·rw[hget_ne e1]at hq;exact objsIn_get r hh.2 l ob hq
def retOwn (h':Heap) (t:Nat):Option Owner→Option Owner
 |some (.obj l)=>if l∈keysOf h' then some (.obj l) else none
 |some (.cell l j)=>if l∈keysOf h' then some (.cell l j) else none
 |some (.slot i)=>if i=t then some .ret else none
 |_=>none
def retKM (ty:Nat→Option TI) (rs:List ResultVar) (ts:List Nat) (r:AV) (h':Heap):Exit→Env→Heap→Prop:=fun x e h=>match x with
 |.ret=>(match resOf ty rs ts e h with|some v=>RetOK v r∧heapOK h h'|none=>False)
 |.normal=>(match resOf ty rs ts e h with|some v=>RetOK v r∧heapOK h h'|none=>False)
 |_=>False
theorem AMem.intro (hty:TyOK P ty) (hmix:P.follows .mixedOrders=true) {f:Nat} {fn:Func} {c:Code} {args:List AV} {hs:Heap} {r:AV} {h':Heap} (hf:P.funcs[f]?=some fn) (hb:fn.body=some c) (hname:(fn.name== "runtime.NumGoroutine")=false)
 (hok:codeOK fn.ntmps c=true) (hlen:args.length≤fn.ntmps) (hr:(r.within (memB (keysOf h'))&&objsIn (memB (keysOf h')) h'&&globB hs h')=true)
 (hk:awp ty (pcall P) (lpOf P fn.ntmps) c (retKM ty fn.results.toList fn.resultTypes.toList r h') (argEnv 0 args) hs):AMem P f args hs r h':=by
 simp only[Bool.and_eq_true]at hr;obtain⟨⟨hr1,hr2⟩,hr3⟩:=hr;refine⟨⟨⟨fn,c,hf,hb,hname⟩,hr3⟩,fun g w vs hH hbn hl hrel=>?_⟩;have s0:=Sim.start (fn:=fn) hlen hH hbn hl hrel;refine calls_of_wp hf hb (wp_mono (awp_sound hty hmix c _ _ _ hok hk g w g w _ s0 (Ext.refl _ _)) ?_);rintro ex a' w' ⟨g1,e1,h1,hk1,s1,hE1⟩
 have fin:(match resOf ty fn.results.toList fn.resultTypes.toList e1 h1 with|some v=>RetOK v r∧heapOK h1 h'|none=>False)→a'.defers=[]∧∃v,(results fn a'.tmps).run P w'=.ok v w'∧
  (∃v1 g',Ending.returned v=.returned v1∧VRel g' w' (domOf h') (some .ret) v1 r∧HRel g' w' h'∧(∀b ow,g'.own b=some ow→b<w'.heap.size)∧Ext g w g' w'):=by
  intro hq;refine⟨s1.defers,?_⟩;split at hq
  ·rename_i x hx
   obtain⟨hq,hheap⟩:=hq;obtain⟨v,hrun,t,hv⟩:=resOf_rel (P:=P) hty s1 hx
   have hv:VRel g1 w' (domOf h1) (some (.slot t)) v r:=by
    rcases hq with rfl|rfl
    ·exact hv
    ·exact hv.copy
   have hdom:∀l,memB (keysOf h') l=true→domOf h' l:=fun l hl=>by
    obtain⟨ob,hob⟩:=hget_of_key h' l (memB_mem _ _ hl);unfold domOf;rw[hob];rfl
   let g':Gh:={ pre:=g1.pre,own:=fun b=>retOwn h' t (g1.own b),ρ:=g1.ρ,σ:=g1.σ,sown:=g1.sown }
   have conv:∀{ow:Option Owner} {u:Value} {y:AV},(∀q,ow=some q→retOwn h' t (some q)=some q)→VRel g1 w' (domOf h1) ow u y→y.within (memB (keysOf h'))=true→VRel g' w' (domOf h') ow u y:=by
    intro ow u y hq r0 hin;have r1:=r0.within (dom':=domOf h') hdom hin;exact VRel.keep (g:=g1) (g':=g') (w:=w') (w':=w') (fun _ _ _ hv=>hv) (fun l hl=>⟨hl,rfl⟩) (fun l cs E _ hb=>⟨cs,E,hb,rfl⟩) (fun q b e1 ho=>⟨by show retOwn h' t (g1.own b)=some q;rw[ho];exact hq q e1,rfl,rfl⟩) r1
   refine⟨v,hrun,v,g',rfl,?_,⟨fun l ob hl=>?_,fun l ob hl hsl=>?_,fun l ob hl hsl=>?_⟩,fun b q hq=>?_,?_⟩
   ·cases r with
    |so sz xs=>
     cases hv with
     |full _ a _ _ hz hp=>exact .full _ a sz xs hz hp
     |own _ a cap _ _ cs E hz hp ho hpre hb' hs'=>exact .own .ret a cap sz xs cs E hz hp (by show retOwn h' t (g1.own a.block)=_;rw[ho];simp[retOwn]) hpre hb' hs'
    |_=>exact(conv (ow:=none) (fun _ q=>by cases q) (hv.anyOwner (fun _ _ q=>by cases q)) hr1).anyOwner (fun _ _ q=>by cases q)
   ·obtain⟨ob0,q1,q2⟩:=heapOK_get h' hheap l ob hl
    have hin:=objsIn_get h' hr2 l ob hl;have hkl:=hget_key _ _ _ hl
    cases (s1.heap.obj l ob0 q1).le q2 with
    |cells cs vs' E hb' hlen' hxx h1'=>exact .cells cs vs' E hb' hlen' (fun j u c q3 q4=>conv (fun q e1=>by cases e1;simp[retOwn,hkl]) (hxx j u c q3 q4) (withins_get _ cs (by simpa[AObj.within] using hin) j c q4)) h1'
    |arr xs vs' E hb' hlen' hxx h1'=>exact .arr xs vs' E hb' hlen' hxx h1'
    |store T3 o3 sp3 nx3 z3 M3 hst=>exact .store T3 o3 sp3 nx3 z3 M3 (hst.mono (fun _ _ _ q=>q) (fun bb hb2=>⟨by show retOwn h' t (g1.own bb)=_;rw[hb2];simp[retOwn,hkl],rfl,rfl⟩) hst.sown)
    |glob gb gvs hgl=>exact ORel.globM hgl (fun h1 _ _=>⟨rfl,by show retOwn h' t (g1.own gb)=none;rw[h1];rfl⟩)
   ·obtain⟨ob0,q1,q2⟩:=heapOK_get h' hheap l ob hl
    show retOwn h' t (g1.own (g1.ρ l))=_;rw[s1.heap.own l ob0 q1 (q2.solid hsl)];simp[retOwn,hget_key _ _ _ hl]
   ·obtain⟨ob0,q1,q2⟩:=heapOK_get h' hheap l ob hl
    exact s1.heap.pre l ob0 q1 (q2.solid hsl)
   ·have hq:retOwn h' t (g1.own b)=some q:=hq
    cases hg:g1.own b with
    |none=>rw[hg]at hq;simp[retOwn]at hq
    |some q'=>exact s1.bnd b q' hg
   ·exact⟨hE1.size,hE1.os,hE1.out,hE1.imm,fun b hb hn=>⟨(hE1.kept b hb hn).1,(hE1.kept b hb hn).2.1,by show retOwn h' t (g1.own b)=none;rw[(hE1.kept b hb hn).2.2];rfl⟩,hE1.frz,hE1.frz',hE1.ρk,hE1.siz⟩
  ·exact hq.elim
 cases ex with
 |normal=>exact fin hk1
 |ret=>exact fin hk1
 |_=>exact hk1.elim
def heapLe:Heap→Heap→Prop
 | [],[]=>True
 |(l,a)::r,(l',b)::r'=>l=l'∧ObLe a b∧heapLe r r'
 |_,_=>False
theorem heapLe_get:∀(h h':Heap),heapLe h h'→∀l,(∀ob,hget h' l=some ob→∃ob0,hget h l=some ob0∧ObLe ob0 ob)∧(domOf h l↔domOf h' l)
 | [],[],_,l=>⟨fun ob q=>by simp[hget]at q,Iff.rfl⟩
 |(k,a)::r,(k',b)::r',hh,l=>by
  obtain⟨rfl,h2,h3⟩:=hh
  by_cases e1:k=l
  ·subst e1
   exact⟨fun ob q=>by rw[hget_self]at q;cases q;exact⟨a,hget_self _ _ _,h2⟩,by simp[domOf,hget_self]⟩
  ·obtain⟨q1,q2⟩:=heapLe_get r r' h3 l
   exact⟨fun ob q=>by rw[hget_ne e1]at q ⊢;exact q1 ob q,by unfold domOf at q2 ⊢;rw[hget_ne e1,hget_ne e1];exact q2⟩
 | [],_::_,hh,_=>hh.elim
 |_::_,[],hh,_=>hh.elim
theorem globB_le {hs hs':Heap} (hq:∀l b vs,hget hs' l=some (.glob b vs)→∃vs',hget hs l=some (.glob b vs')):∀(h':Heap),globB hs' h'=true→globB hs h'=true
 | [],_=>rfl
 |(l,ob)::r,hg=>by
  simp only[globB,Bool.and_eq_true]at hg ⊢;refine⟨?_,globB_le hq r hg.2⟩
  cases ob with
  |glob b vs=>
   have h1:=hg.1;simp only at h1 ⊢;split at h1
   ·rename_i b' vs' h2
    obtain⟨vs2,h3⟩:=hq l b' vs' h2;rw[h3];exact h1
   ·cases h1
  |_=>rfl
theorem AMem.le {f:Nat} {args:List AV} {hs hs':Heap} {r:AV} {h':Heap} (h:AMem P f args hs' r h') (hl:heapLe hs hs'):AMem P f args hs r h':=by
 refine⟨⟨h.1.1,globB_le (fun l b vs hq=>by obtain⟨ob0,k1,k2⟩:=(heapLe_get hs hs' hl l).1 _ hq;cases ob0<;>first|exact k2.elim|(obtain⟨rfl,rfl⟩:=k2;exact⟨_,k1⟩)) h' h.1.2⟩,fun g w vs hH hbn hlen hrel=>h.2 g w vs ⟨fun l ob hq=>?_,fun l ob hq hsl=>?_,fun l ob hq hsl=>?_⟩ hbn hlen (fun j v x q1 q2=>(hrel j v x q1 q2).domUp (fun k hk=>((heapLe_get hs hs' hl k).2).1 hk))⟩
 ·obtain⟨ob0,q1,q2⟩:=(heapLe_get hs hs' hl l).1 ob hq
  have:=(hH.obj l ob0 q1).le q2
  cases this with
  |cells cs vs' E hb' hlen' hxx h1'=>exact .cells cs vs' E hb' hlen' (fun j u c q3 q4=>(hxx j u c q3 q4).domUp (fun k hk=>((heapLe_get hs hs' hl k).2).1 hk)) h1'
  |arr xs vs' E hb' hlen' hxx h1'=>exact .arr xs vs' E hb' hlen' hxx h1'
  |store T3 o3 sp3 nx3 z3 M3 hst=>exact .store T3 o3 sp3 nx3 z3 M3 hst
  |glob gb gvs hgl=>exact .glob gb gvs hgl
 ·obtain⟨ob0,q1,q2⟩:=(heapLe_get hs hs' hl l).1 ob hq
  exact hH.own l ob0 q1 (q2.solid hsl)
 ·obtain⟨ob0,q1,q2⟩:=(heapLe_get hs hs' hl l).1 ob hq
  exact hH.pre l ob0 q1 (q2.solid hsl)
end
end Go.AM
