/- Part of a machine over plain values. No conditions. -/
import Derived.Test.YtdmopjgjhfhfdaaGreatDoorAMDyn3
import Derived.Test.YtdmopjgjhfhfdaaGreatDoorAMSndB
set_option linter.all false
section
namespace Go.AM
section
variable {P:Program} {ty:Nat→Option TI} {n:Nat}
theorem OT {g w dom ow} {b:Bool} {v:Value} (r:aH g w dom ow v (.v7 b)):vM b v:=by
 cases r with
 |v7 _ _ _ h=>exact h
theorem ON (d:Nat) {t:TypeId} {ms:Array (String×TypeId)} (hu:P.underlying t=some (.interface ms)) {b:Bool} {v:Value} (w:World) (hv:vM b v):(Op.equalIn (d+1) t v .nilIface).run P w=.ok (!b) w:=by
 cases b with
 |false=>
  have:v=.nilIface:=hv;subst this;simp only[Op.equalIn,Sem.run_bind,run_underlying hu,Result.andThen_ok,Sem.run_pure];rfl
 |true=>
  obtain⟨T,y,rfl⟩:=hv;simp only[Op.equalIn,Sem.run_bind,run_underlying hu,Result.andThen_ok,Sem.run_pure];rfl
theorem Es (hty:bz P ty) {o:Oper} {e:Env} {h:Heap} {K:AK} (hd:∀d,o.dst=some d→d<n) {op:BinOp} {t t':TypeId} {x:Operand} {b:Bool} (hx:ev e x=.v7 b) (hk:(match gi ty t,op with|true,.eql=>ret o (.p (.b (!b))) K|true,.neq=>ret o (.p (.b b)) K|_,_=>ai "binOp iface")) (ho:o.op=.binOp op t x (.const .nilIface) t'):∃f,K f∧cF P n o e h f:=by
 have m1:x∈o.op.operands:=by simp[ho,Op.operands]
 have hu:gi ty t=true→∃ms,P.underlying t=some (.interface ms):=by
  intro hb;unfold gi at hb;split at hb
  ·rename_i i hi
   split at hb
   ·rename_i ms hdd;exact⟨ms,by rw[←hdd];exact(hty t i hi).und⟩
   ·cases hb
  ·cases hb
 have heq:gi ty t=true→∀(v:Value) (w:World),vM b v→(Op.equal t v .nilIface).run P w=.ok (!b) w:=by
  intro h1 v w hv;obtain⟨ms,hu⟩:=hu h1;exact ON 9999 hu w hv
 have hgd:∀(v:Value) (w:World),vM b v→(eqGuard op t x (.const .nilIface) v .nilIface).run P w=.ok () w:=by
  intro v w hv
  cases b with
  |false=>
   have:v=.nilIface:=hv;subst this;unfold eqGuard;cases op<;>simp
  |true=>
   obtain⟨T,y,rfl⟩:=hv;unfold eqGuard;cases op<;>simp
 have fin:∀(q:Bool),ret o (.p (.b q)) K→(∀(v:Value) (w:World),vM b v→(eqGuard op t x (.const .nilIface) v .nilIface).run P w=.ok () w→(binOp op t v .nilIface).run P w=.ok (.bool q) w)→∃f,K f∧cF P n o e h f:=by
  intro q hq hb;refine aI hd hq fun e' h' he g w a s=>?_;obtain⟨_,r1⟩:=s.cN he m1 hx;have hv:=OT r1
  ·refine⟨.bool q,?_,fun d _=>.p _ _ _ (.b _)⟩
   have:=hb _ w hv (hgd _ w hv);have hc:a.eval (.const .nilIface)=.nilIface:=rfl;simp only[execOp,ho,hc,Sem.run_bind,hgd _ w hv,Result.andThen_ok,this,Sem.run_pure]
 cases hI:gi ty t with
 |false=>rw[hI]at hk;cases op<;>exact hk.elim
 |true=>
  rw[hI]at hk
  cases op<;>first|exact hk.elim|skip
  ·exact fin _ hk (by intro v w hv _;simp[binOp,heq hI _ _ hv])
  ·exact fin _ hk (by intro v w hv _;simp[binOp,heq hI _ _ hv])
theorem FC (hty:bz P ty) {mv:Nat→Bool} {o:Oper} {e:Env} {h:Heap} {K:AK} (hd:∀d,o.dst=some d→d<n) (hst:∀t x y,o.op=.store t x y→o.dst=none) (hst2:∀t m k v,o.op=.mapUpdate t m k v∨o.op=.insert t m k v→o.dst=none) (hk:JI ty (dj P) mv o e h K):∃f,K f∧cF P n o e h f:=by
 unfold JI at hk;split at hk
 ·rename_i t ho;exact vw hd (.inl ho) hk
 ·rename_i x hx ho;exact qW hd (.inl ho) (fun t q=>hx t q) hk
 ·rename_i t ho;exact vw hd (.inr ho) hk
 ·rename_i x hx ho;exact qW hd (.inr ho) (fun t q=>hx t q) hk
 ·rename_i c x y ho
  split at hk
  ·rename_i gd hc;exact D1 hd ho hc hk
  ·exact hk.elim
 ·rename_i t ho;exact By hty hd ho hk
 ·rename_i t x ho;exact FB hd ho hk
 ·rename_i t parts ho;exact BJ hty hd ho hk
 ·rename_i t len parts ho;exact ug hty hd ho hk
 ·rename_i t x ho;exact C8 hty hd ho hk
 ·rename_i t x y ho;exact A7 hty ho (hst _ _ _ ho) hk
 ·rename_i x ho;exact Fa hd ho hk
 ·rename_i op t x t' ho
  split at hk
  ·rename_i b hx;exact Es hty hd hx hk ho
  ·exact hk.elim
 ·rename_i op t x y t' _ ho;exact ED hty hd ho hk
 ·rename_i op t x ho;exact Ih hd ho hk
 ·rename_i src dst x ho;exact DM hty hd ho hk
 ·rename_i f first caps ho;exact Dm hd ho hk
 ·rename_i t st lo ho
  split at hk
  ·rename_i sz xs hx;exact zN hty hd ho hx hk
  ·exact om hty hd ho hk
 ·rename_i t st u ho
  split at hk
  ·rename_i l hx;exact zB hty hd ho hx hk
  ·exact om hty hd ho hk
 ·rename_i t x lo hi _ _ ho;exact om hty hd ho hk
 ·rename_i s x f ho;exact uZ hty hd ho hk
 ·rename_i t x f ho
  exact Cc hty hd ho hk
 ·rename_i t x ix ho;exact uQ hty hd ho hk
 ·rename_i x m ho;exact zq hd ho hk
 ·rename_i x t ts ho;exact Fj hty hd ho hk
 ·rename_i x y t t2 ho;exact zM hty hd ho hk
 ·rename_i x y ts ho;exact EE hd ho hk
 ·rename_i x y ts ho;exact EN hd ho hk
 ·rename_i x y z ts ho;exact C4 hd ho hk
 ·rename_i x as ts ho
  split at hk
  ·rename_i f first caps hx;exact vo hd (.value x ho hx) hk
  ·exact hk.elim
 ·rename_i x name as ts ho
  split at hk
  ·rename_i T y hx
   split at hk
   ·rename_i f hm;exact vo hd (.invoke x name T y ho hx (D2 hty hm) rfl rfl) hk
   ·exact hk.elim
  ·exact hk.elim
 ·rename_i t x y ho;exact uw hty hd ho hk
 ·rename_i t x ix ho;exact Bb hty hd ho hk
 ·exact hk.elim
theorem qx (hty:bz P ty) {mv:Nat→Bool} {o:Oper} {e:Env} {h:Heap} {K:AK} (hd:∀d,o.dst=some d→d<n) (hst:∀t x y,o.op=.store t x y→o.dst=none) (hst2:∀t m k v,o.op=.mapUpdate t m k v∨o.op=.insert t m k v→o.dst=none) (hk:LM ty (dj P) mv o e h K):∃f,K f∧cF P n o e h f:=by
 unfold LM at hk;split at hk
 ·exact Fy hty hd hst hst2 hk
 ·exact FC hty hd hst hst2 hk
end
end Go.AM
end
section
namespace Go.AM
section
variable {P:Program} {ty:Nat→Option TI} {n:Nat}
theorem Oper.yW {o:Oper} {a:Act} {w:World} {K:Act→World→Prop} {Q:Exit→Act→World→Prop} (hh:o.wp P a w K (fun _ _ _=>False)):o.wp P a w K Q:=by
 unfold Oper.wp at *;generalize (execOp a.eval o).run P w=r at *
 cases r with
 |ok m w'=>
  cases m<;>simp only[Oper.upon]at hh ⊢ <;>
   first
    |exact hh
    |exact Calls.mono hh (fun e w'' he=>by
      cases e with
      |returned v=>exact he
      |panicked c=>exact he.elim
      |outgrown=>obtain⟨_,_,q⟩:=he;exact q.elim)
 |halt x w'=>cases x<;>simp only[Oper.upon]at hh ⊢<;>exact hh.elim
def nP (n:Nat) (o:Oper):Bool:=(match o.dst with|some d=>Nat.blt d n|none=>true)&&(match o.op,o.dst with|.store ..,some _=>false|.mapUpdate ..,some _=>false|.insert ..,some _=>false|_,_=>true)
theorem kY {n:Nat} {o:Oper} (h:nP n o=true):∀d,o.dst=some d→d<n:=by
 intro d hd;simp only[nP,hd,Bool.and_eq_true]at h;exact Nat.blt_eq ▸ h.1|>fun q=>by simpa using q
theorem nB {n:Nat} {o:Oper} (h:nP n o=true):∀t x y,o.op=.store t x y→o.dst=none:=by
 intro t x y ho
 cases hd:o.dst with
 |none=>rfl
 |some d=>simp[nP,ho,hd]at h
theorem tW {n:Nat} {o:Oper} (h:nP n o=true):∀t m k v,o.op=.mapUpdate t m k v∨o.op=.insert t m k v→o.dst=none:=by
 intro t m k v ho;simp only[nP,Bool.and_eq_true]at h
 cases hd:o.dst with
 |none=>rfl
 |some d=>rcases ho with ho|ho<;>(rw[ho,hd]at h;simp at h)
theorem kK:∀(r e:Env) (K:Env→Prop),xj r e K=K (r.reverse++e)
 | [],e,K=>rfl
 |(d,v)::r,e,K=>by rw[xj,kK r];simp
theorem kI:∀(r e:Heap) (K:Heap→Prop),y9 r e K=K (r.reverse++e)
 | [],e,K=>rfl
 |(d,v)::r,e,K=>by rw[y9,kI r];simp
theorem zc {ops:Array Oper} {j d:Nat} {og:Oper} {a:Act} {b:Bool} (ho:ops[j]?=some og) (hd:og.dst=some d) (hv:a.tmps.getD d undef=.bool b):yielded ops a.tmps j=some b:=by
 have hin:a.tmps[d]?=some (.bool b):=by
  rw[Array.getD_eq_getD_getElem?]at hv
  cases hq:a.tmps[d]? with
  |none=>rw[hq]at hv;simp[undef]at hv
  |some v=>rw[hq]at hv;simp at hv;rw[hv]
 simp[yielded,ho,hd,hin]
theorem aH.Nc {g:Gh} {w:World} {dom:Nat→Prop} {ow:Option aY}:aH g w dom ow undef (.cA []):=.cA _ [] [] rfl (by simp)
theorem aH.G6 {g:Gh} {w:World} {dom:Nat→Prop} {ow:Option aY} {v:Value} (r:aH g w dom ow v (.cA [])):v=undef:=by
 cases r with
 |cA _ vs _ hl _=>have:vs=[]:=List.eq_nil_of_length_eq_zero (by simpa using hl);subst this;rfl
theorem sZ {ops:Array Oper} {j d:Nat} {og:Oper} {a:Act} (ho:ops[j]?=some og) (hd:og.dst=some d) (hv:a.tmps.getD d undef=undef):yielded ops a.tmps j=none:=by
 cases hq:a.tmps[d]? with
 |none=>simp[yielded,ho,hd,hq]
 |some v=>
  rw[Array.getD_eq_getD_getElem?,hq]at hv;simp at hv;subst hv;simp[yielded,ho,hd,hq,undef]
theorem vD {ops:Array Oper} {o:Oper} {e:Env} {S X:Env→Prop} (hg:guardOf ops.toList o e S X) {g:Gh} {w:World} {a:Act} {h:Heap} (s:cp g w n a e h):
 (Region.wanted o (yielded ops a.tmps)=true∧∃e1,X e1∧∀i,aL e1 i=aL e i)∨(Region.wanted o (yielded ops a.tmps)=false∧∃e1,S e1∧∀i,aL e1 i=aL e i):=by
 unfold guardOf at hg;split at hg
 ·rename_i hn;exact .inl ⟨by simp[Region.wanted,hn],e,hg,fun _=>rfl⟩
 ·rename_i j want hn
  split at hg
  ·rename_i og hog
   split at hg
   ·rename_i d hd
    split at hg
    ·rename_i b hb
     have hv:=s.env d;rw[hb]at hv;have hy:=zc (by simpa using hog) hd hv.bool
     have hsame:∀i,aL ((d,AV.p (.b b))::e) i=aL e i:=fun i=>by
      by_cases q:d=i
      ·subst q;rw[bw,hb]
      ·rw[bN q]
     have hw:Region.wanted o (yielded ops a.tmps)=(some b==some want):=by simp[Region.wanted,hn,hy]
     cases b<;>cases want<;>simp only[kR]at hg
     ·exact .inl ⟨by rw[hw];rfl,_,hg,hsame⟩
     ·exact .inr ⟨by rw[hw];rfl,_,hg,hsame⟩
     ·exact .inr ⟨by rw[hw];rfl,_,hg,hsame⟩
     ·exact .inl ⟨by rw[hw];rfl,_,hg,hsame⟩
    ·rename_i hb
     have hv:=s.env d;rw[hb]at hv;have hy:=sZ (by simpa using hog) hd hv.G6;exact .inr ⟨by simp[Region.wanted,hn,hy],e,hg,fun _=>rfl⟩
    ·exact hg.elim
   ·exact hg.elim
  ·exact hg.elim
def Cm (n:Nat) (K:Exit→Env→Heap→Prop) (g0:Gh) (w0:World):Exit→Act→World→Prop:=fun x a w=>∃g e h,K x e h∧cp g w n a e h∧Ext g0 w0 g w
theorem ld (hty:bz P ty) {ops:Array Oper} (hok:ops.toList.all (nP n)=true) {K:Exit→Env→Heap→Prop} {g0:Gh} {w0:World}:∀(l:List Oper) (k:Nat) (e:Env) (h:Heap) (g:Gh) (w:World) (a:Act),
 (∀j,l[j]?=ops[k+j]?)→zZ ty (dj P) ops.toList l e h (fun e h=>K .normal e h)→cp g w n a e h→Ext g0 w0 g w→wpOps P ops (Cm n K g0 w0) (List.range' k l.length) a w
 | [],k,e,h,g,w,a,_,hk,s,hE=>⟨g,e,h,hk,s,hE⟩
 |o::r,k,e,h,g,w,a,hl,hk,s,hE=>by
  have ho:ops[k]?=some o:=by have:=hl 0;simpa using this.symm
  have hmem:o∈ops.toList:=by rw[←Array.getElem?_toList]at ho;exact List.mem_of_getElem? ho
  have hoko:nP n o=true:=List.all_eq_true.1 hok o hmem;have hrest:∀j,r[j]?=ops[k+1+j]?:=fun j=>by have:=hl (j+1);rw[show k+1+j=k+(j+1) by omega,←this];simp
  simp only[List.length_cons,List.range'_succ];rw[wpOps_cons];simp only[wpOp,ho];rw[qf]at hk;rcases vD hk s with⟨hw,e1,hk,hee⟩|⟨hw,e1,hk,hee⟩
  ·rw[if_pos hw]
   left
   obtain⟨f,hk,hop⟩:=qx hty (kY hoko) (nB hoko) (tW hoko) hk;simp only[kK,kI]at hk;have s1:=s.sQ hee;refine Oper.yW (Oper.wp_mono ?_ (hop e1 h (fun _ _=>rfl) (fun _ _=>rfl) g w a s1));rintro a' w' ⟨g',s',hE'⟩;exact ld hty hok r (k+1) _ _ g' w' a' hrest hk s' (hE.trans hE')
  ·rw[if_neg (by rw[hw];simp)]
   have s1:=s.sQ hee;unfold xB at hk;split at hk
   ·rename_i d hd
    rw[hd];exact ld hty hok r (k+1) _ _ g w _ hrest hk (s1.put (kY hoko d hd) aH.Nc) hE
   ·rename_i hd
    rw[hd];exact ld hty hok r (k+1) _ _ g w _ hrest hk s1 hE
def fD:List Env→(Nat→Bool)→Nat→Env→Env
 | [],_,_,e=>e
 |W::r,L,k,e=>fD r L (k+1) (if L k then W.reverse++e else e)
def dm:List Heap→(Nat→Bool)→Nat→Heap→Heap
 | [],_,_,e=>e
 |W::r,L,k,e=>dm r L (k+1) (if L k then W.reverse++e else e)
theorem eL (W e:Env) (i:Nat) (h:∀x∈W,x.1≠i):aL (W++e) i=aL e i:=by
 induction W with
 |nil=>rfl
 |cons x r ih=>
  obtain⟨d,v⟩:=x;rw[List.cons_append,bN (h (d,v) (by simp))];exact ih (fun y hy=>h y (by simp[hy]))
theorem cQ (W e:Heap) (i:Nat) (h:∀x∈W,x.1≠i):aG (W++e) i=aG e i:=by
 induction W with
 |nil=>rfl
 |cons x r ih=>
  obtain⟨d,v⟩:=x;rw[List.cons_append,aT (h (d,v) (by simp))];exact ih (fun y hy=>h y (by simp[hy]))
theorem mN (W e e':Env) (i:Nat) (h:∃x∈W,x.1=i):aL (W++e) i=aL (W++e') i:=by
 induction W with
 |nil=>obtain⟨x,hx,_⟩:=h;cases hx
 |cons x r ih=>
  obtain⟨d,v⟩:=x
  by_cases q:d=i
  ·subst q;rw[List.cons_append,List.cons_append,bw,bw]
  ·rw[List.cons_append,List.cons_append,bN q,bN q]
   obtain⟨y,hy,hyi⟩:=h;rcases List.mem_cons.1 hy with rfl|hy
   ·exact absurd hyi q
   ·exact ih ⟨y,hy,hyi⟩
theorem jv (W e e':Heap) (i:Nat) (h:∃x∈W,x.1=i):aG (W++e) i=aG (W++e') i:=by
 induction W with
 |nil=>obtain⟨x,hx,_⟩:=h;cases hx
 |cons x r ih=>
  obtain⟨d,v⟩:=x
  by_cases q:d=i
  ·subst q;rw[List.cons_append,List.cons_append,aP,aP]
  ·rw[List.cons_append,List.cons_append,aT q,aT q]
   obtain⟨y,hy,hyi⟩:=h;rcases List.mem_cons.1 hy with rfl|hy
   ·exact absurd hyi q
   ·exact ih ⟨y,hy,hyi⟩
theorem jx (i:Nat):∀(ws:List Env) (L L':Nat→Bool) (k:Nat) (e e':Env),aL e i=aL e' i→(∀j W,ws[j]?=some W→(∃x∈W,x.1=i)→L (k+j)=L' (k+j))→aL (fD ws L k e) i=aL (fD ws L' k e') i
 | [],L,L',k,e,e',h,_=>h
 |W::r,L,L',k,e,e',h,hw=>by
  rw[fD,fD];refine jx i r L L' (k+1) _ _ ?_ (fun j W' hj hx=>by have:=hw (j+1) W' (by simpa using hj) hx;rw[show k+1+j=k+(j+1) by omega];exact this)
  by_cases hx:∃x∈W,x.1=i
  ·have h0:=hw 0 W rfl hx
   simp only[Nat.add_zero]at h0;rw[h0];split
   ·obtain⟨x,hx1,hx2⟩:=hx
    exact mN _ _ _ _ ⟨x,by simpa using hx1,hx2⟩
   ·exact h
  ·have hn:∀x∈W.reverse,x.1≠i:=fun x hx1 q=>hx ⟨x,by simpa using hx1,q⟩
   split<;>split
   ·rw[eL _ _ _ hn,eL _ _ _ hn];exact h
   ·rw[eL _ _ _ hn];exact h
   ·rw[eL _ _ _ hn];exact h
   ·exact h
theorem gw (i:Nat):∀(ws:List Heap) (L L':Nat→Bool) (k:Nat) (e e':Heap),aG e i=aG e' i→(∀j W,ws[j]?=some W→(∃x∈W,x.1=i)→L (k+j)=L' (k+j))→aG (dm ws L k e) i=aG (dm ws L' k e') i
 | [],L,L',k,e,e',h,_=>h
 |W::r,L,L',k,e,e',h,hw=>by
  rw[dm,dm];refine gw i r L L' (k+1) _ _ ?_ (fun j W' hj hx=>by have:=hw (j+1) W' (by simpa using hj) hx;rw[show k+1+j=k+(j+1) by omega];exact this)
  by_cases hx:∃x∈W,x.1=i
  ·have h0:=hw 0 W rfl hx
   simp only[Nat.add_zero]at h0;rw[h0];split
   ·obtain⟨x,hx1,hx2⟩:=hx
    exact jv _ _ _ _ ⟨x,by simpa using hx1,hx2⟩
   ·exact h
  ·have hn:∀x∈W.reverse,x.1≠i:=fun x hx1 q=>hx ⟨x,by simpa using hx1,q⟩
   split<;>split
   ·rw[cQ _ _ _ hn,cQ _ _ _ hn];exact h
   ·rw[cQ _ _ _ hn];exact h
   ·rw[cQ _ _ _ hn];exact h
   ·exact h
theorem IN (i m:Nat):∀(ws:List Env) (L:Nat→Bool) (k:Nat) (e:Env) (W:Env) (X:Env),ws[m]?=some W→(∃x∈W,x.1=i)→L (k+m)=true→(∀j W',m<j→ws[j]?=some W'→(∃x∈W',x.1=i)→L (k+j)=false)→
 aL (fD ws L k e) i=aL (W.reverse++X) i:=by
 induction m with
 |zero=>
  intro ws L k e W X hm hx hL hafter
  cases ws with
  |nil=>simp at hm
  |cons W0 r=>
   simp at hm;subst hm;rw[fD];simp only[Nat.add_zero]at hL;rw[if_pos hL]
   rw[jx i r L (fun _=>false) (k+1) _ (W0.reverse++X) (by obtain⟨x,hx1,hx2⟩:=hx;exact mN _ _ _ _ ⟨x,by simpa using hx1,hx2⟩) (fun j W' hj hx'=>by
    have:=hafter (j+1) W' (by omega) (by simpa using hj) hx';rw[show k+1+j=k+(j+1) by omega];exact this)]
   generalize W0.reverse++X=Y;clear hafter hL hx;generalize k+1=k'
   induction r generalizing k' with
   |nil=>rfl
   |cons W1 r ih=>rw[fD];simp only[Bool.false_eq_true,if_false];exact ih (k'+1)
 |succ m ih=>
  intro ws L k e W X hm hx hL hafter
  cases ws with
  |nil=>simp at hm
  |cons W0 r=>
   simp at hm;rw[fD]
   exact ih r L (k+1) _ W X hm hx (by rw[show k+1+m=k+(m+1) by omega];exact hL) (fun j W' hj hjw hx'=>by
    have:=hafter (j+1) W' (by omega) (by simpa using hjw) hx';rw[show k+1+j=k+(j+1) by omega];exact this)
theorem yP (i m:Nat):∀(ws:List Heap) (L:Nat→Bool) (k:Nat) (e:Heap) (W:Heap) (X:Heap),ws[m]?=some W→(∃x∈W,x.1=i)→L (k+m)=true→(∀j W',m<j→ws[j]?=some W'→(∃x∈W',x.1=i)→L (k+j)=false)→
 aG (dm ws L k e) i=aG (W.reverse++X) i:=by
 induction m with
 |zero=>
  intro ws L k e W X hm hx hL hafter
  cases ws with
  |nil=>simp at hm
  |cons W0 r=>
   simp at hm;subst hm;rw[dm];simp only[Nat.add_zero]at hL;rw[if_pos hL]
   rw[gw i r L (fun _=>false) (k+1) _ (W0.reverse++X) (by obtain⟨x,hx1,hx2⟩:=hx;exact jv _ _ _ _ ⟨x,by simpa using hx1,hx2⟩) (fun j W' hj hx'=>by
    have:=hafter (j+1) W' (by omega) (by simpa using hj) hx';rw[show k+1+j=k+(j+1) by omega];exact this)]
   generalize W0.reverse++X=Y;clear hafter hL hx;generalize k+1=k'
   induction r generalizing k' with
   |nil=>rfl
   |cons W1 r ih=>rw[dm];simp only[Bool.false_eq_true,if_false];exact ih (k'+1)
 |succ m ih=>
  intro ws L k e W X hm hx hL hafter
  cases ws with
  |nil=>simp at hm
  |cons W0 r=>
   simp at hm;rw[dm]
   exact ih r L (k+1) _ W X hm hx (by rw[show k+1+m=k+(m+1) by omega];exact hL) (fun j W' hj hjw hx'=>by
    have:=hafter (j+1) W' (by omega) (by simpa using hjw) hx';rw[show k+1+j=k+(j+1) by omega];exact this)
end
end Go.AM
end
section
namespace Go.AM
section
variable {P:Program} {ty:Nat→Option TI} {n:Nat}
def hU (all:List Oper) (o:Oper) (e:Env):Option Bool:=match o.guard with
 |none=>some true
 |some (j,want)=>match all[j]? with
  |some og=>match og.dst with
   |some d=>match aL e d with
    |.p (.b g)=>some (g==want)
    |.cA []=>some false
    |_=>none
   |none=>none
  |none=>none
def gm (P:Program) (n:Nat) (all:List Oper) (o:Oper) (e:Env) (h:Heap):Option ei→Prop
 |some f=>hU all o e=some true∧cF P n o e h f
 |none=>hU all o e=some false
theorem nY {all:List Oper} {o:Oper} {e e':Env} (h:∀i∈iz all o,aL e' i=aL e i):hU all o e'=hU all o e:=by
 unfold hU;unfold iz at h
 cases hg:o.guard with
 |none=>rfl
 |some x=>
  obtain⟨j,want⟩:=x;simp only[hg]at h ⊢
  cases ha:all[j]? with
  |none=>rfl
  |some og=>
   simp only[ha]at h ⊢
   cases hd:og.dst with
   |none=>rfl
   |some d=>simp only[hd]at h ⊢;rw[h d (by simp)]
theorem gm.congr {all:List Oper} {o:Oper} {e e':Env} {h h':Heap} {f:Option ei} (hs:gm P n all o e h f) (he:∀i∈slotsOf o++iz all o,aL e' i=aL e i) (hh:∀l∈Ma f,aG h' l=aG h l):gm P n all o e' h' f:=by
 have hg:hU all o e'=hU all o e:=nY (fun i hi=>he i (List.mem_append_right _ hi))
 cases f with
 |none=>simp only[gm]at *;rw[hg];exact hs
 |some f=>
  simp only[gm]at *;refine⟨by rw[hg];exact hs.1,fun e2 h2 he2 hh2=>hs.2 e2 h2 (fun t ht=>(he2 t ht).trans (he t (by simp[ht]))) (fun l hl=>(hh2 l hl).trans (hh l hl))⟩
inductive Path (P:Program) (n:Nat) (all:List Oper):List Oper→Env→Heap→List (Option ei)→Prop
 |nil (e:Env) (h:Heap):Path P n all [] e h []
 |cons (o:Oper) (r:List Oper) (e:Env) (h:Heap) (f:Option ei) (fs:List (Option ei)) (h0:gm P n all o e h f) (h1:Path P n all r ((x8 o f).reverse++e) ((qg f).reverse++h) fs):Path P n all (o::r) e h (f::fs)
def wV (l:List Oper) (fs:List (Option ei)):List Env:=List.zipWith x8 l fs
def uH (fs:List (Option ei)):List Heap:=fs.map qg
theorem mw (W:Env) {e e':Env} (h:∀i,aL e i=aL e' i) (i:Nat):aL (W++e) i=aL (W++e') i:=by
 induction W with
 |nil=>exact h i
 |cons x r ih=>
  obtain⟨d,v⟩:=x
  by_cases q:d=i
  ·subst q;rw[List.cons_append,List.cons_append,bw,bw]
  ·rw[List.cons_append,List.cons_append,bN q,bN q];exact ih
theorem tB (W:Heap) {e e':Heap} (h:∀i,aG e i=aG e' i) (i:Nat):aG (W++e) i=aG (W++e') i:=by
 induction W with
 |nil=>exact h i
 |cons x r ih=>
  obtain⟨d,v⟩:=x
  by_cases q:d=i
  ·subst q;rw[List.cons_append,List.cons_append,aP,aP]
  ·rw[List.cons_append,List.cons_append,aT q,aT q];exact ih
theorem Ft {all:List Oper} {o:Oper} {e:Env} {S X:Env→Prop} (hg:guardOf all o e S X):
 (hU all o e=some true∧∃e1,X e1∧∀i,aL e1 i=aL e i)∨(hU all o e=some false∧∃e1,S e1∧∀i,aL e1 i=aL e i):=by
 unfold guardOf at hg;split at hg
 ·rename_i hn;exact .inl ⟨by simp[hU,hn],e,hg,fun _=>rfl⟩
 ·rename_i j want hn
  split at hg
  ·rename_i og hog
   split at hg
   ·rename_i d hd
    split at hg
    ·rename_i b hb
     have hsame:∀i,aL ((d,AV.p (.b b))::e) i=aL e i:=fun i=>by
      by_cases q:d=i
      ·subst q;rw[bw,hb]
      ·rw[bN q]
     have hw:hU all o e=some (b==want):=by simp[hU,hn,hog,hd,hb]
     cases b<;>cases want<;>simp only[kR]at hg
     ·exact .inl ⟨by rw[hw];rfl,_,hg,hsame⟩
     ·exact .inr ⟨by rw[hw];rfl,_,hg,hsame⟩
     ·exact .inr ⟨by rw[hw];rfl,_,hg,hsame⟩
     ·exact .inl ⟨by rw[hw];rfl,_,hg,hsame⟩
    ·rename_i hb;exact .inr ⟨by simp[hU,hn,hog,hd,hb],e,hg,fun _=>rfl⟩
    ·exact hg.elim
   ·exact hg.elim
  ·exact hg.elim
theorem rL (hty:bz P ty) {all:List Oper} {K:Env→Heap→List (Option ei)→Prop}:∀(l:List Oper) (e:Env) (h:Heap) (rs:List (Option ei)) (e2:Env) (h2:Heap),(∀o∈l,nP n o=true)→
 yJ ty (dj P) all l e h rs K→(∀i,aL e2 i=aL e i)→(∀i,aG h2 i=aG h i)→
 ∃fs e' h',Path P n all l e2 h2 fs∧fs.length=l.length∧K e' h' (fs.reverse++rs)∧(∀i,aL e' i=aL (fD (wV l fs) (fun _=>true) 0 e2) i)∧(∀i,aG h' i=aG (dm (uH fs) (fun _=>true) 0 h2) i)
 | [],e,h,rs,e2,h2,_,hk,he,hh=>⟨[],e,h,.nil e2 h2,rfl,hk,fun i=>(he i).symm,fun i=>(hh i).symm⟩
 |o::r,e,h,rs,e2,h2,hok,hk,he,hh=>by
  have envShift:∀(ws:List Env) (k k':Nat) (e:Env),fD ws (fun _=>true) k e=fD ws (fun _=>true) k' e:=by
   intro ws
   induction ws with
   |nil=>intros;rfl
   |cons W r ih=>intro k k' e;rw[fD,fD];exact ih _ _ _
  have heapShift:∀(ws:List Heap) (k k':Nat) (e:Heap),dm ws (fun _=>true) k e=dm ws (fun _=>true) k' e:=by
   intro ws
   induction ws with
   |nil=>intros;rfl
   |cons W r ih=>intro k k' e;rw[dm,dm];exact ih _ _ _
  have hoko:=hok o (by simp);rw[rY]at hk;rcases Ft hk with⟨hg,e1,hk,hee⟩|⟨hg,e1,hk,hee⟩
  ·obtain⟨f,hk,hop⟩:=qx hty (kY hoko) (nB hoko) (tW hoko) hk
   simp only[kK,kI]at hk;have he12:∀i,aL e2 i=aL e1 i:=fun i=>(he i).trans (hee i).symm;obtain⟨fs,e',h',q1,q2,q3,q4,q5⟩:=rL hty r _ _ _ (f.ew.reverse++e2) (f.hw.reverse++h2) (fun o' ho'=>hok o' (by simp[ho'])) hk (mw _ he12) (tB _ hh);have hst:gm P n all o e2 h2 (some f):=gm.congr (e:=e1) (h:=h) (f:=some f) ⟨by rw[nY (fun i _=>hee i)];exact hg,hop⟩ (fun i _=>he12 i) (fun i _=>hh i);refine⟨some f::fs,e',h',.cons o r e2 h2 (some f) fs hst q1,by simp[q2],by simpa using q3,fun i=>?_,fun i=>?_⟩
   ·rw[q4 i];simp only[wV,List.zipWith_cons_cons,fD,if_true,x8];rw[envShift]
   ·rw[q5 i];simp only[uH,List.map_cons,dm,if_true,qg];rw[heapShift]
  ·have key:yJ ty (dj P) all r ((x8 o none).reverse++e1) h (none::rs) K:=by
    unfold xB at hk;simp only[x8];split at hk
    ·rename_i d hd;simpa using hk
    ·rename_i hd;simpa using hk
   have he12:∀i,aL e2 i=aL e1 i:=fun i=>(he i).trans (hee i).symm;obtain⟨fs,e',h',q1,q2,q3,q4,q5⟩:=rL hty r _ _ _ ((x8 o none).reverse++e2) h2 (fun o' ho'=>hok o' (by simp[ho'])) key (mw _ he12) hh;have hst:gm P n all o e2 h2 none:=gm.congr (e:=e1) (h:=h) (f:=none) (by simp only[gm];rw[nY (fun i _=>hee i)];exact hg) (fun i _=>he12 i) (fun i _=>hh i);refine⟨none::fs,e',h',.cons o r e2 h2 none fs hst q1,by simp[q2],by simpa using q3,fun i=>?_,fun i=>?_⟩
   ·rw[q4 i];simp only[wV,List.zipWith_cons_cons,fD,if_true];rw[envShift]
   ·rw[q5 i];simp only[uH,List.map_cons,dm,if_true,qg,List.reverse_nil,List.nil_append];rw[heapShift]
theorem Path.len {all:List Oper} {l:List Oper} {e:Env} {h:Heap} {fs:List (Option ei)} (hp:Path P n all l e h fs):fs.length=l.length:=by
 induction hp with
 |nil=>rfl
 |cons o r e h f fs h0 h1 ih=>simp[ih]
theorem Path.at {all:List Oper}:∀{l:List Oper} {e:Env} {h:Heap} {fs:List (Option ei)},Path P n all l e h fs→∀(k j:Nat) (o:Oper) (f:Option ei),l[j]?=some o→fs[j]?=some f→
 gm P n all o (fD (wV l fs) (fun i=>decide (i<k+j)) k e) (dm (uH fs) (fun i=>decide (i<k+j)) k h) f:=by
 intro l e h fs hp
 have stopE:∀(ws:List Env) (k m:Nat) (e:Env),m≤k→fD ws (fun i=>decide (i<m)) k e=e:=by
  intro ws
  induction ws with
  |nil=>intros;rfl
  |cons W r ih=>intro k m e hm;rw[fD];simp only[show ¬k<m by omega,decide_false,Bool.false_eq_true,if_false];exact ih _ _ _ (by omega)
 have stopH:∀(ws:List Heap) (k m:Nat) (e:Heap),m≤k→dm ws (fun i=>decide (i<m)) k e=e:=by
  intro ws
  induction ws with
  |nil=>intros;rfl
  |cons W r ih=>intro k m e hm;rw[dm];simp only[show ¬k<m by omega,decide_false,Bool.false_eq_true,if_false];exact ih _ _ _ (by omega)
 induction hp with
 |nil=>intro k j o f ho;simp at ho
 |cons o r e h f fs h0 h1 ih=>
  intro k j o' f' ho hf
  cases j with
  |zero=>
   simp at ho hf;subst ho;subst hf;rw[stopE _ k (k+0) _ (Nat.le_refl k),stopH _ k (k+0) _ (Nat.le_refl k)];exact h0
  |succ j=>
   simp at ho hf;have:=ih (k+1) j o' f' ho hf;simp only[wV,uH,List.zipWith_cons_cons,List.map_cons,fD,dm];simp only[show k<k+(j+1) by omega,decide_true,if_true];rw[show k+(j+1)=k+1+j by omega];exact this
end
end Go.AM
end
