/- Contracts, and the law, for every input. No conditions. -/
import Derived.Test.YtdmopjgjhfhfdaaGreatDoorChecked
import Derived.Test.YtdmopjgjhfhfdaaGreatDoorAMTop
import Derived.Test.YtdmopjgjhfhfdaaGreatDoorTKD
open Go Go.AM Go.Proofs
namespace TR
theorem hmix:Tryz.prog.follows .mixedOrders=true:=by kernel_rfl
inductive Ty where
 |mk (kind:Int) (name:ByteArray) (args:List Ty)
inductive Pt where
 |mk (kind num:Int) (text:ByteArray) (args:List Pt)
mutual
inductive Ex where
 |mk (kind num:Int) (text:ByteArray) (names:List ByteArray) (types:List Ty) (args:List Ex) (arms:List Arm) (pos:Int)
inductive Arm where
 |mk (pat:Pt) (body:Ex)
end
def Ty.kind:Ty→Int|.mk k _ _=>k
def Ty.args:Ty→List Ty|.mk _ _ a=>a
def Pt.kind:Pt→Int|.mk k _ _ _=>k
def Pt.text:Pt→ByteArray|.mk _ _ t _=>t
def Pt.args:Pt→List Pt|.mk _ _ _ a=>a
def Ex.kind:Ex→Int|.mk k _ _ _ _ _ _ _=>k
def Ex.num:Ex→Int|.mk _ n _ _ _ _ _ _=>n
def Ex.text:Ex→ByteArray|.mk _ _ t _ _ _ _ _=>t
def Ex.names:Ex→List ByteArray|.mk _ _ _ n _ _ _ _=>n
def Ex.types:Ex→List Ty|.mk _ _ _ _ t _ _ _=>t
def Ex.args:Ex→List Ex|.mk _ _ _ _ _ a _ _=>a
def Ex.arms:Ex→List Arm|.mk _ _ _ _ _ _ a _=>a
def Ex.pos:Ex→Int|.mk _ _ _ _ _ _ _ p=>p
def Arm.pat:Arm→Pt|.mk p _=>p
def Arm.body:Arm→Ex|.mk _ e=>e
theorem Ty.ind {Q:Ty→Prop} (h:∀k n xs,(∀a∈xs,Q a)→Q (.mk k n xs)) (t:Ty):Q t:=
 Ty.rec (motive_1:=Q) (motive_2:=fun l=>∀a∈l,Q a) (fun k n xs ih=>h k n xs ih) (fun _ hb=>by cases hb) (fun a r h1 h2 b hb=>by
  rcases List.mem_cons.1 hb with hb|hb
  ·rw[hb];exact h1
  ·exact h2 b hb) t
theorem Pt.ind {Q:Pt→Prop} (h:∀k n t xs,(∀a∈xs,Q a)→Q (.mk k n t xs)) (t:Pt):Q t:=
 Pt.rec (motive_1:=Q) (motive_2:=fun l=>∀a∈l,Q a) (fun k n t xs ih=>h k n t xs ih) (fun _ hb=>by cases hb) (fun a r h1 h2 b hb=>by
  rcases List.mem_cons.1 hb with hb|hb
  ·rw[hb];exact h1
  ·exact h2 b hb) t
theorem Ex.ind {Q:Ex→Prop} (h:∀k n t ns ts xs ms p,(∀a∈xs,Q a)→(∀a∈ms,Q a.body)→Q (.mk k n t ns ts xs ms p)) (e:Ex):Q e:=
 Ex.rec (motive_1:=Q) (motive_2:=fun a=>Q a.body) (motive_3:=fun l=>∀a∈l,Q a) (motive_4:=fun l=>∀a∈l,Q a.body) (fun k n t ns ts xs ms p h1 h2=>h k n t ns ts xs ms p h1 h2) (fun _ _ h=>h)
  (fun _ hb=>by cases hb) (fun a r h1 h2 b hb=>by
    rcases List.mem_cons.1 hb with hb|hb
    ·rw[hb];exact h1
    ·exact h2 b hb)
  (fun _ hb=>by cases hb) (fun a r h1 h2 b hb=>by
    rcases List.mem_cons.1 hb with hb|hb
    ·rw[hb];exact h1
    ·exact h2 b hb) e
def eStr (s:ByteArray):PV:=.s s
mutual
def eT:Ty→PV
 |.mk k n xs=>.agg [.i .i64 k,.s n,.sl 3 (eTs xs)]
def eTs:List Ty→List PV
 | []=>[]
 |t::r=>eT t::eTs r
end
mutual
def eP:Pt→PV
 |.mk k n t xs=>.agg [.i .i64 k,.i .i64 n,.s t,.sl 4 (ePs xs)]
def ePs:List Pt→List PV
 | []=>[]
 |t::r=>eP t::ePs r
end
mutual
def eE:Ex→PV
 |.mk k n t ns ts xs ms p=>.agg [.i .i64 k,.i .i64 n,.s t,.sl 1 (ns.map eStr),.sl 3 (eTs ts),.sl 8 (eEs xs),.sl 12 (eAs ms),.i .i64 p]
def eA:Arm→PV
 |.mk p e=>.agg ((eP p).cells++(eE e).cells)
def eEs:List Ex→List PV
 | []=>[]
 |t::r=>eE t::eEs r
def eAs:List Arm→List PV
 | []=>[]
 |t::r=>eA t::eAs r
end
theorem eTs_map (l:List Ty):eTs l=l.map eT:=by
 induction l with
 |nil=>rfl
 |cons t r ih=>simp[eTs,ih]
theorem ePs_map (l:List Pt):ePs l=l.map eP:=by
 induction l with
 |nil=>rfl
 |cons t r ih=>simp[ePs,ih]
theorem eEs_map (l:List Ex):eEs l=l.map eE:=by
 induction l with
 |nil=>rfl
 |cons t r ih=>simp[eEs,ih]
theorem eAs_map (l:List Arm):eAs l=l.map eA:=by
 induction l with
 |nil=>rfl
 |cons t r ih=>simp[eAs,ih]
theorem ePs_get {l:List Pt} {k:Nat} {t:Pt} (h:l[k]?=some t):(ePs l)[k]?=some (eP t):=by rw[ePs_map];simp[h]
theorem eEs_get {l:List Ex} {k:Nat} {t:Ex} (h:l[k]?=some t):(eEs l)[k]?=some (eE t):=by rw[eEs_map];simp[h]
theorem eAs_get {l:List Arm} {k:Nat} {t:Arm} (h:l[k]?=some t):(eAs l)[k]?=some (eA t):=by rw[eAs_map];simp[h]
theorem eTs_len (l:List Ty):(eTs l).length=l.length:=by rw[eTs_map];simp
theorem ePs_len (l:List Pt):(ePs l).length=l.length:=by rw[ePs_map];simp
theorem eEs_len (l:List Ex):(eEs l).length=l.length:=by rw[eEs_map];simp
theorem eAs_len (l:List Arm):(eAs l).length=l.length:=by rw[eAs_map];simp
theorem eTs_app (l r:List Ty):eTs (l++r)=eTs l++eTs r:=by simp[eTs_map]
theorem ePs_app (l r:List Pt):ePs (l++r)=ePs l++ePs r:=by simp[ePs_map]
theorem wts_mem {x:PV}:∀{l:List PV},x∈l→PV.wt x≤PV.wts l
 | [],h=>by cases h
 |y::r,h=>by
  simp only[PV.wts];rcases List.mem_cons.1 h with rfl|h
  ·omega
  ·have:=wts_mem h;omega
theorem wts_len:∀{l:List PV},(∀x∈l,1≤PV.wt x)→l.length≤PV.wts l
 | [],_=>by simp[PV.wts]
 |y::r,h=>by
  have h1:=h y (by simp);have h2:=wts_len (l:=r) (fun x hx=>h x (by simp[hx]));simp only[PV.wts,List.length_cons];omega
theorem wt_cells (x:PV):PV.wts x.cells=PV.wt x:=by cases x<;>simp[PV.cells,PV.wts,PV.wt]
def wT (t:Ty):Nat:=PV.wt (eT t)
def wP (t:Pt):Nat:=PV.wt (eP t)
def wE (t:Ex):Nat:=PV.wt (eE t)
def wA (t:Arm):Nat:=PV.wt (eA t)
theorem wT_mk (k:Int) (n:ByteArray) (xs:List Ty):wT (.mk k n xs)=n.size+3+PV.wts (eTs xs):=by simp[wT,eT,PV.wt,PV.wts];omega
theorem wP_mk (k m:Int) (n:ByteArray) (xs:List Pt):wP (.mk k m n xs)=n.size+4+PV.wts (ePs xs):=by simp[wP,eP,PV.wt,PV.wts];omega
theorem wE_mk (k n:Int) (t:ByteArray) (ns:List ByteArray) (ts:List Ty) (xs:List Ex) (ms:List Arm) (p:Int):wE (.mk k n t ns ts xs ms p)=t.size+8+PV.wts (ns.map eStr)+PV.wts (eTs ts)+PV.wts (eEs xs)+PV.wts (eAs ms):=by
 simp[wE,eE,PV.wt,PV.wts];omega
theorem wA_mk (p:Pt) (e:Ex):wA (.mk p e)=wP p+wE e:=by simp[wA,eA,PV.wt,PV.wts_append,wt_cells,wP,wE]
theorem wE_pos (e:Ex):8≤wE e:=by cases e;rw[wE_mk];omega
theorem wP_pos (e:Pt):4≤wP e:=by cases e;rw[wP_mk];omega
theorem wT_pos (e:Ty):3≤wT e:=by cases e;rw[wT_mk];omega
theorem wA_pos (e:Arm):12≤wA e:=by obtain⟨p,e⟩:=e;rw[wA_mk];have:=wP_pos p;have:=wE_pos e;omega
theorem wEs_mem {x:Ex} {l:List Ex} (h:x∈l):wE x≤PV.wts (eEs l):=by rw[eEs_map];exact wts_mem (List.mem_map.2 ⟨x,h,rfl⟩)
theorem wPs_mem {x:Pt} {l:List Pt} (h:x∈l):wP x≤PV.wts (ePs l):=by rw[ePs_map];exact wts_mem (List.mem_map.2 ⟨x,h,rfl⟩)
theorem wTs_mem {x:Ty} {l:List Ty} (h:x∈l):wT x≤PV.wts (eTs l):=by rw[eTs_map];exact wts_mem (List.mem_map.2 ⟨x,h,rfl⟩)
theorem wAs_mem {x:Arm} {l:List Arm} (h:x∈l):wA x≤PV.wts (eAs l):=by rw[eAs_map];exact wts_mem (List.mem_map.2 ⟨x,h,rfl⟩)
theorem wEs_len (l:List Ex):l.length≤PV.wts (eEs l):=by
 have:=wts_len (l:=eEs l) (fun x hx=>by rw[eEs_map]at hx;obtain⟨y,_,rfl⟩:=List.mem_map.1 hx;have:=wE_pos y;unfold wE at this;omega)
 rwa [eEs_len]at this
theorem wPs_len (l:List Pt):l.length≤PV.wts (ePs l):=by
 have:=wts_len (l:=ePs l) (fun x hx=>by rw[ePs_map]at hx;obtain⟨y,_,rfl⟩:=List.mem_map.1 hx;have:=wP_pos y;unfold wP at this;omega)
 rwa [ePs_len]at this
theorem wTs_len (l:List Ty):l.length≤PV.wts (eTs l):=by
 have:=wts_len (l:=eTs l) (fun x hx=>by rw[eTs_map]at hx;obtain⟨y,_,rfl⟩:=List.mem_map.1 hx;have:=wT_pos y;unfold wT at this;omega)
 rwa [eTs_len]at this
theorem wAs_len (l:List Arm):l.length≤PV.wts (eAs l):=by
 have:=wts_len (l:=eAs l) (fun x hx=>by rw[eAs_map]at hx;obtain⟨y,_,rfl⟩:=List.mem_map.1 hx;have:=wA_pos y;unfold wA at this;omega)
 rwa [eAs_len]at this
theorem wSs_len (l:List ByteArray):l.length≤PV.wts (l.map eStr):=by
 have:=wts_len (l:=l.map eStr) (fun x hx=>by obtain⟨y,_,rfl⟩:=List.mem_map.1 hx;simp[eStr,PV.wt]);simpa using this
theorem wE_args {k n:Int} {t:ByteArray} {ns:List ByteArray} {ts:List Ty} {xs:List Ex} {ms:List Arm} {p:Int} {a:Ex} (h:a∈xs):wE a+8≤wE (.mk k n t ns ts xs ms p):=by have:=wEs_mem h;rw[wE_mk];omega
theorem wE_arms {k n:Int} {t:ByteArray} {ns:List ByteArray} {ts:List Ty} {xs:List Ex} {ms:List Arm} {p:Int} {a:Arm} (h:a∈ms):wA a+8≤wE (.mk k n t ns ts xs ms p):=by have:=wAs_mem h;rw[wE_mk];omega
theorem wA_body (a:Arm):wP a.pat+wE a.body=wA a:=by obtain⟨p,e⟩:=a;rw[wA_mk];rfl
theorem wE_body {k n:Int} {t:ByteArray} {ns:List ByteArray} {ts:List Ty} {xs:List Ex} {ms:List Arm} {p:Int} {a:Arm} (h:a∈ms):wP a.pat+wE a.body+8≤wE (.mk k n t ns ts xs ms p):=by rw[wA_body];exact wE_arms h
theorem wP_args {k n:Int} {t:ByteArray} {xs:List Pt} {a:Pt} (h:a∈xs):wP a+4≤wP (.mk k n t xs):=by have:=wPs_mem h;rw[wP_mk];omega
theorem wE_lens (k n:Int) (t:ByteArray) (ns:List ByteArray) (ts:List Ty) (xs:List Ex) (ms:List Arm) (p:Int):t.size+ns.length+ts.length+xs.length+ms.length+8≤wE (.mk k n t ns ts xs ms p):=by
 have:=wSs_len ns;have:=wTs_len ts;have:=wEs_len xs;have:=wAs_len ms;rw[wE_mk];omega
theorem wP_lens (k n:Int) (t:ByteArray) (xs:List Pt):t.size+xs.length+4≤wP (.mk k n t xs):=by
 have:=wPs_len xs;rw[wP_mk];omega
mutual
def psizeF:Pt→Nat
 |.mk _ _ _ xs=>1+psizeFs xs
def psizeFs:List Pt→Nat
 | []=>0
 |p::r=>psizeF p+psizeFs r
end
mutual
def sizeF:Ex→Nat
 |.mk _ _ _ _ _ xs ms _=>1+(sizeFs xs+sizeFa ms)
def sizeFs:List Ex→Nat
 | []=>0
 |e::r=>sizeF e+sizeFs r
def sizeFa:List Arm→Nat
 | []=>0
 |.mk p e::r=>psizeF p+sizeF e+sizeFa r
end
theorem psizeFs_app (l r:List Pt):psizeFs (l++r)=psizeFs l+psizeFs r:=by
 induction l with
 |nil=>simp[psizeFs]
 |cons a l ih=>simp[psizeFs,ih];omega
theorem sizeFs_app (l r:List Ex):sizeFs (l++r)=sizeFs l+sizeFs r:=by
 induction l with
 |nil=>simp[sizeFs]
 |cons a l ih=>simp[sizeFs,ih];omega
theorem sizeFa_app (l r:List Arm):sizeFa (l++r)=sizeFa l+sizeFa r:=by
 induction l with
 |nil=>simp[sizeFa]
 |cons a l ih=>obtain⟨p,e⟩:=a;simp[sizeFa,ih];omega
mutual
theorem psize_le:∀(p:Pt),psizeF p≤wP p
 |.mk k n t xs=>by rw[psizeF,wP_mk];have:=psizes_le xs;omega
theorem psizes_le:∀(l:List Pt),psizeFs l≤PV.wts (ePs l)
 | []=>by simp[psizeFs]
 |p::r=>by have h1:=psize_le p;have h2:=psizes_le r;unfold wP at h1;simp only[psizeFs,ePs,PV.wts];omega
end
mutual
theorem size_le:∀(e:Ex),sizeF e≤wE e
 |.mk k n t ns ts xs ms p=>by rw[sizeF,wE_mk];have:=sizes_le xs;have:=sizea_le ms;omega
theorem sizes_le:∀(l:List Ex),sizeFs l≤PV.wts (eEs l)
 | []=>by simp[sizeFs]
 |p::r=>by have h1:=size_le p;have h2:=sizes_le r;unfold wE at h1;simp only[sizeFs,eEs,PV.wts];omega
theorem sizea_le:∀(l:List Arm),sizeFa l≤PV.wts (eAs l)
 | []=>by simp[sizeFa]
 |.mk p e::r=>by
  have h1:=size_le e;have h2:=sizea_le r;have h3:=psize_le p;have h4:=wA_mk p e;unfold wA at h4;simp only[sizeFa,eAs,PV.wts];omega
end
end TR
open Go Go.AM Go.Proofs
set_option maxRecDepth 100000
namespace TR
theorem psizeFs_le (l:List Pt) (k:Nat):psizeFs (l.take k)≤psizeFs l:=by
 have:=psizeFs_app (l.take k) (l.drop k);rw[List.take_append_drop]at this;omega
end TR
open Go Go.AM Go.Proofs
set_option maxRecDepth 100000
namespace TR
theorem imax_nat (a b:Nat):(if (a:Int)<(b:Int) then (b:Int) else (a:Int))=((max a b:Nat):Int):=by
 split
 ·rw[Nat.max_eq_right (by omega)]
 ·rw[Nat.max_eq_left (by omega)]
theorem imax_nat' (a b:Nat):imax (a:Int) (b:Int)=((max a b:Nat):Int):=imax_nat a b
mutual
def pdeepF:Pt→Nat
 |.mk _ _ _ xs=>pdeepFs xs+1
def pdeepFs:List Pt→Nat
 | []=>0
 |p::r=>max (pdeepF p) (pdeepFs r)
end
mutual
def deepF:Ex→Nat
 |.mk _ _ _ _ _ xs ms _=>max (deepFs xs) (deepFa ms)+1
def deepFs:List Ex→Nat
 | []=>0
 |p::r=>max (deepF p) (deepFs r)
def deepFa:List Arm→Nat
 | []=>0
 |.mk p e::r=>max (max (pdeepF p) (deepF e)) (deepFa r)
end
mutual
theorem pdeep_le:∀(p:Pt),pdeepF p≤psizeF p
 |.mk k n t xs=>by rw[pdeepF,psizeF];have:=pdeeps_le xs;omega
theorem pdeeps_le:∀(l:List Pt),pdeepFs l≤psizeFs l
 | []=>by simp[pdeepFs]
 |p::r=>by have h1:=pdeep_le p;have h2:=pdeeps_le r;rw[pdeepFs,psizeFs];omega
end
mutual
theorem deep_le:∀(p:Ex),deepF p≤sizeF p
 |.mk k n t ns ts xs ms p=>by rw[deepF,sizeF];have:=deeps_le xs;have:=deepa_le ms;omega
theorem deeps_le:∀(l:List Ex),deepFs l≤sizeFs l
 | []=>by simp[deepFs]
 |p::r=>by have h1:=deep_le p;have h2:=deeps_le r;rw[deepFs,sizeFs];omega
theorem deepa_le:∀(l:List Arm),deepFa l≤sizeFa l
 | []=>by simp[deepFa]
 |.mk p e::r=>by have h1:=deep_le e;have h2:=deepa_le r;have h3:=pdeep_le p;rw[deepFa,sizeFa];omega
end
theorem pdeepFs_snoc (l:List Pt) (p:Pt):pdeepFs (l++[p])=max (pdeepFs l) (pdeepF p):=by
 induction l with
 |nil=>simp[pdeepFs]
 |cons a l ih=>simp[pdeepFs,ih]
theorem deepFs_snoc (l:List Ex) (p:Ex):deepFs (l++[p])=max (deepFs l) (deepF p):=by
 induction l with
 |nil=>simp[deepFs]
 |cons a l ih=>simp[deepFs,ih]
theorem deepFa_snoc (l:List Arm) (p:Arm):deepFa (l++[p])=max (deepFa l) (max (pdeepF p.pat) (deepF p.body)):=by
 induction l with
 |nil=>obtain⟨p,e⟩:=p;simp[deepFa,Arm.pat,Arm.body]
 |cons a l ih=>obtain⟨q,e⟩:=a;simp[deepFa,ih]
theorem psizeFs_snoc (l:List Pt) (p:Pt):psizeFs (l++[p])=psizeFs l+psizeF p:=by rw[psizeFs_app];simp[psizeFs]
theorem sizeFs_snoc (l:List Ex) (p:Ex):sizeFs (l++[p])=sizeFs l+sizeF p:=by rw[sizeFs_app];simp[sizeFs]
theorem sizeFa_snoc (l:List Arm) (p:Arm):sizeFa (l++[p])=sizeFa l+(psizeF p.pat+sizeF p.body):=by rw[sizeFa_app];obtain⟨p,e⟩:=p;simp[sizeFa,Arm.pat,Arm.body]
theorem sizeFs_take (l:List Ex) (k:Nat):sizeFs (l.take k)≤sizeFs l:=by
 have:=sizeFs_app (l.take k) (l.drop k);rw[List.take_append_drop]at this;omega
theorem sizeFa_take (l:List Arm) (k:Nat):sizeFa (l.take k)≤sizeFa l:=by
 have:=sizeFa_app (l.take k) (l.drop k);rw[List.take_append_drop]at this;omega
theorem patSize_spec (p:Pt):wP p≤1048576→APure Tryz.prog 164 [.p (eP p)] (.p (.i .i64 (psizeF p))):=by
 induction p using Pt.ind with
 |h k0 n0 t0 as0 ih=>
 intro hw;have hl:=wP_lens k0 n0 t0 as0;have hsz:=psize_le (.mk k0 n0 t0 as0);rw[psizeF]at hsz ⊢;refine APure.intro (tyOf_ok Tryz.prog) hmix Tryz.func164 rfl (by rfl) (by kernel_rfl) (by show 1≤_;decide) rfl ?_;(conv=>whnf);refine loopS (tyOf_ok _) hmix (by kernel_rfl) as0.length [3,7,8,9] [] (fun k (s:Int)=>[.p (.i .i64 s),.p (.sl 4 (ePs as0)),.p (.i .i64 (ePs as0).length),.p (.i .i64 (ix k))]) (fun _ _=>[]) (fun k s=>s=1+psizeFs (as0.take k)) 1 ⟨rfl,rfl,rfl,rfl⟩ (by simp[psizeFs]) ?_;intro k s hk hs;(conv=>whnf);refine asplit ?_ ?_<;>intro h1<;>conv=>whnf
 ·have hk1:=ix_tt h1 (by rw[ePs_len]) hk (by omega)
  obtain⟨b,hb1⟩:∃b,as0[k]?=some b:=⟨as0[k],by simp[hk1]⟩
  refine aidxk (ePs_get hb1) (by omega) ?_;have hbw:=wP_args (k:=k0) (n:=n0) (t:=t0) (List.mem_of_getElem? hb1);have hc:=ih b (List.mem_of_getElem? hb1) (by omega);have hts:psizeFs (as0.take (k+1))=psizeFs (as0.take k)+psizeF b:=by rw[take_snoc hb1,psizeFs_snoc]
  have htl:=psizeFs_le as0 (k+1);generalize psizeF b=sb at hc hts;obtain⟨b1,b2,b3,b4⟩:=b;(conv=>whnf);refine apc hc ?_;(conv=>whnf);refine⟨hk1,_,⟨rfl,rfl,rfl,rfl⟩,?_⟩;rw[hs,hts,wrap64 (by omega) (by omega)];omega
 ·have hk1:=ix_ff h1 (by rw[ePs_len]) hk (by omega)
  exact .inl (pi (by rw[hs,hk1,List.take_length];omega))
theorem patDeep_spec (p:Pt):wP p≤1048576→APure Tryz.prog 165 [.p (eP p)] (.p (.i .i64 (pdeepF p))):=by
 induction p using Pt.ind with
 |h k0 n0 t0 as0 ih=>
 intro hw;have hl:=wP_lens k0 n0 t0 as0;have hsz:=psize_le (.mk k0 n0 t0 as0);have hdz:=pdeep_le (.mk k0 n0 t0 as0);rw[psizeF]at hsz;rw[pdeepF]at hdz ⊢;refine APure.intro (tyOf_ok Tryz.prog) hmix Tryz.func165 rfl (by rfl) (by kernel_rfl) (by show 1≤_;decide) rfl ?_;(conv=>whnf);refine loopS (tyOf_ok _) hmix (by kernel_rfl) as0.length [3,7,8,9] [] (fun k (s:Int)=>[.p (.i .i64 s),.p (.sl 4 (ePs as0)),.p (.i .i64 (ePs as0).length),.p (.i .i64 (ix k))]) (fun _ _=>[]) (fun k s=>s=pdeepFs (as0.take k)) 0 ⟨rfl,rfl,rfl,rfl⟩ (by simp[pdeepFs]) ?_;intro k s hk hs;(conv=>whnf);refine asplit ?_ ?_<;>intro h1<;>conv=>whnf
 ·have hk1:=ix_tt h1 (by rw[ePs_len]) hk (by omega)
  obtain⟨b,hb1⟩:∃b,as0[k]?=some b:=⟨as0[k],by simp[hk1]⟩
  refine aidxk (ePs_get hb1) (by omega) ?_;have hbw:=wP_args (k:=k0) (n:=n0) (t:=t0) (List.mem_of_getElem? hb1);have hc:=ih b (List.mem_of_getElem? hb1) (by omega);have hts:pdeepFs (as0.take (k+1))=max (pdeepFs (as0.take k)) (pdeepF b):=by rw[take_snoc hb1,pdeepFs_snoc]
  generalize pdeepF b=sb at hc hts;obtain⟨b1,b2,b3,b4⟩:=b;(conv=>whnf);refine apc hc ?_;(conv=>whnf);refine⟨hk1,_,⟨rfl,rfl,rfl,rfl⟩,?_⟩;rw[hs,hts,imax_nat]
 ·have hk1:=ix_ff h1 (by rw[ePs_len]) hk (by omega)
  have hs2:s=pdeepFs as0:=by rw[hs,hk1,List.take_length]
  have:=pdeeps_le as0;exact .inl (pi (by rw[hs2,wrap64 (by omega) (by omega)];omega))
theorem size_spec (e:Ex):wE e≤1048576→APure Tryz.prog 141 [.p (eE e)] (.p (.i .i64 (sizeF e))):=by
 induction e using Ex.ind with
 |h k0 n0 t0 ns0 ts0 as0 ms0 p0 ih1 ih2=>
 intro hw;have hl:=wE_lens k0 n0 t0 ns0 ts0 as0 ms0 p0;have hsz:=size_le (.mk k0 n0 t0 ns0 ts0 as0 ms0 p0);rw[sizeF]at hsz ⊢;refine APure.intro (tyOf_ok Tryz.prog) hmix Tryz.func141 rfl (by rfl) (by kernel_rfl) (by show 1≤_;decide) rfl ?_;(conv=>whnf);refine loopS (tyOf_ok _) hmix (by kernel_rfl) as0.length [1,3,9,10,11] [1] (fun k (s:Int)=>[.ptr 1 0,.p (.i .i64 s),.p (.sl 8 (eEs as0)),.p (.i .i64 (eEs as0).length),.p (.i .i64 (ix k))]) (fun _ _=>[.cells [.p (.i .i64 k0),.p (.i .i64 n0),.p (.s t0),.p (.sl 1 (ns0.map eStr)),.p (.sl 3 (eTs ts0)),.p (.sl 8 (eEs as0)),.p (.sl 12 (eAs ms0)),.p (.i .i64 p0)]]) (fun k s=>s=1+sizeFs (as0.take k)) 1 ⟨rfl,rfl,rfl,rfl⟩ (by simp[sizeFs]) ?_;intro k s hk hs;(conv=>whnf);refine asplit ?_ ?_<;>intro h1<;>conv=>whnf
 ·have hk1:=ix_tt h1 (by rw[eEs_len]) hk (by omega)
  obtain⟨b,hb1⟩:∃b,as0[k]?=some b:=⟨as0[k],by simp[hk1]⟩
  refine aidxk (eEs_get hb1) (by omega) ?_;have hbw:=wE_args (k:=k0) (n:=n0) (t:=t0) (ns:=ns0) (ts:=ts0) (ms:=ms0) (p:=p0) (List.mem_of_getElem? hb1);have hc:=ih1 b (List.mem_of_getElem? hb1) (by omega);have hts:sizeFs (as0.take (k+1))=sizeFs (as0.take k)+sizeF b:=by rw[take_snoc hb1,sizeFs_snoc]
  have htl:=sizeFs_take as0 (k+1);generalize sizeF b=sb at hc hts;obtain⟨b1,b2,b3,b4,b5,b6,b7,b8⟩:=b;(conv=>whnf);refine apc hc ?_;(conv=>whnf);refine⟨hk1,_,⟨rfl,rfl,rfl,rfl⟩,?_⟩;rw[hs,hts,wrap64 (by omega) (by omega)];omega
 ·have hk1:=ix_ff h1 (by rw[eEs_len]) hk (by omega)
  have hs2:s=1+sizeFs as0:=by rw[hs,hk1,List.take_length]
  refine loopS (tyOf_ok _) hmix (by kernel_rfl) ms0.length [1,3,21,22,23] [1] (fun k (s:Int)=>[.ptr 1 0,.p (.i .i64 s),.p (.sl 12 (eAs ms0)),.p (.i .i64 (eAs ms0).length),.p (.i .i64 (ix k))]) (fun _ _=>[.cells [.p (.i .i64 k0),.p (.i .i64 n0),.p (.s t0),.p (.sl 1 (ns0.map eStr)),.p (.sl 3 (eTs ts0)),.p (.sl 8 (eEs as0)),.p (.sl 12 (eAs ms0)),.p (.i .i64 p0)]]) (fun k s=>s=1+sizeFs as0+sizeFa (ms0.take k)) s ⟨rfl,rfl,rfl,rfl⟩ (by simp[sizeFa,hs2]) ?_;intro j s3 hj hs3;(conv=>whnf);refine asplit ?_ ?_<;>intro h2<;>conv=>whnf
  ·have hj1:=ix_tt h2 (by rw[eAs_len]) hj (by omega)
   obtain⟨b,hb1⟩:∃b,ms0[j]?=some b:=⟨ms0[j],by simp[hj1]⟩
   refine aidxk (eAs_get hb1) (by omega) ?_;have hbw:=wE_body (k:=k0) (n:=n0) (t:=t0) (ns:=ns0) (ts:=ts0) (xs:=as0) (p:=p0) (List.mem_of_getElem? hb1);have hc:=ih2 b (List.mem_of_getElem? hb1) (by omega);have hp:=patSize_spec b.pat (by omega);have hts:sizeFa (ms0.take (j+1))=sizeFa (ms0.take j)+(psizeF b.pat+sizeF b.body):=by rw[take_snoc hb1,sizeFa_snoc]
   have htl:=sizeFa_take ms0 (j+1);generalize sizeF b.body=sb at hc hts;generalize psizeF b.pat=pb at hp hts;obtain⟨⟨ck,cn,ct,ca⟩,⟨c1,c2,c3,c4,c5,c6,c7,c8⟩⟩:=b;(conv=>whnf);refine apc hp ?_;(conv=>whnf);refine apc hc ?_;(conv=>whnf)
   first|refine aneed (.inl (by kernel_rfl)) ?_|refine aneed (by kernel_rfl) ?_
   (conv=>whnf);refine⟨hj1,_,⟨rfl,rfl,rfl,rfl⟩,?_⟩;rw[hs3,hts,wrap64 (x:=(pb:Int)+sb) (by omega) (by omega),wrap64 (by omega) (by omega)];omega
  ·have hj1:=ix_ff h2 (by rw[eAs_len]) hj (by omega)
   have hs4:s3=1+sizeFs as0+sizeFa ms0:=by rw[hs3,hj1,List.take_length]
   exact .inl (pi (by omega))
theorem deep_spec (e:Ex):wE e≤1048576→APure Tryz.prog 142 [.p (eE e)] (.p (.i .i64 (deepF e))):=by
 induction e using Ex.ind with
 |h k0 n0 t0 ns0 ts0 as0 ms0 p0 ih1 ih2=>
 intro hw;have hl:=wE_lens k0 n0 t0 ns0 ts0 as0 ms0 p0;have hsz:=size_le (.mk k0 n0 t0 ns0 ts0 as0 ms0 p0);have hdz:=deep_le (.mk k0 n0 t0 ns0 ts0 as0 ms0 p0);rw[deepF]at hdz ⊢;refine APure.intro (tyOf_ok Tryz.prog) hmix Tryz.func142 rfl (by rfl) (by kernel_rfl) (by show 1≤_;decide) rfl ?_;(conv=>whnf);refine loopS (tyOf_ok _) hmix (by kernel_rfl) as0.length [1,3,9,10,11] [1] (fun k (s:Int)=>[.ptr 1 0,.p (.i .i64 s),.p (.sl 8 (eEs as0)),.p (.i .i64 (eEs as0).length),.p (.i .i64 (ix k))]) (fun _ _=>[.cells [.p (.i .i64 k0),.p (.i .i64 n0),.p (.s t0),.p (.sl 1 (ns0.map eStr)),.p (.sl 3 (eTs ts0)),.p (.sl 8 (eEs as0)),.p (.sl 12 (eAs ms0)),.p (.i .i64 p0)]]) (fun k s=>s=deepFs (as0.take k)) 0 ⟨rfl,rfl,rfl,rfl⟩ (by simp[deepFs]) ?_;intro k s hk hs;(conv=>whnf);refine asplit ?_ ?_<;>intro h1<;>conv=>whnf
 ·have hk1:=ix_tt h1 (by rw[eEs_len]) hk (by omega)
  obtain⟨b,hb1⟩:∃b,as0[k]?=some b:=⟨as0[k],by simp[hk1]⟩
  refine aidxk (eEs_get hb1) (by omega) ?_;have hbw:=wE_args (k:=k0) (n:=n0) (t:=t0) (ns:=ns0) (ts:=ts0) (ms:=ms0) (p:=p0) (List.mem_of_getElem? hb1);have hc:=ih1 b (List.mem_of_getElem? hb1) (by omega);have hts:deepFs (as0.take (k+1))=max (deepFs (as0.take k)) (deepF b):=by rw[take_snoc hb1,deepFs_snoc]
  generalize deepF b=sb at hc hts;obtain⟨b1,b2,b3,b4,b5,b6,b7,b8⟩:=b;(conv=>whnf);refine apc hc ?_;(conv=>whnf);refine⟨hk1,_,⟨rfl,rfl,rfl,rfl⟩,?_⟩;rw[hs,hts,imax_nat]
 ·have hk1:=ix_ff h1 (by rw[eEs_len]) hk (by omega)
  have hs2:s=deepFs as0:=by rw[hs,hk1,List.take_length]
  refine loopS (tyOf_ok _) hmix (by kernel_rfl) ms0.length [1,3,21,22,23] [1] (fun k (s:Int)=>[.ptr 1 0,.p (.i .i64 s),.p (.sl 12 (eAs ms0)),.p (.i .i64 (eAs ms0).length),.p (.i .i64 (ix k))]) (fun _ _=>[.cells [.p (.i .i64 k0),.p (.i .i64 n0),.p (.s t0),.p (.sl 1 (ns0.map eStr)),.p (.sl 3 (eTs ts0)),.p (.sl 8 (eEs as0)),.p (.sl 12 (eAs ms0)),.p (.i .i64 p0)]]) (fun k s=>s=((max (deepFs as0) (deepFa (ms0.take k)):Nat):Int)) s ⟨rfl,rfl,rfl,rfl⟩ (by simp[deepFa,hs2]) ?_;intro j s3 hj hs3;(conv=>whnf);refine asplit ?_ ?_<;>intro h2<;>conv=>whnf
  ·have hj1:=ix_tt h2 (by rw[eAs_len]) hj (by omega)
   obtain⟨b,hb1⟩:∃b,ms0[j]?=some b:=⟨ms0[j],by simp[hj1]⟩
   refine aidxk (eAs_get hb1) (by omega) ?_;have hbw:=wE_body (k:=k0) (n:=n0) (t:=t0) (ns:=ns0) (ts:=ts0) (xs:=as0) (p:=p0) (List.mem_of_getElem? hb1);have hc:=ih2 b (List.mem_of_getElem? hb1) (by omega);have hp:=patDeep_spec b.pat (by omega);have hts:deepFa (ms0.take (j+1))=max (deepFa (ms0.take j)) (max (pdeepF b.pat) (deepF b.body)):=by rw[take_snoc hb1,deepFa_snoc]
   generalize deepF b.body=sb at hc hts;generalize pdeepF b.pat=pb at hp hts;obtain⟨⟨ck,cn,ct,ca⟩,⟨c1,c2,c3,c4,c5,c6,c7,c8⟩⟩:=b;(conv=>whnf);refine apc hp ?_;(conv=>whnf);refine apc hc ?_;(conv=>whnf)
   first|refine aneed (.inl (by kernel_rfl)) ?_|refine aneed (by kernel_rfl) ?_
   (conv=>whnf);refine⟨hj1,_,⟨rfl,rfl,rfl,rfl⟩,?_⟩;rw[hs3,hts,imax_nat',imax_nat',Nat.max_assoc,Nat.max_assoc]
  ·have hj1:=ix_ff h2 (by rw[eAs_len]) hj (by omega)
   have hs4:s3=((max (deepFs as0) (deepFa ms0):Nat):Int):=by rw[hs3,hj1,List.take_length]
   exact .inl (pi (by rw[hs4,wrap64 (by omega) (by omega)];omega))
end TR
open Go Go.AM Go.Proofs
set_option maxRecDepth 100000
open Go Go.AM Go.Proofs
set_option maxRecDepth 100000
namespace TR
def needsF (k n:Int) (len:Nat):Int:=
 bif k==1||(k==2||(k==3||(k==4||(k==5||k==16)))) then 0 else
 bif k==10||(k==13||(k==19||(k==20||(k==21||(k==22||(k==24||k==25)))))) then 1 else
 bif k==6||(k==15||k==23) then 2 else
 bif k==7 then 3 else
 bif k==18 then (bif decide (n≥0) then 1 else 0) else
 bif k==8||(k==9||(k==12||(k==14||k==17))) then len else
 bif k==11 then (if (len:Int)<1 then 1 else len) else -1
theorem needs_spec (e:Ex):APure Tryz.prog 45 [.p (eE e)] (.p (.i .i64 (needsF e.kind e.num e.args.length))):=by
 obtain⟨k0,n0,t0,ns0,ts0,as0,ms0,p0⟩:=e;simp only[Ex.kind,Ex.num,Ex.args];refine APure.intro (tyOf_ok Tryz.prog) hmix Tryz.func45 rfl (by rfl) (by kernel_rfl) (by show 1≤_;decide) rfl ?_
 by_cases hr:1≤k0∧k0≤25
 ·obtain rfl|rfl|rfl|rfl|rfl|rfl|rfl|rfl|rfl|rfl|rfl|rfl|rfl|rfl|rfl|rfl|rfl|rfl|rfl|rfl|rfl|rfl|rfl|rfl|rfl:k0=1∨k0=2∨k0=3∨k0=4∨k0=5∨k0=6∨k0=7∨k0=8∨k0=9∨k0=10∨k0=11∨k0=12∨k0=13∨k0=14∨k0=15∨k0=16∨k0=17∨k0=18∨k0=19∨k0=20∨k0=21∨k0=22∨k0=23∨k0=24∨k0=25:=by omega
  ·conv=>whnf
   exact .inl rfl
  ·conv=>whnf
   exact .inl rfl
  ·conv=>whnf
   exact .inl rfl
  ·conv=>whnf
   exact .inl rfl
  ·conv=>whnf
   exact .inl rfl
  ·conv=>whnf
   exact .inl rfl
  ·conv=>whnf
   exact .inl rfl
  ·conv=>whnf
   exact .inl (pi (by rw[eEs_len];rfl))
  ·conv=>whnf
   exact .inl (pi (by rw[eEs_len];rfl))
  ·conv=>whnf
   exact .inl rfl
  ·conv=>whnf
   exact .inl (pi (by rw[eEs_len];rfl))
  ·conv=>whnf
   exact .inl (pi (by rw[eEs_len];rfl))
  ·conv=>whnf
   exact .inl rfl
  ·conv=>whnf
   exact .inl (pi (by rw[eEs_len];rfl))
  ·conv=>whnf
   exact .inl rfl
  ·conv=>whnf
   exact .inl rfl
  ·conv=>whnf
   exact .inl (pi (by rw[eEs_len];rfl))
  ·conv=>whnf
   refine asplit ?_ ?_<;>intro h<;>conv=>whnf
   ·exact .inl (pi (by show _=(bif decide (n0≥0) then (1:Int) else 0);rw[h];rfl))
   ·exact .inl (pi (by show _=(bif decide (n0≥0) then (1:Int) else 0);rw[h];rfl))
  ·conv=>whnf
   exact .inl rfl
  ·conv=>whnf
   exact .inl rfl
  ·conv=>whnf
   exact .inl rfl
  ·conv=>whnf
   exact .inl rfl
  ·conv=>whnf
   exact .inl rfl
  ·conv=>whnf
   exact .inl rfl
  ·conv=>whnf
   exact .inl rfl
 ·have hb:∀c:Int,1≤c→c≤25→(k0==c)=false:=fun c h1 h2=>by simp;omega
  conv=>whnf
  iterate 25 (refine asf (hb _ (by decide) (by decide)) ?_;conv=>whnf)
  exact .inl (pi (by rw[needsF];simp only[hb 1 (by decide) (by decide),hb 2 (by decide) (by decide),hb 3 (by decide) (by decide),hb 4 (by decide) (by decide),hb 5 (by decide) (by decide),hb 6 (by decide) (by decide),hb 7 (by decide) (by decide),hb 8 (by decide) (by decide),hb 9 (by decide) (by decide),hb 10 (by decide) (by decide),hb 11 (by decide) (by decide),hb 12 (by decide) (by decide),hb 13 (by decide) (by decide),hb 14 (by decide) (by decide),hb 15 (by decide) (by decide),hb 16 (by decide) (by decide),hb 17 (by decide) (by decide),hb 18 (by decide) (by decide),hb 19 (by decide) (by decide),hb 20 (by decide) (by decide),hb 21 (by decide) (by decide),hb 22 (by decide) (by decide),hb 23 (by decide) (by decide),hb 24 (by decide) (by decide),hb 25 (by decide) (by decide),Bool.or_self,cond_false]))
end TR
open Go Go.AM Go.Proofs
set_option maxRecDepth 100000
open Go Go.AM
set_option maxRecDepth 100000
namespace TR
structure LUse where
 name:ByteArray
 low:Int
 high:Int
structure LMk where
 name:ByteArray
 ts:List Ty
structure LDt where
 name:ByteArray
 ps:List ByteArray
 makes:List LMk
structure LFu where
 name:ByteArray
 ps:List ByteArray
 ns:List ByteArray
 ts:List Ty
 out:Ty
 body:Ex
structure LTr where
 name:ByteArray
 funcs:List LFu
structure LIm where
 tr:ByteArray
 fo:ByteArray
 funcs:List LFu
structure LAc where
 name:ByteArray
 ns:List ByteArray
 ts:List Ty
 msg:Ty
 body:Ex
structure LPg where
 name:ByteArray
 ver:Int
 uses:List LUse
 datas:List LDt
 traits:List LTr
 impls:List LIm
 funcs:List LFu
 actors:List LAc
def elUse (u:LUse):PV:=.agg [.s u.name,.i .i64 u.low,.i .i64 u.high]
def elMk (m:LMk):PV:=.agg [.s m.name,.sl 3 (eTs m.ts)]
def elDt (m:LDt):PV:=.agg [.s m.name,.sl 1 (m.ps.map eStr),.sl 2 (m.makes.map elMk)]
def elFu (f:LFu):PV:=.agg (.s f.name::.sl 1 (f.ps.map eStr)::.sl 1 (f.ns.map eStr)::.sl 3 (eTs f.ts)::((eT f.out).cells++(eE f.body).cells))
def elTr (m:LTr):PV:=.agg [.s m.name,.sl 15 (m.funcs.map elFu)]
def elIm (m:LIm):PV:=.agg [.s m.tr,.s m.fo,.sl 15 (m.funcs.map elFu)]
def elAc (f:LAc):PV:=.agg (.s f.name::.sl 1 (f.ns.map eStr)::.sl 3 (eTs f.ts)::((eT f.msg).cells++(eE f.body).cells))
def elPg (p:LPg):PV:=.agg [.s p.name,.i .i64 p.ver,.sl 3 (p.uses.map elUse),.sl 3 (p.datas.map elDt),.sl 2 (p.traits.map elTr),.sl 3 (p.impls.map elIm),.sl 15 (p.funcs.map elFu),.sl 14 (p.actors.map elAc)]
def wlFu (f:LFu):Nat:=PV.wt (elFu f)
theorem wlFu_eq (f:LFu):wlFu f=f.name.size+1+(PV.wts (f.ps.map eStr)+1)+(PV.wts (f.ns.map eStr)+1)+(PV.wts (eTs f.ts)+1)+wT f.out+wE f.body:=by
 simp only[wlFu,elFu,PV.wt,PV.wts,PV.wts_append,wt_cells];unfold wT wE;omega
theorem wlAc_eq (f:LAc):PV.wt (elAc f)=f.name.size+1+(PV.wts (f.ns.map eStr)+1)+(PV.wts (eTs f.ts)+1)+wT f.msg+wE f.body:=by
 simp only[elAc,PV.wt,PV.wts,PV.wts_append,wt_cells];unfold wT wE;omega
theorem wlMk_eq (m:LMk):PV.wt (elMk m)=m.name.size+1+(PV.wts (eTs m.ts)+1):=by
 simp only[elMk,PV.wt,PV.wts]<;>try omega
theorem wlDt_eq (m:LDt):PV.wt (elDt m)=m.name.size+1+(PV.wts (m.ps.map eStr)+1)+(PV.wts (m.makes.map elMk)+1):=by
 simp only[elDt,PV.wt,PV.wts]<;>try omega
theorem wlTr_eq (m:LTr):PV.wt (elTr m)=m.name.size+1+(PV.wts (m.funcs.map elFu)+1):=by
 simp only[elTr,PV.wt,PV.wts]<;>try omega
theorem wlIm_eq (m:LIm):PV.wt (elIm m)=m.tr.size+1+(m.fo.size+1)+(PV.wts (m.funcs.map elFu)+1):=by
 simp only[elIm,PV.wt,PV.wts]<;>try omega
theorem wlUse_eq (u:LUse):PV.wt (elUse u)=u.name.size+3:=by
 simp only[elUse,PV.wt,PV.wts]<;>try omega
def wlPg (p:LPg):Nat:=PV.wt (elPg p)
theorem wlPg_eq (p:LPg):wlPg p=p.name.size+1+1+(PV.wts (p.uses.map elUse)+1)+(PV.wts (p.datas.map elDt)+1)+(PV.wts (p.traits.map elTr)+1)+(PV.wts (p.impls.map elIm)+1)+(PV.wts (p.funcs.map elFu)+1)+(PV.wts (p.actors.map elAc)+1):=by
 simp only[wlPg,elPg,PV.wt,PV.wts]<;>try omega
theorem l_wts {α:Type} (f:α→PV) (h:∀x,1≤PV.wt (f x)):∀(l:List α),l.length≤PV.wts (l.map f)
 | []=>by simp
 |x::r=>by have:=h x;have:=l_wts f h r;simp only[List.map_cons,PV.wts,List.length_cons];omega
theorem l_mem {α:Type} (f:α→PV) {x:α} {l:List α} (h:x∈l):PV.wt (f x)≤PV.wts (l.map f):=wts_mem (List.mem_map.2 ⟨x,h,rfl⟩)
def eachF {α:Type} (φ:α→Int):List α→Int
 | []=>0
 |x::r=>bif φ x==0 then eachF φ r else φ x
def orF:List Int→Int:=eachF id
def lowB (s:ByteArray):Bool:=TK.lowF s.data.toList
def upB (s:ByteArray):Bool:=TK.upF s.data.toList
def plainF (n:Int):Bool:=decide (n≥0)&&decide (n≤1000000)
def whenF (b:Bool) (e:Int):Int:=bif b then e else 0
def rUse (u:LUse):Int:=whenF (!lowB u.name||(!plainF u.low||(!plainF u.high||decide (u.low>u.high)))) 3
def rNames (l:List ByteArray):Int:=bif decide (l.length>6) then 2 else eachF (fun s=>whenF (!lowB s) 3) l
def isS (s:ByteArray) (l:Bs):Bool:=s.data.toList==l
def builtB (s:ByteArray):Bool:=isS s [82,101,102]||isS s [67,101,108,108]
def goodT (k:Int) (n:ByteArray) (len:Nat):Bool:=
 bif k==5 then (len==0&&(lowB n||isS n [115,101,108,102]))
 else bif k==6 then (upB n&&(!builtB n&&decide (len≤6)))
 else bif k==7 then (decide (len>0)&&isS n [])
 else bif k==8||k==9 then (len==1&&isS n [])
 else (len==0&&isS n [])
mutual
def rT:Ty→Nat→Int
 |.mk k n xs,lv=>bif decide (lv>40) then 2 else bif decide (k<1)||decide (k>9) then 3 else bif decide (xs.length>7) then 2 else bif goodT k n xs.length then rTs xs (lv+1) else 3
def rTs:List Ty→Nat→Int
 | [],_=>0
 |t::r,lv=>bif rT t lv==0 then rTs r lv else rT t lv
end
theorem rTs_each (lv:Nat):∀(l:List Ty),rTs l lv=eachF (fun t=>rT t lv) l
 | []=>by rw[rTs,eachF]
 |t::r=>by rw[rTs,eachF,rTs_each lv r]
def rTypes (l:List Ty):Int:=eachF (fun t=>rT t 1) l
end TR
