/- Part of a machine over plain values. No conditions. -/
import Derived.Test.YtdmopjgjhfhfdaaGreatDoorMNG
import Derived.Test.YtdmopjgjhfhfdaaGreatDoorAMCode
import Derived.Test.YtdmopjgjhfhfdaaGreatDoorAMInv
import Derived.Test.YtdmopjgjhfhfdaaGreatDoorMN5
import Derived.Test.YtdmopjgjhfhfdaaGreatDoorAMSndB
import Derived.Laws.IdiomRangeMap
set_option linter.all false
section
open Go Go.AM Go.Proofs TK
set_option maxRecDepth 100000
namespace MN
theorem qp (a:Nat) (xs ys:List PV) (M:List (Nat×List PV)):sset a ys ((a,xs)::M)=(a,ys)::M:=by rw[sset,Nat.beq_refl]
noncomputable def Qy:Nat→Option TI:=hint (jQ Tryz.prog) 41 [1000004]
theorem Nz:bz Tryz.prog Qy:=(ah Tryz.prog).hint _ _
def qP (n:Nd):Ou:=⟨7,if n.num < -1 then -1 else n.num,⟨#[]⟩,0,0,⟨#[]⟩,[],[]⟩
def Jl (r:Rn) (f:Fr) (o:Ou) (a:Nat):Rn:={ r with mode:=1,pause:=f,last:=o,out:=some a }
theorem IK (zr:bf Rn) (zo:bf Ou) (zn:bf Nd) (k:Nat) (f:Fr) (r:Rn) (n:Nd) (kn:Nat) (hr:aK k zr.2=some r) (hfn:f.n=some kn) (hn:aK kn zn.2=some n):
 av Tryz.prog 244 [.p (.bH rS k),.p (.agg (dX f))] [(1000000000,iE zr),(1000000001,CH zo),(1000000002,iH zn)] (.cA [])
  [(1000000000,iE (zr.1,aW k (Jl r f (qP n) zo.1) zr.2)),(1000000001,CH (zo.1+1,(zo.1,qP n)::zo.2)),(1000000002,iH zn)]:=by
 obtain⟨f1,f2,f3,f4,f5⟩:=f;obtain⟨n1,n2,n3,n4,n5,n6,n7,n8,n9⟩:=n;obtain⟨r1,r2,r3,r4,r5,r6,r7,⟨c1,c2,c3,c4,c5⟩,⟨wk,wn,wt,wa,wc⟩,⟨o1,o2,o3,o4,o5,o6,o7,o8⟩,⟨p1,p2,p3,p4,p5⟩,r12⟩:=r;dsimp only at hfn;subst hfn;unfold iE CH iH dX Jl qP at *;dsimp only at *;refine av.intro Nz aC Tryz.func244 rfl (by rfl) (by kernel_rfl) (by show 2≤_;decide) rfl ?_;(conv=>whnf);refine ag ⟨rfl,by decide,.inl rfl⟩ ?_;refine⟨_,aq hn,?_⟩;refine au (i:=0) rfl ?_;(conv=>whnf);refine ag ⟨rfl,by decide,.inl rfl⟩ ?_;refine⟨_,uh _ _ _,?_⟩;refine au (i:=0) rfl ?_;(conv=>whnf);refine ag ⟨rfl,by decide,.inl rfl⟩ ?_;refine⟨_,aJ (uh _ _ _),?_⟩;refine au (i:=0) rfl ?_;(conv=>whnf);refine ag ⟨rfl,by decide,.inl rfl⟩ ?_;refine⟨_,aq hr,?_⟩;refine au (i:=0) rfl ?_;(conv=>whnf);refine ag ⟨rfl,by decide,.inl rfl⟩ ?_;refine⟨_,aJ (aq hr),?_⟩;refine au (i:=0) rfl ?_;(conv=>whnf);refine ag ⟨rfl,by decide,.inl rfl⟩ ?_;refine⟨_,aJ (aJ (aq hr)),?_⟩;refine au (i:=0) rfl ?_;(conv=>whnf);refine ag ⟨rfl,by decide,.inl rfl⟩ ?_;refine⟨_,aJ (aJ (aJ (aq hr))),?_⟩;refine au (i:=0) rfl ?_;(conv=>whnf);refine ag (.inl (by kernel_rfl)) ?_;(conv=>whnf);refine⟨.inl rfl,⟨⟨rfl,rfl,rfl,rfl,rfl,?_⟩,⟨rfl,rfl,rfl,rfl,rfl,?_⟩,s6,trivial⟩⟩
 ·rw[bV,bV,bV]
  exact bM cP k ⟨r1,r2,r3,r4,r5,1,r7,⟨c1,c2,c3,c4,c5⟩,.mk wk wn wt wa wc,⟨7,if n2 < -1 then -1 else n2,⟨#[]⟩,0,0,⟨#[]⟩,[],[]⟩,⟨some kn,f2,f3,f4,f5⟩,some zo.1⟩ zr.2
 ·exact qp _ _ _ _
end MN
end
section
namespace Go.AM
section
variable {P:Program} {ty:Nat→Option TI} {n:Nat}
theorem iN.seq {x y:Code} {K:Exit→Env→Heap→Prop} {e:Env} {h:Heap} (hk:iN P n x (fun ex e' h'=>match ex with|.normal=>iN P n y K e' h'|ex=>K ex e' h') e h):iN P n (.seq x y) K e h:=by
 intro g0 w0 g w a s hE;refine wp_seq (wp_mono (hk g0 w0 g w a s hE) ?_);rintro ex a' w' ⟨g',e',h',hk',s',hE'⟩
 cases ex with
 |normal=>exact hk' g0 w0 g' w' a' s' hE'
 |_=>exact⟨g',e',h',hk',s',hE'⟩
theorem iN.mask {c:Code} {K:Exit→Env→Heap→Prop} {lv ll:List Nat} {vals:List AV} {objs:List br} {e:Env} {h:Heap} (h0:KW lv ll vals objs e h) (hk:iN P n c K (lv.zip vals) (ll.zip objs)):iN P n c K e h:=by
 intro g0 w0 g w a s hE;refine hk g0 w0 g w a ?_ hE;have:=s.mask (lv:=lv) (ll:=ll) h0.1 (by rw[h0.2.1];exact h0.2.2.1) h0.2.2.2;rw[h0.2.1]at this;exact this
noncomputable def Ow (ty:Nat→Option TI) (P:Program) (n:Nat) (T:Env→Heap→Prop) (K:Exit→Env→Heap→Prop) (k:Nat):Code→Env→Heap→Prop:=
 @Nat.rec (fun _=>Code→Env→Heap→Prop) (fun _ e h=>T e h)
  (fun _ ih c=>@Code.rec (fun _=>Env→Heap→Prop) (fun _ _=>False) (fun _ _ _ _ _=>False)
    (fun x y _ _ e h=>FN ty (dj P) (qE P n) x (fun ex e' h'=>match ex with|.normal=>ih y e' h'|ex=>K ex e' h') e h)
    (fun _ _ _ _ _ _ _=>False) (fun _ _ _ _ _=>False) (fun _ _ _ _=>False) (fun _ _ _ _ _ _ _ _=>False) (fun _ _ _=>False) (fun _ _ _ _=>False) (fun _ _ _=>False) (fun _ _ _=>False) (fun _ _=>False) (fun _ _ _=>False) c) k
noncomputable def ME (k:Nat):Code→Code:=
 @Nat.rec (fun _=>Code→Code) (fun c=>c)
  (fun _ ih c=>@Code.rec (fun _=>Code) c (fun _ _ _=>c) (fun _ y _ _=>ih y) (fun _ _ _ _ _=>c) (fun _ _ _=>c) (fun _ _=>c) (fun _ _ _ _ _ _=>c) (fun _=>c) (fun _ _=>c) (fun _=>c) (fun _=>c) c (fun _=>c) c) k
theorem yB (hty:bz P ty) (aC:P.follows .mixedOrders=true) {T:Env→Heap→Prop} {K:Exit→Env→Heap→Prop}:∀(k:Nat) (c:Code) (e:Env) (h:Heap),bF n c=true→(∀e h,T e h→iN P n (ME k c) K e h)→Ow ty P n T K k c e h→iN P n c K e h
 |0,c,e,h,_,hT,hk=>hT e h hk
 |k+1,.seq x y,e,h,hok,hT,hk=>by
  have hok:bF n x=true∧bF n y=true:=by simpa[bF] using hok
  refine iN.seq ?_;intro g0 w0 g w a s hE;refine wp_mono (eS hty aC x _ e h hok.1 hk g0 w0 g w a s hE) ?_;rintro ex a' w' ⟨g',e',h',hk',s',hE'⟩;refine⟨g',e',h',?_,s',hE'⟩
  cases ex with
  |normal=>exact yB hty aC k y e' h' hok.2 hT hk'
  |_=>exact hk'
 |_+1,.skip,_,_,_,_,hk=>hk.elim
 |_+1,.region ..,_,_,_,_,hk=>hk.elim
 |_+1,.cond ..,_,_,_,_,hk=>hk.elim
 |_+1,.block ..,_,_,_,_,hk=>hk.elim
 |_+1,.exit _,_,_,_,_,hk=>hk.elim
 |_+1,.ret,_,_,_,_,hk=>hk.elim
 |_+1,.loop _,_,_,_,_,hk=>hk.elim
 |_+1,.rangeFunc ..,_,_,_,_,hk=>hk.elim
 |_+1,.scope _,_,_,_,_,hk=>hk.elim
 |_+1,.label _,_,_,_,_,hk=>hk.elim
 |_+1,.goto _,_,_,_,_,hk=>hk.elim
 |_+1,.refuse _,_,_,_,_,hk=>hk.elim
theorem iN.cut (hty:bz P ty) (aC:P.follows .mixedOrders=true) {c:Code} {K:Exit→Env→Heap→Prop} {e:Env} {h:Heap} (hok:bF n c=true) (k:Nat) (lv ll:List Nat) {σ:Type} (V:σ→List AV) (O:σ→List br) (Q:σ→Prop)
 (h1:Ow ty P n (fun e h=>∃s,KW lv ll (V s) (O s) e h∧Q s) K k c e h) (h2:∀s,Q s→iN P n (ME k c) K (lv.zip (V s)) (ll.zip (O s))):iN P n c K e h:=
 yB hty aC k c e h hok (fun e h ⟨s,ha,hq⟩=>iN.mask ha (h2 s hq)) h1
theorem iN.fin (hty:bz P ty) (aC:P.follows .mixedOrders=true) {c:Code} {K:Exit→Env→Heap→Prop} {e:Env} {h:Heap} (hok:bF n c=true) (hk:FN ty (dj P) (qE P n) c K e h):iN P n c K e h:=eS hty aC c K e h hok hk
theorem aV.pZ (hty:bz P ty) {f:Nat} {fn:Func} {c:Code} {args:List AV} {r:AV} (hf:P.funcs[f]?=some fn) (hb:fn.body=some c) (hname:(fn.name== "runtime.NumGoroutine")=false)
 (hlen:args.length≤fn.ntmps) (hr:Gk r=true)
 (hk:iN P fn.ntmps c (Ob ty fn.results.toList fn.resultTypes.toList r) (lu 0 args) []):aV P f args r:=by
 refine⟨⟨fn,c,hf,hb,hname⟩,fun g w vs hno hsw hl hrel=>?_⟩
 have s0:=cp.start (fn:=fn) (hs:=[]) hlen (g:=g) (w:=w) ⟨fun l o q=>by simp[aG]at q,fun l o q=>by simp[aG]at q,fun l o q=>by simp[aG]at q⟩ (fun b o q=>by rw[hno b]at q;cases q) hl
  (fun j v x q1 q2=>(hrel j v x q1 q2).rm (fun _ q=>q.elim))
 refine calls_of_wp hf hb (wp_mono (hk g w g w _ s0 (Ext.refl _ _)) ?_);rintro ex a' w' ⟨g1,e1,h1,hk1,s1,hE1⟩
 have fin:(match lO ty fn.results.toList fn.resultTypes.toList e1 h1 with|some v=>Bh h1 v r|none=>False)→a'.defers=[]∧∃v,(results fn a'.tmps).run P w'=.ok v w'∧(∃v1 g',Ending.returned v=.returned v1∧aH g' w' (fun _=>False) (some .ret) v1 r∧Ext g w g' w'):=by
  intro hq;refine⟨s1.defers,?_⟩;split at hq
  ·rename_i x hx
   obtain⟨v,hrun,t,hv⟩:=nh (P:=P) hty s1 hx;refine⟨v,hrun,?_⟩;rcases hq with rfl|rfl|⟨l,xs,rfl,hh,rfl⟩
   ·obtain⟨g',q1,q2⟩:=qk hno hE1 hr hv;exact⟨v,g',rfl,q1,q2⟩
   ·obtain⟨g',q1,q2⟩:=qk hno hE1 hr (t:=t) hv.copy;exact⟨v,g',rfl,q1,q2⟩
   ·refine⟨v,g1.lay w',rfl,(.p _ _ _ (by cases hv with|ar _ _ m hdm hn=>exact Co s1.heap hh hn)),hE1.size,hE1.os,hE1.out,fun b k u hu=>yF (hE1.bR b k u hu),fun b hb hn=>⟨(hE1.kept b hb hn).1,?_,rfl⟩,⟨hE1.tj.1,funext fun q=>(hsw q).symm,hE1.tj.2.2⟩,hE1.frz',hE1.ρk,hE1.siz⟩
    show nH g1 w' b=g.pre b;unfold nH;rw[(hE1.kept b hb hn).2.2];exact(hE1.kept b hb hn).2.1
  ·exact hq.elim
 cases ex with
 |normal=>exact fin hk1
 |ret=>exact fin hk1
 |_=>exact hk1.elim
theorem av.pZ (hty:bz P ty) {f:Nat} {fn:Func} {c:Code} {args:List AV} {hs:Heap} {r:AV} {h':Heap} (hf:P.funcs[f]?=some fn) (hb:fn.body=some c) (hname:(fn.name== "runtime.NumGoroutine")=false)
 (hlen:args.length≤fn.ntmps) (hr:(r.within (bB (aO h'))&&mD (bB (aO h')) h'&&fK hs h')=true)
 (hk:iN P fn.ntmps c (Mv ty fn.results.toList fn.resultTypes.toList r h') (lu 0 args) hs):av P f args hs r h':=by
 simp only[Bool.and_eq_true]at hr;obtain⟨⟨hr1,hr2⟩,hr3⟩:=hr;refine⟨⟨⟨fn,c,hf,hb,hname⟩,hr3⟩,fun g w vs hH hbn hl hrel=>?_⟩;have s0:=cp.start (fn:=fn) hlen hH hbn hl hrel;refine calls_of_wp hf hb (wp_mono (hk g w g w _ s0 (Ext.refl _ _)) ?_);rintro ex a' w' ⟨g1,e1,h1,hk1,s1,hE1⟩
 have fin:(match lO ty fn.results.toList fn.resultTypes.toList e1 h1 with|some v=>xU v r∧mC h1 h'|none=>False)→a'.defers=[]∧∃v,(results fn a'.tmps).run P w'=.ok v w'∧
  (∃v1 g',Ending.returned v=.returned v1∧aH g' w' (aF h') (some .ret) v1 r∧gj g' w' h'∧(∀b ow,g'.own b=some ow→b<w'.heap.size)∧Ext g w g' w'):=by
  intro hq;refine⟨s1.defers,?_⟩;split at hq
  ·rename_i x hx
   obtain⟨hq,hheap⟩:=hq;obtain⟨v,hrun,t,hv⟩:=nh (P:=P) hty s1 hx
   have hv:aH g1 w' (aF h1) (some (.slot t)) v r:=by
    rcases hq with rfl|rfl
    ·exact hv
    ·exact hv.copy
   have hdom:∀l,bB (aO h') l=true→aF h' l:=fun l hl=>by
    obtain⟨ob,hob⟩:=dO h' l (iP _ _ hl);unfold aF;rw[hob];rfl
   let g':Gh:={ pre:=g1.pre,own:=fun b=>bT h' t (g1.own b),ρ:=g1.ρ,σ:=g1.σ,sown:=g1.sown }
   have conv:∀{ow:Option aY} {u:Value} {y:AV},(∀q,ow=some q→bT h' t (some q)=some q)→aH g1 w' (aF h1) ow u y→y.within (bB (aO h'))=true→aH g' w' (aF h') ow u y:=by
    intro ow u y hq r0 hin;have r1:=r0.within (dom':=aF h') hdom hin;exact aH.keep (g:=g1) (g':=g') (w:=w') (w':=w') (fun _ _ _ hv=>hv) (fun l hl=>⟨hl,rfl⟩) (fun l cs E _ hb=>⟨cs,E,hb,rfl⟩) (fun q b e1 ho=>⟨by show bT h' t (g1.own b)=some q;rw[ho];exact hq q e1,rfl,rfl⟩) r1
   refine⟨v,hrun,v,g',rfl,?_,⟨fun l ob hl=>?_,fun l ob hl hsl=>?_,fun l ob hl hsl=>?_⟩,fun b q hq=>?_,?_⟩
   ·cases r with
    |so sz xs=>
     cases hv with
     |full _ a _ _ hz hp=>exact .full _ a sz xs hz hp
     |own _ a cap _ _ cs E hz hp ho hpre hb' hs'=>exact .own .ret a cap sz xs cs E hz hp (by show bT h' t (g1.own a.block)=_;rw[ho];simp[bT]) hpre hb' hs'
    |_=>exact(conv (ow:=none) (fun _ q=>by cases q) (hv.bW (fun _ _ q=>by cases q)) hr1).bW (fun _ _ q=>by cases q)
   ·obtain⟨ob0,q1,q2⟩:=eI h' hheap l ob hl
    have hin:=lf h' hr2 l ob hl;have hkl:=eM _ _ _ hl
    cases (s1.heap.obj l ob0 q1).le q2 with
    |cells cs vs' E hb' hlen' hxx h1'=>exact .cells cs vs' E hb' hlen' (fun j u c q3 q4=>conv (fun q e1=>by cases e1;simp[bT,hkl]) (hxx j u c q3 q4) (bZ _ cs (by simpa[br.within] using hin) j c q4)) h1'
    |arr xs vs' E hb' hlen' hxx h1'=>exact .arr xs vs' E hb' hlen' hxx h1'
    |store T3 o3 sp3 nx3 z3 M3 hst=>exact .store T3 o3 sp3 nx3 z3 M3 (hst.mono (fun _ _ _ q=>q) (fun bb hb2=>⟨by show bT h' t (g1.own bb)=_;rw[hb2];simp[bT,hkl],rfl,rfl⟩) hst.sown)
    |bK gb gvs hgl=>exact gG.kP hgl (fun h1 _ _=>⟨rfl,by show bT h' t (g1.own gb)=none;rw[h1];rfl⟩)
   ·obtain⟨ob0,q1,q2⟩:=eI h' hheap l ob hl
    show bT h' t (g1.own (g1.ρ l))=_;rw[s1.heap.own l ob0 q1 (q2.dK hsl)];simp[bT,eM _ _ _ hl]
   ·obtain⟨ob0,q1,q2⟩:=eI h' hheap l ob hl
    exact s1.heap.pre l ob0 q1 (q2.dK hsl)
   ·have hq:bT h' t (g1.own b)=some q:=hq
    cases hg:g1.own b with
    |none=>rw[hg]at hq;simp[bT]at hq
    |some q'=>exact s1.bnd b q' hg
   ·exact⟨hE1.size,hE1.os,hE1.out,hE1.bR,fun b hb hn=>⟨(hE1.kept b hb hn).1,(hE1.kept b hb hn).2.1,by show bT h' t (g1.own b)=none;rw[(hE1.kept b hb hn).2.2];rfl⟩,hE1.tj,hE1.frz',hE1.ρk,hE1.siz⟩
  ·exact hq.elim
 cases ex with
 |normal=>exact fin hk1
 |ret=>exact fin hk1
 |_=>exact hk1.elim
end
end Go.AM
end
section
namespace Go.AM
open MapKept
section
variable {P:Program} {ty:Nat→Option TI} {n:Nat}
def World.gp (w:World) (B:Nat) (o:Obj):World:={ w with heap:=w.heap.setIfInBounds B o }
theorem dP {w:World} {B b:Nat} {o:Obj} (h:b≠B):(World.gp w B o).heap[b]?=w.heap[b]?:=by
 simp[World.gp,Array.getElem?_setIfInBounds,h.symm]
theorem E9 {w:World} {B:Nat} {o x:Obj} (h:w.heap[B]?=some x):(World.gp w B o).heap[B]?=some o:=by
 have:=od h;simp[World.gp,this]
theorem ye {w:World} {B:Nat} {o:Obj}:(World.gp w B o).heap.size=w.heap.size:=by simp[World.gp]
theorem uA {g:Gh} {w:World} {B:Nat} {o:Obj} {m s l} {q:Array Nat} (hb:w.heap[B]?=some (.mapIter m s q l)) {b k:Nat} {v:Value} (hv:bR g w b k=some v):bR g (World.gp w B o) b k=some v:=by
 have hne:b≠B:=by
  intro q;subst q;have:=j7 hv;simp[World.cell?,hb]at this
 simp only[cI]at hv ⊢;simp only[World.cell?,dP hne]at hv ⊢;exact hv
theorem cp.gp {g:Gh} {w:World} {a:Act} {e:Env} {h:Heap} (s:cp g w n a e h) {B:Nat} {o:Obj} {m t l} {q:Array Nat} (hb:w.heap[B]?=some (.mapIter m t q l)) (hown:g.own B=none):cp g (World.gp w B o) n a e h:=by
 have hi:∀b k v,bR g w b k=some v→bR g (World.gp w B o) b k=some v:=fun b k v hv=>uA hb hv
 have hv:∀{ow:Option aY} {v:Value} {x:AV},aH g w (aF h) ow v x→aH g (World.gp w B o) (aF h) ow v x:=fun r=>
  r.keep hi (fun k hk=>⟨hk,rfl⟩) (fun k cs F _ hc=>⟨cs,F,by rw[dP (fun e=>by rw[e,hb]at hc;cases hc)];exact hc,rfl⟩)
   (fun o1 b _ h1=>⟨h1,rfl,dP (fun e=>by subst e;rw[hown]at h1;cases h1)⟩)
 have e1:∀{b:Nat} {x:Obj},w.heap[b]?=some x→(∀m t q l,x≠.mapIter m t q l)→(World.gp w B o).heap[b]?=some x:=fun h1 h2=>by
  rw[dP (fun e=>by rw[e,hb]at h1;cases h1;exact h2 _ _ _ _ rfl)];exact h1
 refine⟨s.defers,s.size,fun i=>hv (s.env i),⟨fun k x hx=>?_,fun k x hx hq=>s.heap.own k x hx hq,fun k x hx hq=>s.heap.pre k x hx hq⟩,fun b o' ho=>by rw[ye];exact s.bnd b o' ho⟩
 cases s.heap.obj k x hx with
 |cells cs vs E hb' hl hx' h1=>exact .cells cs vs E (e1 hb' (by simp)) hl (fun j v c q1 q2=>hv (hx' j v c q1 q2)) h1
 |arr xs vs E hb' hl hx' h1=>exact .arr xs vs E (e1 hb' (by simp)) hl (fun j v c q1 q2=>(hx' j v c q1 q2).mono hi) h1
 |bK gb gvs hgl=>exact gG.kP hgl (fun h1 _ ⟨c,E,fr,h3⟩=>⟨dP (fun e=>by rw[e,hb]at h3;cases h3),h1⟩)
 |store T3 o3 sp3 nx3 z3 M3 hst=>exact .store T3 o3 sp3 nx3 z3 M3 (hst.mono hi (fun bb hb2=>⟨hb2,dP (fun e=>by subst e;rw[hown]at hb2;cases hb2),rfl⟩) hst.sown)
theorem Ext.gp {g0 g:Gh} {w0 w:World} (hE:Ext g0 w0 g w) {B:Nat} {o:Obj} {m t l} {q:Array Nat} (hb:w.heap[B]?=some (.mapIter m t q l)) (hB:w0.heap.size≤B):Ext g0 w0 g (World.gp w B o):=by
 refine⟨by rw[ye];exact hE.size,hE.os,hE.out,fun b k v hv=>uA hb (hE.bR b k v hv),fun b hbb ho=>?_,hE.tj,fun a ha=>?_,hE.ρk,fun b cs E h1=>?_⟩
 ·obtain⟨q1,q2,q3⟩:=hE.kept b hbb ho
  exact⟨by rw[dP (by omega)];exact q1,q2,q3⟩
 ·rw[←hE.frz' a ha]
  have:(World.gp w B o).heap[a.block]?=w.heap[a.block]?:=dP (by omega);simp[World.frozen?,this]
 ·obtain⟨cs',E',q1,q2⟩:=hE.siz b cs E h1
  exact⟨cs',E',by rw[dP (fun e=>by rw[e,hb]at q1;cases q1)];exact q1,q2⟩
theorem cp.J8 {g:Gh} {w:World} {a:Act} {e e':Env} {h:Heap} (s:cp g w n a e h) (hle:∀i,aL e' i=aL e i∨aL e' i=.top):cp g w n a e' h:=
 ⟨s.defers,s.size,fun i=>by
   rcases hle i with q|q
   ·rw[q];exact s.env i
   ·rw[q];exact .top _ _,s.heap,s.bnd⟩
theorem mA:∀(lv:List Nat) (V:List AV) (i:Nat),bB lv i=false→aL (lv.zip V) i=.top
 | [],_,_,_=>rfl
 |_::_,[],_,_=>rfl
 |a::r,v::vs,i,h=>by
  have h1:Nat.beq a i=false∧bB r i=false:=by
   have h:(match Nat.beq a i with|true=>true|false=>bB r i)=false:=h
   cases hq:Nat.beq a i with
   |true=>rw[hq]at h;cases h
   |false=>rw[hq]at h;exact⟨rfl,h⟩
  show(match Nat.beq a i with|true=>v|false=>aL (r.zip vs) i)=.top;rw[h1.1];exact mA r vs i h1.2
theorem HQ (w:World) (T B bm since c0:Nat) (seen:Array Nat) (es:Array MapEntry) (clock:Nat) (hB:w.heap[B]?=some (.mapIter (some bm) since seen c0)) (hb:w.heap[bm]?=some (.map es clock)) (hold:∀x∈es.toList,x.born<since) (hsc:since≤c0):
 ((leftOf es seen).size=0∧(Instr.next (.pointer (some ⟨B,0,none⟩)) false T).run P w=.ok (.tuple #[.bool false]) w)∨
 ∃e∈(leftOf es seen).toList,∃w1:World,(w1=w∨w1=w.drew)∧(Instr.next (.pointer (some ⟨B,0,none⟩)) false T).run P w=.ok (.tuple #[.bool true,e.key,e.val]) (World.gp w1 B (.mapIter (some bm) since (seen.push e.born) clock)):=by
 simp only[Instr.next,getObj,Sem.run_bind,Sem.run,hB,hb,Result.andThen,next_test_false seen es since c0 hold hsc,Bool.false_eq_true,if_false];unfold leftOf;have hmem:∀x∈(Array.filter (fun e=>!seen.contains e.born) es).toList,x.born<since:=fun x hx=>hold x (by simp at hx ⊢;exact hx.1);generalize Array.filter (fun e=>!seen.contains e.born) es=L at hmem ⊢;have e1:L.filter (fun x=>decide (x.born<since))=L:=Array.filter_eq_self.2 (fun x hx=>by simpa using hmem x (by simpa using hx))
 have e2:L.filter (fun x=>decide (x.born≥since))=#[]:=by
  rw[Array.filter_eq_empty_iff];intro x hx;have:=hmem x (by simpa using hx);simp;omega
 simp only[e1,e2,Array.append_empty]
 by_cases h0:L.size=0
 ·left
  have:L=#[]:=Array.eq_empty_of_size_eq_zero h0;subst this;refine⟨rfl,?_⟩;simp[choose,Sem.run,Question.forced]
 ·right
  have hne:L.isEmpty=false:=by simp[Array.isEmpty,h0]
  simp only[hne,Bool.false_eq_true,if_false,Array.empty_append,Array.size_map]
  have hch:∃(j:Nat) (w1:World),j<L.size∧(w1=w∨w1=w.drew)∧(choose (Question.mapNext L.size)).run P w=.ok j w1:=by
   by_cases hf:L.size≤1
   ·exact⟨0,w,by omega,.inl rfl,by simp[choose,Sem.run,Question.forced,hf]⟩
   ·exact⟨_,w.drew,Nat.mod_lt _ (by omega),.inr rfl,by
     simp only[choose,Sem.run,Question.forced,decide_eq_true_eq,hf,if_false,Question.cut];rfl⟩
  obtain⟨j,w1,hj,hal,hrun⟩:=hch;refine⟨L[j],by simp,w1,hal,?_⟩;have hB1:w1.heap[B]?=some (.mapIter (some bm) since seen c0):=by rcases hal with rfl|rfl<;>exact hB
  have hset:∀(o':Obj),(setObj B o').run P w1=.ok () (World.gp w1 B o'):=fun o'=>by
   simp only[setObj,Sem.run,hB1];rfl
  simp only[hrun,Array.getElem?_map,Array.getElem?_eq_getElem hj,Option.map_some,Sem.run_bind,hset,Result.andThen];rfl
theorem Ff (w:World) (B bm since:Nat) (seen:Array Nat) (es:Array MapEntry) (clock:Nat) (e:MapEntry) (hB:w.heap[B]?=some (.mapIter (some bm) since (seen.push e.born) clock)) (hb:w.heap[bm]?=some (.map es clock)) (he:e∈es.toList) (hn:(es.toList.map (·.born)).Nodup):
 (Instr.entry (.pointer (some ⟨B,0,none⟩))).run P w=.ok (.tuple #[e.key,e.val]) w:=by
 have hf:es.find? (·.born==e.born)=some e:=by rw[←Array.find?_toList];exact find_born e es.toList hn he
 simp only[Instr.entry,getObj,Sem.run_bind,Sem.run,hB,hb,Result.andThen,Array.back?_push,bne_self_eq_false,Bool.false_eq_true,if_false,hf];rfl
theorem me.nodup {es:Array MapEntry} {c:Nat} (h:me es c):(es.toList.map (·.born)).Nodup:=by
 rw[List.Nodup,List.pairwise_iff_getElem];intro i j hi hj hij;simp only[List.length_map,Array.length_toList]at hi hj;have h1:=h.2 i es[i] (by simp[hi]);have h2:=h.2 j es[j] (by simp[hj]);simp[h1,h2];omega
theorem me.lt {es:Array MapEntry} {c:Nat} (h:me es c):∀x∈es.toList,x.born<c:=by
 intro x hx;obtain⟨j,hj,e1⟩:=List.getElem_of_mem hx;have hj':j<es.size:=by simpa using hj
 have:=h.2 j x (by rw[←e1];simp[hj']);rw[this,h.1];exact hj'
theorem oW (hty:bz P ty) {ops:Array Oper} (hok:ops.toList.all (nP n)=true) {T:Env→Heap→Prop} {Q:Exit→Act→World→Prop} {g0:Gh} {w0:World} {tail:List Nat} (hT:∀e h g w a,T e h→cp g w n a e h→Ext g0 w0 g w→wpOps P ops Q tail a w):∀(l:List Oper) (k:Nat) (e:Env) (h:Heap) (g:Gh) (w:World) (a:Act),
 (∀j,j<l.length→l[j]?=ops[k+j]?)→zZ ty (dj P) ops.toList l e h T→cp g w n a e h→Ext g0 w0 g w→wpOps P ops Q (List.range' k l.length++tail) a w
 | [],k,e,h,g,w,a,_,hk,s,hE=>hT e h g w a hk s hE
 |o::r,k,e,h,g,w,a,hl,hk,s,hE=>by
  have ho:ops[k]?=some o:=by have:=hl 0 (by simp);simpa using this.symm
  have hmem:o∈ops.toList:=by rw[←Array.getElem?_toList]at ho;exact List.mem_of_getElem? ho
  have hoko:nP n o=true:=List.all_eq_true.1 hok o hmem;have hrest:∀j,j<r.length→r[j]?=ops[k+1+j]?:=fun j hj=>by have:=hl (j+1) (by simp;omega);rw[show k+1+j=k+(j+1) by omega,←this];simp
  simp only[List.length_cons,List.range'_succ,List.cons_append];rw[wpOps_cons];simp only[wpOp,ho];rw[qf]at hk;rcases vD hk s with⟨hw,e1,hk,hee⟩|⟨hw,e1,hk,hee⟩
  ·rw[if_pos hw]
   left
   obtain⟨f,hk,hop⟩:=qx hty (kY hoko) (nB hoko) (tW hoko) hk;simp only[kK,kI]at hk;have s1:=s.sQ hee;refine Oper.yW (Oper.wp_mono ?_ (hop e1 h (fun _ _=>rfl) (fun _ _=>rfl) g w a s1));rintro a' w' ⟨g',s',hE'⟩;exact oW hty hok hT r (k+1) _ _ g' w' a' hrest hk s' (hE.trans hE')
  ·rw[if_neg (by rw[hw];simp)]
   have s1:=s.sQ hee;unfold xB at hk;split at hk
   ·rename_i d hd
    rw[hd];exact oW hty hok hT r (k+1) _ _ g w _ hrest hk (s1.put (kY hoko d hd) aH.Nc) hE
   ·rename_i hd
    rw[hd];exact oW hty hok hT r (k+1) _ _ g w _ hrest hk s1 hE
theorem pW:∀(N:Nat) (l:List Nat),l.Nodup→(∀i∈l,i<N)→l.length≤N
 |0,[],_,_=>Nat.le_refl _
 |0,a::_,_,h=>absurd (h a (by simp)) (by omega)
 |N+1,l,hn,h=>by
  by_cases hm:N∈l
  ·have:=pW N (l.erase N) (hn.erase N) (fun i hi=>by
    have h1:=(hn.mem_erase_iff).1 hi;have:=h i h1.2;have:=h1.1;omega)
   rw[List.length_erase_of_mem hm]at this;omega
  ·have:=pW N l hn (fun i hi=>by
    have:=h i hi;have:i≠N:=fun e=>hm (e ▸ hi);omega)
   omega
theorem J7:∀(N:Nat) (l:List Nat),(∀i,i<N→i∈l)→N≤l.length
 |0,_,_=>Nat.zero_le _
 |N+1,l,h=>by
  have hm:=h N (by omega);have:=J7 N (l.erase N) (fun i hi=>(List.mem_erase_of_ne (by omega)).2 (h i (by omega)));rw[List.length_erase_of_mem hm]at this;have:=List.length_pos_of_mem hm;omega
def Tl (n:Nat) (lv ll:List Nat) (vals:List AV) (objs:List br) (e:Env) (h:Heap):Prop:=∀g w a,cp g w n a e h→∃g2,cp g2 w n a (lv.zip vals) (ll.zip objs)∧Ext g w g2 w
theorem Tl.of {n:Nat} {lv ll:List Nat} {vals:List AV} {objs:List br} {e:Env} {h:Heap} (ha:KW lv ll vals objs e h):Tl n lv ll vals objs e h:=fun g w a s=>by
 have:=s.mask (lv:=lv) (ll:=ll) ha.1 (by rw[ha.2.1];exact ha.2.2.1) ha.2.2.2;rw[ha.2.1]at this;exact⟨g,this,Ext.refl g w⟩
def H6 (b0 b1:Nat) (F:Env→Heap→Prop) (K:Exit→Env→Heap→Prop):Exit→Env→Heap→Prop:=fun x e h=>match x with
 |.normal=>F e h
 |.exit i=>match Nat.beq i b1 with
  |true=>F e h
  |false=>match Nat.beq i b0 with
   |true=>K .normal e h
   |false=>K (.exit i) e h
 |x=>K x e h
abbrev GD (b0 b1 id1 id2 ct:Nat) (nx ex:Oper) (ops2:Array Oper) (Y:Code):Code:=
 .block b0 (.loop (.seq (.region id1 #[nx,ex] false) (.seq (.cond (.tmp ct) .skip (.exit b0)) (.block b1 (.seq (.region id2 ops2 false) Y)))))
theorem IU (hty:bz P ty) (aC:P.follows .mixedOrders=true) {b0 b1 id1 id2 ct tn te it:Nat} {nx ex en:Oper} {ops2:List Oper} {Y:Code} {K:Exit→Env→Heap→Prop} {σ:Type} {N l B M TT sp q:Nat}
 (lv ll:List Nat) (V:List Nat→σ→List AV) (O:List Nat→σ→List br) (Q:List Nat→σ→Prop) (E:List Nat→σ→List (PV×PV))
 (hnx:nx.op=.next (.tmp it) false∧nx.dst=some tn∧nx.guard=none) (hex:ex.op=.extract (.tmp tn) 0∧ex.dst=some ct∧ex.guard=none) (hen:en.op=.entry (.tmp it)∧en.dst=some te∧en.guard=none)
 (hlt:tn<n∧ct<n∧te<n) (hne:tn≠ct∧tn≠it∧ct≠it∧te≠it∧te≠tn∧te≠ct) (hlv:bB lv tn=false∧bB lv ct=false∧bB lv te=false∧bB lv it=false)
 (hok2:(en::ops2).all (nP n)=true) (hokY:bF n Y=true) (hbig:bP≤l)
 (hO:∀seen s,Q seen s→(∃nx M,aG (ll.zip (O seen s)) l=some (.store TT true sp nx 0 M)∧rD q M=some ((E seen s).map Ho))∧(E seen s).length=N)
 (hover:∀seen s,Q seen s→seen.length=N→K .normal (lv.zip (V seen s)) (ll.zip (O seen s)))
 (hround:∀seen s j x,Q seen s→j<N→j∉seen→seen.length<N→(E seen s)[j]?=some x→
   zZ ty (dj P) (en::ops2) ops2 ((te,.cA [.p x.1,.p x.2])::(it,.c (.pointer (some ⟨B,0,none⟩)))::lv.zip (V seen s)) (ll.zip (O seen s)) (fun e h=>FN ty (dj P) (qE P n) Y
    (H6 b0 b1 (fun e h=>∃s',Tl n (it::lv) ll (.c (.pointer (some ⟨B,0,none⟩))::V (seen++[j]) s') (O (seen++[j]) s') e h∧Q (seen++[j]) s') K) e h))
 {g0 g:Gh} {w0 w:World} {a:Act} {s0:σ} (hQ0:Q [] s0) (s:cp g w n a ((it,.c (.pointer (some ⟨B,0,none⟩)))::lv.zip (V [] s0)) (ll.zip (O [] s0))) (hE:Ext g0 w0 g w) (hB0:w0.heap.size≤B) (hBo:g.own B=none)
 (hBh:w.heap[B]?=some (.mapIter (some M) N #[] N)) (hM:∃C,g.σ sp q=some (M,C)):
 (GD b0 b1 id1 id2 ct nx ex (en::ops2).toArray Y).wp P (Cm n K g0 w0) a w:=by
 refine wp_block ?_
 let I:Act→World→Prop:=fun a w=>∃(g:Gh) (seen:List Nat) (s:σ) (sa:Array Nat) (last:Nat),Q seen s∧cp g w n a ((it,.c (.pointer (some ⟨B,0,none⟩)))::lv.zip (V seen s)) (ll.zip (O seen s))∧Ext g0 w0 g w∧g.own B=none∧
  w.heap[B]?=some (.mapIter (some M) N sa last)∧N≤last∧sa.toList=seen∧seen.Nodup∧(∀i∈seen,i<N)∧∃C,g.σ sp q=some (M,C)
 refine wp_loop I (fun _ w=>N-(w.iterSeen B).size) ⟨g,[],s0,#[],N,hQ0,s,hE,hBo,hBh,Nat.le_refl _,rfl,List.nodup_nil,by simp,hM⟩ ?_;rintro a w ⟨g,seen,st,sa,last,hQ,s,hE,hBo,hBh,hlast,hsa,hnd,hin,hM⟩;obtain⟨⟨nxS,MS,hmo,hme⟩,hmN⟩:=hO seen st hQ;have hob:=s.heap.obj l _ hmo;generalize hEe:E seen st=xs at hme hmN
 have hob':∃(es:Array MapEntry) (clock:Nat),w.heap[M]?=some (.map es clock)∧ir (bR g w) es.toList xs∧me es clock:=by
  cases hob with
  |store _ _ _ _ _ _ hst=>
   obtain⟨C,hC⟩:=hM;obtain⟨A',hA',_,_,pk,es,clock,ps,hb,hps,hxx,_,hmk⟩:=hst.IL rfl q _ (cW hme);rw[hC]at hA';cases hA';obtain rfl:=Gm hps;exact⟨es,clock,hb,hxx,hmk⟩
 obtain⟨es,clock,hb,hx,hmk⟩:=hob';have hcl:clock=N:=by rw[hmk.1,←hmN,←hx.1];simp
 subst hcl;refine wp_seq (wp_region ?_)
 have hpt:a.eval (.tmp it)=.pointer (some ⟨B,0,none⟩):=by
  have:=s.env it;rw[bw]at this;generalize hq:a.tmps.getD it undef=v at this;cases this;exact hq
 have htn:∀i,i≠tn→aL ((it,AV.c (.pointer (some ⟨B,0,none⟩)))::lv.zip (V seen st)) i=aL ((it,AV.c (.pointer (some ⟨B,0,none⟩)))::lv.zip (V seen st)) i:=fun _ _=>rfl
 have etop:∀i,i≠it→bB lv i=false→aL ((it,AV.c (.pointer (some ⟨B,0,none⟩)))::lv.zip (V seen st)) i=.top:=fun i h1 h2=>by
  rw[bN (fun e=>h1 e.symm)];exact mA _ _ _ h2
 show wpOps P #[nx,ex] _ [0,1] a w;rw[wpOps_cons];simp only[wpOp,List.getElem?_toArray,List.getElem?_cons_zero];rw[if_pos (by simp[Region.wanted,hnx.2.2])]
 left
 -- what the second operation and the test do
 have next:∀(bt:Bool) (rest:List AV) (g1:Gh) (w1:World) (v:Value) (R:Exit→Act→World→Prop),aH g1 w1 (aF (ll.zip (O seen st))) none v (.cA (.p (.b bt)::rest))→cp g1 w1 n a ((it,.c (.pointer (some ⟨B,0,none⟩)))::lv.zip (V seen st)) (ll.zip (O seen st))→
  (∀a',cp g1 w1 n a' ((it,.c (.pointer (some ⟨B,0,none⟩)))::lv.zip (V seen st)) (ll.zip (O seen st))→a'.eval (.tmp ct)=.bool bt→R .normal a' w1)→wpOps P #[nx,ex] R [1] (a.put nx.dst v) w1:=by
  intro bt rest g1 w1 v R hv s1 hR;have s2:=s1.put hlt.1 (hv.bW (by intro _ _ e;cases e));rw[hnx.2.1];rw[wpOps_cons];simp only[wpOp,List.getElem?_toArray,List.getElem?_cons_succ,List.getElem?_cons_zero];rw[if_pos (by simp[Region.wanted,hex.2.2])]
  left
  have hev:=s2.env tn;rw[bw]at hev
  have:∃vs:List Value,(a.put (some tn) v).eval (.tmp tn)=.tuple (.bool bt::vs).toArray:=by
   generalize hq:(a.put (some tn) v).tmps.getD tn undef=u at hev
   cases hev with
   |cA _ us _ hl hh=>
    cases us with
    |nil=>simp at hl
    |cons u0 us=>
     have:=(hh 0 u0 (.p (.b bt)) rfl rfl).bool;subst this;exact⟨us,hq⟩
  obtain⟨vs,hvs⟩:=this
  have hr:(execOp (a.put (some tn) v).eval ex).run P w1=.ok (.value (.bool bt)) w1:=by
   simp only[execOp,hex.1,hvs];rfl
  refine Oper.cj hr ?_;rw[hex.2.1];have s3:=s2.put hlt.2.1 (x:=.p (.b bt)) (v:=.bool bt) (.p _ _ _ (.b bt));refine hR _ (s3.J8 fun i=>?_) ?_
  ·by_cases q1:i=ct
   ·subst q1;exact .inr (etop _ hne.2.2.1 hlv.2.1)
   ·rw[bN (fun e=>q1 e.symm)]
    by_cases q2:i=tn
    ·subst q2;exact .inr (etop _ hne.2.1 hlv.1)
    ·rw[bN (fun e=>q2 e.symm)];exact .inl rfl
  ·have:=s3.env ct
   rw[bw]at this;exact this.bool
 rcases HQ (P:=P) w nx.type B M clock last sa es clock hBh hb hmk.lt hlast with⟨h0,hrun⟩|⟨e1,he1,w1,hw1,hrun⟩
 · -- all are seen
  have hr:(execOp a.eval nx).run P w=.ok (.value (.tuple #[.bool false])) w:=by
   simp only[execOp,hnx.1,Sem.run_bind,hpt,hrun,Result.andThen_ok,Sem.run_pure]
  refine Oper.cj hr ?_
  refine next false [] g w _ _ (.cA _ [.bool false] [.p (.b false)] rfl (fun j v c q1 q2=>by
   match j with
   |0=>simp at q1 q2;subst q1;subst q2;exact .p _ _ _ (.b false))) s (fun a' s' hct=>?_)
  refine wp_seq (wp_cond_false hct (wp_exit ?_));have hall:=all_seen es sa h0
  have hlen:seen.length=clock:=by
   have h1:=pW clock seen hnd hin
   have h2:=J7 clock seen (fun i hi=>by
    have hi':i<es.size:=by rw[←hmk.1];exact hi
    have hm:es[i]∈es.toList:=by simp
    have h3:=hall _ hm;have h4:=hmk.2 i es[i] (by simp[hi']);rw[h4]at h3;have:i∈sa:=by simpa using h3
    rw[←hsa];simpa using this)
   omega
  have fin:Cm n K g0 w0 .normal a' w:=⟨g,_,_,hover seen st hQ hlen,s'.J8 fun i=>by
   by_cases q:i=it
   ·subst q;exact .inr (mA _ _ _ hlv.2.2.2)
   ·rw[bN (fun e=>q e.symm)];exact .inl rfl,hE⟩
  simpa[Exit.inBlock,Exit.then] using fin
 ·obtain⟨hm1,hm2⟩:=mem_left he1
  obtain⟨j,hj,ej⟩:=List.getElem_of_mem hm1;have hj':j<es.size:=by simpa using hj
  have hbj:e1.born=j:=hmk.2 j e1 (by rw[←ej];simp[hj']);have hjN:j<clock:=by rw[hmk.1];exact hj'
  have hjx:j<xs.length:=by rw[hmN];exact hjN
  have hxj:xs[j]?=some xs[j]:=List.getElem?_eq_getElem hjx;obtain⟨hpk,hpv⟩:=hx.2 j e1 xs[j] (by rw[←ej];simp[hj']) hxj
  have hjs:j∉seen:=by
   intro hmem;rw[hbj]at hm2;have:j∈sa:=by rw[←hsa]at hmem;simpa using hmem
   simp[this]at hm2
  have hr:(execOp a.eval nx).run P w=.ok (.value (.tuple #[.bool true,e1.key,e1.val])) (World.gp w1 B (.mapIter (some M) clock (sa.push e1.born) clock)):=by
   simp only[execOp,hnx.1,Sem.run_bind,hpt,hrun,Result.andThen_ok,Sem.run_pure]
  refine Oper.cj hr ?_;have hB1:w1.heap[B]?=some (.mapIter (some M) clock sa last):=by rcases hw1 with rfl|rfl<;>exact hBh
  have s1:cp g w1 n a ((it,.c (.pointer (some ⟨B,0,none⟩)))::lv.zip (V seen st)) (ll.zip (O seen st)):=by
   rcases hw1 with rfl|rfl
   ·exact s
   ·exact s.drew
  have hE1:Ext g0 w0 g w1:=by
   rcases hw1 with rfl|rfl
   ·exact hE
   ·exact hE.trans Ext.drew
  have hMlt:(World.gp w1 B (.mapIter (some M) clock (sa.push e1.born) clock)).heap[M]?=some (.map es clock):=by
   have:w1.heap[M]?=some (.map es clock):=by rcases hw1 with rfl|rfl<;>exact hb
   rw[dP (fun e=>by subst e;rw[hB1]at this;cases this)];exact this
  have hlt1:bR g w=bR g w1:=by rcases hw1 with rfl|rfl<;>rfl
  have s2:=s1.gp (o:=.mapIter (some M) clock (sa.push e1.born) clock) hB1 hBo;have hE2:=hE1.gp (o:=.mapIter (some M) clock (sa.push e1.born) clock) hB1 hB0;have hBh2:=E9 (o:=.mapIter (some M) clock (sa.push e1.born) clock) hB1;have up:∀{v:Value} {y:PV},aZ (bR g w) v y→aZ (bR g (World.gp w1 B (.mapIter (some M) clock (sa.push e1.born) clock))) v y:=fun r=>r.mono fun b o v hv=>uA hB1 (by rw[←hlt1];exact hv);have hpk2:=up hpk;have hpv2:=up hpv;generalize World.gp w1 B (.mapIter (some M) clock (sa.push e1.born) clock)=w2 at *
  refine next true [.p xs[j].1,.p xs[j].2] g w2 _ _ (.cA _ [.bool true,e1.key,e1.val] [.p (.b true),.p xs[j].1,.p xs[j].2] rfl (fun i v c q1 q2=>by
   match i with
   |0=>simp at q1 q2;subst q1;subst q2;exact .p _ _ _ (.b true)
   |1=>simp at q1 q2;subst q1;subst q2;exact .p _ _ _ hpk2
   |2=>simp at q1 q2;subst q1;subst q2;exact .p _ _ _ hpv2)) s2 (fun a' s' hct=>?_)
  refine wp_seq (wp_cond_true hct (wp_skip ?_));refine wp_block (wp_seq (wp_region ?_))
  have hpt':a'.eval (.tmp it)=.pointer (some ⟨B,0,none⟩):=by
   have:=s'.env it;rw[bw]at this;generalize hq:a'.tmps.getD it undef=v at this;cases this;exact hq
  have hsz:(en::ops2).toArray.size=ops2.length+1:=by simp
  rw[hsz,List.range_eq_range',List.range'_succ,wpOps_cons];simp only[wpOp,List.getElem?_toArray,List.getElem?_cons_zero];rw[if_pos (by simp[Region.wanted,hen.2.2])]
  left
  have hr2:(execOp a'.eval en).run P w2=.ok (.value (.tuple #[e1.key,e1.val])) w2:=by
   simp only[execOp,hen.1,Sem.run_bind,hpt',Ff w2 B M clock sa es clock e1 hBh2 hMlt hm1 hmk.nodup,Result.andThen_ok,Sem.run_pure]
  refine Oper.cj hr2 ?_;rw[hen.2.1]
  have s3:=s'.put hlt.2.2 (v:=.tuple #[e1.key,e1.val]) (x:=.cA [.p xs[j].1,.p xs[j].2]) (.cA _ [e1.key,e1.val] [.p xs[j].1,.p xs[j].2] rfl (fun i v c q1 q2=>by
   match i with
   |0=>simp at q1 q2;subst q1;subst q2;exact .p _ _ _ hpk2
   |1=>simp at q1 q2;subst q1;subst q2;exact .p _ _ _ hpv2))
  have hlen:seen.length<clock:=by
   have:=pW clock (j::seen) (List.nodup_cons.2 ⟨hjs,hnd⟩) (fun i hi=>by rcases List.mem_cons.1 hi with rfl|hi;exact hjN;exact hin i hi);simp at this;omega
  have hrd:=hround seen st j xs[j] hQ hjN hjs hlen (by rw[hEe];exact hxj)
  have hfin:∀(ex':Exit) (a4:Act) (w4:World),Cm n (H6 b0 b1 (fun e h=>∃s',Tl n (it::lv) ll (.c (.pointer (some ⟨B,0,none⟩))::V (seen++[j]) s') (O (seen++[j]) s') e h∧Q (seen++[j]) s') K) g w2 ex' a4 w4→
   Exit.inBlock b1 (Exit.then (fun a' w'=>I a' w'∧clock-(w'.iterSeen B).size<clock-(w.iterSeen B).size) (Exit.inBlock b0 (Cm n K g0 w0))) ex' a4 w4:=by
   rintro ex' a4 w4 ⟨g4,e4,h4,hk4,s4,hE4⟩;have hE5:=hE2.trans hE4;obtain⟨k1,k2,k3⟩:=hE4.kept B (od hBh2) hBo
   have norm:(∃s',Tl n (it::lv) ll (.c (.pointer (some ⟨B,0,none⟩))::V (seen++[j]) s') (O (seen++[j]) s') e4 h4∧Q (seen++[j]) s')→I a4 w4∧clock-(w4.iterSeen B).size<clock-(w.iterSeen B).size:=by
    rintro⟨s',ha,hq'⟩;obtain⟨g5,s5,hE6⟩:=ha g4 w4 a4 s4;have hBlt:B<w4.heap.size:=Nat.lt_of_lt_of_le (od hBh2) hE4.size;refine⟨⟨g5,seen++[j],s',sa.push j,clock,hq',s5,hE5.trans hE6,(hE6.kept B hBlt k3).2.2,by rw[k1,hBh2,hbj],Nat.le_refl _,by simp[hsa],?_,?_,?_⟩,?_⟩
    ·rw[List.nodup_append]
     exact⟨hnd,by simp,fun x hx y hy=>by simp at hy;subst hy;exact fun e=>hjs (e ▸ hx)⟩
    ·intro i hi
     rcases List.mem_append.1 hi with hi|hi
     ·exact hin i hi
     ·simp at hi;subst hi;exact hjN
    ·obtain⟨C,hC⟩:=hM
     exact⟨C,hE6.tj.1 _ _ _ (hE4.tj.1 _ _ _ hC)⟩
    ·unfold World.iterSeen
     rw[k1,hBh2,hBh];simp only[Array.size_push];have:sa.size=seen.length:=by rw[←hsa];simp
     omega
   have toK:∀x,K x e4 h4→Cm n K g0 w0 x a4 w4:=fun x hx=>⟨g4,e4,h4,hx,s4,hE5⟩
   cases ex' with
   |normal=>exact norm hk4
   |exit i=>
    by_cases q1:i=b1
    ·subst q1
     simp only[H6,lH]at hk4;simpa[Exit.inBlock,Exit.then] using norm hk4
    ·simp only[H6,beq_false q1]at hk4
     by_cases q2:i=b0
     ·subst q2
      simp only[lH]at hk4;simpa[Exit.inBlock,Exit.then,q1] using toK _ hk4
     ·simp only[beq_false q2]at hk4
      simpa[Exit.inBlock,Exit.then,q1,q2] using toK _ hk4
   |_=>exact toK _ hk4
  have:=oW (P:=P) (ty:=ty) (n:=n) hty (ops:=(en::ops2).toArray) (by simpa using hok2) (T:=fun e h=>FN ty (dj P) (qE P n) Y (H6 b0 b1 (fun e h=>∃s',Tl n (it::lv) ll (.c (.pointer (some ⟨B,0,none⟩))::V (seen++[j]) s') (O (seen++[j]) s') e h∧Q (seen++[j]) s') K) e h)
   (g0:=g) (w0:=w2) (tail:=[]) (Q:=Exit.then (Y.wp P (Exit.inBlock b1 (Exit.then (fun a' w'=>I a' w'∧clock-(w'.iterSeen B).size<clock-(w.iterSeen B).size) (Exit.inBlock b0 (Cm n K g0 w0))))) (Exit.inBlock b1 (Exit.then (fun a' w'=>I a' w'∧clock-(w'.iterSeen B).size<clock-(w.iterSeen B).size) (Exit.inBlock b0 (Cm n K g0 w0)))))
   (fun e4 h4 g4 w4 a4 hk4 s4 hE4=>wp_mono (eS hty aC Y _ e4 h4 hokY hk4 g w2 g4 w4 a4 s4 hE4) hfin) ops2 1 _ _ g w2 _ (fun i hi=>by simp[Nat.add_comm]) hrd (s3.J8 fun i=>.inl rfl) (Ext.refl _ _)
  simpa using this
theorem yS {w:World} {m s l} {q:Array Nat} (a:Addr):(World.push w (.mapIter m s q l)).frozen? a=w.frozen? a:=by
 by_cases h:a.block=w.heap.size
 ·simp[World.frozen?,h,eF]
 ·have:(World.push w (.mapIter m s q l)).heap[a.block]?=w.heap[a.block]?:=by
   rcases Nat.lt_or_gt_of_ne h with h1|h1
   ·exact cD h1
   ·rw[Array.getElem?_eq_none (by rw[fA];omega),Array.getElem?_eq_none (by omega)]
  simp[World.frozen?,this]
theorem iN.Qv (hty:bz P ty) (aC:P.follows .mixedOrders=true) {id0 b0 b1 id1 id2 ct tn te it tm T kt et:Nat} {nx ex en rg:Oper} {ops0:Array Oper} {ops2:List Oper} {Y Z:Code} {K K1:Exit→Env→Heap→Prop} {σ:Type} {N TT sp q:Nat}
 (k l:Nat) (lv ll:List Nat) (V:List Nat→σ→List AV) (O:List Nat→σ→List br) (Q:List Nat→σ→Prop) (E:List Nat→σ→List (PV×PV))
 (hrg:ops0[k]?=some rg∧ops0.size=k+1∧rg.op=.range T (.tmp tm)∧rg.dst=some it∧rg.guard=none) (hu:P.underlying T=some (.map kt et)) (hok0:ops0.toList.all (nP n)=true)
 (hZ:∀g0 w0 a w,(GD b0 b1 id1 id2 ct nx ex (en::ops2).toArray Y).wp P (Cm n K1 g0 w0) a w→Z.wp P (Cm n K g0 w0) a w)
 (hnx:nx.op=.next (.tmp it) false∧nx.dst=some tn∧nx.guard=none) (hex:ex.op=.extract (.tmp tn) 0∧ex.dst=some ct∧ex.guard=none) (hen:en.op=.entry (.tmp it)∧en.dst=some te∧en.guard=none)
 (hlt:it<n∧tn<n∧ct<n∧te<n) (hne:tn≠ct∧tn≠it∧ct≠it∧te≠it∧te≠tn∧te≠ct) (hlv:bB lv tn=false∧bB lv ct=false∧bB lv te=false∧bB lv it=false)
 (hok2:(en::ops2).all (nP n)=true) (hokY:bF n Y=true) (hbig:bP≤l)
 {e:Env} {h:Heap} (hpre:zZ ty (dj P) ops0.toList (ops0.toList.take k) e h (fun e h=>aL e tm=.p (.amp sp q)∧∃s0,Tl n lv ll (V [] s0) (O [] s0) e h∧Q [] s0))
 (hO:∀seen s,Q seen s→(∃nx M,aG (ll.zip (O seen s)) l=some (.store TT true sp nx 0 M)∧rD q M=some ((E seen s).map Ho))∧(E seen s).length=N)
 (hover:∀seen s,Q seen s→seen.length=N→K1 .normal (lv.zip (V seen s)) (ll.zip (O seen s)))
 (hround:∀B seen s j x,Q seen s→j<N→j∉seen→seen.length<N→(E seen s)[j]?=some x→
   zZ ty (dj P) (en::ops2) ops2 ((te,.cA [.p x.1,.p x.2])::(it,.c (.pointer (some ⟨B,0,none⟩)))::lv.zip (V seen s)) (ll.zip (O seen s)) (fun e h=>FN ty (dj P) (qE P n) Y
    (H6 b0 b1 (fun e h=>∃s',Tl n (it::lv) ll (.c (.pointer (some ⟨B,0,none⟩))::V (seen++[j]) s') (O (seen++[j]) s') e h∧Q (seen++[j]) s') K1) e h)):
 iN P n (.seq (.region id0 ops0 false) Z) K e h:=by
 intro g0 w0 g w a s hE;obtain⟨hr1,hr2,hr3,hr4,hr5⟩:=hrg;refine wp_seq (wp_region ?_);have htk:(ops0.toList.take k).length=k:=by simp[hr2]
 have hrange:List.range ops0.size=List.range' 0 (ops0.toList.take k).length++[k]:=by
  rw[htk,hr2,List.range_succ,List.range_eq_range']
 rw[hrange];refine oW hty hok0 (T:=fun e h=>aL e tm=.p (.amp sp q)∧∃s0,Tl n lv ll (V [] s0) (O [] s0) e h∧Q [] s0) (g0:=g0) (w0:=w0) ?_ _ 0 e h g w a (fun j hj=>by rw[List.getElem?_take_of_lt (by rw[htk]at hj;exact hj)];simp) hpre s hE;rintro e1 h1 g1 w1 a1 ⟨htm,s0,hat,hq⟩ s1 hE1;rw[wpOps_cons];simp only[wpOp,hr1];rw[if_pos (by simp[Region.wanted,hr5])]
 left
 obtain⟨g2,sm,hEm⟩:=hat g1 w1 a1 s1;obtain⟨⟨nxS,MS,hmo,hme⟩,hmN⟩:=hO [] s0 hq;have hev:=s1.env tm;rw[htm]at hev;have hev:=hev.pv
 obtain⟨A,C,hA,hval⟩:∃A C,g1.σ sp q=some (A,C)∧a1.eval (.tmp tm)=.map (some A):=by
  generalize hqv:a1.tmps.getD tm undef=v at hev
  cases hev with
  |amp _ _ A C hA=>exact⟨A,C,hA,hqv⟩
 have hσ:∃C,(g2.new w1.heap.size 0 none).σ sp q=some (A,C):=⟨C,hEm.tj.1 _ _ _ hA⟩
 replace hE1:=hE1.trans hEm
 have hob':∃(es:Array MapEntry) (clock:Nat),w1.heap[A]?=some (.map es clock)∧es.size=N∧me es clock:=by
  have hob:=sm.heap.obj l _ hmo;generalize E [] s0=xs at hme hmN
  cases hob with
  |store _ _ _ _ _ _ hst=>
   obtain⟨C',hC⟩:=hσ;obtain⟨A',hA',_,_,pk,es,clock,ps,hb,hps,hxx,_,hmk⟩:=hst.IL rfl q _ (cW hme);have hC:g2.σ sp q=some (A,C'):=hC;rw[hC]at hA';cases hA';obtain rfl:=Gm hps;exact⟨es,clock,hb,by have:=hxx.1;simp at this;omega,hmk⟩
 clear hEm hev s1;clear hat;obtain⟨es,clock,hb,hsz,hmk⟩:=hob';have hcl:clock=N:=by rw[hmk.1,hsz]
 subst hcl
 have hr:(execOp a1.eval rg).run P w1=.ok (.value (.pointer (some ⟨w1.heap.size,0,none⟩))) (World.push w1 (.mapIter (some A) clock #[] clock)):=by
  simp only[execOp,hr3,Sem.run_bind,hval,run_range_map w1 T kt et A es clock hu hb,Result.andThen_ok,Sem.run_pure];rfl
 refine Oper.cj hr ?_;rw[hr4];have s2:=(sm.wJ (.mapIter (some A) clock #[] clock) 0 none).put hlt.1 (v:=.pointer (some ⟨w1.heap.size,0,none⟩)) (x:=.c (.pointer (some ⟨w1.heap.size,0,none⟩))) (.c _ _ rfl)
 have hE2:Ext g0 w0 (g2.new w1.heap.size 0 none) (World.push w1 (.mapIter (some A) clock #[] clock)):=
  hE1.trans (Ext.push (fun b hb=>by simp[Gh.new,Nat.ne_of_lt hb]) (fun a=>yS a) (fun _ _=>rfl))
 exact hZ g0 w0 _ _ (IU hty aC (B:=w1.heap.size) (M:=A) lv ll V O Q E hnx hex hen hlt.2 hne hlv hok2 hokY hbig hO hover (fun seen s j x=>hround w1.heap.size seen s j x) hq s2 hE2 hE1.size (by simp[Gh.new]) eF hσ)
end
end Go.AM
end
