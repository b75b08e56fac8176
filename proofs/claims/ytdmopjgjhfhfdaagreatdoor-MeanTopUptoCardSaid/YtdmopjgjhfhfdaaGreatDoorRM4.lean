/- Contracts, and the law, for every input. No conditions. -/
import Derived.Test.YtdmopjgjhfhfdaaGreatDoorRM3
set_option linter.all false
set_option maxRecDepth 100000
open Go Go.AM Go.Proofs TK
namespace MN
theorem Bz:∀{M:List (Nat×Cl)},gG M=true->∀p∈M,aK p.1 M=some p.2
 |(a,x)::M,h,p,hp=>by
  rw[gG,Bool.and_eq_true,Bool.not_eq_true']at h;rcases List.mem_cons.1 hp with rfl|hp
  ·rw[aK,Nat.beq_refl]
  ·have hne:a≠p.1:=fun e=>by
    have:=List.any_eq_false.1 h.1 p hp;rw[<-e,Nat.beq_refl]at this;exact this rfl
   rw[ig hne];exact Bz h.2 p hp
section
variable {p:TR.nX} {K:Ks}
theorem oO (h:M6 p) {m:Nat} (o1:FB p K m) {S:Ss} (s1:EU S) (name:ByteArray) {st:List Ov} (fuels:List Int) {l:List gV} (hi:JO st l) (X:List (Nat×Cl)) (hX:∀q∈X,aK q.1 S.c.2=some q.2):
 ∃R S' r,ir K S m name st fuels l=some (R,S',r)/\EU S'/\(∀x,R=some x->rP 0 x)/\∀q∈X,aK q.1 S'.c.2=some q.2:=by
 obtain⟨NR,kr⟩:=DI h o1 o1 X (.no _ _) none;obtain⟨S1,T1,ρ,_,⟨e,e1,e2,e3⟩|⟨r,q,e1,e2,e3,e4,e5,e6⟩⟩:=uP kr (s1.sb s1 _ hX) name st 7 hi.sv hi.sl (fun _ _ _ _ _ _ _ x=>(by cases x))
 ·unfold ir
  rw[e1];exact⟨none,S1,none,rfl,e3.ok.1,fun x e=>(by cases e),fun q hq=>(e3.cr.fx q hq).1⟩
 ·obtain⟨R,S2,r2,T2,q2,ρ2,g1,g2,g3,g4⟩:=HG kr fuels 60001 0 1000 0 l [] e3 e4 e5 e6 (by omega) (by omega) (by omega) (by omega) hi.ls ⟨fun _ h=>(by cases h),by simp⟩
  unfold ir;rw[e1];dsimp only;rw[g1];exact⟨R,S2,some r2,rfl,g3.ok.1,g4,fun q hq=>(g3.cr.fx q hq).1⟩
theorem Bm (h:M6 p) {m:Nat} (o1:FB p K m) {S T:Ss} (s1:EU S) (s2:EU T) (name:ByteArray) {st:List Ov} {l:List gV} (hi:JO st l) {S1:Ss} {r:Rn} (hm:fY K S m name st 7=some (S1,.ok r)) {x:List Ou} {T':Ss} {q':Option Rn} (hx:ir K T m name st [] l=some (some x,T',q')):
 ∃n,n<=60400/\cc K n S1 r 1000 l []=some x:=by
 obtain⟨T1,q,n,e1,e2,e3⟩:=Ds h o1 s2 name [] hi hx;obtain⟨NR,kr⟩:=DI h o1 o1 [] (.no _ _) none;obtain⟨S2,T2,ρ,_,⟨e,f1,f2,f3⟩|⟨r2,q2,f1,f2,f3,f4,f5,f6⟩⟩:=uP kr (s1.sb s2 _ fun _ x=>(by cases x)) name st 7 hi.sv hi.sl (fun _ _ _ _ _ _ _ x=>(by cases x))
 ·rw[hm]at f1;cases f1
 ·rw[hm]at f1;rw[e1]at f2
  cases f1;cases f2
  exact⟨n,e2,by rw[nu kr n 1000 l [] f3 f4 f5 f6 (by omega) hi.ls];exact e3⟩
theorem JO.app {st:List Ov} {l m:List gV} (h:JO st l) (q:JO st m):JO st (l++m):=⟨h.sv,h.sl,fun s hs=>(List.mem_append.1 hs).elim (h.ls s) (q.ls s)⟩
theorem MG (h:M6 p) (hK:newF p K0=some K) (o1:FB p K 0) {S0 S1 S2 S4 S5:Ss} {r r2 q:Rn} {name:ByteArray} {st top:List Ov} {steps more:List gV} (s0:EU S0) (hi:JO st steps) (him:JO top more)
 (hm:fY K S0 0 name st 7=some (S1,.ok r)) (hw:pE K 200 S1 r 1000 steps=some (true,S2,r2)) (s4:EU S4) (hX:∀x∈S2.c.2,aK x.1 S4.c.2=some x.2) {N:Nat} {t:List Nat} (ht:eD (dw S4.c.2 N) r2.state []=some (true,t)) (hv:ia (jd S4.c.2 N) r2.state=some top)
 (hp:r2.pause.n=r2.body) (hk:fT r2.stack=0) (hq:fY K S4 0 name top 7=some (S5,.ok q)):
 ∃F n refs',n<=80000/\((∀x∈F,x.kind≠4)->refs'=1000)/\(∀l i out,cc K (i+n) S1 r 1000 (steps++l) out=j7 K (cc K i) S2 r2 refs' l (out++F++[r2.last]))/\
  ∀i,i<=1000000->∀out,cc K (i+1) S5 q 1000 more out=j7 K (cc K i) S2 r2 1000 more (out++[r2.last]):=by
 obtain⟨mk,es,fn,l0,c0,Q0,m1,m2,m3,_,_,_,_,hr⟩:=Da hm
 -- first without the body
 have first:∀{rt:Nat->Prop} (_:Jr K 0 rt),∃NR ρ,KR K K ⟨Lf (hY p),[],rt,some (fn.names,some fn.body,7)⟩ NR 0 0/\FI K K ⟨Lf (hY p),[],rt,some (fn.names,some fn.body,7)⟩ NR ρ S2 S2 0 0 80000 r2 r2/\r2.mode=1/\r2.out=none/\tY r2.last/\∃F n refs',n<=80000/\((∀x∈F,x.kind≠4)->refs'=1000)/\∀l i out,cc K (i+n) S1 r 1000 (steps++l) out=j7 K (cc K i) S2 r2 refs' l (out++F++[r2.last]):=by
  intro rt hrt;obtain⟨NR,kr⟩:=DI h o1 o1 [] hrt (some (fn.names,some fn.body,7))
  obtain⟨S',T',ρ,_,⟨e,f1,f2,f3⟩|⟨r',q',f1,f2,f3,f4,f5,f6⟩⟩:=uP kr (s0.sb s0 _ fun _ x=>(by cases x)) name st 7 hi.sv hi.sl (fun mk' es' a c a1 a2 a3 a4=>by
   rw[m1]at a1;cases a1;rw[m2]at a2;cases a2;rw[m3]at a3;cases a3;cases a4;rfl)
  ·rw[hm]at f1;cases f1
  ·rw[hm]at f1 f2
   cases f1;cases f2
   obtain⟨b,S'',r'',ρ',g1,_,g2⟩:=qY kr 200 1000 steps f3 f4 f5 (by omega) hi.ls;rw[hw]at g1;cases g1;obtain⟨k1,k2,k3,k4,F,n,refs',k5,k6,k7⟩:=g2 rfl;exact⟨NR,ρ',kr,k1.weak (by omega),k2,k3,k4,F,n,refs',by omega,k6,k7⟩
 obtain⟨NR,ρ,kr,fi,hmd,_⟩:=first (.no K 0)
 obtain⟨_,_,_,_,_,n,hn1,hn2,hn3,hn4,hn5⟩:=fi.pa hmd;have hcn:=fi.inv.se.2 _ rfl;simp only[Prod.mk.injEq]at hcn;have hpn:r2.pause.n=some fn.body:=hp.trans hcn.2.1;have hnode:aK fn.body K.n.2=some n:=by unfold cW at hn1;rw[hpn]at hn1;exact hn1
 have hrt:=No h hK m1 m2 m3 hnode (by rw[hn4];decide);obtain⟨NR,ρ,kr,fi,_,hout,hlast,F,n0,refs',k1,k2,k3⟩:=first hrt
 refine⟨F,n0,refs',k1,k2,k3,fun i hi' out=>?_⟩;obtain⟨p1,p2,_,p4,p5,_⟩:=fi.pa hmd;obtain⟨b1,b2,b3,z0,P,b4,b5,b6,b7⟩:=p5 _ hpn rfl
 -- the cells at the later time
 have hc24:CR ⟨Lf (hY p),[],(·=fn.body),some (fn.names,some fn.body,7)⟩ ρ S2.c S4.c:=by
  refine⟨fun a b hab=>?_,fi.inv.cr.inj,fi.inv.cr.b1,s4.c,fi.inv.cr.n1,s4.n,fun _ x=>(by cases x)⟩;obtain⟨x,y,x1,x2,x3⟩:=fi.inv.cr.at' a b hab;exact⟨x,y,x1,hX _ (fz x2),x3⟩
 have hc44:CR ⟨Lf (hY p),[],(·=fn.body),some (fn.names,some fn.body,7)⟩ ρ S4.c S4.c:=by
  refine⟨fun a b hab=>?_,fi.inv.cr.inj,s4.c,s4.c,s4.n,s4.n,fun _ x=>(by cases x)⟩;obtain⟨x,y,x1,x2,x3⟩:=fi.inv.cr.at' a b hab;exact⟨x,y,hX _ (fz x1),hX _ (fz x2),x3⟩
 have e1:j7 K (cc K i) S2 r2 1000 more (out++[r2.last])=j7 K (cc K i) { S2 with c:=S4.c } r2 1000 more (out++[r2.last]):=by
  have fx:FI K K ⟨Lf (hY p),[],(·=fn.body),some (fn.names,some fn.body,7)⟩ NR ρ S2 { S2 with c:=S4.c } 0 0 80000 r2 r2:=
   ⟨fi.inv.QI (fun _ _ x=>x) hc24 (.refl fi.inv.s1) (.refl fi.inv.s2) rfl rfl rfl rfl,rfl,rfl,fun e=>(by rw[hmd]at e;cases e),fun e=>(fi.pa e).mono (fun _ _ x=>x) (.refl fi.inv.s1) (.refl fi.inv.s2) rfl rfl⟩
  exact Io kr fx hmd hout hout him.ls i (by omega) _
 rw[e1]
 -- the actor made anew
 obtain⟨mk',es',fn',l',c2,Q,j1,j2,j3,j4,j5,j6,rfl,rfl⟩:=Da hq;rw[m1]at j1;cases j1;rw[m2]at j2;cases j2;rw[m3]at j3;cases j3;have hst:=fi.inv.st.1;have hz:CR ⟨Lf (hY p),[],(·=fn.body),some (fn.names,some fn.body,7)⟩ (fun _ _=>False) S4.c S4.c:=(s4.sb s4 _ fun _ x=>(by cases x)).cr;obtain⟨o,w',τ,t1,t2⟩:=Fs (K:=K) (m:=0) (ρ:=ρ) (d:=mg top) (Kc kr hc44 N N (mg top)) r2.state [] t top (fun _ _=>False) S4.c (fA.2 hst) ht hv (Nat.le_refl _) hz fun _ _ x=>x.elim;rw[j5]at t1;cases t1;rcases t2 with t2|⟨l'',t2,_,t3,t4⟩
 ·cases t2
 cases t2;obtain⟨P',Q',w1,w2,w3,w4,w5⟩:=xV fn.names b4 s4.s (by rw[<-hcn.1];exact b3) t4 .nil;rw[hcn.1,w1]at b5;cases b5;rw[j6]at w2;cases w2
 have hstep:nJ K { S4 with c:=c2,s:=Q.1 } (oc ⟨0,fn.names,some fn.body,7,[],0,none,⟨none,none,.nil,0,false⟩,zV,⟨0,0,⟨#[]⟩,0,0,⟨#[]⟩,[],[]⟩,⟨none,none,.nil,0,false⟩,none⟩ l' Q.2)=
  some ({ S4 with c:=c2,s:=Q.1,o:=(S4.o.1+1,(S4.o.1,iQ n)::S4.o.2) },yq (oc ⟨0,fn.names,some fn.body,7,[],0,none,⟨none,none,.nil,0,false⟩,zV,⟨0,0,⟨#[]⟩,0,0,⟨#[]⟩,[],[]⟩,⟨none,none,.nil,0,false⟩,none⟩ l' Q.2) ⟨some fn.body,Q.2,.nil,0,false⟩ (iQ n) S4.o.1):=by
  unfold nJ oc sw cW;dsimp only;rw[hnode];dsimp only;rw[decide_eq_false hn2];dsimp only;rw[decide_eq_false hn3,hn4];rfl
 rw[cc,hstep];dsimp only[yq];rw[aP];dsimp only;unfold gR;rw[show((iQ n).kind==8||(iQ n).kind==9)=false from rfl,show((iQ n).kind==4)=false from rfl,show((iQ n).kind==7)=true from rfl];dsimp only
 have hfin:FI K K ⟨Lf (hY p),[],(·=fn.body),some (fn.names,some fn.body,7)⟩ NR τ { S2 with c:=S4.c } { S4 with c:=c2,s:=Q.1,o:=(S4.o.1+1,(S4.o.1,iQ n)::S4.o.2) } 0 0 80000 r2
  { yq (oc ⟨0,fn.names,some fn.body,7,[],0,none,⟨none,none,.nil,0,false⟩,zV,⟨0,0,⟨#[]⟩,0,0,⟨#[]⟩,[],[]⟩,⟨none,none,.nil,0,false⟩,none⟩ l' Q.2) ⟨some fn.body,Q.2,.nil,0,false⟩ (iQ n) S4.o.1 with out:=none }:=by
  have hstk:nD S2.f r2.stack=some []:=by
   obtain⟨fs,gs,x1,_⟩:=fi.inv.stk
   cases hs:r2.stack with
   |none=>rfl
   |some q=>
    rw[hs]at x1 hk;obtain⟨l,_,_,_,y4⟩:=uH x1;have hk:q.2=0:=hk;rw[hk]at y4;rw[x1,y4];rfl
  obtain⟨a,a',ba1,ba2,bn⟩:=fi.inv.bd;rw[ba1]at ba2;cases ba2;have hab:a=fn.body:=by rw[hcn.2.1]at ba1;cases ba1;rfl
  subst hab;refine⟨⟨t3,fi.inv.s1,w4.1,fi.inv.v1,s4.v,fi.inv.f1,s4.f,fi.inv.mk1,rfl,hcn.1.symm,fi.inv.nl,⟨_,_,ba1,rfl,bn⟩,⟨hcn.2.2.symm,fi.inv.se.2⟩,⟨t4,fi.inv.st.2⟩,[],[],hstk,rfl,trivial,List.nodup_nil,List.nodup_nil,Nat.zero_le _⟩,hmd.symm,hn5.symm,fun e=>(by rw[hmd]at e;cases e),fun _=>?_⟩;have hER:=w5.mono (z:=P.1) (w:=Q.1) (z':=S2.s) (w':=Q.1) (fun _ _ x=>x) b6 (.refl w4.1);rw[<-b7]at hER;refine⟨⟨⟨_,_,hpn,rfl,bn⟩,hER,by rw[p2];rfl,rfl,⟨[],[],by rw[p2];rfl,rfl,trivial⟩,b1.symm,b2.symm⟩,p2,rfl,fun e=>?_,fun _ _ _=>⟨b1,b2,by rw[hcn.1];rw[hcn.1]at b3;exact b3,z0,P,b4,by rw[hcn.1];exact w1,b6,b7⟩,n,hn1,hn2,hn3,hn4,hn5⟩;obtain⟨nn,mm,c1,c2',d1,d2,d3,d4,d5⟩:=p4 e
  have hnn:cW K (⟨some fn.body,Q.2,.nil,0,false⟩:Fr)=some mm:=by
   rw[<-d2];unfold cW;rw[hpn]
  exact⟨nn,mm,c1,c2',d1,hnn,d3,d4,d5⟩
 have:=Io kr hfin hmd hout rfl him.ls i (by omega) (out++[r2.last]);rw[this];unfold j7;rw[hn5];dsimp only[yq]
 cases cq K (iQ n).num _ _ more with
 |none=>rfl
 |some P=>
  obtain⟨c,P1,P2,P3⟩:=P;cases c<;>rfl
end
theorem Qe {K:Ks} {S1 S2 S5:Ss} {r r2 q:Rn} {F:List Ou} {n0:Nat} {refs:Int} {l more:List gV} (k2:(∀x∈F,x.kind≠4)->refs=1000) (k3:∀l' i out,cc K (i+n0) S1 r 1000 (l++l') out=j7 K (cc K i) S2 r2 refs l' (out++F++[r2.last]))
 (k4:∀i,i<=1000000->∀out,cc K (i+1) S5 q 1000 more out=j7 K (cc K i) S2 r2 1000 more (out++[r2.last])) {xf xa xr:List Ou} {n1 n2 n3:Nat} (h1:cc K n1 S1 r 1000 l []=some xf) (h2:cc K n2 S1 r 1000 (l++more) []=some xa) (h3:cc K n3 S5 q 1000 more []=some xr) (b2:n2<=60400) (b3:n3<=60400)
 (hs:∀x∈xf,x.kind≠4):xf.length-1<=xa.length/\xa.drop (xf.length-1)=xr:=by
 have e1:xf=F++[r2.last]:=by
  have a:=zO (show n1<=n1+n0 by omega) h1;have b:=k3 [] n1 [];rw[List.append_nil,a]at b;exact Option.some.inj b
 have hr:=k2 fun x hx=>hs x (by rw[e1];exact List.mem_append.2 (.inl hx));subst hr;have a2:=zO (show n2<=(n2+n3)+n0 by omega) h2;have a3:=zO (show n3<=(n2+n3)+1 by omega) h3;rw[k3 more (n2+n3) [],A5]at a2;rw[k4 (n2+n3) (by omega) [],A5]at a3
 cases ht:j7 K (cc K (n2+n3)) S2 r2 1000 more [] with
 |none=>rw[ht]at a2;cases a2
 |some t=>
  rw[ht]at a2 a3
  cases a2;cases a3
  subst e1;simp
theorem EU.R4 {S:Ss} (h:EU S) (s:List Nat):EU (Bn S s):=⟨h.s,h.v,h.f,h.c,h.n⟩
theorem C7 (ev:Value) (hev:ev=.nilIface\/∃te pe,ev=.iface te pe) (p:TR.nX) (hp:TR.vH p<=1048576) (name:ByteArray) (st:List Ov) (l more:List gV) (hi:JO st l) (him:∀s∈more,xK s.val) (hl:l.length<=1048576) (hl2:more.length<=1048576):
 au Tryz.prog 10 [.p (TR.iY p),.p (.s name),.p (.sl 4 (gT st)),.p (.sl 5 (cP l)),.p (.sl 5 (cP more))] (PA.hE ev) (.p (.b true)) (PA.hE ev):=by
 have fin:∀{K:Ks} {S:Ss} {zr:aZ Rn},MT ev p name st l more K S zr->au Tryz.prog 10 [.p (TR.iY p),.p (.s name),.p (.sl 4 (gT st)),.p (.sl 5 (cP l)),.p (.sl 5 (cP more))] (PA.hE ev) (.p (.b true)) (PA.hE ev):=
  fun hx=>au.Qt hx (by simp only[List.all_cons,List.all_nil,vV,bC,TR.Rt,Ni,QX,Bool.and_self]) rfl rfl rfl
 have h:=Ox p hp;have hs:=TR.F6 p hp;have hm:=GX ev hev;obtain⟨K1,n1,k1,o1⟩:=JW h QK;generalize decide (TR.FA (TR.ja p) 0<=400)=b at hs
 cases b with
 |false=>exact fin (I7 ev p name st l more hs)
 |true=>
 obtain⟨NR,kr⟩:=DI h o1 o1 [] (.no _ _) none;obtain⟨S1,T1,ρ,_,⟨e,e1,_,_⟩|⟨r,q,e1,e2,e3,e4,e5,e6⟩⟩:=uP kr (KF.sb KF _ fun _ x=>(by cases x)) name st 7 hi.sv hi.sl (fun _ _ _ _ _ _ _ x=>(by cases x))
 ·exact fin (Mq ev p name st l more K1 S1 e (D6 e1) hs hm n1 e1)
 have e2':fY K1 S0 0 name st 7=some (T1,.ok q):=e2;rw[show fY K1 S0 0 name st 7=some (S1,.ok r) from e1]at e2';cases e2';obtain⟨b,S2,r2,ρ2,w1,w2,w3⟩:=qY kr 200 1000 l e3 e4 e5 (by omega) hi.ls;have w1:pE K1 200 S1 r 1000 l=some (b,S2,r2):=w1
 cases b with
 |false=>exact fin (OK ev p name st l more (by omega) K1 S1 S2 r r2 hs hm n1 e1 w1)
 |true=>
 obtain⟨fi,hmd,_,_,_⟩:=w3 rfl;have s2:=w2.ok.1;obtain⟨Ra,S3,ra,p1,s3,ga,ka⟩:=oO h o1 s2 name [] (hi.app ⟨hi.sv,hi.sl,him⟩) S2.c.2 (Bz s2.n);obtain⟨Rf,S4,rf,p2,s4,gf,kf⟩:=oO h o1 s3 name [] hi S2.c.2 ka
 have hc44:CR ⟨Lf (hY p),[],fun _=>False,none⟩ ρ2 S4.c S4.c:=by
  refine⟨fun a b hab=>?_,fi.inv.cr.inj,s4.c,s4.c,s4.n,s4.n,fun _ x=>(by cases x)⟩;obtain⟨x,y,x1,x2,x3⟩:=fi.inv.cr.at' a b hab;exact⟨x,y,kf _ (fz x1),kf _ (fz x2),x3⟩
 obtain⟨t,s,t1,t2⟩:=O8 hc44 fi.inv.st.1 fi.inv.st.2
 obtain⟨S5,t1,hS5,hS5c⟩:∃S5,Ff S4 r2=some (t,S5)/\EU S5/\S5.c=S4.c:=by
  rcases t1 with t1|t1
  ·exact⟨_,t1,s4,rfl⟩
  ·exact⟨_,t1,s4.R4 s,rfl⟩
 obtain⟨⟨⟨a,_,ha,_,hab⟩,_⟩,_⟩:=fi.pa hmd;obtain⟨b,_,hb,_,hbb⟩:=fi.inv.bd;obtain⟨x,_,hx,_⟩:=kr.node _ _ hab;obtain⟨y,_,hy,_⟩:=kr.node _ _ hbb;have no:(Ra=none\/Rf=none\/t=none\/Rf=some [])->_:=fun hc=>fin (Hl ev p name st l more hl hl2 K1 S1 S2 S3 S4 S5 r r2 Ra Rf ra rf t hs hm n1 e1 w1 p1 p2 hmd ha hx hb hy t1 S5 _ _ none none (.inl ⟨hc,rfl,rfl⟩));rcases Ra with _|xa
 ·exact no (.inl rfl)
 rcases Rf with _|xf
 ·exact no (.inr (.inl rfl))
 rcases t with _|top
 ·exact no (.inr (.inr (.inl rfl)))
 by_cases hne:xf=[]
 ·exact no (.inr (.inr (.inr (by rw[hne]))))
 obtain⟨_,u2,u3,u4,u5,u6,u7⟩:=t2 top rfl;have hit:JO top more:=⟨u5,u4,him⟩
 obtain⟨Rr,S6,rr,p3,_,gr,_⟩:=oO h o1 hS5 name [] hit [] (fun _ x=>(by cases x));refine fin (Hl ev p name st l more hl hl2 K1 S1 S2 S3 S4 S5 r r2 _ _ ra rf _ hs hm n1 e1 w1 p1 p2 hmd ha hx hb hy t1 S6 _ _ Rr rr (.inr ⟨xa,xf,top,rfl,rfl,rfl,rfl,rfl,hne,p3,by have:=(gf xf rfl).2;omega,by have:=(ga xa rfl).2;omega,fun xr hxr=>⟨gr xr hxr,fun hsp=>?_⟩⟩));subst hxr;obtain⟨S7,q,n3,m3,b3,h3⟩:=Ds h o1 hS5 name [] hit p3;obtain⟨n2,b2,h2⟩:=Bm h o1 KF s2 name (hi.app ⟨hi.sv,hi.sl,him⟩) e1 p1;obtain⟨n1',b1,h1⟩:=Bm h o1 KF s3 name hi e1 p2;obtain⟨F,n0,refs,_,v2,v3,v4⟩:=MG h n1 o1 KF hi hit e1 w1 hS5 (fun x hx=>by rw[hS5c];exact kf x hx) (by rw[hS5c];exact u6) (by rw[hS5c];exact u7) u2 u3 m3;exact Qe v2 v3 v4 h1 h2 h3 b2 b3 hsp
end MN
