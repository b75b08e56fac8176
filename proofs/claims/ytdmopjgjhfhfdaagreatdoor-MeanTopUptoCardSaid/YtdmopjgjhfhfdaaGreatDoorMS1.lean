/- Contracts, and the law, for every input. No conditions. -/
import Derived.Test.YtdmopjgjhfhfdaaGreatDoorMQ4
set_option linter.all false
set_option maxRecDepth 100000
section
open Go Go.AM Go.Proofs TK
namespace MN
theorem HE (K:Ks) (S:Ss) (zr:aZ Rn) (k:Nat) (r:Rn) (v:Ov) (R:Bool×Ss×Rn) (hr:aK k zr.2=some r) (hF:lW K S r v=some R):
 au Tryz.prog 227 [.p (.bH rS k),.p (eO v)] (hA K S zr) (.p (.b R.1)) (hA K R.2.1 (zr.1,bf k R.2.2 zr.2)):=by
 unfold lW at hF
 cases hmd:r.mode==1 with
 |false=>
  rw[hmd]at hF;cases hF;dsimp only;rw[iH hr];obtain⟨vk,vn,vt,va⟩:=v;obtain⟨r1,r2,r3,r4,r5,r6,r7,⟨c1,c2,c3,c4,c5⟩,⟨wk,wn,wt,wa,wc⟩,⟨o1,o2,o3,o4,o5,o6,o7,o8⟩,⟨p1,p2,p3,p4,p5⟩,r12⟩:=r;unfold hA gW;rw[eO];refine au.iN av Tryz.func227 rfl (by rfl) (by kernel_rfl) rfl rfl ?_;(conv=>whnf);refine bw cj hr rfl ?_;(conv=>whnf);refine dy (show(!(r6==1))=true by rw[hmd];rfl) ?_;(conv=>whnf);refine⟨.inl rfl,by(repeat refine⟨s6,?_⟩);trivial⟩
 |true=>
  rw[hmd]at hF;dsimp only at hF
  cases hf:fh K r.maker (sY v) v S.c with
  |none=>rw[hf]at hF;cases hF
  |some x=>
   rw[hf]at hF;have cf:=CE K r.maker _ v S.c x hf;obtain⟨x,c2⟩:=x;obtain⟨vk,vn,vt,va⟩:=v;rw[eO]at cf;unfold Pc Lc N8 at cf
   cases x with
   |none=>
    cases hF;rw[show eV (Option.getD (none,c2).1 zV)=eV zV from rfl]at cf;unfold zV at cf;rw[eV]at cf;dsimp only;rw[iH hr];obtain⟨r1,r2,r3,r4,r5,r6,r7,⟨c1,c2',c3,c4,c5⟩,⟨wk,wn,wt,wa,wc⟩,⟨o1,o2,o3,o4,o5,o6,o7,o8⟩,⟨p1,p2,p3,p4,p5⟩,r12⟩:=r;dsimp only at cf;unfold hA gW;rw[eO];refine au.iN av Tryz.func227 rfl (by rfl) (by kernel_rfl) rfl rfl ?_;(conv=>whnf);refine bw cj hr rfl ?_;(conv=>whnf);refine bD (show(!(r6==1))=false by rw[show(r6==1)=true from hmd];rfl) ?_;(conv=>whnf);refine bw cj hr rfl ?_;(conv=>whnf);refine bh [1000000008,1000000009,1000000002,1000000003] 300 cf ?_;(conv=>whnf);refine ag (.inl (by kernel_rfl)) ?_;(conv=>whnf);refine ag (.inl (by kernel_rfl)) ?_;(conv=>whnf);refine⟨.inl rfl,by(repeat refine⟨s6,?_⟩);trivial⟩
   |some x=>
    dsimp only at hF
    cases ht:nL K { S with c:=c2 } r r.pause x with
    |none=>rw[ht]at hF;cases hF
    |some Q=>
     rw[ht]at hF;have tk:=Bx K zr k r r.pause x hr { S with c:=c2 } Q ht;obtain⟨xk,xn,xt,xa,xc⟩:=x;rw[show eV (Option.getD (some (Vl.mk xk xn xt xa xc),c2).1 zV)=eV (.mk xk xn xt xa xc) from rfl,eV]at cf;rw[eV]at tk;obtain⟨b,S2,r2⟩:=Q
     cases b with
     |false=>
      have hrr:=HJ ht;cases hF;dsimp only at tk ⊢;rw[hrr,iH hr];obtain⟨r1,r2,r3,r4,r5,r6,r7,⟨c1,c2',c3,c4,c5⟩,⟨wk,wn,wt,wa,wc⟩,⟨o1,o2,o3,o4,o5,o6,o7,o8⟩,⟨p1,p2,p3,p4,p5⟩,r12⟩:=r;dsimp only at cf tk;unfold hA gW ey at *;rw[eO];dsimp only at *;refine au.iN av Tryz.func227 rfl (by rfl) (by kernel_rfl) rfl rfl ?_;(conv=>whnf);refine bw cj hr rfl ?_;(conv=>whnf);refine bD (show(!(r6==1))=false by rw[show(r6==1)=true from hmd];rfl) ?_;(conv=>whnf);refine bw cj hr rfl ?_;(conv=>whnf);refine bh [1000000008,1000000009,1000000002,1000000003] 300 cf ?_;(conv=>whnf);refine ag (.inl (by kernel_rfl)) ?_;(conv=>whnf);refine bw cj hr rfl ?_;(conv=>whnf);refine bh iA 300 tk ?_;(conv=>whnf);refine ag (.inl (by kernel_rfl)) ?_;(conv=>whnf);refine⟨.inl rfl,by(repeat refine⟨s6,?_⟩);trivial⟩
     |true=>
      cases hF;dsimp only at tk ⊢;have hr2:aK k (bf k r2 zr.2)=some r2:=cA hr;obtain⟨r1,r2',r3,r4,r5,r6,r7,⟨c1,c2',c3,c4,c5⟩,⟨wk,wn,wt,wa,wc⟩,⟨o1,o2,o3,o4,o5,o6,o7,o8⟩,⟨p1,p2,p3,p4,p5⟩,r12⟩:=r;obtain⟨b1,b2,b3,b4,b5,b6,b7,⟨d1,d2,d3,d4,d5⟩,⟨yk,yn,yt,ya,yc⟩,⟨l1,l2,l3,l4,l5,l6,l7,l8⟩,⟨e1,e2,e3,e4,e5⟩,b12⟩:=r2;dsimp only at cf tk;unfold hA gW ey at *;rw[eO];dsimp only at *;refine au.iN av Tryz.func227 rfl (by rfl) (by kernel_rfl) rfl rfl ?_;(conv=>whnf);refine bw cj hr rfl ?_;(conv=>whnf);refine bD (show(!(r6==1))=false by rw[show(r6==1)=true from hmd];rfl) ?_;(conv=>whnf);refine bw cj hr rfl ?_;(conv=>whnf);refine bh [1000000008,1000000009,1000000002,1000000003] 300 cf ?_;(conv=>whnf);refine ag (.inl (by kernel_rfl)) ?_;(conv=>whnf);refine bw cj hr rfl ?_;(conv=>whnf);refine bh iA 300 tk ?_;(conv=>whnf);refine ag (.inl (by kernel_rfl)) ?_;(conv=>whnf);refine bw cj hr2 rfl ?_;(conv=>whnf);refine⟨.inl rfl,⟨⟨rfl,rfl,rfl,rfl,rfl,?_⟩,s6,s6,s6,s6,s6,s6,s6,s6,s6,s6,s6,s6,s6,s6,s6,trivial⟩⟩;exact(bN cj k ⟨b1,b2,b3,b4,b5,0,b7,⟨d1,d2,d3,d4,d5⟩,.mk yk yn yt ya yc,⟨l1,l2,l3,l4,l5,l6,l7,l8⟩,⟨e1,e2,e3,e4,e5⟩,b12⟩ _).trans (by rw[cY])
theorem Li (K:Ks) (S:Ss) (zr:aZ Rn) (k:Nat) (r:Rn) (v:Ov) (R:Ss×Rn) (hr:aK k zr.2=some r) (hF:pP K S r v=some R):
 au Tryz.prog 225 [.p (.bH rS k),.p (eO v)] (hA K S zr) (.cI []) (hA K R.1 (zr.1,bf k R.2 zr.2)):=by
 unfold pP at hF
 cases hmd:r.mode==2 with
 |false=>
  rw[hmd]at hF;cases hF;dsimp only;rw[iH hr];obtain⟨vk,vn,vt,va⟩:=v;obtain⟨r1,r2,r3,r4,r5,r6,r7,⟨c1,c2,c3,c4,c5⟩,⟨wk,wn,wt,wa,wc⟩,⟨o1,o2,o3,o4,o5,o6,o7,o8⟩,⟨p1,p2,p3,p4,p5⟩,r12⟩:=r;unfold hA gW;rw[eO];refine au.iN av Tryz.func225 rfl (by rfl) (by kernel_rfl) rfl rfl ?_;(conv=>whnf);refine bw cj hr rfl ?_;(conv=>whnf);refine dy (show(!(r6==2))=true by rw[hmd];rfl) ?_;(conv=>whnf);refine⟨.inl rfl,by(repeat refine⟨s6,?_⟩);trivial⟩
 |true=>
  rw[hmd]at hF;dsimp only at hF
  cases hf:fh K r.maker (sY v) v S.c with
  |none=>rw[hf]at hF;cases hF
  |some x=>
   rw[hf]at hF;have cf:=CE K r.maker _ v S.c x hf;obtain⟨x,c2⟩:=x;obtain⟨vk,vn,vt,va⟩:=v;rw[eO]at cf;unfold Pc Lc N8 at cf
   cases x with
   |none=>
    cases hF;rw[show eV (Option.getD (none,c2).1 zV)=eV zV from rfl]at cf;unfold zV at cf;rw[eV]at cf;dsimp only;rw[iH hr];obtain⟨r1,r2,r3,r4,r5,r6,r7,⟨c1,c2',c3,c4,c5⟩,⟨wk,wn,wt,wa,wc⟩,⟨o1,o2,o3,o4,o5,o6,o7,o8⟩,⟨p1,p2,p3,p4,p5⟩,r12⟩:=r;dsimp only at cf;unfold hA gW;rw[eO];refine au.iN av Tryz.func225 rfl (by rfl) (by kernel_rfl) rfl rfl ?_;(conv=>whnf);refine bw cj hr rfl ?_;(conv=>whnf);refine bD (show(!(r6==2))=false by rw[show(r6==2)=true from hmd];rfl) ?_;(conv=>whnf);refine bw cj hr rfl ?_;(conv=>whnf);refine bh [1000000008,1000000009,1000000002,1000000003] 300 cf ?_;(conv=>whnf);refine ag (.inl (by kernel_rfl)) ?_;(conv=>whnf);refine⟨.inl rfl,by(repeat refine⟨s6,?_⟩);trivial⟩
   |some x=>
    cases hF;have gv:=jK (zr.1,bf k { r with mode:=0 } zr.2) k x { r with mode:=0 } (cA hr);obtain⟨xk,xn,xt,xa,xc⟩:=x;rw[show eV (Option.getD (some (Vl.mk xk xn xt xa xc),c2).1 zV)=eV (.mk xk xn xt xa xc) from rfl,eV]at cf;rw[eV,cY]at gv;unfold kI;obtain⟨r1,r2,r3,r4,r5,r6,r7,⟨c1,c2',c3,c4,c5⟩,⟨wk,wn,wt,wa,wc⟩,⟨o1,o2,o3,o4,o5,o6,o7,o8⟩,⟨p1,p2,p3,p4,p5⟩,r12⟩:=r;dsimp only at cf gv ⊢;unfold hA gW at *;rw[<-bN cj k]at gv;rw[eO];refine au.iN av Tryz.func225 rfl (by rfl) (by kernel_rfl) rfl rfl ?_;(conv=>whnf);refine bw cj hr rfl ?_;(conv=>whnf);refine bD (show(!(r6==2))=false by rw[show(r6==2)=true from hmd];rfl) ?_;(conv=>whnf);refine bw cj hr rfl ?_;(conv=>whnf);refine bh [1000000008,1000000009,1000000002,1000000003] 300 cf ?_;(conv=>whnf);refine ag (.inl (by kernel_rfl)) ?_;(conv=>whnf);refine bw cj hr rfl ?_;(conv=>whnf);refine bh [1000000000] 300 gv ?_;(conv=>whnf);refine⟨.inl rfl,by(repeat refine⟨s6,?_⟩);trivial⟩
theorem Kg (K:Ks) (S:Ss) (zr:aZ Rn) (k:Nat) (r R:Rn) (hr:aK k zr.2=some r) (hF:tH K r=some R):
 au Tryz.prog 226 [.p (.bH rS k)] (hA K S zr) (.cI []) (hA K S (zr.1,bf k R zr.2)):=by
 unfold tH at hF
 cases hmd:r.mode==1 with
 |false=>
  rw[hmd]at hF;cases hF;rw[iH hr];obtain⟨r1,r2,r3,r4,r5,r6,r7,⟨c1,c2,c3,c4,c5⟩,⟨wk,wn,wt,wa,wc⟩,⟨o1,o2,o3,o4,o5,o6,o7,o8⟩,⟨p1,p2,p3,p4,p5⟩,r12⟩:=r;unfold hA gW;refine au.iN av Tryz.func226 rfl (by rfl) (by kernel_rfl) rfl rfl ?_;(conv=>whnf);refine bw cj hr rfl ?_;(conv=>whnf);refine dy (show(!(r6==1))=true by rw[hmd];rfl) ?_;(conv=>whnf);refine⟨.inl rfl,by(repeat refine⟨s6,?_⟩);trivial⟩
 |true=>
  rw[hmd]at hF;dsimp only at hF;have hm:=hmd;have hev:=fun j r'=>jL (zr.1,bf k r' zr.2) k j r'.pause r'.pause.sc r' (cA hr);unfold hA gW ey at *
  cases hn:decide (r.last.num<0) with
  |true=>
   rw[hn]at hF;cases hF;rw[iH hr];obtain⟨r1,r2,r3,r4,r5,r6,r7,⟨c1,c2,c3,c4,c5⟩,⟨wk,wn,wt,wa,wc⟩,⟨o1,o2,o3,o4,o5,o6,o7,o8⟩,⟨p1,p2,p3,p4,p5⟩,r12⟩:=r;refine au.iN av Tryz.func226 rfl (by rfl) (by kernel_rfl) rfl rfl ?_;(conv=>whnf);refine bw cj hr rfl ?_;(conv=>whnf);refine bD (show(!(r6==1))=false by rw[show(r6==1)=true from hmd];rfl) ?_;(conv=>whnf);refine bw cj hr rfl ?_;(conv=>whnf);refine dy hn ?_;(conv=>whnf);refine⟨.inl rfl,by(repeat refine⟨s6,?_⟩);trivial⟩
  |false=>
   rw[hn]at hF;dsimp only at hF;obtain⟨r1,r2,r3,r4,r5,r6,r7,⟨c1,c2,c3,c4,c5⟩,⟨wk,wn,wt,wa,wc⟩,⟨o1,o2,o3,o4,o5,o6,o7,o8⟩,⟨p1,p2,p3,p4,p5⟩,r12⟩:=r;unfold cW at hF
   cases p1 with
   |none=>cases hF
   |some p1=>
    dsimp only at hF
    cases hnd:aK p1 K.n.2 with
    |none=>rw[hnd]at hF;cases hF
    |some n=>
     rw[hnd]at hF;obtain⟨n1,n2,n3,n4,n5,n6,n7,n8,n9⟩:=n;dsimp only at hF;unfold jn at hF
     cases n5 with
     |none=>cases hF
     |some q=>
      obtain⟨q1,q2⟩:=q;dsimp only at hF
      cases hlt:Nat.blt 0 q2 with
      |false=>rw[hlt]at hF;cases hF
      |true=>
       rw[hlt]at hF;dsimp only at hF
       cases ha:aK q1 K.a.2 with
       |none=>rw[ha]at hF;cases hF
       |some al=>
        rw[ha]at hF;dsimp only at hF
        cases hj:al[0]? with
        |none=>rw[hj]at hF;cases hF
        |some j=>
         rw[hj]at hF;cases hF;have hev:=hev j ⟨r1,r2,r3,r4,r5,0,r7,⟨c1,c2,c3,c4,c5⟩,.mk wk wn wt wa wc,⟨o1,o2,o3,o4,o5,o6,o7,o8⟩,⟨some p1,p2,p3,p4,p5⟩,r12⟩;rw[cY,<-bN cj k]at hev;rw[Nat.blt_eq]at hlt;unfold kJ;dsimp only at hev ⊢;refine au.iN av Tryz.func226 rfl (by rfl) (by kernel_rfl) rfl rfl ?_;(conv=>whnf);refine bw cj hr rfl ?_;(conv=>whnf);refine bD (show(!(r6==1))=false by rw[show(r6==1)=true from hmd];rfl) ?_;(conv=>whnf);refine bw cj hr rfl ?_;(conv=>whnf);refine bD hn ?_;(conv=>whnf);refine bw cj hr rfl ?_;(conv=>whnf);refine ag ⟨rfl,by decide,.inl rfl⟩ ?_;refine⟨_,aJ (aj hr),?_⟩;refine aq (i:=0) rfl ?_;(conv=>whnf);refine ag ⟨rfl,by decide,.inl rfl⟩ ?_;refine⟨_,aj hnd,?_⟩;refine aq (i:=0) rfl ?_;(conv=>whnf);refine ag ⟨by omega,hlt⟩ ?_;(conv=>whnf);refine ag ⟨rfl,by decide,.inr rfl⟩ ?_;refine⟨_,aj ha,?_⟩;refine aq (i:=0) (x:=.bH nS j) (by unfold rK;rw[List.getElem?_map,hj];rfl) ?_;(conv=>whnf);refine ag ⟨rfl,by decide,.inl rfl⟩ ?_;refine⟨_,aJ (aj hr),?_⟩;refine aq (i:=0) rfl ?_;(conv=>whnf);refine ag ⟨rfl,by decide,.inl rfl⟩ ?_;refine⟨_,aJ (aj hr),?_⟩;refine aq (i:=0) rfl ?_;(conv=>whnf);refine bh [1000000000] 300 hev ?_;(conv=>whnf);refine ag (.inl (by kernel_rfl)) ?_;(conv=>whnf);refine⟨.inl rfl,by(repeat refine⟨s6,?_⟩);trivial⟩
def Et:gV->PV
 |⟨s,.mk k n t l⟩=>.agg [.i .i64 s,.i .i64 k,.i .i64 n,.s t,.sl 4 (gT l)]
def cP (l:List gV):List PV:=l.map Et
def nY (l:List Ou):List PV:=l.map fun o=>.agg (BI o)
theorem K7 (l:List Ou) (o:Ou):nY (l++[o])=nY l++[.agg (BI o)]:=by unfold nY;simp
def CK (R:Option (List Ou)):AV:=.cI [.p (.sl 8 (nY (R.getD []))),.p (.b R.isSome)]
def DC (zr:aZ Rn):Option Rn->aZ Rn
 |none=>zr
 |some r=>(zr.1+1,(zr.1,r)::zr.2)
def Oy (n:Int):PV:=.i .i64 n
theorem JY:∀(fuels:List Int) (j:Nat),1<=dQ fuels j/\dQ fuels j<=400
 | [],_=>⟨by show(1:Int)<=400;decide,by show(400:Int)<=400;decide⟩
 |a::b,j=>by
  unfold dQ;dsimp only;have h1:=Int.emod_nonneg (((a::b)[j % (b.length+1)]?).getD 0) (show(400:Int)≠0 by decide);have h2:=Int.emod_lt_of_pos (((a::b)[j % (b.length+1)]?).getD 0) (show(0:Int)<400 by decide);rw[wrap64 (by omega) (by omega)];omega
theorem JK (K:Ks) (S:Ss) (zr:aZ Rn) (m:Nat) (name:ByteArray) (st:List Ov) (fuels:List Int) (l:List gV) (S1:Ss) (e:Int) (he:(e==0)=false) (hmk:fY K S m name st 7=some (S1,.error e)):
 au Tryz.prog 13 [.p (.uY 35 (.bH mS m)),.p (.s name),.p (.sl 4 (gT st)),.p (.sl 1 (fuels.map Oy)),.p (.sl 5 (cP l))] (hA K S zr) (CK none) (hA K S1 zr):=by
 have hm:=mo K S zr m name st 7 _ hmk;dsimp only[Bf,Bl]at hm;unfold hA at *;refine au.iN av Tryz.func13 rfl (by rfl) (by kernel_rfl) rfl rfl ?_;(conv=>whnf);refine bh iA 300 hm ?_;(conv=>whnf);refine dy (show(!(e==0))=true by rw[he];rfl) ?_;(conv=>whnf);refine⟨.inl rfl,by(repeat refine⟨s6,?_⟩);trivial⟩
theorem zX (K:Ks) (S:Ss) (zr:aZ Rn) (m:Nat) (name:ByteArray) (st:List Ov) (l:List gV) (S1:Ss) (r1:Rn) (R:Option (List Ou)×Ss×Rn) (hmk:fY K S m name st 7=some (S1,.ok r1)) (hP:gP K [] 60001 0 S1 r1 1000 0 l []=some R):
 au Tryz.prog 13 [.p (.uY 35 (.bH mS m)),.p (.s name),.p (.sl 4 (gT st)),.p (.sl 1 []),.p (.sl 5 (cP l))] (hA K S zr) (CK R.1) (hA K R.2.1 (zr.1+1,(zr.1,R.2.2)::zr.2)):=by
 have hm:=mo K S zr m name st 7 _ hmk;dsimp only[Bf,Bl]at hm;have hr0:aK zr.1 ((zr.1,r1)::zr.2)=some r1:=aP _ _ _;unfold hA at hm ⊢;refine au.iN av Tryz.func13 rfl (by rfl) (by kernel_rfl) rfl rfl ?_;(conv=>whnf);refine bh iA 300 hm ?_;(conv=>whnf);refine qf 14 7 rfl ?_;refine bK (aG _) av (by kernel_rfl) 60001 [3,4,12,14,15,16,17] iA (fun j (z:Ss×Rn×List gV×List Ou×Int×Int)=>[.p (.sl 1 (([]:List Int).map Oy)),.p (.sl 5 (cP z.2.2.1)),.p (.uY 132 (.bH rS zr.1)),.so 8 (nY z.2.2.2.1),.p (.i .i64 z.2.2.2.2.1),.p (.i .i64 z.2.2.2.2.2),.p (.i .i64 (ix j))]) (fun j z=>An K z.1 (zr.1+1,(zr.1,z.2.1)::zr.2)) (fun j z=>(z.2.2.2.1.length<=j/\(j:Int)<=z.2.2.2.2.2)/\gP K ([]:List Int) (60001-j) j z.1 z.2.1 z.2.2.2.2.1 z.2.2.2.2.2 z.2.2.1 z.2.2.2.1=some R) (S1,r1,l,[],1000,0) ⟨rfl,rfl,rfl,rfl⟩ ⟨⟨by simp,by simp⟩,hP⟩ ?_;intro j z hj hz;obtain⟨S2,r2,l2,o2,rf,u⟩:=z;have hol:=(And.left hz).1;have hu:=(And.left hz).2;have hQ:=And.right hz;clear hz;dsimp only at hol hu hQ;have hfl:=JY ([]:List Int) j;(conv=>whnf);refine ai ?_ ?_<;>intro h1<;>conv=>whnf
 rotate_left
 ·cases hn:60001-j with
  |zero=>rw[hn]at hQ;cases hQ
  |succ n=>
  rw[hn,gP,h1]at hQ;cases hQ;rw[show CK none=.cI [.p (.sl 8 []),.p (.b false)] from rfl];refine⟨.inl rfl,by(repeat refine⟨s6,?_⟩);trivial⟩
 have h1':u<60000:=of_decide_eq_true h1;obtain⟨n,hn⟩:∃n,60001-j=n+1:=⟨60000-j,by omega⟩
 have hj1:j<60001:=by omega
 rw[hn,gP,h1]at hQ;dsimp only at hQ;have hw:((j+1:Nat):Int)<=IntKind.i64.wrap (u+dQ ([]:List Int) j):=by rw[wrap64 (by omega) (by omega)];omega
 cases hrun:uO K (dQ ([]:List Int) j).toNat S2 r2 with
 |none=>rw[hrun]at hQ;cases hQ
 |some Q=>
  rw[hrun]at hQ;have hrs:=DG K S2 (zr.1+1,(zr.1,r2)::zr.2) zr.1 r2 (dQ ([]:List Int) j).toNat Q (aP _ _ _) (by omega) hrun;dsimp only at hrs;rw[dL]at hrs;obtain⟨⟨q1,q2,q3,q4,q5,q6,q7,q8⟩,S3,r3⟩:=Q;unfold hA BI at hrs;dsimp only at hrs hQ;rw[show((dQ [] j).toNat:Int)=400 from rfl]at hrs;rw[show dQ [] j=400 from rfl]at hQ hw;refine bh iA 300 hrs ?_;(conv=>whnf);generalize hu2:IntKind.i64.wrap (u+400)=u2 at hQ hw ⊢;have hn1:60001-(j+1)=n:=by omega
  refine ai ?_ ?_<;>intro k1<;>conv=>whnf
  ·rw[show(q1==1)=true from k1]at hQ
   exact⟨hj1,(S3,r3,l2,o2,rf,u2),⟨rfl,rfl,rfl,rfl⟩,⟨⟨(by dsimp only;omega),hw⟩,by dsimp only;rw[hn1];exact hQ⟩⟩
  rw[show(q1==1)=false from k1]at hQ;dsimp only at hQ;have hel:(nY o2).length=o2.length:=by unfold nY;simp
  refine ag (Nat.le_trans (Nat.mul_le_mul_right _ (show(nY o2).length+1<=2000001 by rw[hel];omega)) (Nat.le_of_ble_eq_true (by kernel_rfl))) ?_;(conv=>whnf);have hsn:=K7 o2 ⟨q1,q2,q3,q4,q5,q6,q7,q8⟩;have hsl:(o2++[(⟨q1,q2,q3,q4,q5,q6,q7,q8⟩:Ou)]).length<=j+1:=by simp;omega
  unfold BI at hsn;dsimp only at hsn;have hpr:CK (some (o2++[(⟨q1,q2,q3,q4,q5,q6,q7,q8⟩:Ou)]))=.cI [.p (.sl 8 (nY o2++[.agg [.i .i64 q1,.i .i64 q2,.s q3,.i .i64 q4,.i .i64 q5,.s q6,.sl 4 (gT q7),.sl 4 (gT q8)]])),.p (.b true)]:=by rw[<-hsn];rfl
  refine ai ?_ ?_<;>intro k8<;>conv=>whnf
  ·rw[show(q1==8)=true from k8]at hQ
   cases hQ;refine dy k8 ?_;(conv=>whnf);rw[hpr];refine⟨.inl rfl,by(repeat refine⟨s6,?_⟩);trivial⟩
  rw[show(q1==8)=false from k8,Bool.false_or]at hQ;refine ai ?_ ?_<;>intro k9<;>conv=>whnf
  ·rw[show(q1==9)=true from k9]at hQ
   cases hQ;rw[hpr];refine⟨.inl rfl,by(repeat refine⟨s6,?_⟩);trivial⟩
  rw[show(q1==9)=false from k9]at hQ;dsimp only at hQ;generalize hO2:(o2++[(⟨q1,q2,q3,q4,q5,q6,q7,q8⟩:Ou)])=O2 at hQ hsn hsl;refine ai ?_ ?_<;>intro k4<;>conv=>whnf
  ·rw[show(q1==4)=true from k4]at hQ
   dsimp only at hQ
   cases hgv:pP K S3 r3 (.mk 6 (IntKind.i64.wrap (rf+1)) ⟨#[]⟩ []) with
   |none=>rw[hgv]at hQ;cases hQ
   |some G=>
    rw[hgv]at hQ;have hgs:=Li K S3 (zr.1+1,(zr.1,r3)::zr.2) zr.1 r3 _ G (aP _ _ _) hgv;rw[eO]at hgs;dsimp only at hgs;rw[dL]at hgs;obtain⟨S4,r4⟩:=G;unfold hA at hgs;refine bh iA 300 hgs ?_;(conv=>whnf);refine⟨hj1,(S4,r4,l2,O2,IntKind.i64.wrap (rf+1),u2),⟨rfl,?_,rfl,rfl⟩,⟨⟨hsl,hw⟩,by dsimp only;rw[hn1];exact hQ⟩⟩;dsimp only;rw[hsn];rfl
  rw[show(q1==4)=false from k4]at hQ;dsimp only at hQ;refine ai ?_ ?_<;>intro k7<;>conv=>whnf
  rotate_left
  ·rw[show(q1==7)=false from k7]at hQ
   refine⟨hj1,(S3,r3,l2,O2,rf,u2),⟨rfl,?_,rfl,rfl⟩,⟨⟨hsl,hw⟩,by dsimp only;rw[hn1];exact hQ⟩⟩;dsimp only;rw[hsn];rfl
  rw[show(q1==7)=true from k7]at hQ;dsimp only at hQ
  cases hof:cq K q2 S3 r3 l2 with
  |none=>rw[hof]at hQ;cases hQ
  |some P=>
   rw[hof]at hQ;refine bK (aG _) av (by kernel_rfl) l2.length [3,4,12,14,15,16,17,19,20] (19::iA) (fun i (z:Ss×Rn×List gV×Bool)=>[.p (.sl 1 (([]:List Int).map Oy)),.p (.sl 5 (cP z.2.2.1)),.p (.uY 132 (.bH rS zr.1)),.so 8 (nY O2),.p (.i .i64 rf),.p (.i .i64 u2),.p (.i .i64 (ix j)),.ptr 19 0,.p (.b z.2.2.2)]) (fun i z=>.cells [.p (.i .i64 q1),.p (.i .i64 q2),.p (.s q3),.p (.i .i64 q4),.p (.i .i64 q5),.p (.s q6),.p (.sl 4 (gT q7)),.p (.sl 4 (gT q8))]::An K z.1 (zr.1+1,(zr.1,z.2.1)::zr.2)) (fun i z=>z.2.2.1.length+i=l2.length/\(match z.2.2.2 with|true=>P=(true,z.1,z.2.1,z.2.2.1)|false=>cq K q2 z.1 z.2.1 z.2.2.1=some P)) (S3,r3,l2,false) ⟨rfl,by dsimp only;rw[hsn];rfl,rfl,rfl⟩ ⟨by simp,hof⟩ ?_;intro i z hi hz;obtain⟨S4,r4,l4,b4⟩:=z;have hz1:=And.left hz;have hz2:=And.right hz;clear hz;dsimp only at hz1 hz2
   cases l4 with
   |nil=>
    conv=>whnf
    cases b4 with
    |true=>
     dsimp only at hz2;subst hz2;(conv=>whnf);refine⟨hj1,(S4,r4,[],O2,rf,u2),⟨rfl,rfl,rfl,rfl⟩,⟨⟨hsl,hw⟩,by dsimp only;rw[hn1];exact hQ⟩⟩
    |false=>
     rw[cq]at hz2;cases hz2;cases hQ;(conv=>whnf);rw[show CK (some O2)=.cI [.p (.sl 8 (nY O2)),.p (.b true)] from rfl];refine⟨.inl rfl,by(repeat refine⟨s6,?_⟩);trivial⟩
   |cons v l4=>
    obtain⟨sk,vk,vn,vt,va⟩:=v;have hgt:decide (((cP (⟨sk,.mk vk vn vt va⟩::l4)).length:Int)>0)=true:=decide_eq_true (by simp[cP])
    cases b4 with
    |true=>
     dsimp only at hz2;subst hz2;(conv=>whnf);refine dy hgt ?_;(conv=>whnf);refine⟨hj1,(S4,r4,(⟨sk,.mk vk vn vt va⟩::l4),O2,rf,u2),⟨rfl,rfl,rfl,rfl⟩,⟨⟨hsl,hw⟩,by dsimp only;rw[hn1];exact hQ⟩⟩
    |false=>
     dsimp only at hz2;rw[cq]at hz2;dsimp only at hz2;have hds:List.drop (Int.toNat 1) (List.take ((cP (⟨sk,.mk vk vn vt va⟩::l4)).length:Int).toNat (cP (⟨sk,.mk vk vn vt va⟩::l4)))=cP l4:=by rw[Int.toNat_natCast,List.take_length];rfl
     (conv=>whnf);refine dy hgt ?_;(conv=>whnf);refine aq (i:=0) (x:=.agg [.i .i64 sk,.i .i64 vk,.i .i64 vn,.s vt,.sl 4 (gT va)]) rfl ?_;(conv=>whnf);refine ag ⟨by decide,by simp[cP];omega,by simp⟩ ?_;rw[hds];(conv=>whnf);refine ai ?_ ?_<;>intro s1<;>conv=>whnf
     ·rw[show(sk==1)=true from s1]at hz2
      dsimp only at hz2;refine ai ?_ ?_<;>intro s2<;>conv=>whnf
      ·rw[show decide (q2>=0)=true from s2]at hz2
       dsimp only at hz2
       cases hlt:tH K r4 with
       |none=>rw[hlt]at hz2;cases hz2
       |some r5=>
        rw[hlt]at hz2;have hls:=Kg K S4 (zr.1+1,(zr.1,r4)::zr.2) zr.1 r4 r5 (aP _ _ _) hlt;dsimp only at hls;rw[dL]at hls;unfold hA at hls;refine bh iA 300 hls ?_;(conv=>whnf);cases hz2;refine⟨by rw[<-hz1];simp,(S4,r5,l4,true),⟨rfl,rfl,rfl,rfl⟩,⟨by dsimp only;rw[<-hz1];simp;omega,rfl⟩⟩
      ·rw[show decide (q2>=0)=false from s2]at hz2
       refine bD (show(!(sk==1))=false by rw[show(sk==1)=true from s1];rfl) ?_;(conv=>whnf);refine⟨by rw[<-hz1];simp,(S4,r4,l4,false),⟨rfl,rfl,rfl,rfl⟩,⟨by dsimp only;rw[<-hz1];simp;omega,hz2⟩⟩
     ·rw[show(sk==1)=false from s1]at hz2
      dsimp only at hz2
      cases hv:lW K S4 r4 (.mk vk vn vt va) with
      |none=>rw[hv]at hz2;cases hz2
      |some V=>
       rw[hv]at hz2;have hvs:=HE K S4 (zr.1+1,(zr.1,r4)::zr.2) zr.1 r4 _ V (aP _ _ _) hv;dsimp only at hvs;rw[dL]at hvs;obtain⟨b,S5,r5⟩:=V;rw[eO]at hvs;unfold hA at hvs;dsimp only at hvs;refine dy (show(!(sk==1))=true by rw[show(sk==1)=false from s1];rfl) ?_;(conv=>whnf);refine bh iA 300 hvs ?_;(conv=>whnf);refine⟨by rw[<-hz1];simp,(S5,r5,l4,b),⟨rfl,rfl,rfl,rfl⟩,⟨by dsimp only;rw[<-hz1];simp;omega,(by dsimp only;cases b with|true=>cases hz2;rfl|false=>exact hz2)⟩⟩
mutual
theorem Ij:∀a:Ov,sO a a=true
 |.mk k n t l=>by rw[sO,zk l,Nat.beq_refl];simp[kB]
theorem zk:∀l:List Ov,Mc l l=true
 | []=>rfl
 |a::r=>by rw[Mc,Ij a,zk r];rfl
end
def tY (o:Ou):Prop:=okO (.mk o.vk o.vn o.vt o.va)=true/\BU o.args=true/\o.args.length<=2000000
theorem KT (o:Ou) (h:tY o):aU Tryz.prog 35 [.p (.agg (BI o)),.p (.agg (BI o))] (.p (.b true)):=by
 obtain⟨h1,h2,h3⟩:=h;have c1:=sD _ (.mk o.vk o.vn o.vt o.va) h1;have c2:=DH o.args o.args h3 (fun x hx y=>sD x y (z8 h2 x hx));rw[Ij,eO]at c1;rw[zk,Nat.beq_refl,Bool.true_and]at c2;obtain⟨q1,q2,q3,q4,q5,q6,q7,q8⟩:=o;unfold BI;dsimp only at c1 c2 ⊢;refine aU.iN av Tryz.func35 rfl (by rfl) (by kernel_rfl) rfl rfl ?_;(conv=>whnf);refine dy (beq_self_eq_true q1) ?_;(conv=>whnf);refine dy (beq_self_eq_true q2) ?_;(conv=>whnf);refine dy (beq_self_eq_true q3.toList) ?_;(conv=>whnf);refine kK c1 ?_;(conv=>whnf);refine kK c2 ?_;(conv=>whnf);exact .inl rfl
theorem IU (l:List Ou) (hl:l.length<=2000000) (h:∀o∈l,tY o):aU Tryz.prog 18 [.p (.sl 8 (nY l)),.p (.sl 8 (nY l))] (.p (.b true)):=by
 have hlen:(nY l).length=l.length:=by unfold nY;simp
 have c1:aU Tryz.prog 34 [.p (.sl 8 (nY l)),.p (.sl 8 (nY l)),.fn 35 [] []] (.p (.b true)):=by
  refine aU.iN av Tryz.func34 rfl (by rfl) (by kernel_rfl) rfl rfl ?_;(conv=>whnf);refine bD (by simp) ?_;(conv=>whnf);refine bK (aG _) av (by kernel_rfl) l.length [1,2,15,16,17] [] (fun j (_:Unit)=>[.p (.sl 8 (nY l)),.fn 35 [] [],.p (.sl 8 (nY l)),.p (.i .i64 (nY l).length),.p (.i .i64 (ix j))]) (fun _ _=>[]) (fun _ _=>True) () ⟨rfl,rfl,rfl,rfl⟩ trivial ?_;rintro j _ hj _;(conv=>whnf);refine ai ?_ ?_<;>intro g1<;>conv=>whnf
  ·have hj1:=cu g1 (by rw[hlen]) hj (by omega)
   obtain⟨u,hu⟩:∃u,l[j]?=some u:=⟨_,List.getElem?_eq_getElem hj1⟩
   have hi:=KT u (h u (List.mem_of_getElem? hu));have hg:(nY l)[j]?=some (.agg (BI u)):=by unfold nY;rw[List.getElem?_map,hu];rfl
   obtain⟨q1,q2,q3,q4,q5,q6,q7,q8⟩:=u;unfold BI at hi hg;dsimp only at hi hg;refine bM hg (by omega) ?_;(conv=>whnf);refine bM hg (by omega) ?_;(conv=>whnf);refine kK hi ?_;(conv=>whnf);exact⟨hj1,(),⟨rfl,rfl,rfl,rfl⟩,trivial⟩
  ·exact .inl rfl
 refine aU.iN av Tryz.func18 rfl (by rfl) (by kernel_rfl) rfl rfl ?_;(conv=>whnf);refine kK c1 ?_;(conv=>whnf);exact .inl rfl
end MN
end
section
open Go Go.AM Go.Proofs
namespace TR
theorem Gi (l:List Pt) (k:Nat):bU (l.take k)<=bU l:=by
 have:=mR (l.take k) (l.drop k);rw[List.take_append_drop]at this;omega
def ei (k n:Int) (len:Nat):Int:=
 bif k==1||(k==2||(k==3||(k==4||(k==5||k==16)))) then 0 else
 bif k==10||(k==13||(k==19||(k==20||(k==21||(k==22||(k==24||k==25)))))) then 1 else
 bif k==6||(k==15||k==23) then 2 else
 bif k==7 then 3 else
 bif k==18 then (bif decide (n>=0) then 1 else 0) else
 bif k==8||(k==9||(k==12||(k==14||k==17))) then len else
 bif k==11 then (if (len:Int)<1 then 1 else len) else -1
theorem zK (e:Ex):aU Tryz.prog 45 [.p (eE e)] (.p (.i .i64 (ei e.kind e.num e.args.length))):=by
 obtain⟨k0,n0,t0,ns0,ts0,as0,ms0,p0⟩:=e;simp only[Ex.kind,Ex.num,Ex.args];refine aU.iN av Tryz.func45 rfl (by rfl) (by kernel_rfl) rfl rfl ?_
 by_cases hr:1<=k0/\k0<=25
 ·obtain rfl|rfl|rfl|rfl|rfl|rfl|rfl|rfl|rfl|rfl|rfl|rfl|rfl|rfl|rfl|rfl|rfl|rfl|rfl|rfl|rfl|rfl|rfl|rfl|rfl:k0=1\/k0=2\/k0=3\/k0=4\/k0=5\/k0=6\/k0=7\/k0=8\/k0=9\/k0=10\/k0=11\/k0=12\/k0=13\/k0=14\/k0=15\/k0=16\/k0=17\/k0=18\/k0=19\/k0=20\/k0=21\/k0=22\/k0=23\/k0=24\/k0=25:=by omega
  ·conv=>whnf
   exact .inl rfl
  ·conv=>whnf
   exact .inl rfl
  ·conv=>whnf
   exact .inl rfl
  ·conv=>whnf
   exact .inl rfl
  ·conv=>whnf
   exact .inl rfl
  ·conv=>whnf
   exact .inl rfl
  ·conv=>whnf
   exact .inl rfl
  ·conv=>whnf
   exact .inl (pi (by rw[cG];rfl))
  ·conv=>whnf
   exact .inl (pi (by rw[cG];rfl))
  ·conv=>whnf
   exact .inl rfl
  ·conv=>whnf
   exact .inl (pi (by rw[cG];rfl))
  ·conv=>whnf
   exact .inl (pi (by rw[cG];rfl))
  ·conv=>whnf
   exact .inl rfl
  ·conv=>whnf
   exact .inl (pi (by rw[cG];rfl))
  ·conv=>whnf
   exact .inl rfl
  ·conv=>whnf
   exact .inl rfl
  ·conv=>whnf
   exact .inl (pi (by rw[cG];rfl))
  ·conv=>whnf
   refine ai ?_ ?_<;>intro h<;>conv=>whnf
   ·exact .inl (pi (by show _=(bif decide (n0>=0) then (1:Int) else 0);rw[h];rfl))
   ·exact .inl (pi (by show _=(bif decide (n0>=0) then (1:Int) else 0);rw[h];rfl))
  ·conv=>whnf
   exact .inl rfl
  ·conv=>whnf
   exact .inl rfl
  ·conv=>whnf
   exact .inl rfl
  ·conv=>whnf
   exact .inl rfl
  ·conv=>whnf
   exact .inl rfl
  ·conv=>whnf
   exact .inl rfl
  ·conv=>whnf
   exact .inl rfl
 ·have hb:∀c:Int,1<=c->c<=25->(k0==c)=false:=fun c h1 h2=>by simp;omega
  conv=>whnf
  iterate 25 (refine bD (hb _ (by decide) (by decide)) ?_;conv=>whnf)
  exact .inl (pi (by rw[ei];simp only[hb 1 (by decide) (by decide),hb 2 (by decide) (by decide),hb 3 (by decide) (by decide),hb 4 (by decide) (by decide),hb 5 (by decide) (by decide),hb 6 (by decide) (by decide),hb 7 (by decide) (by decide),hb 8 (by decide) (by decide),hb 9 (by decide) (by decide),hb 10 (by decide) (by decide),hb 11 (by decide) (by decide),hb 12 (by decide) (by decide),hb 13 (by decide) (by decide),hb 14 (by decide) (by decide),hb 15 (by decide) (by decide),hb 16 (by decide) (by decide),hb 17 (by decide) (by decide),hb 18 (by decide) (by decide),hb 19 (by decide) (by decide),hb 20 (by decide) (by decide),hb 21 (by decide) (by decide),hb 22 (by decide) (by decide),hb 23 (by decide) (by decide),hb 24 (by decide) (by decide),hb 25 (by decide) (by decide),Bool.or_self,cond_false]))
open MN (aV jR bX bQ s6)
def vJ (n:Int):PV:=.i .i64 n
def Gf {α:Type} (k:ByteArray) (v:α):MN.TM α->MN.TM α
 | []=>[(k,v)]
 |(a,x)::r=>match k==a with|true=>(k,v)::r|false=>(a,x)::Gf k v r
theorem EY {α:Type} (enc:α->PV) (k:ByteArray) (v:α):∀es:MN.TM α,td (.s k) (enc v) (jR enc es)=jR enc (Gf k v es)
 | []=>rfl
 |(a,x)::r=>by
  show(match uF (.s k) (.s a) with|true=>_|false=>_)=_;rw[show uF (.s k) (.s a)=(k==a) from rfl,Gf]
  cases k==a with
  |true=>rfl
  |false=>
   show(PV.s a,enc x)::td (.s k) (enc v) (jR enc r)=_;rw[EY enc k v r];rfl
theorem Lx {α:Type} (enc:α->PV) (k:ByteArray) (v:α) (es:MN.TM α):bX enc (Gf k v es)=(td (.s k) (enc v) (jR enc es)).map Jm:=by rw[EY];rfl
theorem FU (k:ByteArray) (m:MN.TM Int):qo (.s k) (.i .i64 0) (jR vJ m)=(.i .i64 ((aV k m).getD 0),(aV k m).isSome):=by
 rw[bQ vJ k _ m];cases aV k m<;>rfl
theorem Pe (k:ByteArray) (m:MN.TM Bool):qo (.s k) (.b false) (jR PV.b m)=(.b ((aV k m).getD false),(aV k m).isSome):=by
 rw[bQ PV.b k _ m];cases aV k m<;>rfl
mutual
def eu:Pt->List ByteArray
 |.mk k _ t xs=>bif k==2 then [t] else bif k==6 then dO xs else []
def dO:List Pt->List ByteArray
 | []=>[]
 |p::r=>eu p++dO r
end
theorem wJ (l r:List Pt):dO (l++r)=dO l++dO r:=by
 induction l with
 |nil=>simp[dO]
 |cons a l ih=>simp[dO,ih]
theorem BV (l:List Pt) (p:Pt):dO (l++[p])=dO l++eu p:=by rw[wJ];simp[dO]
mutual
theorem zS:∀(p:Pt),(eu p).length<=wP p
 |.mk k n t xs=>by
  rw[eu,xR];have:=vj xs
  cases k==2<;>cases k==6<;>simp<;>omega
theorem vj:∀(l:List Pt),(dO l).length<=PV.cH (pF l)
 | []=>by simp[dO]
 |p::r=>by have h1:=zS p;have h2:=vj r;unfold wP at h1;simp only[dO,pF,PV.cH,List.length_append];omega
end
theorem B3 (l:List Pt) (k:Nat):(dO (l.take k)).length<=(dO l).length:=by
 have:=wJ (l.take k) (l.drop k);rw[List.take_append_drop]at this;rw[this];simp
theorem yu (p:Pt):wP p<=1048640->aU Tryz.prog 118 [.p (eP p)] (.p (.sl 1 ((eu p).map bF))):=by
 induction p using Pt.ind with
 |h k0 n0 t0 as0 ih=>
 intro hw;have hl:=HO k0 n0 t0 as0;have hbl:=vj as0;have hwm:=xR k0 n0 t0 as0;rw[eu];refine aU.iN av Tryz.func118 rfl (by rfl) (by kernel_rfl) rfl rfl ?_;(conv=>whnf);refine ai ?_ ?_<;>intro h1<;>conv=>whnf
 ·have h1:(k0==2)=true:=h1
  rw[h1];exact .inr (.inl rfl)
 have h1:(k0==2)=false:=h1;rw[h1];refine ai ?_ ?_<;>intro h2<;>conv=>whnf
 ·have h2:(k0==6)=true:=h2
  rw[h2];refine qf 3 0 rfl ?_;refine bK (aG _) av (by kernel_rfl) as0.length [3,16,17,18] [] (fun k (s:List ByteArray)=>[.so 1 (s.map bF),.p (.sl 4 (pF as0)),.p (.i .i64 (pF as0).length),.p (.i .i64 (ix k))]) (fun _ _=>[]) (fun k s=>s=dO (as0.take k)) [] ⟨rfl,rfl,rfl,rfl⟩ (by simp[dO]) ?_;intro k s hk hs;(conv=>whnf);refine ai ?_ ?_<;>intro h3<;>conv=>whnf
  ·have hk1:=cu h3 (by rw[iq]) hk (by omega)
   obtain⟨b,hb1⟩:∃b,as0[k]?=some b:=⟨as0[k],by simp[hk1]⟩
   refine bM (tJ hb1) (by omega) ?_;have hbw:=C3 (k:=k0) (n:=n0) (t:=t0) (List.mem_of_getElem? hb1);have hc:=ih b (List.mem_of_getElem? hb1) (by omega);have hts:dO (as0.take (k+1))=dO (as0.take k)++eu b:=by rw[cF hb1,BV]
   have htl:=B3 as0 (k+1);rw[hts,<-hs,List.length_append]at htl;generalize eu b=sb at hc hts htl;obtain⟨b1,b2,b3,b4⟩:=b;(conv=>whnf);refine kK hc ?_;(conv=>whnf);refine ag (show((s.map bF).length+(sb.map bF).length)*16<=140737488355328 by simp;omega) ?_;(conv=>whnf);refine⟨hk1,s++sb,⟨rfl,?_,rfl,rfl⟩,by rw[hs,hts]⟩;rw[List.map_append];rfl
  ·have hk1:=cv h3 (by rw[iq]) hk (by omega)
   have hs2:s=dO as0:=by rw[hs,hk1,List.take_length]
   subst hs2;exact .inr (.inl rfl)
 ·have h2:(k0==6)=false:=h2
  rw[h2];exact .inr (.inl rfl)
structure St where
 seen:MN.TM Bool
 bound:MN.TM Int
 out:List ByteArray
def LK (m:MN.TM Int) (s:ByteArray):MN.TM Int:=Gf s (IntKind.i64.wrap ((aV s m).getD 0+1)) m
def L1 (m:MN.TM Int) (s:ByteArray):MN.TM Int:=Gf s (IntKind.i64.wrap ((aV s m).getD 0-1)) m
def St.inc (σ:St) (ns:List ByteArray):St:={ σ with bound:=ns.foldl LK σ.bound }
def St.dec (σ:St) (ns:List ByteArray):St:={ σ with bound:=ns.foldl L1 σ.bound }
def Nh (t:ByteArray) (σ:St):St:=bif ((aV t σ.bound).getD 0==0)&&!((aV t σ.seen).getD false) then ⟨Gf t true σ.seen,σ.bound,σ.out++[t]⟩ else σ
mutual
def dh:Ex->St->St
 |.mk k n t ns _ xs ms _,σ=>bif decide (ei k n xs.length<0) then σ else bif decide ((xs.length:Int)<ei k n xs.length) then visitFn xs.length xs σ else
   let σ1:=bif k==5 then Nh t σ else bif k==6 then De t xs σ else bif k==10 then HZ ns xs σ else visitFn (ei k n xs.length).toNat xs σ
   bif k==13||k==18 then Bt ms σ1 else σ1
def visitFn:Nat->List Ex->St->St
 |_,[],σ=>σ
 |0,_,σ=>σ
 |n+1,e::r,σ=>visitFn n r (dh e σ)
def De (t:ByteArray):List Ex->St->St
 |a::b::_,σ=>(dh b ((dh a σ).inc [t])).dec [t]
 |_,σ=>σ
def HZ (ns:List ByteArray):List Ex->St->St
 |a::_,σ=>(dh a (σ.inc ns)).dec ns
 |_,σ=>σ
def Bt:List eZ->St->St
 | [],σ=>σ
 |.mk p e::r,σ=>Bt r ((dh e (σ.inc (eu p))).dec (eu p))
end
def iz (ns:List ByteArray) (e:Ex) (σ:St):St:=(dh e (σ.inc ns)).dec ns
def Pr (σ:St):Heap:=[(1000000000,.cells [.p (.amp 29 0),.p (.amp 30 0),.so 1 (σ.out.map bF)]),(1000000001,.store 205 true 29 1 0 [(0,bX PV.b σ.seen)]),(1000000002,.store 206 true 30 1 0 [(0,bX vJ σ.bound)])]
def vE (e:Ex):Prop:=∀σ:St,σ.out.length+wE e<=2097152->
 au Tryz.prog 76 [.ptr 1000000000 0,.p (eE e)] (Pr σ) (.cI []) (Pr (dh e σ))
def Oq (ns:List ByteArray) (e:Ex):Prop:=∀σ:St,σ.out.length+wE e<=2097152->
 au Tryz.prog 117 [.ptr 1000000000 0,.p (.sl 1 (ns.map bF)),.p (eE e)] (Pr σ) (.cI []) (Pr (iz ns e σ))
theorem ur (ns:List ByteArray) (e:Ex) (hn:ns.length<=1048640) (ih:vE e):Oq ns e:=by
 intro σ hσ;have hv:=ih (σ.inc ns) hσ;have hu:iz ns e σ=(dh e (σ.inc ns)).dec ns:=rfl;rw[hu];generalize dh e (σ.inc ns)=σ2 at hv;obtain⟨se,bo,ou⟩:=σ;obtain⟨se2,bo2,ou2⟩:=σ2;obtain⟨k0,n0,t0,ns0,ts0,as0,ms0,p0⟩:=e;simp only[Pr,St.inc,St.dec]at hv ⊢;refine au.iN av Tryz.func117 rfl (by rfl) (by kernel_rfl) rfl rfl ?_;(conv=>whnf)
 refine bK (aG _) av (by kernel_rfl) ns.length [0,1,5,10,11,12] [1000000000,1000000001,1000000002,5] (fun k (m:MN.TM Int)=>[.ptr 1000000000 0,.p (.sl 1 (ns.map bF)),.ptr 5 0,.p (.sl 1 (ns.map bF)),.p (.i .i64 (ns.map bF).length),.p (.i .i64 (ix k))])
  (fun k m=>[.cells [.p (.amp 29 0),.p (.amp 30 0),.so 1 (ou.map bF)],.store 205 true 29 1 0 [(0,bX PV.b se)],.store 206 true 30 1 0 [(0,bX vJ m)],.cells [.p (.i .i64 k0),.p (.i .i64 n0),.p (.s t0),.p (.sl 1 (ns0.map bF)),.p (.sl 3 (mB ts0)),.p (.sl 8 (eC as0)),.p (.sl 12 (jX ms0)),.p (.i .i64 p0)]])
  (fun k m=>m=(ns.take k).foldl LK bo) bo ⟨rfl,rfl,rfl,rfl⟩ rfl ?_
 intro k m hk hm;(conv=>whnf);refine ai ?_ ?_<;>intro h1<;>conv=>whnf
 ·have hk1:=cu h1 (by simp) hk (by omega)
  obtain⟨b,hb1⟩:∃b,ns[k]?=some b:=⟨ns[k],by simp[hk1]⟩
  refine bM (x:=bF b) (by simp[hb1]) (by omega) ?_;(conv=>whnf);refine ag ⟨rfl,rfl⟩ ?_;refine⟨jR vJ m,rfl,?_⟩;refine⟨_,_,FU b m,?_⟩;(conv=>whnf);refine ag ⟨rfl,rfl⟩ ?_;refine⟨jR vJ m,rfl,?_⟩;(conv=>whnf);refine⟨hk1,LK m b,⟨by rw[LK,Lx];rfl,rfl,rfl,rfl⟩,?_⟩;rw[cF hb1,List.foldl_append,<-hm];rfl
 ·have hk1:=cv h1 (by simp) hk (by omega)
  have hm2:m=ns.foldl LK bo:=by rw[hm,hk1,List.take_length]
  subst hm2;refine bh [1000000000,1000000001,1000000002] 10000 hv ?_;(conv=>whnf)
  refine bK (aG _) av (by kernel_rfl) ns.length [0,27,28,29] [1000000000,1000000001,1000000002] (fun k (m:MN.TM Int)=>[.ptr 1000000000 0,.p (.sl 1 (ns.map bF)),.p (.i .i64 (ns.map bF).length),.p (.i .i64 (ix k))])
   (fun k m=>[.cells [.p (.amp 29 0),.p (.amp 30 0),.so 1 (ou2.map bF)],.store 205 true 29 1 0 [(0,bX PV.b se2)],.store 206 true 30 1 0 [(0,bX vJ m)]])
   (fun k m=>m=(ns.take k).foldl L1 bo2) bo2 ⟨rfl,rfl,rfl,rfl⟩ rfl ?_
  intro j m3 hj hm3;(conv=>whnf);refine ai ?_ ?_<;>intro h2<;>conv=>whnf
  ·have hj1:=cu h2 (by simp) hj (by omega)
   obtain⟨b,hb1⟩:∃b,ns[j]?=some b:=⟨ns[j],by simp[hj1]⟩
   refine bM (x:=bF b) (by simp[hb1]) (by omega) ?_;(conv=>whnf);refine ag ⟨rfl,rfl⟩ ?_;refine⟨jR vJ m3,rfl,?_⟩;refine⟨_,_,FU b m3,?_⟩;(conv=>whnf);refine ag ⟨rfl,rfl⟩ ?_;refine⟨jR vJ m3,rfl,?_⟩;(conv=>whnf);refine⟨hj1,L1 m3 b,⟨by rw[L1,Lx];rfl,rfl,rfl,rfl⟩,?_⟩;rw[cF hb1,List.foldl_append,<-hm3];rfl
  ·have hj1:=cv h2 (by simp) hj (by omega)
   have hm4:m3=ns.foldl L1 bo2:=by rw[hm3,hj1,List.take_length]
   subst hm4;exact⟨.inl rfl,⟨.inl rfl,.inl rfl,.inl rfl,trivial⟩,s6,s6,trivial⟩
end TR
end
