/- Contracts, and the law, for every input. No conditions. -/
import Derived.Test.YtdmopjgjhfhfdaaGreatDoorMO1
import Derived.Test.YtdmopjgjhfhfdaaGreatDoorAMRngD
set_option linter.all false
open Go Go.AM Go.Proofs TK
set_option maxRecDepth 100000
namespace MN
noncomputable def PU:Nat→Option TI:=hint (hint (jQ Tryz.prog) 133 [1000022]) 218 [1000094]
theorem BX:bz Tryz.prog PU:=((ah Tryz.prog).hint _ _).hint _ _
set_option maxHeartbeats 8000000 in
theorem vq (K:Ks) (S:Ss) (zr:bf Rn) (k:Nat) (r:Rn) (f:Fr) (R:Ss×Rn) (hr:aK k zr.2=some r) (hF:gR K S r f=some R):
 av Tryz.prog 239 [.p (.bH rS k),.p (.agg (dX f))] (hA K S zr) (.cA []) (hA K R.1 (zr.1,aW k R.2 zr.2)):=by
 unfold gR dA at hF;obtain⟨f1,f2,f3,f4,f5⟩:=f;dsimp only at hF
 cases f1 with
 |none=>cases hF
 |some kn=>
  dsimp only at hF
  cases hn:aK kn K.n.2 with
  |none=>rw[hn]at hF;cases hF
  |some n=>
   rw[hn]at hF;dsimp only at hF
   cases hl:yu f3 with
   |true=>rw[hl]at hF;cases hF
   |false=>
    rw[hl]at hF;dsimp only at hF;have hfl:=cJ zr S.o k cG r hr;have heg:=E6 K.n kn n hn;have c6:=fun h=>NC (K:=K) (S:=S) (r:=r) (f:=⟨some kn,f2,f3,f4,f5⟩) (n:=n) (R:=R) h;have c7:=yx K S zr k r ⟨some kn,f2,f3,f4,f5⟩ n R hr hl;have c13:=uD K S zr k r ⟨some kn,f2,f3,f4,f5⟩ n R hr hl;have c9:=xK K S zr k r ⟨some kn,f2,f3,f4,f5⟩ n R hr hl;have c11:=vY K S zr k r ⟨some kn,f2,f3,f4,f5⟩ n R hr hl;have c17:=rQ K S zr k r ⟨some kn,f2,f3,f4,f5⟩ n R hr hl;have cL:=uR K S zr k r ⟨some kn,f2,f3,f4,f5⟩ n R hr hl;have c8:=fun h hF=>zP K S zr k r ⟨some kn,f2,f3,f4,f5⟩ R hr hl (Oc (K:=K) (S:=S) (r:=r) (f:=⟨some kn,f2,f3,f4,f5⟩) (n:=n) (R:=R) h hF);have cSi:=fun h6 h7 h13 h8 h9 h11 h17 h15 h14 h20 h24 h25 h19=>HN (K:=K) (S:=S) (r:=r) (f:=⟨some kn,f2,f3,f4,f5⟩) (n:=n) (R:=R) h6 h7 h13 h8 h9 h11 h17 h15 h14 h20 h24 h25 h19;have cB:=fun xs R=>Fv K S zr k r ⟨some kn,f2,f3,f4,f5⟩ xs R hr hl;have cE:=fun x xs=>Fw (S:=S) (w:=f3) (x:=x) (xs:=xs) hl;have hfl2:=fun(S2:Ss) w=>cJ zr S2.o k w r hr;have hgv:=fun v=>jq zr k v r hr;have hev:=fun j s=>jr zr k j ⟨some kn,f2,f3,f4,f5⟩ s r hr;obtain⟨n1,n2,n3,n4,n5,n6,n7,n8,n9⟩:=n;dsimp only at hF c6 c7 c13 c9 c11 c17 cL c8 cSi cB;generalize hE:gJ ⟨n1,n2,n3,n4,n5,n6,n7,n8,n9⟩=E at hF heg;refine av.pZ BX Tryz.func239 rfl (by rfl) (by show 2≤_;decide) rfl ?_;refine iN.cut BX aC (by kernel_rfl) 4 [0,3] (3::iA) (fun _:Unit=>[.p (.bH rS k),.ptr 3 0]) (fun _=>.cells [.p (.bH nS kn),.p (eP sS f2),.p (mJ f3),.p (.i .i64 f4),.p (.b f5)]::B5 K S zr) (fun _=>eH K S r ⟨some kn,f2,f3,f4,f5⟩ ⟨n1,n2,n3,n4,n5,n6,n7,n8,n9⟩=some R) ?_ ?_
    ·cases n5 with
     |none=>
      cases f3 with
      |nA l=>cases hl
      |nil=>
       unfold hA iH dX at *;dsimp only[mJ]at *;(conv=>whnf);refine bh [1000000002] 300 heg ?_;(conv=>whnf);refine aj ?_ ?_<;>intro h1<;>conv=>whnf
       ·rw[show decide ((eC .nil:Int)<E)=true from h1]at hF
        dsimp only at hF;unfold ga at hF;rw[show ja K.a ⟨n1,n2,n3,n4,none,n6,n7,n8,n9⟩ (eC .nil)=none from rfl]at hF;split at hF
        all_goals cases hF
       rw[show decide ((eC .nil:Int)<E)=false from h1]at hF;dsimp only at hF;refine bC dc hn rfl ?_;(conv=>whnf);refine bC dc hn rfl ?_;(conv=>whnf);refine ag (.inl (by kernel_rfl)) ?_;(conv=>whnf);refine aj ?_ ?_<;>intro h2<;>conv=>whnf
       ·rw[show decide ((gA none:Int)<n7)=true from h2]at hF
        cases hF;refine bh [1000000000,1000000001] 300 hfl ?_;(conv=>whnf);refine⟨.inl rfl,⟨s6,s6,s6,s6,s6,s6,s6,s6,s6,s6,s6,s6,s6,s6,s6,s6,trivial⟩⟩
       rw[show decide ((gA none:Int)<n7)=false from h2]at hF;dsimp only at hF;exact⟨(),⟨rfl,rfl,rfl,rfl⟩,hF⟩
      |blk kk m=>
       unfold hA iH dX at *;dsimp only[mJ]at *;(conv=>whnf);refine bh [1000000002] 300 heg ?_;(conv=>whnf);refine aj ?_ ?_<;>intro h1<;>conv=>whnf
       ·rw[show decide ((eC (.blk kk m):Int)<E)=true from h1]at hF
        dsimp only at hF;unfold ga at hF;rw[show ja K.a ⟨n1,n2,n3,n4,none,n6,n7,n8,n9⟩ (eC (.blk kk m))=none from rfl]at hF;split at hF
        all_goals cases hF
       rw[show decide ((eC (.blk kk m):Int)<E)=false from h1]at hF;dsimp only at hF;refine bC dc hn rfl ?_;(conv=>whnf);refine bC dc hn rfl ?_;(conv=>whnf);refine ag (.inl (by kernel_rfl)) ?_;(conv=>whnf);refine aj ?_ ?_<;>intro h2<;>conv=>whnf
       ·rw[show decide ((gA none:Int)<n7)=true from h2]at hF
        cases hF;refine bh [1000000000,1000000001] 300 hfl ?_;(conv=>whnf);refine⟨.inl rfl,⟨s6,s6,s6,s6,s6,s6,s6,s6,s6,s6,s6,s6,s6,s6,s6,s6,trivial⟩⟩
       rw[show decide ((gA none:Int)<n7)=false from h2]at hF;dsimp only at hF;exact⟨(),⟨rfl,rfl,rfl,rfl⟩,hF⟩
     |some q=>
      obtain⟨q1,q2⟩:=q
      cases f3 with
      |nA l=>cases hl
      |nil=>
       unfold hA iH dX at *;dsimp only[mJ]at *;(conv=>whnf);refine bh [1000000002] 300 heg ?_;(conv=>whnf);refine aj ?_ ?_<;>intro h1<;>conv=>whnf
       ·rw[show decide ((eC .nil:Int)<E)=true from h1]at hF
        dsimp only at hF;unfold ga at hF
        cases hp:tQ S r ⟨some kn,f2,.nil,f4,f5⟩ with
        |none=>rw[hp]at hF;cases hF
        |some P=>
         rw[hp]at hF;obtain⟨S2,r2⟩:=P;dsimp only at hF
         cases ha:ja K.a ⟨n1,n2,n3,n4,(some (q1,q2)),n6,n7,n8,n9⟩ (eC .nil) with
         |none=>rw[ha]at hF;cases hF
         |some c=>
          rw[ha]at hF;cases hF;have hev2:=jr (zr.1,aW k r2 zr.2) k c ⟨some kn,f2,.nil,f4,f5⟩ f2 r2 (cx hr);rw[cT]at hev2;have hen:∀M,sset k (cP r2) (cC cP M)=cC cP (aW k r2 M):=fun M=>bM cP k _ M;unfold tQ at hp;unfold ja at ha;dsimp only[eC]at ha
          cases hb:Nat.blt 0 q2 with
          |false=>rw[hb]at ha;cases ha
          |true=>
           rw[hb]at ha;dsimp only at ha
           cases hla:aK q1 K.a.2 with
           |none=>rw[hla]at ha;cases ha
           |some al=>
            rw[hla]at ha;dsimp only at ha;have hb1:0<q2:=by rw[Nat.blt_eq]at hb;exact hb
            obtain⟨r1,r2',r3,r4,r5,r6,r7,⟨c1,c2,c3,c4,c5⟩,⟨wk,wn,wt,wa,wc⟩,⟨o1,o2,o3,o4,o5,o6,o7,o8⟩,⟨p1,p2,p3,p4,p5⟩,r12⟩:=r;dsimp only at hp
            cases r7 with
            |none=>
             cases hp;unfold iE xS J9 jU dX at *;dsimp only[mJ]at *;rw[←hen]at hev2;refine bC cP hr rfl ?_;(conv=>whnf);refine ag ⟨Nat.succ_pos _,Nat.le_of_ble_eq_true (by kernel_rfl)⟩ ?_;(conv=>whnf);refine bC cP hr rfl ?_;(conv=>whnf);refine ag (.inl (by kernel_rfl)) ?_;(conv=>whnf);refine bC dc hn rfl ?_;(conv=>whnf);refine ag ⟨by simp,by simpa using hb1⟩ ?_;(conv=>whnf);refine ag ⟨rfl,by decide,.inr rfl⟩ ?_;refine⟨_,aq hla,?_⟩;refine au (i:=0) (x:=.bH nS c) (by unfold ry;rw[List.getElem?_map];exact(by rw[ha];rfl)) ?_;(conv=>whnf);refine bh [1000000000] 400 hev2 ?_;(conv=>whnf);refine ag (.inl (by kernel_rfl)) ?_;(conv=>whnf);refine⟨.inl rfl,⟨s6,s6,s6,s6,s6,s6,s6,s6,s6,s6,s6,s6,s6,s6,s6,s6,trivial⟩⟩
            |some q=>
             obtain⟨g1,g2⟩:=q;dsimp only at hp
             cases hlf:aK g1 S.f.2 with
             |none=>rw[hlf]at hp;cases hp
             |some fl=>
              rw[hlf]at hp;dsimp only at hp
              cases hg3:Nat.ble g2 fl.length&&Nat.ble g2 2000000 with
              |false=>rw[hg3]at hp;cases hp
              |true=>
               rw[hg3]at hp;cases hp;rw[Bool.and_eq_true]at hg3;have hg4:=Nat.le_of_ble_eq_true hg3.1;have hg5:=Nat.le_of_ble_eq_true hg3.2;unfold iE xS J9 jU dX at *;dsimp only[mJ]at *;rw[←hen]at hev2;refine bC cP hr rfl ?_;(conv=>whnf);refine⟨rfl,_,aq hlf,?_⟩;refine ag ⟨by unfold vN;rw[List.length_map];exact hg4,Nat.le_trans (Nat.mul_le_mul_right _ (show g2+1≤2000001 by omega)) (Nat.le_of_ble_eq_true (by kernel_rfl))⟩ ?_;(conv=>whnf);refine bC cP hr rfl ?_;(conv=>whnf);refine ag (.inl (by kernel_rfl)) ?_;(conv=>whnf);refine bC dc hn rfl ?_;(conv=>whnf);refine ag ⟨by simp,by simpa using hb1⟩ ?_;(conv=>whnf);refine ag ⟨rfl,by decide,.inr rfl⟩ ?_;refine⟨_,aq hla,?_⟩;refine au (i:=0) (x:=.bH nS c) (by unfold ry;rw[List.getElem?_map];exact(by rw[ha];rfl)) ?_;(conv=>whnf);refine bh [1000000000] 400 hev2 ?_;(conv=>whnf);refine ag (.inl (by kernel_rfl)) ?_;(conv=>whnf);refine⟨.inl rfl,⟨s6,s6,s6,s6,s6,s6,s6,⟨rfl,rfl,rfl,rfl,rfl,?_⟩,s6,s6,s6,s6,s6,s6,s6,s6,trivial⟩⟩;exact yT _ _ _ fl ⟨some kn,f2,.nil,f4,f5⟩ _
       rw[show decide ((eC .nil:Int)<E)=false from h1]at hF;dsimp only at hF;refine bC dc hn rfl ?_;(conv=>whnf);refine bC dc hn rfl ?_;(conv=>whnf);refine ag (.inl (by kernel_rfl)) ?_;(conv=>whnf);refine aj ?_ ?_<;>intro h2<;>conv=>whnf
       ·rw[show decide ((gA (some (q1,q2)):Int)<n7)=true from h2]at hF
        cases hF;refine bh [1000000000,1000000001] 300 hfl ?_;(conv=>whnf);refine⟨.inl rfl,⟨s6,s6,s6,s6,s6,s6,s6,s6,s6,s6,s6,s6,s6,s6,s6,s6,trivial⟩⟩
       rw[show decide ((gA (some (q1,q2)):Int)<n7)=false from h2]at hF;dsimp only at hF;exact⟨(),⟨rfl,rfl,rfl,rfl⟩,hF⟩
      |blk kk m=>
       unfold hA iH dX at *;dsimp only[mJ]at *;(conv=>whnf);refine bh [1000000002] 300 heg ?_;(conv=>whnf);refine aj ?_ ?_<;>intro h1<;>conv=>whnf
       ·rw[show decide ((eC (.blk kk m):Int)<E)=true from h1]at hF
        dsimp only at hF;unfold ga at hF
        cases hp:tQ S r ⟨some kn,f2,(.blk kk m),f4,f5⟩ with
        |none=>rw[hp]at hF;cases hF
        |some P=>
         rw[hp]at hF;obtain⟨S2,r2⟩:=P;dsimp only at hF
         cases ha:ja K.a ⟨n1,n2,n3,n4,(some (q1,q2)),n6,n7,n8,n9⟩ (eC (.blk kk m)) with
         |none=>rw[ha]at hF;cases hF
         |some c=>
          rw[ha]at hF;cases hF;have hev2:=jr (zr.1,aW k r2 zr.2) k c ⟨some kn,f2,(.blk kk m),f4,f5⟩ f2 r2 (cx hr);rw[cT]at hev2;have hen:∀M,sset k (cP r2) (cC cP M)=cC cP (aW k r2 M):=fun M=>bM cP k _ M;unfold tQ at hp;unfold ja at ha;dsimp only[eC]at ha
          cases hb:Nat.blt m q2 with
          |false=>rw[hb]at ha;cases ha
          |true=>
           rw[hb]at ha;dsimp only at ha
           cases hla:aK q1 K.a.2 with
           |none=>rw[hla]at ha;cases ha
           |some al=>
            rw[hla]at ha;dsimp only at ha;have hb1:m<q2:=by rw[Nat.blt_eq]at hb;exact hb
            obtain⟨r1,r2',r3,r4,r5,r6,r7,⟨c1,c2,c3,c4,c5⟩,⟨wk,wn,wt,wa,wc⟩,⟨o1,o2,o3,o4,o5,o6,o7,o8⟩,⟨p1,p2,p3,p4,p5⟩,r12⟩:=r;dsimp only at hp
            cases r7 with
            |none=>
             cases hp;unfold iE xS J9 jU dX at *;dsimp only[mJ]at *;rw[←hen]at hev2;refine bC cP hr rfl ?_;(conv=>whnf);refine ag ⟨Nat.succ_pos _,Nat.le_of_ble_eq_true (by kernel_rfl)⟩ ?_;(conv=>whnf);refine bC cP hr rfl ?_;(conv=>whnf);refine ag (.inl (by kernel_rfl)) ?_;(conv=>whnf);refine bC dc hn rfl ?_;(conv=>whnf);refine ag ⟨by simp,by simpa using hb1⟩ ?_;(conv=>whnf);refine ag ⟨rfl,by decide,.inr rfl⟩ ?_;refine⟨_,aq hla,?_⟩;refine au (i:=m) (x:=.bH nS c) (by unfold ry;rw[List.getElem?_map];exact(by rw[ha];rfl)) ?_;(conv=>whnf);refine bh [1000000000] 400 hev2 ?_;(conv=>whnf);refine ag (.inl (by kernel_rfl)) ?_;(conv=>whnf);refine⟨.inl rfl,⟨s6,s6,s6,s6,s6,s6,s6,s6,s6,s6,s6,s6,s6,s6,s6,s6,trivial⟩⟩
            |some q=>
             obtain⟨g1,g2⟩:=q;dsimp only at hp
             cases hlf:aK g1 S.f.2 with
             |none=>rw[hlf]at hp;cases hp
             |some fl=>
              rw[hlf]at hp;dsimp only at hp
              cases hg3:Nat.ble g2 fl.length&&Nat.ble g2 2000000 with
              |false=>rw[hg3]at hp;cases hp
              |true=>
               rw[hg3]at hp;cases hp;rw[Bool.and_eq_true]at hg3;have hg4:=Nat.le_of_ble_eq_true hg3.1;have hg5:=Nat.le_of_ble_eq_true hg3.2;unfold iE xS J9 jU dX at *;dsimp only[mJ]at *;rw[←hen]at hev2;refine bC cP hr rfl ?_;(conv=>whnf);refine⟨rfl,_,aq hlf,?_⟩;refine ag ⟨by unfold vN;rw[List.length_map];exact hg4,Nat.le_trans (Nat.mul_le_mul_right _ (show g2+1≤2000001 by omega)) (Nat.le_of_ble_eq_true (by kernel_rfl))⟩ ?_;(conv=>whnf);refine bC cP hr rfl ?_;(conv=>whnf);refine ag (.inl (by kernel_rfl)) ?_;(conv=>whnf);refine bC dc hn rfl ?_;(conv=>whnf);refine ag ⟨by simp,by simpa using hb1⟩ ?_;(conv=>whnf);refine ag ⟨rfl,by decide,.inr rfl⟩ ?_;refine⟨_,aq hla,?_⟩;refine au (i:=m) (x:=.bH nS c) (by unfold ry;rw[List.getElem?_map];exact(by rw[ha];rfl)) ?_;(conv=>whnf);refine bh [1000000000] 400 hev2 ?_;(conv=>whnf);refine ag (.inl (by kernel_rfl)) ?_;(conv=>whnf);refine⟨.inl rfl,⟨s6,s6,s6,s6,s6,s6,s6,⟨rfl,rfl,rfl,rfl,rfl,?_⟩,s6,s6,s6,s6,s6,s6,s6,s6,trivial⟩⟩;exact yT _ _ _ fl ⟨some kn,f2,(.blk kk m),f4,f5⟩ _
       rw[show decide ((eC (.blk kk m):Int)<E)=false from h1]at hF;dsimp only at hF;refine bC dc hn rfl ?_;(conv=>whnf);refine bC dc hn rfl ?_;(conv=>whnf);refine ag (.inl (by kernel_rfl)) ?_;(conv=>whnf);refine aj ?_ ?_<;>intro h2<;>conv=>whnf
       ·rw[show decide ((gA (some (q1,q2)):Int)<n7)=true from h2]at hF
        cases hF;refine bh [1000000000,1000000001] 300 hfl ?_;(conv=>whnf);refine⟨.inl rfl,⟨s6,s6,s6,s6,s6,s6,s6,s6,s6,s6,s6,s6,s6,s6,s6,s6,trivial⟩⟩
       rw[show decide ((gA (some (q1,q2)):Int)<n7)=false from h2]at hF;dsimp only at hF;exact⟨(),⟨rfl,rfl,rfl,rfl⟩,hF⟩
    intro _ hF;refine iN.fin BX aC (by kernel_rfl) ?_;unfold hA iH dX at *;dsimp only at *;(conv=>whnf);refine bC dc hn rfl ?_;(conv=>whnf);refine aj ?_ ?_<;>intro h6<;>conv=>whnf
    ·have e6:n1=6:=by simpa using h6
     obtain⟨xs,hx,hF⟩:=c6 e6 hF
     cases n5 with
     |none=>
      unfold A1 at hF;rw[show ja K.a ⟨n1,n2,n3,n4,none,n6,n7,n8,n9⟩ 1=none from rfl]at hF;cases hF
     |some q=>
      obtain⟨q1,q2⟩:=q
      cases f3 with
      |nA l=>cases hl
      |nil=>
       cases hx;unfold A1 at hF;split at hF
       all_goals cases hF
      |blk kk m=>
       cases xs with
       |nil=>unfold A1 at hF;split at hF;all_goals cases hF
       |cons v xs=>
        obtain⟨kk',L,h2,hlv⟩:=cE v xs hx;cases h2;unfold A1 at hF
        cases ha:ja K.a ⟨n1,n2,n3,n4,some (q1,q2),n6,n7,n8,n9⟩ 1 with
        |none=>rw[ha]at hF;cases hF
        |some c=>
         rw[ha]at hF;cases hF;unfold ja at ha;dsimp only at ha
         cases hb:Nat.blt 1 q2 with
         |false=>rw[hb]at ha;cases ha
         |true=>
          rw[hb]at ha;dsimp only at ha
          cases hla:aK q1 K.a.2 with
          |none=>rw[hla]at ha;cases ha
          |some al=>
           rw[hla]at ha;dsimp only at ha;have hb1:1<q2:=by rw[Nat.blt_eq]at hb;exact hb
           have hev:=hev c (some S.s.1);obtain⟨vk,vn,vt,va,vc⟩:=v;unfold xS zX oG at *;cases f2
           all_goals
            refine bC dc hn rfl ?_;(conv=>whnf);refine ag ⟨by simp,by simpa using hb1⟩ ?_;(conv=>whnf);refine ag ⟨rfl,by decide,.inr rfl⟩ ?_;refine⟨_,aq hla,?_⟩;refine au (i:=1) (x:=.bH nS c) (by unfold ry;rw[List.getElem?_map];exact(by rw[ha];rfl)) ?_;(conv=>whnf);refine bC dc hn rfl ?_;(conv=>whnf);refine ag ⟨by simp,by simp⟩ ?_;(conv=>whnf);refine ag ⟨rfl,by decide,.inr rfl⟩ ?_;refine⟨_,aq hlv,?_⟩;refine au (i:=0) (x:=.agg [.i .i64 vk,.i .i64 vn,.s vt,.sl 5 (bu va),eP cS vc]) (rfl) ?_;(conv=>whnf);refine bh [1000000000] 400 hev ?_;(conv=>whnf);refine ag (.inl (by kernel_rfl)) ?_;(conv=>whnf);refine⟨.inl rfl,⟨s6,s6,s6,s6,s6,s6,s6,s6,s6,s6,s6,s6,s6,s6,s6,s6,trivial⟩⟩
    refine aj ?_ ?_<;>intro h7<;>conv=>whnf
    ·refine bh iA 300 (c7 (by simpa using h7) hF) ?_
     (conv=>whnf);refine⟨.inl rfl,⟨s6,s6,s6,s6,s6,s6,s6,s6,s6,s6,s6,s6,s6,s6,s6,s6,trivial⟩⟩
    refine aj ?_ ?_<;>intro h13<;>conv=>whnf
    ·refine bh iA 300 (c13 (by simpa using h13) hF) ?_
     (conv=>whnf);refine⟨.inl rfl,⟨s6,s6,s6,s6,s6,s6,s6,s6,s6,s6,s6,s6,s6,s6,s6,s6,trivial⟩⟩
    refine aj ?_ ?_<;>intro h8<;>conv=>whnf
    ·refine bh iA 300 (c8 (by simpa using h8) hF) ?_
     (conv=>whnf);refine⟨.inl rfl,⟨s6,s6,s6,s6,s6,s6,s6,s6,s6,s6,s6,s6,s6,s6,s6,s6,trivial⟩⟩
    refine aj ?_ ?_<;>intro h9<;>conv=>whnf
    ·refine dw h9 ?_
     (conv=>whnf);refine bh iA 300 (c9 (by simpa using h9) hF) ?_;(conv=>whnf);refine⟨.inl rfl,⟨s6,s6,s6,s6,s6,s6,s6,s6,s6,s6,s6,s6,s6,s6,s6,s6,trivial⟩⟩
    refine aj ?_ ?_<;>intro h11<;>conv=>whnf
    ·refine bh iA 300 (c11 (by simpa using h11) hF) ?_
     (conv=>whnf);refine⟨.inl rfl,⟨s6,s6,s6,s6,s6,s6,s6,s6,s6,s6,s6,s6,s6,s6,s6,s6,trivial⟩⟩
    refine aj ?_ ?_<;>intro h17<;>conv=>whnf
    ·refine bh iA 300 (c17 (by simpa using h17) hF) ?_
     (conv=>whnf);refine⟨.inl rfl,⟨s6,s6,s6,s6,s6,s6,s6,s6,s6,s6,s6,s6,s6,s6,s6,s6,trivial⟩⟩
    refine aj ?_ ?_<;>intro h15<;>conv=>whnf
    ·refine dw h15 ?_
     (conv=>whnf);refine bh iA 300 (cL (.inl (by simpa using h15)) hF) ?_;(conv=>whnf);refine⟨.inl rfl,⟨s6,s6,s6,s6,s6,s6,s6,s6,s6,s6,s6,s6,s6,s6,s6,s6,trivial⟩⟩
    refine aj ?_ ?_<;>intro h14<;>conv=>whnf
    ·refine dw h14 ?_
     (conv=>whnf);refine bh iA 300 (cL (.inr (.inl (by simpa using h14))) hF) ?_;(conv=>whnf);refine⟨.inl rfl,⟨s6,s6,s6,s6,s6,s6,s6,s6,s6,s6,s6,s6,s6,s6,s6,s6,trivial⟩⟩
    refine aj ?_ ?_<;>intro h20<;>conv=>whnf
    ·refine dw h20 ?_
     (conv=>whnf);refine bh iA 300 (cL (.inr (.inr (.inl (by simpa using h20)))) hF) ?_;(conv=>whnf);refine⟨.inl rfl,⟨s6,s6,s6,s6,s6,s6,s6,s6,s6,s6,s6,s6,s6,s6,s6,s6,trivial⟩⟩
    refine aj ?_ ?_<;>intro h24<;>conv=>whnf
    ·refine dw h24 ?_
     (conv=>whnf);refine bh iA 300 (cL (.inr (.inr (.inr (.inl (by simpa using h24))))) hF) ?_;(conv=>whnf);refine⟨.inl rfl,⟨s6,s6,s6,s6,s6,s6,s6,s6,s6,s6,s6,s6,s6,s6,s6,s6,trivial⟩⟩
    refine aj ?_ ?_<;>intro h25<;>conv=>whnf
    ·refine dw h25 ?_
     (conv=>whnf);refine bh iA 300 (cL (.inr (.inr (.inr (.inr (.inl (by simpa using h25)))))) hF) ?_;(conv=>whnf);refine⟨.inl rfl,⟨s6,s6,s6,s6,s6,s6,s6,s6,s6,s6,s6,s6,s6,s6,s6,s6,trivial⟩⟩
    refine aj ?_ ?_<;>intro h19<;>conv=>whnf
    ·refine bh iA 300 (cL (.inr (.inr (.inr (.inr (.inr (by simpa using h19)))))) hF) ?_
     (conv=>whnf);refine⟨.inl rfl,⟨s6,s6,s6,s6,s6,s6,s6,s6,s6,s6,s6,s6,s6,s6,s6,s6,trivial⟩⟩
    obtain⟨xs,hx,hF⟩:=cSi h6 h7 h13 h8 h9 h11 h17 h15 h14 h20 h24 h25 h19 hF;unfold qj at hF
    cases hs:mh K (dS S f3) r ⟨some kn,f2,f3,f4,f5⟩ xs with
    |none=>rw[hs]at hF;cases hF
    |some Q=>
     rw[hs]at hF;have cB:=cB xs Q hx hs;obtain⟨⟨⟨u1,u2,u3,u4,u5⟩,w⟩,S2⟩:=Q;rw[eV]at cB;dsimp only at cB hF;refine bh iA 300 cB ?_;(conv=>whnf)
     cases hw:jV w ⟨#[]⟩ with
     |false=>
      rw[hw]at hF;cases hF;refine dw (show(!(jV w ⟨#[]⟩))=true by rw[hw];rfl) ?_;(conv=>whnf);refine bh [1000000000,1000000001] 300 (hfl2 S2 w) ?_;(conv=>whnf);refine⟨.inl rfl,⟨s6,s6,s6,s6,s6,s6,s6,s6,s6,s6,s6,s6,s6,s6,s6,s6,trivial⟩⟩
     |true=>
      rw[hw]at hF;cases hF;refine bD (show(!(jV w ⟨#[]⟩))=false by rw[hw];rfl) ?_;(conv=>whnf);have hgv:=hgv (.mk u1 u2 u3 u4 u5);rw[eV]at hgv;refine bh [1000000000] 300 hgv ?_;(conv=>whnf);refine⟨.inl rfl,⟨s6,s6,s6,s6,s6,s6,s6,s6,s6,s6,s6,s6,s6,s6,s6,s6,trivial⟩⟩
end MN
