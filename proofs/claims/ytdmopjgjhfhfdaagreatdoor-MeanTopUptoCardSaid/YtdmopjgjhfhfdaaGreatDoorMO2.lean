/- Contracts, and the law, for every input. No conditions. -/
import Derived.Test.YtdmopjgjhfhfdaaGreatDoorMO1
set_option linter.all false
set_option maxRecDepth 100000
open Go Go.AM Go.Proofs TK
namespace MN
noncomputable def Ro:Nat->Option TI:=hint (hint (iX Tryz.prog) 133 [1000022]) 218 [1000094]
theorem CY:bB Tryz.prog Ro:=((aG Tryz.prog).hint _ _).hint _ _
set_option maxHeartbeats 8000000 in
theorem wK (K:Ks) (S:Ss) (zr:aZ Rn) (k:Nat) (r:Rn) (f:Fr) (R:Ss×Rn) (hr:aK k zr.2=some r) (hF:iu K S r f=some R):
 au Tryz.prog 239 [.p (.bH rS k),.p (.agg (ey f))] (hA K S zr) (.cI []) (hA K R.1 (zr.1,bf k R.2 zr.2)):=by
 unfold iu cW at hF;obtain⟨f1,f2,f3,f4,f5⟩:=f;dsimp only at hF
 cases f1 with
 |none=>cases hF
 |some kn=>
  dsimp only at hF
  cases hn:aK kn K.n.2 with
  |none=>rw[hn]at hF;cases hF
  |some n=>
   rw[hn]at hF;dsimp only at hF
   cases hl:zi f3 with
   |true=>rw[hl]at hF;cases hF
   |false=>
    rw[hl]at hF;dsimp only at hF;have hfl:=cQ zr S.o k cK r hr;have heg:=Fy K.n kn n hn;have c6:=fun h=>OF (K:=K) (S:=S) (r:=r) (f:=⟨some kn,f2,f3,f4,f5⟩) (n:=n) (R:=R) h;have c7:=yG K S zr k r ⟨some kn,f2,f3,f4,f5⟩ n R hr hl;have c13:=vP K S zr k r ⟨some kn,f2,f3,f4,f5⟩ n R hr hl;have c9:=yF K S zr k r ⟨some kn,f2,f3,f4,f5⟩ n R hr hl;have c11:=wN K S zr k r ⟨some kn,f2,f3,f4,f5⟩ n R hr hl;have c17:=sW K S zr k r ⟨some kn,f2,f3,f4,f5⟩ n R hr hl;have cL:=vX K S zr k r ⟨some kn,f2,f3,f4,f5⟩ n R hr hl;have c8:=fun h hF=>AD K S zr k r ⟨some kn,f2,f3,f4,f5⟩ R hr hl (PM (K:=K) (S:=S) (r:=r) (f:=⟨some kn,f2,f3,f4,f5⟩) (n:=n) (R:=R) h hF);have cSi:=fun h6 h7 h13 h8 h9 h11 h17 h15 h14 h20 h24 h25 h19=>IZ (K:=K) (S:=S) (r:=r) (f:=⟨some kn,f2,f3,f4,f5⟩) (n:=n) (R:=R) h6 h7 h13 h8 h9 h11 h17 h15 h14 h20 h24 h25 h19;have cB:=fun xs R=>F9 K S zr k r ⟨some kn,f2,f3,f4,f5⟩ xs R hr hl;have cE:=fun x xs=>Fk (S:=S) (w:=f3) (x:=x) (xs:=xs) hl;have hfl2:=fun(S2:Ss) w=>cQ zr S2.o k w r hr;have hgv:=fun v=>jK zr k v r hr;have hev:=fun j s=>jL zr k j ⟨some kn,f2,f3,f4,f5⟩ s r hr;obtain⟨n1,n2,n3,n4,n5,n6,n7,n8,n9⟩:=n;dsimp only at hF c6 c7 c13 c9 c11 c17 cL c8 cSi cB;generalize hE:gU ⟨n1,n2,n3,n4,n5,n6,n7,n8,n9⟩=E at hF heg;refine au.qG CY Tryz.func239 rfl (by rfl) (by show 2<=_;decide) rfl ?_;refine jh.cut CY av (by kernel_rfl) 4 [0,3] (3::iA) (fun _:Unit=>[.p (.bH rS k),.ptr 3 0]) (fun _=>.cells [.p (.bH nS kn),.p (eP sS f2),.p (nq f3),.p (.i .i64 f4),.p (.b f5)]::An K S zr) (fun _=>eI K S r ⟨some kn,f2,f3,f4,f5⟩ ⟨n1,n2,n3,n4,n5,n6,n7,n8,n9⟩=some R) ?_ ?_
    ·cases n5 with
     |none=>
      cases f3 with
      |nw l=>cases hl
      |nil=>
       unfold hA iZ ey at *;dsimp only[nq]at *;(conv=>whnf);refine bh [1000000002] 300 heg ?_;(conv=>whnf);refine ai ?_ ?_<;>intro h1<;>conv=>whnf
       ·rw[show decide ((eL .nil:Int)<E)=true from h1]at hF
        dsimp only at hF;unfold gD at hF;rw[show jn K.a ⟨n1,n2,n3,n4,none,n6,n7,n8,n9⟩ (eL .nil)=none from rfl]at hF;split at hF
        all_goals cases hF
       rw[show decide ((eL .nil:Int)<E)=false from h1]at hF;dsimp only at hF;refine bw dm hn rfl ?_;(conv=>whnf);refine bw dm hn rfl ?_;(conv=>whnf);refine ag (.inl (by kernel_rfl)) ?_;(conv=>whnf);refine ai ?_ ?_<;>intro h2<;>conv=>whnf
       ·rw[show decide ((fT none:Int)<n7)=true from h2]at hF
        cases hF;refine bh [1000000000,1000000001] 300 hfl ?_;(conv=>whnf);refine⟨.inl rfl,by(repeat refine⟨s6,?_⟩);trivial⟩
       rw[show decide ((fT none:Int)<n7)=false from h2]at hF;dsimp only at hF;exact⟨(),⟨rfl,rfl,rfl,rfl⟩,hF⟩
      |blk kk m=>
       unfold hA iZ ey at *;dsimp only[nq]at *;(conv=>whnf);refine bh [1000000002] 300 heg ?_;(conv=>whnf);refine ai ?_ ?_<;>intro h1<;>conv=>whnf
       ·rw[show decide ((eL (.blk kk m):Int)<E)=true from h1]at hF
        dsimp only at hF;unfold gD at hF;rw[show jn K.a ⟨n1,n2,n3,n4,none,n6,n7,n8,n9⟩ (eL (.blk kk m))=none from rfl]at hF;split at hF
        all_goals cases hF
       rw[show decide ((eL (.blk kk m):Int)<E)=false from h1]at hF;dsimp only at hF;refine bw dm hn rfl ?_;(conv=>whnf);refine bw dm hn rfl ?_;(conv=>whnf);refine ag (.inl (by kernel_rfl)) ?_;(conv=>whnf);refine ai ?_ ?_<;>intro h2<;>conv=>whnf
       ·rw[show decide ((fT none:Int)<n7)=true from h2]at hF
        cases hF;refine bh [1000000000,1000000001] 300 hfl ?_;(conv=>whnf);refine⟨.inl rfl,by(repeat refine⟨s6,?_⟩);trivial⟩
       rw[show decide ((fT none:Int)<n7)=false from h2]at hF;dsimp only at hF;exact⟨(),⟨rfl,rfl,rfl,rfl⟩,hF⟩
     |some q=>
      obtain⟨q1,q2⟩:=q
      cases f3 with
      |nw l=>cases hl
      |nil=>
       unfold hA iZ ey at *;dsimp only[nq]at *;(conv=>whnf);refine bh [1000000002] 300 heg ?_;(conv=>whnf);refine ai ?_ ?_<;>intro h1<;>conv=>whnf
       ·rw[show decide ((eL .nil:Int)<E)=true from h1]at hF
        dsimp only at hF;unfold gD at hF
        cases hp:uy S r ⟨some kn,f2,.nil,f4,f5⟩ with
        |none=>rw[hp]at hF;cases hF
        |some P=>
         rw[hp]at hF;obtain⟨S2,r2⟩:=P;dsimp only at hF
         cases ha:jn K.a ⟨n1,n2,n3,n4,(some (q1,q2)),n6,n7,n8,n9⟩ (eL .nil) with
         |none=>rw[ha]at hF;cases hF
         |some c=>
          rw[ha]at hF;cases hF;have hev2:=jL (zr.1,bf k r2 zr.2) k c ⟨some kn,f2,.nil,f4,f5⟩ f2 r2 (cA hr);rw[cY]at hev2;have hen:∀M,sset k (cj r2) (cD cj M)=cD cj (bf k r2 M):=fun M=>bN cj k _ M;unfold uy at hp;unfold jn at ha;dsimp only[eL]at ha
          cases hb:Nat.blt 0 q2 with
          |false=>rw[hb]at ha;cases ha
          |true=>
           rw[hb]at ha;dsimp only at ha
           cases hla:aK q1 K.a.2 with
           |none=>rw[hla]at ha;cases ha
           |some al=>
            rw[hla]at ha;dsimp only at ha;have hb1:0<q2:=by rw[Nat.blt_eq]at hb;exact hb
            obtain⟨r1,r2',r3,r4,r5,r6,r7,⟨c1,c2,c3,c4,c5⟩,⟨wk,wn,wt,wa,wc⟩,⟨o1,o2,o3,o4,o5,o6,o7,o8⟩,⟨p1,p2,p3,p4,p5⟩,r12⟩:=r;dsimp only at hp
            cases r7 with
            |none=>
             cases hp;unfold gW yO J3 kJ ey at *;dsimp only[nq]at *;rw[<-hen]at hev2;refine bw cj hr rfl ?_;(conv=>whnf);refine ag ⟨Nat.succ_pos _,Nat.le_of_ble_eq_true (by kernel_rfl)⟩ ?_;(conv=>whnf);refine bw cj hr rfl ?_;(conv=>whnf);refine ag (.inl (by kernel_rfl)) ?_;(conv=>whnf);refine bw dm hn rfl ?_;(conv=>whnf);refine ag ⟨by simp,by simpa using hb1⟩ ?_;(conv=>whnf);refine ag ⟨rfl,by decide,.inr rfl⟩ ?_;refine⟨_,aj hla,?_⟩;refine aq (i:=0) (x:=.bH nS c) (by unfold rK;rw[List.getElem?_map];exact(by rw[ha];rfl)) ?_;(conv=>whnf);refine bh [1000000000] 400 hev2 ?_;(conv=>whnf);refine ag (.inl (by kernel_rfl)) ?_;(conv=>whnf);refine⟨.inl rfl,by(repeat refine⟨s6,?_⟩);trivial⟩
            |some q=>
             obtain⟨g1,g2⟩:=q;dsimp only at hp
             cases hlf:aK g1 S.f.2 with
             |none=>rw[hlf]at hp;cases hp
             |some fl=>
              rw[hlf]at hp;dsimp only at hp
              cases hg3:Nat.ble g2 fl.length&&Nat.ble g2 2000000 with
              |false=>rw[hg3]at hp;cases hp
              |true=>
               rw[hg3]at hp;cases hp;rw[Bool.and_eq_true]at hg3;have hg4:=Nat.le_of_ble_eq_true hg3.1;have hg5:=Nat.le_of_ble_eq_true hg3.2;unfold gW yO J3 kJ ey at *;dsimp only[nq]at *;rw[<-hen]at hev2;refine bw cj hr rfl ?_;(conv=>whnf);refine⟨rfl,_,aj hlf,?_⟩;refine ag ⟨by unfold wV;rw[List.length_map];exact hg4,Nat.le_trans (Nat.mul_le_mul_right _ (show g2+1<=2000001 by omega)) (Nat.le_of_ble_eq_true (by kernel_rfl))⟩ ?_;(conv=>whnf);refine bw cj hr rfl ?_;(conv=>whnf);refine ag (.inl (by kernel_rfl)) ?_;(conv=>whnf);refine bw dm hn rfl ?_;(conv=>whnf);refine ag ⟨by simp,by simpa using hb1⟩ ?_;(conv=>whnf);refine ag ⟨rfl,by decide,.inr rfl⟩ ?_;refine⟨_,aj hla,?_⟩;refine aq (i:=0) (x:=.bH nS c) (by unfold rK;rw[List.getElem?_map];exact(by rw[ha];rfl)) ?_;(conv=>whnf);refine bh [1000000000] 400 hev2 ?_;(conv=>whnf);refine ag (.inl (by kernel_rfl)) ?_;(conv=>whnf);refine⟨.inl rfl,⟨s6,s6,s6,s6,s6,s6,s6,⟨rfl,rfl,rfl,rfl,rfl,?_⟩,s6,s6,s6,s6,s6,s6,s6,s6,trivial⟩⟩;exact zy _ _ _ fl ⟨some kn,f2,.nil,f4,f5⟩ _
       rw[show decide ((eL .nil:Int)<E)=false from h1]at hF;dsimp only at hF;refine bw dm hn rfl ?_;(conv=>whnf);refine bw dm hn rfl ?_;(conv=>whnf);refine ag (.inl (by kernel_rfl)) ?_;(conv=>whnf);refine ai ?_ ?_<;>intro h2<;>conv=>whnf
       ·rw[show decide ((fT (some (q1,q2)):Int)<n7)=true from h2]at hF
        cases hF;refine bh [1000000000,1000000001] 300 hfl ?_;(conv=>whnf);refine⟨.inl rfl,by(repeat refine⟨s6,?_⟩);trivial⟩
       rw[show decide ((fT (some (q1,q2)):Int)<n7)=false from h2]at hF;dsimp only at hF;exact⟨(),⟨rfl,rfl,rfl,rfl⟩,hF⟩
      |blk kk m=>
       unfold hA iZ ey at *;dsimp only[nq]at *;(conv=>whnf);refine bh [1000000002] 300 heg ?_;(conv=>whnf);refine ai ?_ ?_<;>intro h1<;>conv=>whnf
       ·rw[show decide ((eL (.blk kk m):Int)<E)=true from h1]at hF
        dsimp only at hF;unfold gD at hF
        cases hp:uy S r ⟨some kn,f2,(.blk kk m),f4,f5⟩ with
        |none=>rw[hp]at hF;cases hF
        |some P=>
         rw[hp]at hF;obtain⟨S2,r2⟩:=P;dsimp only at hF
         cases ha:jn K.a ⟨n1,n2,n3,n4,(some (q1,q2)),n6,n7,n8,n9⟩ (eL (.blk kk m)) with
         |none=>rw[ha]at hF;cases hF
         |some c=>
          rw[ha]at hF;cases hF;have hev2:=jL (zr.1,bf k r2 zr.2) k c ⟨some kn,f2,(.blk kk m),f4,f5⟩ f2 r2 (cA hr);rw[cY]at hev2;have hen:∀M,sset k (cj r2) (cD cj M)=cD cj (bf k r2 M):=fun M=>bN cj k _ M;unfold uy at hp;unfold jn at ha;dsimp only[eL]at ha
          cases hb:Nat.blt m q2 with
          |false=>rw[hb]at ha;cases ha
          |true=>
           rw[hb]at ha;dsimp only at ha
           cases hla:aK q1 K.a.2 with
           |none=>rw[hla]at ha;cases ha
           |some al=>
            rw[hla]at ha;dsimp only at ha;have hb1:m<q2:=by rw[Nat.blt_eq]at hb;exact hb
            obtain⟨r1,r2',r3,r4,r5,r6,r7,⟨c1,c2,c3,c4,c5⟩,⟨wk,wn,wt,wa,wc⟩,⟨o1,o2,o3,o4,o5,o6,o7,o8⟩,⟨p1,p2,p3,p4,p5⟩,r12⟩:=r;dsimp only at hp
            cases r7 with
            |none=>
             cases hp;unfold gW yO J3 kJ ey at *;dsimp only[nq]at *;rw[<-hen]at hev2;refine bw cj hr rfl ?_;(conv=>whnf);refine ag ⟨Nat.succ_pos _,Nat.le_of_ble_eq_true (by kernel_rfl)⟩ ?_;(conv=>whnf);refine bw cj hr rfl ?_;(conv=>whnf);refine ag (.inl (by kernel_rfl)) ?_;(conv=>whnf);refine bw dm hn rfl ?_;(conv=>whnf);refine ag ⟨by simp,by simpa using hb1⟩ ?_;(conv=>whnf);refine ag ⟨rfl,by decide,.inr rfl⟩ ?_;refine⟨_,aj hla,?_⟩;refine aq (i:=m) (x:=.bH nS c) (by unfold rK;rw[List.getElem?_map];exact(by rw[ha];rfl)) ?_;(conv=>whnf);refine bh [1000000000] 400 hev2 ?_;(conv=>whnf);refine ag (.inl (by kernel_rfl)) ?_;(conv=>whnf);refine⟨.inl rfl,by(repeat refine⟨s6,?_⟩);trivial⟩
            |some q=>
             obtain⟨g1,g2⟩:=q;dsimp only at hp
             cases hlf:aK g1 S.f.2 with
             |none=>rw[hlf]at hp;cases hp
             |some fl=>
              rw[hlf]at hp;dsimp only at hp
              cases hg3:Nat.ble g2 fl.length&&Nat.ble g2 2000000 with
              |false=>rw[hg3]at hp;cases hp
              |true=>
               rw[hg3]at hp;cases hp;rw[Bool.and_eq_true]at hg3;have hg4:=Nat.le_of_ble_eq_true hg3.1;have hg5:=Nat.le_of_ble_eq_true hg3.2;unfold gW yO J3 kJ ey at *;dsimp only[nq]at *;rw[<-hen]at hev2;refine bw cj hr rfl ?_;(conv=>whnf);refine⟨rfl,_,aj hlf,?_⟩;refine ag ⟨by unfold wV;rw[List.length_map];exact hg4,Nat.le_trans (Nat.mul_le_mul_right _ (show g2+1<=2000001 by omega)) (Nat.le_of_ble_eq_true (by kernel_rfl))⟩ ?_;(conv=>whnf);refine bw cj hr rfl ?_;(conv=>whnf);refine ag (.inl (by kernel_rfl)) ?_;(conv=>whnf);refine bw dm hn rfl ?_;(conv=>whnf);refine ag ⟨by simp,by simpa using hb1⟩ ?_;(conv=>whnf);refine ag ⟨rfl,by decide,.inr rfl⟩ ?_;refine⟨_,aj hla,?_⟩;refine aq (i:=m) (x:=.bH nS c) (by unfold rK;rw[List.getElem?_map];exact(by rw[ha];rfl)) ?_;(conv=>whnf);refine bh [1000000000] 400 hev2 ?_;(conv=>whnf);refine ag (.inl (by kernel_rfl)) ?_;(conv=>whnf);refine⟨.inl rfl,⟨s6,s6,s6,s6,s6,s6,s6,⟨rfl,rfl,rfl,rfl,rfl,?_⟩,s6,s6,s6,s6,s6,s6,s6,s6,trivial⟩⟩;exact zy _ _ _ fl ⟨some kn,f2,(.blk kk m),f4,f5⟩ _
       rw[show decide ((eL (.blk kk m):Int)<E)=false from h1]at hF;dsimp only at hF;refine bw dm hn rfl ?_;(conv=>whnf);refine bw dm hn rfl ?_;(conv=>whnf);refine ag (.inl (by kernel_rfl)) ?_;(conv=>whnf);refine ai ?_ ?_<;>intro h2<;>conv=>whnf
       ·rw[show decide ((fT (some (q1,q2)):Int)<n7)=true from h2]at hF
        cases hF;refine bh [1000000000,1000000001] 300 hfl ?_;(conv=>whnf);refine⟨.inl rfl,by(repeat refine⟨s6,?_⟩);trivial⟩
       rw[show decide ((fT (some (q1,q2)):Int)<n7)=false from h2]at hF;dsimp only at hF;exact⟨(),⟨rfl,rfl,rfl,rfl⟩,hF⟩
    intro _ hF;refine jh.fin CY av (by kernel_rfl) ?_;unfold hA iZ ey at *;dsimp only at *;(conv=>whnf);refine bw dm hn rfl ?_;(conv=>whnf);refine ai ?_ ?_<;>intro h6<;>conv=>whnf
    ·have e6:n1=6:=by simpa using h6
     obtain⟨xs,hx,hF⟩:=c6 e6 hF
     cases n5 with
     |none=>
      unfold BW at hF;rw[show jn K.a ⟨n1,n2,n3,n4,none,n6,n7,n8,n9⟩ 1=none from rfl]at hF;cases hF
     |some q=>
      obtain⟨q1,q2⟩:=q
      cases f3 with
      |nw l=>cases hl
      |nil=>
       cases hx;unfold BW at hF;split at hF
       all_goals cases hF
      |blk kk m=>
       cases xs with
       |nil=>unfold BW at hF;split at hF;all_goals cases hF
       |cons v xs=>
        obtain⟨kk',L,h2,hlv⟩:=cE v xs hx;cases h2;unfold BW at hF
        cases ha:jn K.a ⟨n1,n2,n3,n4,some (q1,q2),n6,n7,n8,n9⟩ 1 with
        |none=>rw[ha]at hF;cases hF
        |some c=>
         rw[ha]at hF;cases hF;unfold jn at ha;dsimp only at ha
         cases hb:Nat.blt 1 q2 with
         |false=>rw[hb]at ha;cases ha
         |true=>
          rw[hb]at ha;dsimp only at ha
          cases hla:aK q1 K.a.2 with
          |none=>rw[hla]at ha;cases ha
          |some al=>
           rw[hla]at ha;dsimp only at ha;have hb1:1<q2:=by rw[Nat.blt_eq]at hb;exact hb
           have hev:=hev c (some S.s.1);obtain⟨vk,vn,vt,va,vc⟩:=v;unfold yO Ay pO at *;cases f2
           all_goals
            refine bw dm hn rfl ?_;(conv=>whnf);refine ag ⟨by simp,by simpa using hb1⟩ ?_;(conv=>whnf);refine ag ⟨rfl,by decide,.inr rfl⟩ ?_;refine⟨_,aj hla,?_⟩;refine aq (i:=1) (x:=.bH nS c) (by unfold rK;rw[List.getElem?_map];exact(by rw[ha];rfl)) ?_;(conv=>whnf);refine bw dm hn rfl ?_;(conv=>whnf);refine ag ⟨by simp,by simp⟩ ?_;(conv=>whnf);refine ag ⟨rfl,by decide,.inr rfl⟩ ?_;refine⟨_,aj hlv,?_⟩;refine aq (i:=0) (x:=.agg [.i .i64 vk,.i .i64 vn,.s vt,.sl 5 (bz va),eP cS vc]) (rfl) ?_;(conv=>whnf);refine bh [1000000000] 400 hev ?_;(conv=>whnf);refine ag (.inl (by kernel_rfl)) ?_;(conv=>whnf);refine⟨.inl rfl,by(repeat refine⟨s6,?_⟩);trivial⟩
    refine ai ?_ ?_<;>intro h7<;>conv=>whnf
    ·refine bh iA 300 (c7 (by simpa using h7) hF) ?_
     (conv=>whnf);refine⟨.inl rfl,by(repeat refine⟨s6,?_⟩);trivial⟩
    refine ai ?_ ?_<;>intro h13<;>conv=>whnf
    ·refine bh iA 300 (c13 (by simpa using h13) hF) ?_
     (conv=>whnf);refine⟨.inl rfl,by(repeat refine⟨s6,?_⟩);trivial⟩
    refine ai ?_ ?_<;>intro h8<;>conv=>whnf
    ·refine bh iA 300 (c8 (by simpa using h8) hF) ?_
     (conv=>whnf);refine⟨.inl rfl,by(repeat refine⟨s6,?_⟩);trivial⟩
    refine ai ?_ ?_<;>intro h9<;>conv=>whnf
    ·refine dy h9 ?_
     (conv=>whnf);refine bh iA 300 (c9 (by simpa using h9) hF) ?_;(conv=>whnf);refine⟨.inl rfl,by(repeat refine⟨s6,?_⟩);trivial⟩
    refine ai ?_ ?_<;>intro h11<;>conv=>whnf
    ·refine bh iA 300 (c11 (by simpa using h11) hF) ?_
     (conv=>whnf);refine⟨.inl rfl,by(repeat refine⟨s6,?_⟩);trivial⟩
    refine ai ?_ ?_<;>intro h17<;>conv=>whnf
    ·refine bh iA 300 (c17 (by simpa using h17) hF) ?_
     (conv=>whnf);refine⟨.inl rfl,by(repeat refine⟨s6,?_⟩);trivial⟩
    refine ai ?_ ?_<;>intro h15<;>conv=>whnf
    ·refine dy h15 ?_
     (conv=>whnf);refine bh iA 300 (cL (.inl (by simpa using h15)) hF) ?_;(conv=>whnf);refine⟨.inl rfl,by(repeat refine⟨s6,?_⟩);trivial⟩
    refine ai ?_ ?_<;>intro h14<;>conv=>whnf
    ·refine dy h14 ?_
     (conv=>whnf);refine bh iA 300 (cL (.inr (.inl (by simpa using h14))) hF) ?_;(conv=>whnf);refine⟨.inl rfl,by(repeat refine⟨s6,?_⟩);trivial⟩
    refine ai ?_ ?_<;>intro h20<;>conv=>whnf
    ·refine dy h20 ?_
     (conv=>whnf);refine bh iA 300 (cL (.inr (.inr (.inl (by simpa using h20)))) hF) ?_;(conv=>whnf);refine⟨.inl rfl,by(repeat refine⟨s6,?_⟩);trivial⟩
    refine ai ?_ ?_<;>intro h24<;>conv=>whnf
    ·refine dy h24 ?_
     (conv=>whnf);refine bh iA 300 (cL (.inr (.inr (.inr (.inl (by simpa using h24))))) hF) ?_;(conv=>whnf);refine⟨.inl rfl,by(repeat refine⟨s6,?_⟩);trivial⟩
    refine ai ?_ ?_<;>intro h25<;>conv=>whnf
    ·refine dy h25 ?_
     (conv=>whnf);refine bh iA 300 (cL (.inr (.inr (.inr (.inr (.inl (by simpa using h25)))))) hF) ?_;(conv=>whnf);refine⟨.inl rfl,by(repeat refine⟨s6,?_⟩);trivial⟩
    refine ai ?_ ?_<;>intro h19<;>conv=>whnf
    ·refine bh iA 300 (cL (.inr (.inr (.inr (.inr (.inr (by simpa using h19)))))) hF) ?_
     (conv=>whnf);refine⟨.inl rfl,by(repeat refine⟨s6,?_⟩);trivial⟩
    obtain⟨xs,hx,hF⟩:=cSi h6 h7 h13 h8 h9 h11 h17 h15 h14 h20 h24 h25 h19 hF;unfold qQ at hF
    cases hs:mK K (dY S f3) r ⟨some kn,f2,f3,f4,f5⟩ xs with
    |none=>rw[hs]at hF;cases hF
    |some Q=>
     rw[hs]at hF;have cB:=cB xs Q hx hs;obtain⟨⟨⟨u1,u2,u3,u4,u5⟩,w⟩,S2⟩:=Q;rw[eV]at cB;dsimp only at cB hF;refine bh iA 300 cB ?_;(conv=>whnf)
     cases hw:kB w ⟨#[]⟩ with
     |false=>
      rw[hw]at hF;cases hF;refine dy (show(!(kB w ⟨#[]⟩))=true by rw[hw];rfl) ?_;(conv=>whnf);refine bh [1000000000,1000000001] 300 (hfl2 S2 w) ?_;(conv=>whnf);refine⟨.inl rfl,by(repeat refine⟨s6,?_⟩);trivial⟩
     |true=>
      rw[hw]at hF;cases hF;refine bD (show(!(kB w ⟨#[]⟩))=false by rw[hw];rfl) ?_;(conv=>whnf);have hgv:=hgv (.mk u1 u2 u3 u4 u5);rw[eV]at hgv;refine bh [1000000000] 300 hgv ?_;(conv=>whnf);refine⟨.inl rfl,by(repeat refine⟨s6,?_⟩);trivial⟩
end MN
