/- Contracts, and the law, for every input. No conditions. -/
import Derived.Test.YtdmopjgjhfhfdaaGreatDoorMR1
set_option linter.all false
set_option maxRecDepth 100000
open Go Go.AM Go.Proofs TK
namespace MN
noncomputable def QO:Nat->Option TI:=ic (iX Tryz.prog) 136 [1,1,0,1,1]
theorem js:bB Tryz.prog QO:=(aG Tryz.prog).ic _ _
theorem FN (K:Ks) (S:Ss) (zr:aZ Rn) (k:Nat) (r:Rn) (f:Fr) (xs:List Vl) (R:Ss×Rn) (hr:aK k zr.2=some r) (hf:f.vals=.nw xs) (kn:Nat) (n:Nd) (hfn:f.n=some kn) (hn:aK kn K.n.2=some n) (hk:(n.kind==9)=false) (hF:vT K S r f xs=some R):
 au Tryz.prog 248 [.p (.bH rS k),.p (.agg (ey f))] (hA K S zr) (.cI []) (hA K R.1 (zr.1,bf k R.2 zr.2)):=by
 have hfl:=fun w=>cQ zr S.o k w r hr;obtain⟨f1,f2,f3,f4,f5⟩:=f;dsimp only at hf hfn;subst hf hfn;obtain⟨n1,n2,n3,n4,n5,n6,n7,n8,n9⟩:=n;dsimp only at hk;unfold vT at hF
 cases xs with
 |nil=>cases hF
 |cons v xs=>
  obtain⟨vk,vn,vt,va,vc⟩:=v;dsimp only[Vl.kind,Vl.num,Vl.text,Vl.args]at hF;have hes:bz (.mk vk vn vt va vc::xs)=.agg [.i .i64 vk,.i .i64 vn,.s vt,.sl 5 (bz va),eP cS vc]::bz xs:=by rw[bz,eV]
  unfold hA iZ ey at *;dsimp only[nq]at *
  cases h7:vk==7 with
  |false=>
   rw[h7]at hF;cases hF;refine au.intro js av Tryz.func248 rfl (by rfl) (by kernel_rfl) (by show 2<=_;decide) rfl ?_;(conv=>whnf);refine bw dm hn rfl ?_;(conv=>whnf);refine bD hk ?_;(conv=>whnf);refine aq (i:=0) (x:=.agg [.i .i64 vk,.i .i64 vn,.s vt,.sl 5 (bz va),eP cS vc]) (by rw[hes];rfl) ?_;(conv=>whnf);refine dy (show(!(vk==7))=true by rw[h7];rfl) ?_;(conv=>whnf);refine bh [1000000000,1000000001] 300 (hfl cK) ?_;(conv=>whnf);refine⟨.inl rfl,by(repeat refine⟨s6,?_⟩);trivial⟩
  |true=>
   rw[h7]at hF;dsimp only at hF
   cases hm:aK r.maker K.mm.2 with
   |none=>rw[hm]at hF;cases hF
   |some m=>
    rw[hm]at hF;dsimp only at hF
    cases h0:(vn.toNat:Int)==vn with
    |false=>rw[h0]at hF;cases hF
    |true=>
     rw[h0]at hF;have h0:(vn.toNat:Int)=vn:=by simpa using h0
     dsimp only at hF;obtain⟨m1,m2,m3,m4,m5,m6⟩:=m;unfold AA at hF
     cases m1 with
     |none=>cases hF
     |some q=>
      obtain⟨q1,q2⟩:=q;dsimp only at hF
      cases hlt:Nat.blt vn.toNat q2 with
      |false=>rw[hlt]at hF;cases hF
      |true=>
       rw[hlt]at hF;rw[Nat.blt_eq]at hlt;dsimp only at hF
       cases ha:aK q1 K.a.2 with
       |none=>rw[ha]at hF;cases hF
       |some al=>
        rw[ha]at hF;dsimp only at hF
        cases hc:al[vn.toNat]? with
        |none=>rw[hc]at hF;cases hF
        |some c=>
         rw[hc]at hF;dsimp only at hF
         cases hnc:aK c K.n.2 with
         |none=>rw[hnc]at hF;cases hF
         |some nd=>
          rw[hnc]at hF;dsimp only at hF
          cases hb:jn K.a nd 0 with
          |none=>rw[hb]at hF;cases hF
          |some b=>
           rw[hb]at hF;dsimp only at hF
           cases hfb:Nat.ble nd.free.length 2000000 with
           |false=>rw[hfb]at hF;cases hF
           |true=>
            rw[hfb]at hF;dsimp only at hF
            cases hcp:AE vt va nd.free 0 0 (S.s,none) with
            |none=>rw[hcp]at hF;cases hF
            |some Q=>
             rw[hcp]at hF;have hcs:=AI K S.s c nd (.mk vk vn vt va vc) hnc (Nat.le_of_ble_eq_true hfb) Q hcp;obtain⟨d1,d2,d3,d4,d5,d6,d7,d8,d9⟩:=nd;rw[eV]at hcs;unfold jn at hb
             cases d5 with
             |none=>cases hb
             |some p=>
              obtain⟨p1,p2⟩:=p;dsimp only at hb hF
              cases hbt:Nat.blt 0 p2 with
              |false=>rw[hbt]at hb;cases hb
              |true=>
               rw[hbt]at hb;rw[Nat.blt_eq]at hbt;dsimp only at hb
               cases hpa:aK p1 K.a.2 with
               |none=>rw[hpa]at hb;cases hb
               |some bl=>
                rw[hpa]at hb;dsimp only at hb;have hxl:(bz xs).length=xs.length:=by rw[aR];simp
                obtain⟨Q1,Q2⟩:=Q;unfold E4 at hF;dsimp only at hF hcs;unfold iZ at hcs
                cases hll:Nat.ble d4.length 2000000 with
                |false=>rw[hll]at hF;cases hF
                |true=>
                 rw[hll]at hF;have hll:=Nat.le_of_ble_eq_true hll;dsimp only at hF;have hds:List.drop (Int.toNat 1) (List.take ((bz (.mk vk vn vt va vc::xs)).length:Int).toNat (bz (.mk vk vn vt va vc::xs)))=bz xs:=by rw[Int.toNat_natCast,List.take_length,hes];rfl
                 cases hg:Nat.beq xs.length d4.length with
                 |false=>
                  rw[hg]at hF;cases hF;refine au.intro js av Tryz.func248 rfl (by rfl) (by kernel_rfl) (by show 2<=_;decide) rfl ?_;(conv=>whnf);refine bw dm hn rfl ?_;(conv=>whnf);refine bD hk ?_;(conv=>whnf);refine aq (i:=0) (x:=.agg [.i .i64 vk,.i .i64 vn,.s vt,.sl 5 (bz va),eP cS vc]) (by rw[hes];rfl) ?_;(conv=>whnf);refine bD (show(!(vk==7))=false by rw[h7];rfl) ?_;(conv=>whnf);refine bw cj hr rfl ?_;(conv=>whnf);refine bw jr hm rfl ?_;(conv=>whnf);refine aq (i:=0) (x:=.agg [.i .i64 vk,.i .i64 vn,.s vt,.sl 5 (bz va),eP cS vc]) (by rw[hes];rfl) ?_;(conv=>whnf);refine ag ⟨by omega,hlt⟩ ?_;(conv=>whnf);refine ag ⟨rfl,by decide,.inr rfl⟩ ?_;refine⟨_,aj ha,?_⟩;refine aq (i:=vn.toNat) (x:=.bH nS c) (by unfold rK;rw[List.getElem?_map,hc];rfl) ?_;(conv=>whnf);refine ag (.inl (by kernel_rfl)) ?_;(conv=>whnf);refine ag ⟨rfl,by decide,.inl rfl⟩ ?_;refine⟨_,aj hnc,?_⟩;refine aq (i:=0) rfl ?_;(conv=>whnf);refine ag ⟨rfl,by decide,.inl rfl⟩ ?_;refine⟨_,aj hnc,?_⟩;refine aq (i:=0) rfl ?_;(conv=>whnf);refine ag ⟨by omega,hbt⟩ ?_;(conv=>whnf);refine ag ⟨rfl,by decide,.inr rfl⟩ ?_;refine⟨_,aj hpa,?_⟩;refine aq (i:=0) (x:=.bH nS b) (by unfold rK;rw[List.getElem?_map,hb];rfl) ?_;(conv=>whnf);refine aq (i:=0) (x:=.agg [.i .i64 vk,.i .i64 vn,.s vt,.sl 5 (bz va),eP cS vc]) (by rw[hes];rfl) ?_;(conv=>whnf);refine bh [1000000002,1000000005] 300 hcs ?_;(conv=>whnf);refine ag (.inr ⟨[(3,15),(7,15)],by kernel_rfl,⟨?_,?_,trivial⟩⟩) ?_
                  ·conv=>whnf
                   refine⟨by kernel_rfl,?_⟩;refine ag ⟨rfl,by decide,.inl rfl⟩ ?_;refine⟨_,aj hnc,?_⟩;refine aq (i:=0) rfl ?_;(conv=>whnf);rfl
                  ·conv=>whnf
                   refine⟨by kernel_rfl,?_⟩;refine ag ⟨rfl,by decide,.inl rfl⟩ ?_;refine⟨_,aj hnc,?_⟩;refine aq (i:=0) rfl ?_;(conv=>whnf);rfl
                  (conv=>whnf);refine ag ⟨by decide,by rw[hes];simp;omega,by simp⟩ ?_;rw[hds];(conv=>whnf)
                  refine dy (by
                   have:xs.length≠d4.length:=fun e=>by rw[e,Nat.beq_refl]at hg;cases hg
                   simp[hxl];omega) ?_
                  (conv=>whnf);refine bh [1000000000,1000000001] 300 (hfl cK) ?_;(conv=>whnf);refine⟨.inl rfl,by(repeat refine⟨s6,?_⟩);trivial⟩
                 |true=>
                  rw[hg]at hF;dsimp only at hF;have hg:=Nat.eq_of_beq_eq_true hg
                  cases hd:decide (f4>=60) with
                  |true=>
                   rw[hd]at hF;cases hF;refine au.intro js av Tryz.func248 rfl (by rfl) (by kernel_rfl) (by show 2<=_;decide) rfl ?_;(conv=>whnf);refine bw dm hn rfl ?_;(conv=>whnf);refine bD hk ?_;(conv=>whnf);refine aq (i:=0) (x:=.agg [.i .i64 vk,.i .i64 vn,.s vt,.sl 5 (bz va),eP cS vc]) (by rw[hes];rfl) ?_;(conv=>whnf);refine bD (show(!(vk==7))=false by rw[h7];rfl) ?_;(conv=>whnf);refine bw cj hr rfl ?_;(conv=>whnf);refine bw jr hm rfl ?_;(conv=>whnf);refine aq (i:=0) (x:=.agg [.i .i64 vk,.i .i64 vn,.s vt,.sl 5 (bz va),eP cS vc]) (by rw[hes];rfl) ?_;(conv=>whnf);refine ag ⟨by omega,hlt⟩ ?_;(conv=>whnf);refine ag ⟨rfl,by decide,.inr rfl⟩ ?_;refine⟨_,aj ha,?_⟩;refine aq (i:=vn.toNat) (x:=.bH nS c) (by unfold rK;rw[List.getElem?_map,hc];rfl) ?_;(conv=>whnf);refine ag (.inl (by kernel_rfl)) ?_;(conv=>whnf);refine ag ⟨rfl,by decide,.inl rfl⟩ ?_;refine⟨_,aj hnc,?_⟩;refine aq (i:=0) rfl ?_;(conv=>whnf);refine ag ⟨rfl,by decide,.inl rfl⟩ ?_;refine⟨_,aj hnc,?_⟩;refine aq (i:=0) rfl ?_;(conv=>whnf);refine ag ⟨by omega,hbt⟩ ?_;(conv=>whnf);refine ag ⟨rfl,by decide,.inr rfl⟩ ?_;refine⟨_,aj hpa,?_⟩;refine aq (i:=0) (x:=.bH nS b) (by unfold rK;rw[List.getElem?_map,hb];rfl) ?_;(conv=>whnf);refine aq (i:=0) (x:=.agg [.i .i64 vk,.i .i64 vn,.s vt,.sl 5 (bz va),eP cS vc]) (by rw[hes];rfl) ?_;(conv=>whnf);refine bh [1000000002,1000000005] 300 hcs ?_;(conv=>whnf);refine ag (.inr ⟨[(3,15),(7,15)],by kernel_rfl,⟨?_,?_,trivial⟩⟩) ?_
                   ·conv=>whnf
                    refine⟨by kernel_rfl,?_⟩;refine ag ⟨rfl,by decide,.inl rfl⟩ ?_;refine⟨_,aj hnc,?_⟩;refine aq (i:=0) rfl ?_;(conv=>whnf);rfl
                   ·conv=>whnf
                    refine⟨by kernel_rfl,?_⟩;refine ag ⟨rfl,by decide,.inl rfl⟩ ?_;refine⟨_,aj hnc,?_⟩;refine aq (i:=0) rfl ?_;(conv=>whnf);rfl
                   (conv=>whnf);refine ag ⟨by decide,by rw[hes];simp;omega,by simp⟩ ?_;rw[hds];(conv=>whnf);refine bD (by simp[hxl];omega) ?_;(conv=>whnf);refine dy hd ?_;(conv=>whnf);refine bh [1000000000,1000000001] 300 (hfl Ix) ?_;(conv=>whnf);refine⟨.inl rfl,by(repeat refine⟨s6,?_⟩);trivial⟩
                  |false=>
                   rw[hd]at hF;dsimp only at hF
                   cases hw:kU d4 xs (Q1,Q2) with
                   |none=>rw[hw]at hF;cases hF
                   |some Q=>
                    rw[hw]at hF;cases hF;have hwi:=vw sS d4 xs (Q1,Q2) Q (by omega) hw;obtain⟨r1,r2,r3,r4,r5,r6,r7,⟨c1,c2,c3,c4,c5⟩,⟨wk,wn,wt,wa,wc⟩,⟨o1,o2,o3,o4,o5,o6,o7,o8⟩,⟨e1,e2,e3,e4,e5⟩,r12⟩:=r;obtain⟨T1,T2⟩:=Q;unfold gW at *;dsimp only at hwi
                    cases Q2 with
                    |none=>
                     cases T2 with
                     |none=>
                      refine au.intro js av Tryz.func248 rfl (by rfl) (by kernel_rfl) (by show 2<=_;decide) rfl ?_;(conv=>whnf);refine bw dm hn rfl ?_;(conv=>whnf);refine bD hk ?_;(conv=>whnf);refine aq (i:=0) (x:=.agg [.i .i64 vk,.i .i64 vn,.s vt,.sl 5 (bz va),eP cS vc]) (by rw[hes];rfl) ?_;(conv=>whnf);refine bD (show(!(vk==7))=false by rw[h7];rfl) ?_;(conv=>whnf);refine bw cj hr rfl ?_;(conv=>whnf);refine bw jr hm rfl ?_;(conv=>whnf);refine aq (i:=0) (x:=.agg [.i .i64 vk,.i .i64 vn,.s vt,.sl 5 (bz va),eP cS vc]) (by rw[hes];rfl) ?_;(conv=>whnf);refine ag ⟨by omega,hlt⟩ ?_;(conv=>whnf);refine ag ⟨rfl,by decide,.inr rfl⟩ ?_;refine⟨_,aj ha,?_⟩;refine aq (i:=vn.toNat) (x:=.bH nS c) (by unfold rK;rw[List.getElem?_map,hc];rfl) ?_;(conv=>whnf);refine ag (.inl (by kernel_rfl)) ?_;(conv=>whnf);refine ag ⟨rfl,by decide,.inl rfl⟩ ?_;refine⟨_,aj hnc,?_⟩;refine aq (i:=0) rfl ?_;(conv=>whnf);refine ag ⟨rfl,by decide,.inl rfl⟩ ?_;refine⟨_,aj hnc,?_⟩;refine aq (i:=0) rfl ?_;(conv=>whnf);refine ag ⟨by omega,hbt⟩ ?_;(conv=>whnf);refine ag ⟨rfl,by decide,.inr rfl⟩ ?_;refine⟨_,aj hpa,?_⟩;refine aq (i:=0) (x:=.bH nS b) (by unfold rK;rw[List.getElem?_map,hb];rfl) ?_;(conv=>whnf);refine aq (i:=0) (x:=.agg [.i .i64 vk,.i .i64 vn,.s vt,.sl 5 (bz va),eP cS vc]) (by rw[hes];rfl) ?_;(conv=>whnf);refine bh [1000000002,1000000005] 300 hcs ?_;(conv=>whnf);refine ag (.inr ⟨[(3,15),(7,15)],by kernel_rfl,⟨?_,?_,trivial⟩⟩) ?_
                      ·conv=>whnf
                       refine⟨by kernel_rfl,?_⟩;refine ag ⟨rfl,by decide,.inl rfl⟩ ?_;refine⟨_,aj hnc,?_⟩;refine aq (i:=0) rfl ?_;(conv=>whnf);rfl
                      ·conv=>whnf
                       refine⟨by kernel_rfl,?_⟩;refine ag ⟨rfl,by decide,.inl rfl⟩ ?_;refine⟨_,aj hnc,?_⟩;refine aq (i:=0) rfl ?_;(conv=>whnf);rfl
                      (conv=>whnf);refine ag ⟨by decide,by rw[hes];simp;omega,by simp⟩ ?_;rw[hds];(conv=>whnf);refine bD (by simp[hxl];omega) ?_;(conv=>whnf);refine bD hd ?_;(conv=>whnf);refine bh [1000000005] 400 hwi ?_;(conv=>whnf);refine bw cj hr rfl ?_;(conv=>whnf);refine ag (.inl (by kernel_rfl)) ?_;(conv=>whnf);refine⟨.inl rfl,⟨⟨rfl,rfl,rfl,rfl,rfl,?_⟩,s6,s6,s6,s6,s6,s6,s6,s6,s6,s6,s6,s6,s6,s6,s6,trivial⟩⟩;exact bN cj k ⟨r1,r2,r3,r4,r5,r6,r7,⟨some b,none,.nil,IntKind.i64.wrap (f4+1),true⟩,.mk wk wn wt wa wc,⟨o1,o2,o3,o4,o5,o6,o7,o8⟩,⟨e1,e2,e3,e4,e5⟩,r12⟩ zr.2
                     |some s=>
                      refine au.intro js av Tryz.func248 rfl (by rfl) (by kernel_rfl) (by show 2<=_;decide) rfl ?_;(conv=>whnf);refine bw dm hn rfl ?_;(conv=>whnf);refine bD hk ?_;(conv=>whnf);refine aq (i:=0) (x:=.agg [.i .i64 vk,.i .i64 vn,.s vt,.sl 5 (bz va),eP cS vc]) (by rw[hes];rfl) ?_;(conv=>whnf);refine bD (show(!(vk==7))=false by rw[h7];rfl) ?_;(conv=>whnf);refine bw cj hr rfl ?_;(conv=>whnf);refine bw jr hm rfl ?_;(conv=>whnf);refine aq (i:=0) (x:=.agg [.i .i64 vk,.i .i64 vn,.s vt,.sl 5 (bz va),eP cS vc]) (by rw[hes];rfl) ?_;(conv=>whnf);refine ag ⟨by omega,hlt⟩ ?_;(conv=>whnf);refine ag ⟨rfl,by decide,.inr rfl⟩ ?_;refine⟨_,aj ha,?_⟩;refine aq (i:=vn.toNat) (x:=.bH nS c) (by unfold rK;rw[List.getElem?_map,hc];rfl) ?_;(conv=>whnf);refine ag (.inl (by kernel_rfl)) ?_;(conv=>whnf);refine ag ⟨rfl,by decide,.inl rfl⟩ ?_;refine⟨_,aj hnc,?_⟩;refine aq (i:=0) rfl ?_;(conv=>whnf);refine ag ⟨rfl,by decide,.inl rfl⟩ ?_;refine⟨_,aj hnc,?_⟩;refine aq (i:=0) rfl ?_;(conv=>whnf);refine ag ⟨by omega,hbt⟩ ?_;(conv=>whnf);refine ag ⟨rfl,by decide,.inr rfl⟩ ?_;refine⟨_,aj hpa,?_⟩;refine aq (i:=0) (x:=.bH nS b) (by unfold rK;rw[List.getElem?_map,hb];rfl) ?_;(conv=>whnf);refine aq (i:=0) (x:=.agg [.i .i64 vk,.i .i64 vn,.s vt,.sl 5 (bz va),eP cS vc]) (by rw[hes];rfl) ?_;(conv=>whnf);refine bh [1000000002,1000000005] 300 hcs ?_;(conv=>whnf);refine ag (.inr ⟨[(3,15),(7,15)],by kernel_rfl,⟨?_,?_,trivial⟩⟩) ?_
                      ·conv=>whnf
                       refine⟨by kernel_rfl,?_⟩;refine ag ⟨rfl,by decide,.inl rfl⟩ ?_;refine⟨_,aj hnc,?_⟩;refine aq (i:=0) rfl ?_;(conv=>whnf);rfl
                      ·conv=>whnf
                       refine⟨by kernel_rfl,?_⟩;refine ag ⟨rfl,by decide,.inl rfl⟩ ?_;refine⟨_,aj hnc,?_⟩;refine aq (i:=0) rfl ?_;(conv=>whnf);rfl
                      (conv=>whnf);refine ag ⟨by decide,by rw[hes];simp;omega,by simp⟩ ?_;rw[hds];(conv=>whnf);refine bD (by simp[hxl];omega) ?_;(conv=>whnf);refine bD hd ?_;(conv=>whnf);refine bh [1000000005] 400 hwi ?_;(conv=>whnf);refine bw cj hr rfl ?_;(conv=>whnf);refine ag (.inl (by kernel_rfl)) ?_;(conv=>whnf);refine⟨.inl rfl,⟨⟨rfl,rfl,rfl,rfl,rfl,?_⟩,s6,s6,s6,s6,s6,s6,s6,s6,s6,s6,s6,s6,s6,s6,s6,trivial⟩⟩;exact bN cj k ⟨r1,r2,r3,r4,r5,r6,r7,⟨some b,(some s),.nil,IntKind.i64.wrap (f4+1),true⟩,.mk wk wn wt wa wc,⟨o1,o2,o3,o4,o5,o6,o7,o8⟩,⟨e1,e2,e3,e4,e5⟩,r12⟩ zr.2
                    |some s0=>
                     cases T2 with
                     |none=>
                      refine au.intro js av Tryz.func248 rfl (by rfl) (by kernel_rfl) (by show 2<=_;decide) rfl ?_;(conv=>whnf);refine bw dm hn rfl ?_;(conv=>whnf);refine bD hk ?_;(conv=>whnf);refine aq (i:=0) (x:=.agg [.i .i64 vk,.i .i64 vn,.s vt,.sl 5 (bz va),eP cS vc]) (by rw[hes];rfl) ?_;(conv=>whnf);refine bD (show(!(vk==7))=false by rw[h7];rfl) ?_;(conv=>whnf);refine bw cj hr rfl ?_;(conv=>whnf);refine bw jr hm rfl ?_;(conv=>whnf);refine aq (i:=0) (x:=.agg [.i .i64 vk,.i .i64 vn,.s vt,.sl 5 (bz va),eP cS vc]) (by rw[hes];rfl) ?_;(conv=>whnf);refine ag ⟨by omega,hlt⟩ ?_;(conv=>whnf);refine ag ⟨rfl,by decide,.inr rfl⟩ ?_;refine⟨_,aj ha,?_⟩;refine aq (i:=vn.toNat) (x:=.bH nS c) (by unfold rK;rw[List.getElem?_map,hc];rfl) ?_;(conv=>whnf);refine ag (.inl (by kernel_rfl)) ?_;(conv=>whnf);refine ag ⟨rfl,by decide,.inl rfl⟩ ?_;refine⟨_,aj hnc,?_⟩;refine aq (i:=0) rfl ?_;(conv=>whnf);refine ag ⟨rfl,by decide,.inl rfl⟩ ?_;refine⟨_,aj hnc,?_⟩;refine aq (i:=0) rfl ?_;(conv=>whnf);refine ag ⟨by omega,hbt⟩ ?_;(conv=>whnf);refine ag ⟨rfl,by decide,.inr rfl⟩ ?_;refine⟨_,aj hpa,?_⟩;refine aq (i:=0) (x:=.bH nS b) (by unfold rK;rw[List.getElem?_map,hb];rfl) ?_;(conv=>whnf);refine aq (i:=0) (x:=.agg [.i .i64 vk,.i .i64 vn,.s vt,.sl 5 (bz va),eP cS vc]) (by rw[hes];rfl) ?_;(conv=>whnf);refine bh [1000000002,1000000005] 300 hcs ?_;(conv=>whnf);refine ag (.inr ⟨[(3,15),(7,15)],by kernel_rfl,⟨?_,?_,trivial⟩⟩) ?_
                      ·conv=>whnf
                       refine⟨by kernel_rfl,?_⟩;refine ag ⟨rfl,by decide,.inl rfl⟩ ?_;refine⟨_,aj hnc,?_⟩;refine aq (i:=0) rfl ?_;(conv=>whnf);rfl
                      ·conv=>whnf
                       refine⟨by kernel_rfl,?_⟩;refine ag ⟨rfl,by decide,.inl rfl⟩ ?_;refine⟨_,aj hnc,?_⟩;refine aq (i:=0) rfl ?_;(conv=>whnf);rfl
                      (conv=>whnf);refine ag ⟨by decide,by rw[hes];simp;omega,by simp⟩ ?_;rw[hds];(conv=>whnf);refine bD (by simp[hxl];omega) ?_;(conv=>whnf);refine bD hd ?_;(conv=>whnf);refine bh [1000000005] 400 hwi ?_;(conv=>whnf);refine bw cj hr rfl ?_;(conv=>whnf);refine ag (.inl (by kernel_rfl)) ?_;(conv=>whnf);refine⟨.inl rfl,⟨⟨rfl,rfl,rfl,rfl,rfl,?_⟩,s6,s6,s6,s6,s6,s6,s6,s6,s6,s6,s6,s6,s6,s6,s6,trivial⟩⟩;exact bN cj k ⟨r1,r2,r3,r4,r5,r6,r7,⟨some b,none,.nil,IntKind.i64.wrap (f4+1),true⟩,.mk wk wn wt wa wc,⟨o1,o2,o3,o4,o5,o6,o7,o8⟩,⟨e1,e2,e3,e4,e5⟩,r12⟩ zr.2
                     |some s=>
                      refine au.intro js av Tryz.func248 rfl (by rfl) (by kernel_rfl) (by show 2<=_;decide) rfl ?_;(conv=>whnf);refine bw dm hn rfl ?_;(conv=>whnf);refine bD hk ?_;(conv=>whnf);refine aq (i:=0) (x:=.agg [.i .i64 vk,.i .i64 vn,.s vt,.sl 5 (bz va),eP cS vc]) (by rw[hes];rfl) ?_;(conv=>whnf);refine bD (show(!(vk==7))=false by rw[h7];rfl) ?_;(conv=>whnf);refine bw cj hr rfl ?_;(conv=>whnf);refine bw jr hm rfl ?_;(conv=>whnf);refine aq (i:=0) (x:=.agg [.i .i64 vk,.i .i64 vn,.s vt,.sl 5 (bz va),eP cS vc]) (by rw[hes];rfl) ?_;(conv=>whnf);refine ag ⟨by omega,hlt⟩ ?_;(conv=>whnf);refine ag ⟨rfl,by decide,.inr rfl⟩ ?_;refine⟨_,aj ha,?_⟩;refine aq (i:=vn.toNat) (x:=.bH nS c) (by unfold rK;rw[List.getElem?_map,hc];rfl) ?_;(conv=>whnf);refine ag (.inl (by kernel_rfl)) ?_;(conv=>whnf);refine ag ⟨rfl,by decide,.inl rfl⟩ ?_;refine⟨_,aj hnc,?_⟩;refine aq (i:=0) rfl ?_;(conv=>whnf);refine ag ⟨rfl,by decide,.inl rfl⟩ ?_;refine⟨_,aj hnc,?_⟩;refine aq (i:=0) rfl ?_;(conv=>whnf);refine ag ⟨by omega,hbt⟩ ?_;(conv=>whnf);refine ag ⟨rfl,by decide,.inr rfl⟩ ?_;refine⟨_,aj hpa,?_⟩;refine aq (i:=0) (x:=.bH nS b) (by unfold rK;rw[List.getElem?_map,hb];rfl) ?_;(conv=>whnf);refine aq (i:=0) (x:=.agg [.i .i64 vk,.i .i64 vn,.s vt,.sl 5 (bz va),eP cS vc]) (by rw[hes];rfl) ?_;(conv=>whnf);refine bh [1000000002,1000000005] 300 hcs ?_;(conv=>whnf);refine ag (.inr ⟨[(3,15),(7,15)],by kernel_rfl,⟨?_,?_,trivial⟩⟩) ?_
                      ·conv=>whnf
                       refine⟨by kernel_rfl,?_⟩;refine ag ⟨rfl,by decide,.inl rfl⟩ ?_;refine⟨_,aj hnc,?_⟩;refine aq (i:=0) rfl ?_;(conv=>whnf);rfl
                      ·conv=>whnf
                       refine⟨by kernel_rfl,?_⟩;refine ag ⟨rfl,by decide,.inl rfl⟩ ?_;refine⟨_,aj hnc,?_⟩;refine aq (i:=0) rfl ?_;(conv=>whnf);rfl
                      (conv=>whnf);refine ag ⟨by decide,by rw[hes];simp;omega,by simp⟩ ?_;rw[hds];(conv=>whnf);refine bD (by simp[hxl];omega) ?_;(conv=>whnf);refine bD hd ?_;(conv=>whnf);refine bh [1000000005] 400 hwi ?_;(conv=>whnf);refine bw cj hr rfl ?_;(conv=>whnf);refine ag (.inl (by kernel_rfl)) ?_;(conv=>whnf);refine⟨.inl rfl,⟨⟨rfl,rfl,rfl,rfl,rfl,?_⟩,s6,s6,s6,s6,s6,s6,s6,s6,s6,s6,s6,s6,s6,s6,s6,trivial⟩⟩;exact bN cj k ⟨r1,r2,r3,r4,r5,r6,r7,⟨some b,(some s),.nil,IntKind.i64.wrap (f4+1),true⟩,.mk wk wn wt wa wc,⟨o1,o2,o3,o4,o5,o6,o7,o8⟩,⟨e1,e2,e3,e4,e5⟩,r12⟩ zr.2
theorem F7 (K:Ks) (zr:aZ Rn) (k:Nat) (r:Rn) (m:Mk) (name:ByteArray) (xs:List Vl) (R:Option Fn) (hr:aK k zr.2=some r) (hm:aK r.maker K.mm.2=some m) (hF:pI K m name xs=some R):
 au Tryz.prog 256 [.p (.bH rS k),.p (.s name),.p (.sl 5 (bz xs))] (Fc K zr) (Ki R) (Fc K zr):=by
 unfold pI at hF
 cases he:aK m.funcs K.mf.2 with
 |none=>rw[he]at hF;cases hF
 |some es=>
  rw[he]at hF;dsimp only at hF
  cases hf:aV name es with
  |some fn=>
   rw[hf]at hF;cases hF;exact J9 K zr k r m name xs fn es hr hm he hf
  |none=>
   rw[hf]at hF;dsimp only at hF
   cases ht:aK m.traits K.mt.2 with
   |none=>rw[ht]at hF;cases hF
   |some ts=>
    rw[ht]at hF;dsimp only at hF
    cases hft:aV name ts with
    |none=>
     rw[hft]at hF;cases hF;exact FT K zr k r m name xs es ts hr hm he hf ht hft
    |some trait=>
     rw[hft]at hF
     cases xs with
     |nil=>
      cases hF;exact FH K zr k r m name trait es ts hr hm he hf ht hft
     |cons v xs=>exact IT K zr k r m name trait v xs es ts R hr hm he hf ht hft hF
theorem I1 (K:Ks) (S:Ss) (zr:aZ Rn) (k:Nat) (r:Rn) (f:Fr) (xs:List Vl) (R:Ss×Rn) (hr:aK k zr.2=some r) (hf:f.vals=.nw xs) (hF:uE K S r f xs=some R):
 au Tryz.prog 248 [.p (.bH rS k),.p (.agg (ey f))] (hA K S zr) (.cI []) (hA K R.1 (zr.1,bf k R.2 zr.2)):=by
 have hfl:=fun w=>cQ zr S.o k w r hr;obtain⟨f1,f2,f3,f4,f5⟩:=f;dsimp only at hf;subst hf;unfold uE cW at hF;dsimp only at hF
 cases f1 with
 |none=>cases hF
 |some kn=>
  dsimp only at hF
  cases hn:aK kn K.n.2 with
  |none=>rw[hn]at hF;cases hF
  |some n=>
   rw[hn]at hF;obtain⟨n1,n2,n3,n4,n5,n6,n7,n8,n9⟩:=n;dsimp only at hF
   cases hk:n1==9 with
   |false=>rw[hk]at hF;exact FN K S zr k r _ xs R hr rfl kn _ rfl hn hk hF
   |true=>
    rw[hk]at hF;have hk:n1=9:=by simpa using hk
    subst hk;dsimp only at hF
    cases hm:aK r.maker K.mm.2 with
    |none=>rw[hm]at hF;cases hF
    |some m=>
     rw[hm]at hF;dsimp only at hF
     cases hfi:pI K m n3 xs with
     |none=>rw[hfi]at hF;cases hF
     |some Q=>
      rw[hfi]at hF;have hfd:=F7 K zr k r m n3 xs Q hr hm hfi
      cases Q with
      |none=>
       cases hF;unfold hA Fc iZ ey Ki at *;dsimp only[nq]at *;refine au.iN av Tryz.func248 rfl (by rfl) (by kernel_rfl) rfl rfl ?_;(conv=>whnf);refine bw dm hn rfl ?_;(conv=>whnf);refine bw dm hn rfl ?_;(conv=>whnf);refine bh [1000000000,1000000009,1000000010,1000000011,1000000012,1000000013] 400 hfd ?_;(conv=>whnf);refine bh [1000000000,1000000001] 300 (hfl Bj) ?_;(conv=>whnf);refine⟨.inl rfl,by(repeat refine⟨s6,?_⟩);trivial⟩
      |some fn=>
       obtain⟨fnn,fb⟩:=fn;dsimp only at hF;have hxl:(bz xs).length=xs.length:=by rw[aR];simp
       unfold Ki eFn at hfd;dsimp only[Option.isSome]at hfd;unfold hA Fc iZ ey at *;dsimp only[nq]at *
       cases hll:Nat.ble fnn.length 2000000 with
       |false=>rw[hll]at hF;cases hF
       |true=>
        rw[hll]at hF;dsimp only at hF;have hll:=Nat.le_of_ble_eq_true hll
        cases hg:Nat.beq xs.length fnn.length with
        |false=>
         rw[hg]at hF;cases hF;refine au.intro js av Tryz.func248 rfl (by rfl) (by kernel_rfl) (by show 2<=_;decide) rfl ?_;(conv=>whnf);refine bw dm hn rfl ?_;(conv=>whnf);refine bw dm hn rfl ?_;(conv=>whnf);refine bh [1000000000,1000000009,1000000010,1000000011,1000000012,1000000013] 400 hfd ?_;(conv=>whnf)
         refine dy (by
          have:xs.length≠fnn.length:=fun e=>by rw[e,Nat.beq_refl]at hg;cases hg
          simp[hxl];omega) ?_
         (conv=>whnf);refine bh [1000000000,1000000001] 300 (hfl cK) ?_;(conv=>whnf);refine⟨.inl rfl,by(repeat refine⟨s6,?_⟩);trivial⟩
        |true=>
         rw[hg]at hF;dsimp only at hF;have hg:=Nat.eq_of_beq_eq_true hg
         cases hd:decide (f4>=60) with
         |true=>
          rw[hd]at hF;cases hF;refine au.intro js av Tryz.func248 rfl (by rfl) (by kernel_rfl) (by show 2<=_;decide) rfl ?_;(conv=>whnf);refine bw dm hn rfl ?_;(conv=>whnf);refine bw dm hn rfl ?_;(conv=>whnf);refine bh [1000000000,1000000009,1000000010,1000000011,1000000012,1000000013] 400 hfd ?_;(conv=>whnf);refine bD (by simp[hxl];omega) ?_;(conv=>whnf);refine dy hd ?_;(conv=>whnf);refine bh [1000000000,1000000001] 300 (hfl Ix) ?_;(conv=>whnf);refine⟨.inl rfl,by(repeat refine⟨s6,?_⟩);trivial⟩
         |false=>
          rw[hd]at hF;dsimp only at hF
          cases hw:kU fnn xs (S.s,none) with
          |none=>rw[hw]at hF;cases hF
          |some Q=>
           rw[hw]at hF;cases hF;have hwi:=vw sS fnn xs (S.s,none) Q (by omega) hw;obtain⟨r1,r2,r3,r4,r5,r6,r7,⟨c1,c2,c3,c4,c5⟩,⟨wk,wn,wt,wa,wc⟩,⟨o1,o2,o3,o4,o5,o6,o7,o8⟩,⟨p1,p2,p3,p4,p5⟩,r12⟩:=r;obtain⟨Q1,Q2⟩:=Q;unfold gW at *;dsimp only at hwi
           cases Q2 with
           |none=>
            refine au.intro js av Tryz.func248 rfl (by rfl) (by kernel_rfl) (by show 2<=_;decide) rfl ?_;(conv=>whnf);refine bw dm hn rfl ?_;(conv=>whnf);refine bw dm hn rfl ?_;(conv=>whnf);refine bh [1000000000,1000000009,1000000010,1000000011,1000000012,1000000013] 400 hfd ?_;(conv=>whnf);refine bD (by simp[hxl];omega) ?_;(conv=>whnf);refine bD hd ?_;(conv=>whnf);refine bh [1000000005] 400 hwi ?_;(conv=>whnf);refine bw cj hr rfl ?_;(conv=>whnf);refine ag (.inl (by kernel_rfl)) ?_;(conv=>whnf);refine⟨.inl rfl,⟨⟨rfl,rfl,rfl,rfl,rfl,?_⟩,s6,s6,s6,s6,s6,s6,s6,s6,s6,s6,s6,s6,s6,s6,s6,trivial⟩⟩;exact bN cj k ⟨r1,r2,r3,r4,r5,r6,r7,⟨some fb,none,.nil,IntKind.i64.wrap (f4+1),true⟩,.mk wk wn wt wa wc,⟨o1,o2,o3,o4,o5,o6,o7,o8⟩,⟨p1,p2,p3,p4,p5⟩,r12⟩ zr.2
           |some s=>
            refine au.intro js av Tryz.func248 rfl (by rfl) (by kernel_rfl) (by show 2<=_;decide) rfl ?_;(conv=>whnf);refine bw dm hn rfl ?_;(conv=>whnf);refine bw dm hn rfl ?_;(conv=>whnf);refine bh [1000000000,1000000009,1000000010,1000000011,1000000012,1000000013] 400 hfd ?_;(conv=>whnf);refine bD (by simp[hxl];omega) ?_;(conv=>whnf);refine bD hd ?_;(conv=>whnf);refine bh [1000000005] 400 hwi ?_;(conv=>whnf);refine bw cj hr rfl ?_;(conv=>whnf);refine ag (.inl (by kernel_rfl)) ?_;(conv=>whnf);refine⟨.inl rfl,⟨⟨rfl,rfl,rfl,rfl,rfl,?_⟩,s6,s6,s6,s6,s6,s6,s6,s6,s6,s6,s6,s6,s6,s6,s6,trivial⟩⟩;exact bN cj k ⟨r1,r2,r3,r4,r5,r6,r7,⟨some fb,(some s),.nil,IntKind.i64.wrap (f4+1),true⟩,.mk wk wn wt wa wc,⟨o1,o2,o3,o4,o5,o6,o7,o8⟩,⟨p1,p2,p3,p4,p5⟩,r12⟩ zr.2
noncomputable def QZ:Nat->Option TI:=hint (iX Tryz.prog) 212 [1000110]
theorem Nk:bB Tryz.prog QZ:=(aG Tryz.prog).hint _ _
theorem DX (K:Ks) (S:Ss) (zr:aZ Rn) (k:Nat) (r:Rn) (f:Fr) (xs:List Vl) (R:(Vl×ByteArray)×Ss) (hr:aK k zr.2=some r) (hf:f.vals=.nw xs) (hF:mK K S r f xs=some R):
 au Tryz.prog 251 [.p (.bH rS k),.p (.agg (ey f))] (hA K S zr) (.cI [.p (eV R.1.1),.p (.s R.1.2)]) (hA K R.2 zr):=by
 obtain⟨f1,f2,f3,f4,f5⟩:=f;dsimp only at hf;subst hf;unfold mK cW at hF;dsimp only at hF
 cases f1 with
 |none=>cases hF
 |some kn=>
  dsimp only at hF
  cases hn:aK kn K.n.2 with
  |none=>rw[hn]at hF;cases hF
  |some n=>
   rw[hn]at hF;obtain⟨n1,n2,n3,n4,n5,n6,n7,n8,n9⟩:=n;dsimp only at hF;have hxl:(bz xs).length=xs.length:=by rw[aR];simp
   unfold hA gW iZ ey at *;dsimp only[nq]at *;refine au.intro Nk av Tryz.func251 rfl (by rfl) (by kernel_rfl) (by show 2<=_;decide) rfl ?_;(conv=>whnf);refine bw dm hn rfl ?_;(conv=>whnf);refine ai ?_ ?_<;>intro h1<;>conv=>whnf
   ·rw[show(n1==1)=true from h1]at hF
    cases hF;refine kK vo ?_;(conv=>whnf);refine⟨.inl rfl,by(repeat refine⟨s6,?_⟩);trivial⟩
   rw[show(n1==1)=false from h1]at hF;dsimp only at hF;refine ai ?_ ?_<;>intro h2<;>conv=>whnf
   ·rw[show(n1==2)=true from h2]at hF
    cases hF;refine bw dm hn rfl ?_;(conv=>whnf);refine kK (nP _) ?_;(conv=>whnf);refine⟨.inl rfl,by(repeat refine⟨s6,?_⟩);trivial⟩
   rw[show(n1==2)=false from h2]at hF;dsimp only at hF;refine ai ?_ ?_<;>intro h3<;>conv=>whnf
   ·rw[show(n1==3)=true from h3]at hF
    cases hF;refine bw dm hn rfl ?_;(conv=>whnf);refine kK (qT _) ?_;(conv=>whnf);refine⟨.inl rfl,by(repeat refine⟨s6,?_⟩);trivial⟩
   rw[show(n1==3)=false from h3]at hF;dsimp only at hF;refine ai ?_ ?_<;>intro h4<;>conv=>whnf
   ·rw[show(n1==4)=true from h4]at hF
    cases hF;refine bw dm hn rfl ?_;(conv=>whnf);refine⟨.inl rfl,by(repeat refine⟨s6,?_⟩);trivial⟩
   rw[show(n1==4)=false from h4]at hF;dsimp only at hF;refine ai ?_ ?_<;>intro h16<;>conv=>whnf
   ·rw[show(n1==16)=true from h16]at hF
    cases hF;refine bw cj hr rfl ?_;(conv=>whnf);refine kK (LS _) ?_;(conv=>whnf);refine⟨.inl rfl,by(repeat refine⟨s6,?_⟩);trivial⟩
   rw[show(n1==16)=false from h16]at hF;dsimp only at hF;refine ai ?_ ?_<;>intro h5<;>conv=>whnf
   ·rw[show(n1==5)=true from h5]at hF
    dsimp only at hF
    cases hfd:findF S.s.2 n3 (S.s.1+1) f2 with
    |none=>rw[hfd]at hF;cases hF
    |some Q=>
     rw[hfd]at hF;have hfs:=find_spec sS S.s n3 f2 _ Q hfd
     cases Q with
     |none=>
      cases hF;unfold Qz at hfs;rw[show eV (Option.getD none zV)=eV zV from rfl]at hfs;unfold zV at hfs;rw[eV]at hfs;cases f2
      all_goals
       refine bw dm hn rfl ?_;(conv=>whnf);refine bh [1000000005] 400 hfs ?_;(conv=>whnf);refine ag (.inl (by kernel_rfl)) ?_;(conv=>whnf);refine⟨.inl rfl,by(repeat refine⟨s6,?_⟩);trivial⟩
     |some v=>
      cases hF;obtain⟨vk,vn,vt,va,vc⟩:=v;unfold Qz at hfs;rw[show eV (Option.getD (some (.mk vk vn vt va vc)) zV)=eV (.mk vk vn vt va vc) from rfl,eV]at hfs;cases f2
      all_goals
       refine bw dm hn rfl ?_;(conv=>whnf);refine bh [1000000005] 400 hfs ?_;(conv=>whnf);refine ag (.inl (by kernel_rfl)) ?_;(conv=>whnf);refine⟨.inl rfl,by(repeat refine⟨s6,?_⟩);trivial⟩
   rw[show(n1==5)=false from h5]at hF;dsimp only at hF;refine ai ?_ ?_<;>intro h12<;>conv=>whnf
   ·rw[show(n1==12)=true from h12]at hF
    dsimp only at hF
    cases hm:aK r.maker K.mm.2 with
    |none=>rw[hm]at hF;cases hF
    |some m=>
     rw[hm]at hF;dsimp only at hF
     cases hmc:aK m.makes K.mc.2 with
     |none=>rw[hmc]at hF;cases hF
     |some cs=>
      rw[hmc]at hF;dsimp only at hF;have hlc:=fun d=>bQ Ab n3 d cs;unfold tq NP at *;refine bw cj hr rfl ?_;(conv=>whnf);refine bw jr hm rfl ?_;(conv=>whnf);refine bw dm hn rfl ?_;(conv=>whnf);refine ag ⟨rfl,rfl⟩ ?_;refine⟨jR Ab cs,aj (enc:=bX Ab) hmc,?_⟩
      cases hc:aV n3 cs with
      |none=>
       rw[hc]at hF hlc;cases hF;refine⟨_,_,hlc _,?_⟩;(conv=>whnf);refine ag (.inl (by kernel_rfl)) ?_;(conv=>whnf);refine⟨.inl rfl,by(repeat refine⟨s6,?_⟩);trivial⟩
      |some c=>
       rw[hc]at hF hlc;obtain⟨cd,ca⟩:=c;dsimp only at hF;refine⟨_,_,hlc _,?_⟩;(conv=>whnf);refine ag (.inl (by kernel_rfl)) ?_;(conv=>whnf)
       cases hq:ca==(xs.length:Int) with
       |false=>
        rw[hq]at hF;cases hF;refine dy (show(!(ca==((bz xs).length:Int)))=true by rw[hxl,hq];rfl) ?_;(conv=>whnf);refine⟨.inl rfl,by(repeat refine⟨s6,?_⟩);trivial⟩
       |true=>
        rw[hq]at hF;dsimp only at hF
        cases hft:CZ S.c.2 (.mk 5 0 n3 xs none) with
        |none=>rw[hft]at hF;cases hF
        |some Q=>
         rw[hft]at hF;cases hF;have hfi:=Ei S.c (.mk 5 0 n3 xs none) Q hft;rw[eV]at hfi;obtain⟨⟨u1,u2,u3,u4,u5⟩,w⟩:=Q;rw[eV]at hfi;refine bD (show(!(ca==((bz xs).length:Int)))=false by rw[hxl,hq];rfl) ?_;(conv=>whnf);refine bw dm hn rfl ?_;(conv=>whnf);refine bh [1000000008] 400 hfi ?_;(conv=>whnf);refine ag (.inl (by kernel_rfl)) ?_;(conv=>whnf);refine⟨.inl rfl,by(repeat refine⟨s6,?_⟩);trivial⟩
   rw[show(n1==12)=false from h12]at hF;dsimp only at hF;refine ai ?_ ?_<;>intro h21<;>conv=>whnf
   ·rw[show(n1==21)=true from h21]at hF
    cases xs with
    |nil=>cases hF
    |cons v xs=>
     dsimp only at hF
     cases hft:CZ ((S.c.1,⟨false,v⟩)::S.c.2) (.mk 8 0 ⟨#[]⟩ [] (some S.c.1)) with
     |none=>rw[hft]at hF;cases hF
     |some Q=>
      rw[hft]at hF;cases hF;have hfi:=Ei (S.c.1+1,(S.c.1,⟨false,v⟩)::S.c.2) (.mk 8 0 ⟨#[]⟩ [] (some S.c.1)) Q hft;rw[eV]at hfi;obtain⟨⟨u1,u2,u3,u4,u5⟩,w⟩:=Q;rw[eV]at hfi;obtain⟨vk,vn,vt,va,vc⟩:=v;unfold kQ at *;refine aq (i:=0) (x:=.agg [.i .i64 vk,.i .i64 vn,.s vt,.sl 5 (bz va),eP cS vc]) rfl ?_;(conv=>whnf);refine bh [1000000008] 400 hfi ?_;(conv=>whnf);refine⟨.inl rfl,by(repeat refine⟨s6,?_⟩);trivial⟩
   rw[show(n1==21)=false from h21]at hF;dsimp only at hF;refine ai ?_ ?_<;>intro h22<;>conv=>whnf
   ·rw[show(n1==22)=true from h22]at hF
    cases xs with
    |nil=>cases hF
    |cons v xs=>
     dsimp only at hF
     cases hft:Gp S.c.2 v with
     |none=>rw[hft]at hF;cases hF
     |some Q=>
      rw[hft]at hF;cases hF;have hfi:=Kx S.c v Q hft;obtain⟨⟨u1,u2,u3,u4,u5⟩,w⟩:=Q;obtain⟨vk,vn,vt,va,vc⟩:=v;rw[eV,eV]at hfi;refine aq (i:=0) (x:=.agg [.i .i64 vk,.i .i64 vn,.s vt,.sl 5 (bz va),eP cS vc]) rfl ?_;(conv=>whnf);refine bh [1000000008] 400 hfi ?_;(conv=>whnf);refine⟨.inl rfl,by(repeat refine⟨s6,?_⟩);trivial⟩
   rw[show(n1==22)=false from h22]at hF;dsimp only at hF;refine ai ?_ ?_<;>intro h23<;>conv=>whnf
   ·rw[show(n1==23)=true from h23]at hF
    rcases xs with _|⟨v,_|⟨x,xs⟩⟩
    ·cases hF
    ·cases hF
    ·dsimp only at hF
     cases hft:FF S.c v x with
     |none=>rw[hft]at hF;cases hF
     |some Q=>
      rw[hft]at hF;cases hF;have hfi:=J6 S.c v x Q hft;obtain⟨vk,vn,vt,va,vc⟩:=v;obtain⟨xk,xn,xt,xa,xc⟩:=x;rw[eV,eV]at hfi;refine kK vo ?_;(conv=>whnf);refine aq (i:=0) (x:=.agg [.i .i64 vk,.i .i64 vn,.s vt,.sl 5 (bz va),eP cS vc]) rfl ?_;(conv=>whnf);refine aq (i:=1) (x:=.agg [.i .i64 xk,.i .i64 xn,.s xt,.sl 5 (bz xa),eP cS xc]) rfl ?_;(conv=>whnf);refine bh [1000000008] 400 hfi ?_;(conv=>whnf);refine ag (.inl (by kernel_rfl)) ?_;(conv=>whnf);refine⟨.inl rfl,by(repeat refine⟨s6,?_⟩);trivial⟩
   rw[show(n1==23)=false from h23]at hF;cases hF;refine⟨.inl rfl,by(repeat refine⟨s6,?_⟩);trivial⟩
end MN
