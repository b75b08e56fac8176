/- Contracts, and the law, for every input. No conditions. -/
import Derived.Test.YtdmopjgjhfhfdaaGreatDoorMR1
import Derived.Test.YtdmopjgjhfhfdaaGreatDoorMNG
set_option linter.all false
section
open Go Go.AM Go.Proofs TK
set_option maxRecDepth 100000
namespace MN
noncomputable def O1:Nat→Option TI:=gK (jJ Tryz.prog) 136 [1,1,0,1,1]
theorem iJ:bw Tryz.prog O1:=(ah Tryz.prog).gK _ _
theorem EW (K:Ks) (S:Ss) (zr:bf Rn) (k:Nat) (r:Rn) (f:Fr) (xs:List Vl) (R:Ss×Rn) (hr:aJ k zr.2=some r) (hf:f.vals=.mZ xs) (kn:Nat) (n:Nd) (hfn:f.n=some kn) (hn:aJ kn K.n.2=some n) (hk:(n.kind==9)=false) (hF:ug K S r f xs=some R):
 av Tryz.prog 248 [.p (.bG rS k),.p (.agg (dU f))] (hA K S zr) (.cz []) (hA K R.1 (zr.1,aV k R.2 zr.2)):=by
 have hfl:=fun w=>cI zr S.o k w r hr;obtain⟨f1,f2,f3,f4,f5⟩:=f;dsimp only at hf hfn;subst hf hfn;obtain⟨n1,n2,n3,n4,n5,n6,n7,n8,n9⟩:=n;dsimp only at hk;unfold ug at hF
 cases xs with
 |nil=>cases hF
 |cons v xs=>
  obtain⟨vk,vn,vt,va,vc⟩:=v;dsimp only[Vl.kind,Vl.num,Vl.text,Vl.args]at hF;have hes:br (.mk vk vn vt va vc::xs)=.agg [.i .i64 vk,.i .i64 vn,.s vt,.sl 5 (br va),eP cS vc]::br xs:=by rw[br,eV]
  unfold hA iE dU at *;dsimp only[mG]at *
  cases h7:vk==7 with
  |false=>
   rw[h7]at hF;cases hF;refine av.intro iJ az Tryz.func248 rfl (by rfl) (by kernel_rfl) (by show 2≤_;decide) rfl ?_;(conv=>whnf);refine bB cY hn rfl ?_;(conv=>whnf);refine bC hk ?_;(conv=>whnf);refine au (i:=0) (x:=.agg [.i .i64 vk,.i .i64 vn,.s vt,.sl 5 (br va),eP cS vc]) (by rw[hes];rfl) ?_;(conv=>whnf);refine dm (show(!(vk==7))=true by rw[h7];rfl) ?_;(conv=>whnf);refine bg [1000000000,1000000001] 300 (hfl cD) ?_;(conv=>whnf);refine⟨.inl rfl,⟨s6,s6,s6,s6,s6,s6,s6,s6,s6,s6,s6,s6,s6,s6,s6,s6,trivial⟩⟩
  |true=>
   rw[h7]at hF;dsimp only at hF
   cases hm:aJ r.maker K.mm.2 with
   |none=>rw[hm]at hF;cases hF
   |some m=>
    rw[hm]at hF;dsimp only at hF
    cases h0:(vn.toNat:Int)==vn with
    |false=>rw[h0]at hF;cases hF
    |true=>
     rw[h0]at hF;have h0:(vn.toNat:Int)=vn:=by simpa using h0
     dsimp only at hF;obtain⟨m1,m2,m3,m4,m5,m6⟩:=m;unfold zx at hF
     cases m1 with
     |none=>cases hF
     |some q=>
      obtain⟨q1,q2⟩:=q;dsimp only at hF
      cases hlt:Nat.blt vn.toNat q2 with
      |false=>rw[hlt]at hF;cases hF
      |true=>
       rw[hlt]at hF;rw[Nat.blt_eq]at hlt;dsimp only at hF
       cases ha:aJ q1 K.a.2 with
       |none=>rw[ha]at hF;cases hF
       |some al=>
        rw[ha]at hF;dsimp only at hF
        cases hc:al[vn.toNat]? with
        |none=>rw[hc]at hF;cases hF
        |some c=>
         rw[hc]at hF;dsimp only at hF
         cases hnc:aJ c K.n.2 with
         |none=>rw[hnc]at hF;cases hF
         |some nd=>
          rw[hnc]at hF;dsimp only at hF
          cases hb:ju K.a nd 0 with
          |none=>rw[hb]at hF;cases hF
          |some b=>
           rw[hb]at hF;dsimp only at hF
           cases hfb:Nat.ble nd.free.length 2000000 with
           |false=>rw[hfb]at hF;cases hF
           |true=>
            rw[hfb]at hF;dsimp only at hF
            cases hcp:zw vt va nd.free 0 0 (S.s,none) with
            |none=>rw[hcp]at hF;cases hF
            |some Q=>
             rw[hcp]at hF;have hcs:=zL K S.s c nd (.mk vk vn vt va vc) hnc (Nat.le_of_ble_eq_true hfb) Q hcp;obtain⟨d1,d2,d3,d4,d5,d6,d7,d8,d9⟩:=nd;rw[eV]at hcs;unfold ju at hb
             cases d5 with
             |none=>cases hb
             |some p=>
              obtain⟨p1,p2⟩:=p;dsimp only at hb hF
              cases hbt:Nat.blt 0 p2 with
              |false=>rw[hbt]at hb;cases hb
              |true=>
               rw[hbt]at hb;rw[Nat.blt_eq]at hbt;dsimp only at hb
               cases hpa:aJ p1 K.a.2 with
               |none=>rw[hpa]at hb;cases hb
               |some bl=>
                rw[hpa]at hb;dsimp only at hb;have hxl:(br xs).length=xs.length:=by rw[aQ];simp
                obtain⟨Q1,Q2⟩:=Q;unfold CB at hF;dsimp only at hF hcs;unfold iE at hcs
                cases hll:Nat.ble d4.length 2000000 with
                |false=>rw[hll]at hF;cases hF
                |true=>
                 rw[hll]at hF;have hll:=Nat.le_of_ble_eq_true hll;dsimp only at hF;have hds:List.drop (Int.toNat 1) (List.take ((br (.mk vk vn vt va vc::xs)).length:Int).toNat (br (.mk vk vn vt va vc::xs)))=br xs:=by rw[Int.toNat_natCast,List.take_length,hes];rfl
                 cases hg:Nat.beq xs.length d4.length with
                 |false=>
                  rw[hg]at hF;cases hF;refine av.intro iJ az Tryz.func248 rfl (by rfl) (by kernel_rfl) (by show 2≤_;decide) rfl ?_;(conv=>whnf);refine bB cY hn rfl ?_;(conv=>whnf);refine bC hk ?_;(conv=>whnf);refine au (i:=0) (x:=.agg [.i .i64 vk,.i .i64 vn,.s vt,.sl 5 (br va),eP cS vc]) (by rw[hes];rfl) ?_;(conv=>whnf);refine bC (show(!(vk==7))=false by rw[h7];rfl) ?_;(conv=>whnf);refine bB cO hr rfl ?_;(conv=>whnf);refine bB iU hm rfl ?_;(conv=>whnf);refine au (i:=0) (x:=.agg [.i .i64 vk,.i .i64 vn,.s vt,.sl 5 (br va),eP cS vc]) (by rw[hes];rfl) ?_;(conv=>whnf);refine ag ⟨by omega,hlt⟩ ?_;(conv=>whnf);refine ag ⟨rfl,by decide,.inr rfl⟩ ?_;refine⟨_,aq ha,?_⟩;refine au (i:=vn.toNat) (x:=.bG nS c) (by unfold qF;rw[List.getElem?_map,hc];rfl) ?_;(conv=>whnf);refine ag (.inl (by kernel_rfl)) ?_;(conv=>whnf);refine ag ⟨rfl,by decide,.inl rfl⟩ ?_;refine⟨_,aq hnc,?_⟩;refine au (i:=0) rfl ?_;(conv=>whnf);refine ag ⟨rfl,by decide,.inl rfl⟩ ?_;refine⟨_,aq hnc,?_⟩;refine au (i:=0) rfl ?_;(conv=>whnf);refine ag ⟨by omega,hbt⟩ ?_;(conv=>whnf);refine ag ⟨rfl,by decide,.inr rfl⟩ ?_;refine⟨_,aq hpa,?_⟩;refine au (i:=0) (x:=.bG nS b) (by unfold qF;rw[List.getElem?_map,hb];rfl) ?_;(conv=>whnf);refine au (i:=0) (x:=.agg [.i .i64 vk,.i .i64 vn,.s vt,.sl 5 (br va),eP cS vc]) (by rw[hes];rfl) ?_;(conv=>whnf);refine bg [1000000002,1000000005] 300 hcs ?_;(conv=>whnf);refine ag (.inr ⟨[(3,15),(7,15)],by kernel_rfl,⟨?_,?_,trivial⟩⟩) ?_
                  ·conv=>whnf
                   refine⟨by kernel_rfl,?_⟩;refine ag ⟨rfl,by decide,.inl rfl⟩ ?_;refine⟨_,aq hnc,?_⟩;refine au (i:=0) rfl ?_;(conv=>whnf);rfl
                  ·conv=>whnf
                   refine⟨by kernel_rfl,?_⟩;refine ag ⟨rfl,by decide,.inl rfl⟩ ?_;refine⟨_,aq hnc,?_⟩;refine au (i:=0) rfl ?_;(conv=>whnf);rfl
                  (conv=>whnf);refine ag ⟨by decide,by rw[hes];simp;omega,by simp⟩ ?_;rw[hds];(conv=>whnf)
                  refine dm (by
                   have:xs.length≠d4.length:=fun e=>by rw[e,Nat.beq_refl]at hg;cases hg
                   simp[hxl];omega) ?_
                  (conv=>whnf);refine bg [1000000000,1000000001] 300 (hfl cD) ?_;(conv=>whnf);refine⟨.inl rfl,⟨s6,s6,s6,s6,s6,s6,s6,s6,s6,s6,s6,s6,s6,s6,s6,s6,trivial⟩⟩
                 |true=>
                  rw[hg]at hF;dsimp only at hF;have hg:=Nat.eq_of_beq_eq_true hg
                  cases hd:decide (f4≥60) with
                  |true=>
                   rw[hd]at hF;cases hF;refine av.intro iJ az Tryz.func248 rfl (by rfl) (by kernel_rfl) (by show 2≤_;decide) rfl ?_;(conv=>whnf);refine bB cY hn rfl ?_;(conv=>whnf);refine bC hk ?_;(conv=>whnf);refine au (i:=0) (x:=.agg [.i .i64 vk,.i .i64 vn,.s vt,.sl 5 (br va),eP cS vc]) (by rw[hes];rfl) ?_;(conv=>whnf);refine bC (show(!(vk==7))=false by rw[h7];rfl) ?_;(conv=>whnf);refine bB cO hr rfl ?_;(conv=>whnf);refine bB iU hm rfl ?_;(conv=>whnf);refine au (i:=0) (x:=.agg [.i .i64 vk,.i .i64 vn,.s vt,.sl 5 (br va),eP cS vc]) (by rw[hes];rfl) ?_;(conv=>whnf);refine ag ⟨by omega,hlt⟩ ?_;(conv=>whnf);refine ag ⟨rfl,by decide,.inr rfl⟩ ?_;refine⟨_,aq ha,?_⟩;refine au (i:=vn.toNat) (x:=.bG nS c) (by unfold qF;rw[List.getElem?_map,hc];rfl) ?_;(conv=>whnf);refine ag (.inl (by kernel_rfl)) ?_;(conv=>whnf);refine ag ⟨rfl,by decide,.inl rfl⟩ ?_;refine⟨_,aq hnc,?_⟩;refine au (i:=0) rfl ?_;(conv=>whnf);refine ag ⟨rfl,by decide,.inl rfl⟩ ?_;refine⟨_,aq hnc,?_⟩;refine au (i:=0) rfl ?_;(conv=>whnf);refine ag ⟨by omega,hbt⟩ ?_;(conv=>whnf);refine ag ⟨rfl,by decide,.inr rfl⟩ ?_;refine⟨_,aq hpa,?_⟩;refine au (i:=0) (x:=.bG nS b) (by unfold qF;rw[List.getElem?_map,hb];rfl) ?_;(conv=>whnf);refine au (i:=0) (x:=.agg [.i .i64 vk,.i .i64 vn,.s vt,.sl 5 (br va),eP cS vc]) (by rw[hes];rfl) ?_;(conv=>whnf);refine bg [1000000002,1000000005] 300 hcs ?_;(conv=>whnf);refine ag (.inr ⟨[(3,15),(7,15)],by kernel_rfl,⟨?_,?_,trivial⟩⟩) ?_
                   ·conv=>whnf
                    refine⟨by kernel_rfl,?_⟩;refine ag ⟨rfl,by decide,.inl rfl⟩ ?_;refine⟨_,aq hnc,?_⟩;refine au (i:=0) rfl ?_;(conv=>whnf);rfl
                   ·conv=>whnf
                    refine⟨by kernel_rfl,?_⟩;refine ag ⟨rfl,by decide,.inl rfl⟩ ?_;refine⟨_,aq hnc,?_⟩;refine au (i:=0) rfl ?_;(conv=>whnf);rfl
                   (conv=>whnf);refine ag ⟨by decide,by rw[hes];simp;omega,by simp⟩ ?_;rw[hds];(conv=>whnf);refine bC (by simp[hxl];omega) ?_;(conv=>whnf);refine dm hd ?_;(conv=>whnf);refine bg [1000000000,1000000001] 300 (hfl F7) ?_;(conv=>whnf);refine⟨.inl rfl,⟨s6,s6,s6,s6,s6,s6,s6,s6,s6,s6,s6,s6,s6,s6,s6,s6,trivial⟩⟩
                  |false=>
                   rw[hd]at hF;dsimp only at hF
                   cases hw:lY d4 xs (Q1,Q2) with
                   |none=>rw[hw]at hF;cases hF
                   |some Q=>
                    rw[hw]at hF;cases hF;have hwi:=uf sS d4 xs (Q1,Q2) Q (by omega) hw;obtain⟨r1,r2,r3,r4,r5,r6,r7,⟨c1,c2,c3,c4,c5⟩,⟨wk,wn,wt,wa,wc⟩,⟨o1,o2,o3,o4,o5,o6,o7,o8⟩,⟨e1,e2,e3,e4,e5⟩,r12⟩:=r;obtain⟨T1,T2⟩:=Q;unfold iz at *;dsimp only at hwi
                    cases Q2 with
                    |none=>
                     cases T2 with
                     |none=>
                      refine av.intro iJ az Tryz.func248 rfl (by rfl) (by kernel_rfl) (by show 2≤_;decide) rfl ?_;(conv=>whnf);refine bB cY hn rfl ?_;(conv=>whnf);refine bC hk ?_;(conv=>whnf);refine au (i:=0) (x:=.agg [.i .i64 vk,.i .i64 vn,.s vt,.sl 5 (br va),eP cS vc]) (by rw[hes];rfl) ?_;(conv=>whnf);refine bC (show(!(vk==7))=false by rw[h7];rfl) ?_;(conv=>whnf);refine bB cO hr rfl ?_;(conv=>whnf);refine bB iU hm rfl ?_;(conv=>whnf);refine au (i:=0) (x:=.agg [.i .i64 vk,.i .i64 vn,.s vt,.sl 5 (br va),eP cS vc]) (by rw[hes];rfl) ?_;(conv=>whnf);refine ag ⟨by omega,hlt⟩ ?_;(conv=>whnf);refine ag ⟨rfl,by decide,.inr rfl⟩ ?_;refine⟨_,aq ha,?_⟩;refine au (i:=vn.toNat) (x:=.bG nS c) (by unfold qF;rw[List.getElem?_map,hc];rfl) ?_;(conv=>whnf);refine ag (.inl (by kernel_rfl)) ?_;(conv=>whnf);refine ag ⟨rfl,by decide,.inl rfl⟩ ?_;refine⟨_,aq hnc,?_⟩;refine au (i:=0) rfl ?_;(conv=>whnf);refine ag ⟨rfl,by decide,.inl rfl⟩ ?_;refine⟨_,aq hnc,?_⟩;refine au (i:=0) rfl ?_;(conv=>whnf);refine ag ⟨by omega,hbt⟩ ?_;(conv=>whnf);refine ag ⟨rfl,by decide,.inr rfl⟩ ?_;refine⟨_,aq hpa,?_⟩;refine au (i:=0) (x:=.bG nS b) (by unfold qF;rw[List.getElem?_map,hb];rfl) ?_;(conv=>whnf);refine au (i:=0) (x:=.agg [.i .i64 vk,.i .i64 vn,.s vt,.sl 5 (br va),eP cS vc]) (by rw[hes];rfl) ?_;(conv=>whnf);refine bg [1000000002,1000000005] 300 hcs ?_;(conv=>whnf);refine ag (.inr ⟨[(3,15),(7,15)],by kernel_rfl,⟨?_,?_,trivial⟩⟩) ?_
                      ·conv=>whnf
                       refine⟨by kernel_rfl,?_⟩;refine ag ⟨rfl,by decide,.inl rfl⟩ ?_;refine⟨_,aq hnc,?_⟩;refine au (i:=0) rfl ?_;(conv=>whnf);rfl
                      ·conv=>whnf
                       refine⟨by kernel_rfl,?_⟩;refine ag ⟨rfl,by decide,.inl rfl⟩ ?_;refine⟨_,aq hnc,?_⟩;refine au (i:=0) rfl ?_;(conv=>whnf);rfl
                      (conv=>whnf);refine ag ⟨by decide,by rw[hes];simp;omega,by simp⟩ ?_;rw[hds];(conv=>whnf);refine bC (by simp[hxl];omega) ?_;(conv=>whnf);refine bC hd ?_;(conv=>whnf);refine bg [1000000005] 400 hwi ?_;(conv=>whnf);refine bB cO hr rfl ?_;(conv=>whnf);refine ag (.inl (by kernel_rfl)) ?_;(conv=>whnf);refine⟨.inl rfl,⟨⟨rfl,rfl,rfl,rfl,rfl,?_⟩,s6,s6,s6,s6,s6,s6,s6,s6,s6,s6,s6,s6,s6,s6,s6,trivial⟩⟩;exact bL cO k ⟨r1,r2,r3,r4,r5,r6,r7,⟨some b,none,.nil,IntKind.i64.wrap (f4+1),true⟩,.mk wk wn wt wa wc,⟨o1,o2,o3,o4,o5,o6,o7,o8⟩,⟨e1,e2,e3,e4,e5⟩,r12⟩ zr.2
                     |some s=>
                      refine av.intro iJ az Tryz.func248 rfl (by rfl) (by kernel_rfl) (by show 2≤_;decide) rfl ?_;(conv=>whnf);refine bB cY hn rfl ?_;(conv=>whnf);refine bC hk ?_;(conv=>whnf);refine au (i:=0) (x:=.agg [.i .i64 vk,.i .i64 vn,.s vt,.sl 5 (br va),eP cS vc]) (by rw[hes];rfl) ?_;(conv=>whnf);refine bC (show(!(vk==7))=false by rw[h7];rfl) ?_;(conv=>whnf);refine bB cO hr rfl ?_;(conv=>whnf);refine bB iU hm rfl ?_;(conv=>whnf);refine au (i:=0) (x:=.agg [.i .i64 vk,.i .i64 vn,.s vt,.sl 5 (br va),eP cS vc]) (by rw[hes];rfl) ?_;(conv=>whnf);refine ag ⟨by omega,hlt⟩ ?_;(conv=>whnf);refine ag ⟨rfl,by decide,.inr rfl⟩ ?_;refine⟨_,aq ha,?_⟩;refine au (i:=vn.toNat) (x:=.bG nS c) (by unfold qF;rw[List.getElem?_map,hc];rfl) ?_;(conv=>whnf);refine ag (.inl (by kernel_rfl)) ?_;(conv=>whnf);refine ag ⟨rfl,by decide,.inl rfl⟩ ?_;refine⟨_,aq hnc,?_⟩;refine au (i:=0) rfl ?_;(conv=>whnf);refine ag ⟨rfl,by decide,.inl rfl⟩ ?_;refine⟨_,aq hnc,?_⟩;refine au (i:=0) rfl ?_;(conv=>whnf);refine ag ⟨by omega,hbt⟩ ?_;(conv=>whnf);refine ag ⟨rfl,by decide,.inr rfl⟩ ?_;refine⟨_,aq hpa,?_⟩;refine au (i:=0) (x:=.bG nS b) (by unfold qF;rw[List.getElem?_map,hb];rfl) ?_;(conv=>whnf);refine au (i:=0) (x:=.agg [.i .i64 vk,.i .i64 vn,.s vt,.sl 5 (br va),eP cS vc]) (by rw[hes];rfl) ?_;(conv=>whnf);refine bg [1000000002,1000000005] 300 hcs ?_;(conv=>whnf);refine ag (.inr ⟨[(3,15),(7,15)],by kernel_rfl,⟨?_,?_,trivial⟩⟩) ?_
                      ·conv=>whnf
                       refine⟨by kernel_rfl,?_⟩;refine ag ⟨rfl,by decide,.inl rfl⟩ ?_;refine⟨_,aq hnc,?_⟩;refine au (i:=0) rfl ?_;(conv=>whnf);rfl
                      ·conv=>whnf
                       refine⟨by kernel_rfl,?_⟩;refine ag ⟨rfl,by decide,.inl rfl⟩ ?_;refine⟨_,aq hnc,?_⟩;refine au (i:=0) rfl ?_;(conv=>whnf);rfl
                      (conv=>whnf);refine ag ⟨by decide,by rw[hes];simp;omega,by simp⟩ ?_;rw[hds];(conv=>whnf);refine bC (by simp[hxl];omega) ?_;(conv=>whnf);refine bC hd ?_;(conv=>whnf);refine bg [1000000005] 400 hwi ?_;(conv=>whnf);refine bB cO hr rfl ?_;(conv=>whnf);refine ag (.inl (by kernel_rfl)) ?_;(conv=>whnf);refine⟨.inl rfl,⟨⟨rfl,rfl,rfl,rfl,rfl,?_⟩,s6,s6,s6,s6,s6,s6,s6,s6,s6,s6,s6,s6,s6,s6,s6,trivial⟩⟩;exact bL cO k ⟨r1,r2,r3,r4,r5,r6,r7,⟨some b,(some s),.nil,IntKind.i64.wrap (f4+1),true⟩,.mk wk wn wt wa wc,⟨o1,o2,o3,o4,o5,o6,o7,o8⟩,⟨e1,e2,e3,e4,e5⟩,r12⟩ zr.2
                    |some s0=>
                     cases T2 with
                     |none=>
                      refine av.intro iJ az Tryz.func248 rfl (by rfl) (by kernel_rfl) (by show 2≤_;decide) rfl ?_;(conv=>whnf);refine bB cY hn rfl ?_;(conv=>whnf);refine bC hk ?_;(conv=>whnf);refine au (i:=0) (x:=.agg [.i .i64 vk,.i .i64 vn,.s vt,.sl 5 (br va),eP cS vc]) (by rw[hes];rfl) ?_;(conv=>whnf);refine bC (show(!(vk==7))=false by rw[h7];rfl) ?_;(conv=>whnf);refine bB cO hr rfl ?_;(conv=>whnf);refine bB iU hm rfl ?_;(conv=>whnf);refine au (i:=0) (x:=.agg [.i .i64 vk,.i .i64 vn,.s vt,.sl 5 (br va),eP cS vc]) (by rw[hes];rfl) ?_;(conv=>whnf);refine ag ⟨by omega,hlt⟩ ?_;(conv=>whnf);refine ag ⟨rfl,by decide,.inr rfl⟩ ?_;refine⟨_,aq ha,?_⟩;refine au (i:=vn.toNat) (x:=.bG nS c) (by unfold qF;rw[List.getElem?_map,hc];rfl) ?_;(conv=>whnf);refine ag (.inl (by kernel_rfl)) ?_;(conv=>whnf);refine ag ⟨rfl,by decide,.inl rfl⟩ ?_;refine⟨_,aq hnc,?_⟩;refine au (i:=0) rfl ?_;(conv=>whnf);refine ag ⟨rfl,by decide,.inl rfl⟩ ?_;refine⟨_,aq hnc,?_⟩;refine au (i:=0) rfl ?_;(conv=>whnf);refine ag ⟨by omega,hbt⟩ ?_;(conv=>whnf);refine ag ⟨rfl,by decide,.inr rfl⟩ ?_;refine⟨_,aq hpa,?_⟩;refine au (i:=0) (x:=.bG nS b) (by unfold qF;rw[List.getElem?_map,hb];rfl) ?_;(conv=>whnf);refine au (i:=0) (x:=.agg [.i .i64 vk,.i .i64 vn,.s vt,.sl 5 (br va),eP cS vc]) (by rw[hes];rfl) ?_;(conv=>whnf);refine bg [1000000002,1000000005] 300 hcs ?_;(conv=>whnf);refine ag (.inr ⟨[(3,15),(7,15)],by kernel_rfl,⟨?_,?_,trivial⟩⟩) ?_
                      ·conv=>whnf
                       refine⟨by kernel_rfl,?_⟩;refine ag ⟨rfl,by decide,.inl rfl⟩ ?_;refine⟨_,aq hnc,?_⟩;refine au (i:=0) rfl ?_;(conv=>whnf);rfl
                      ·conv=>whnf
                       refine⟨by kernel_rfl,?_⟩;refine ag ⟨rfl,by decide,.inl rfl⟩ ?_;refine⟨_,aq hnc,?_⟩;refine au (i:=0) rfl ?_;(conv=>whnf);rfl
                      (conv=>whnf);refine ag ⟨by decide,by rw[hes];simp;omega,by simp⟩ ?_;rw[hds];(conv=>whnf);refine bC (by simp[hxl];omega) ?_;(conv=>whnf);refine bC hd ?_;(conv=>whnf);refine bg [1000000005] 400 hwi ?_;(conv=>whnf);refine bB cO hr rfl ?_;(conv=>whnf);refine ag (.inl (by kernel_rfl)) ?_;(conv=>whnf);refine⟨.inl rfl,⟨⟨rfl,rfl,rfl,rfl,rfl,?_⟩,s6,s6,s6,s6,s6,s6,s6,s6,s6,s6,s6,s6,s6,s6,s6,trivial⟩⟩;exact bL cO k ⟨r1,r2,r3,r4,r5,r6,r7,⟨some b,none,.nil,IntKind.i64.wrap (f4+1),true⟩,.mk wk wn wt wa wc,⟨o1,o2,o3,o4,o5,o6,o7,o8⟩,⟨e1,e2,e3,e4,e5⟩,r12⟩ zr.2
                     |some s=>
                      refine av.intro iJ az Tryz.func248 rfl (by rfl) (by kernel_rfl) (by show 2≤_;decide) rfl ?_;(conv=>whnf);refine bB cY hn rfl ?_;(conv=>whnf);refine bC hk ?_;(conv=>whnf);refine au (i:=0) (x:=.agg [.i .i64 vk,.i .i64 vn,.s vt,.sl 5 (br va),eP cS vc]) (by rw[hes];rfl) ?_;(conv=>whnf);refine bC (show(!(vk==7))=false by rw[h7];rfl) ?_;(conv=>whnf);refine bB cO hr rfl ?_;(conv=>whnf);refine bB iU hm rfl ?_;(conv=>whnf);refine au (i:=0) (x:=.agg [.i .i64 vk,.i .i64 vn,.s vt,.sl 5 (br va),eP cS vc]) (by rw[hes];rfl) ?_;(conv=>whnf);refine ag ⟨by omega,hlt⟩ ?_;(conv=>whnf);refine ag ⟨rfl,by decide,.inr rfl⟩ ?_;refine⟨_,aq ha,?_⟩;refine au (i:=vn.toNat) (x:=.bG nS c) (by unfold qF;rw[List.getElem?_map,hc];rfl) ?_;(conv=>whnf);refine ag (.inl (by kernel_rfl)) ?_;(conv=>whnf);refine ag ⟨rfl,by decide,.inl rfl⟩ ?_;refine⟨_,aq hnc,?_⟩;refine au (i:=0) rfl ?_;(conv=>whnf);refine ag ⟨rfl,by decide,.inl rfl⟩ ?_;refine⟨_,aq hnc,?_⟩;refine au (i:=0) rfl ?_;(conv=>whnf);refine ag ⟨by omega,hbt⟩ ?_;(conv=>whnf);refine ag ⟨rfl,by decide,.inr rfl⟩ ?_;refine⟨_,aq hpa,?_⟩;refine au (i:=0) (x:=.bG nS b) (by unfold qF;rw[List.getElem?_map,hb];rfl) ?_;(conv=>whnf);refine au (i:=0) (x:=.agg [.i .i64 vk,.i .i64 vn,.s vt,.sl 5 (br va),eP cS vc]) (by rw[hes];rfl) ?_;(conv=>whnf);refine bg [1000000002,1000000005] 300 hcs ?_;(conv=>whnf);refine ag (.inr ⟨[(3,15),(7,15)],by kernel_rfl,⟨?_,?_,trivial⟩⟩) ?_
                      ·conv=>whnf
                       refine⟨by kernel_rfl,?_⟩;refine ag ⟨rfl,by decide,.inl rfl⟩ ?_;refine⟨_,aq hnc,?_⟩;refine au (i:=0) rfl ?_;(conv=>whnf);rfl
                      ·conv=>whnf
                       refine⟨by kernel_rfl,?_⟩;refine ag ⟨rfl,by decide,.inl rfl⟩ ?_;refine⟨_,aq hnc,?_⟩;refine au (i:=0) rfl ?_;(conv=>whnf);rfl
                      (conv=>whnf);refine ag ⟨by decide,by rw[hes];simp;omega,by simp⟩ ?_;rw[hds];(conv=>whnf);refine bC (by simp[hxl];omega) ?_;(conv=>whnf);refine bC hd ?_;(conv=>whnf);refine bg [1000000005] 400 hwi ?_;(conv=>whnf);refine bB cO hr rfl ?_;(conv=>whnf);refine ag (.inl (by kernel_rfl)) ?_;(conv=>whnf);refine⟨.inl rfl,⟨⟨rfl,rfl,rfl,rfl,rfl,?_⟩,s6,s6,s6,s6,s6,s6,s6,s6,s6,s6,s6,s6,s6,s6,s6,trivial⟩⟩;exact bL cO k ⟨r1,r2,r3,r4,r5,r6,r7,⟨some b,(some s),.nil,IntKind.i64.wrap (f4+1),true⟩,.mk wk wn wt wa wc,⟨o1,o2,o3,o4,o5,o6,o7,o8⟩,⟨e1,e2,e3,e4,e5⟩,r12⟩ zr.2
end MN
end
section
open Go Go.AM Go.Proofs TK
set_option maxRecDepth 100000
namespace MN
theorem Ef (K:Ks) (zr:bf Rn) (k:Nat) (r:Rn) (m:Mk) (name:ByteArray) (xs:List Vl) (R:Option Fn) (hr:aJ k zr.2=some r) (hm:aJ r.maker K.mm.2=some m) (hF:xU K m name xs=some R):
 av Tryz.prog 256 [.p (.bG rS k),.p (.s name),.p (.sl 5 (br xs))] (DX K zr) (JU R) (DX K zr):=by
 unfold xU at hF
 cases he:aJ m.funcs K.mf.2 with
 |none=>rw[he]at hF;cases hF
 |some es=>
  rw[he]at hF;dsimp only at hF
  cases hf:bh name es with
  |some fn=>
   rw[hf]at hF;cases hF;exact IZ K zr k r m name xs fn es hr hm he hf
  |none=>
   rw[hf]at hF;dsimp only at hF
   cases ht:aJ m.traits K.mt.2 with
   |none=>rw[ht]at hF;cases hF
   |some ts=>
    rw[ht]at hF;dsimp only at hF
    cases hft:bh name ts with
    |none=>
     rw[hft]at hF;cases hF;exact D2 K zr k r m name xs es ts hr hm he hf ht hft
    |some trait=>
     rw[hft]at hF
     cases xs with
     |nil=>
      cases hF;exact Eu K zr k r m name trait es ts hr hm he hf ht hft
     |cons v xs=>exact HF K zr k r m name trait v xs es ts R hr hm he hf ht hft hF
theorem HK (K:Ks) (S:Ss) (zr:bf Rn) (k:Nat) (r:Rn) (f:Fr) (xs:List Vl) (R:Ss×Rn) (hr:aJ k zr.2=some r) (hf:f.vals=.mZ xs) (hF:tS K S r f xs=some R):
 av Tryz.prog 248 [.p (.bG rS k),.p (.agg (dU f))] (hA K S zr) (.cz []) (hA K R.1 (zr.1,aV k R.2 zr.2)):=by
 have hfl:=fun w=>cI zr S.o k w r hr;obtain⟨f1,f2,f3,f4,f5⟩:=f;dsimp only at hf;subst hf;unfold tS dy at hF;dsimp only at hF
 cases f1 with
 |none=>cases hF
 |some kn=>
  dsimp only at hF
  cases hn:aJ kn K.n.2 with
  |none=>rw[hn]at hF;cases hF
  |some n=>
   rw[hn]at hF;obtain⟨n1,n2,n3,n4,n5,n6,n7,n8,n9⟩:=n;dsimp only at hF
   cases hk:n1==9 with
   |false=>rw[hk]at hF;exact EW K S zr k r _ xs R hr rfl kn _ rfl hn hk hF
   |true=>
    rw[hk]at hF;have hk:n1=9:=by simpa using hk
    subst hk;dsimp only at hF
    cases hm:aJ r.maker K.mm.2 with
    |none=>rw[hm]at hF;cases hF
    |some m=>
     rw[hm]at hF;dsimp only at hF
     cases hfi:xU K m n3 xs with
     |none=>rw[hfi]at hF;cases hF
     |some Q=>
      rw[hfi]at hF;have hfd:=Ef K zr k r m n3 xs Q hr hm hfi
      cases Q with
      |none=>
       cases hF;unfold hA DX iE dU JU at *;dsimp only[mG]at *;refine av.intro (ah Tryz.prog) az Tryz.func248 rfl (by rfl) (by kernel_rfl) (by show 2≤_;decide) rfl ?_;(conv=>whnf);refine bB cY hn rfl ?_;(conv=>whnf);refine bB cY hn rfl ?_;(conv=>whnf);refine bg [1000000000,1000000009,1000000010,1000000011,1000000012,1000000013] 400 hfd ?_;(conv=>whnf);refine bg [1000000000,1000000001] 300 (hfl zX) ?_;(conv=>whnf);refine⟨.inl rfl,⟨s6,s6,s6,s6,s6,s6,s6,s6,s6,s6,s6,s6,s6,s6,s6,s6,trivial⟩⟩
      |some fn=>
       obtain⟨fnn,fb⟩:=fn;dsimp only at hF;have hxl:(br xs).length=xs.length:=by rw[aQ];simp
       unfold JU eFn at hfd;dsimp only[Option.isSome]at hfd;unfold hA DX iE dU at *;dsimp only[mG]at *
       cases hll:Nat.ble fnn.length 2000000 with
       |false=>rw[hll]at hF;cases hF
       |true=>
        rw[hll]at hF;dsimp only at hF;have hll:=Nat.le_of_ble_eq_true hll
        cases hg:Nat.beq xs.length fnn.length with
        |false=>
         rw[hg]at hF;cases hF;refine av.intro iJ az Tryz.func248 rfl (by rfl) (by kernel_rfl) (by show 2≤_;decide) rfl ?_;(conv=>whnf);refine bB cY hn rfl ?_;(conv=>whnf);refine bB cY hn rfl ?_;(conv=>whnf);refine bg [1000000000,1000000009,1000000010,1000000011,1000000012,1000000013] 400 hfd ?_;(conv=>whnf)
         refine dm (by
          have:xs.length≠fnn.length:=fun e=>by rw[e,Nat.beq_refl]at hg;cases hg
          simp[hxl];omega) ?_
         (conv=>whnf);refine bg [1000000000,1000000001] 300 (hfl cD) ?_;(conv=>whnf);refine⟨.inl rfl,⟨s6,s6,s6,s6,s6,s6,s6,s6,s6,s6,s6,s6,s6,s6,s6,s6,trivial⟩⟩
        |true=>
         rw[hg]at hF;dsimp only at hF;have hg:=Nat.eq_of_beq_eq_true hg
         cases hd:decide (f4≥60) with
         |true=>
          rw[hd]at hF;cases hF;refine av.intro iJ az Tryz.func248 rfl (by rfl) (by kernel_rfl) (by show 2≤_;decide) rfl ?_;(conv=>whnf);refine bB cY hn rfl ?_;(conv=>whnf);refine bB cY hn rfl ?_;(conv=>whnf);refine bg [1000000000,1000000009,1000000010,1000000011,1000000012,1000000013] 400 hfd ?_;(conv=>whnf);refine bC (by simp[hxl];omega) ?_;(conv=>whnf);refine dm hd ?_;(conv=>whnf);refine bg [1000000000,1000000001] 300 (hfl F7) ?_;(conv=>whnf);refine⟨.inl rfl,⟨s6,s6,s6,s6,s6,s6,s6,s6,s6,s6,s6,s6,s6,s6,s6,s6,trivial⟩⟩
         |false=>
          rw[hd]at hF;dsimp only at hF
          cases hw:lY fnn xs (S.s,none) with
          |none=>rw[hw]at hF;cases hF
          |some Q=>
           rw[hw]at hF;cases hF;have hwi:=uf sS fnn xs (S.s,none) Q (by omega) hw;obtain⟨r1,r2,r3,r4,r5,r6,r7,⟨c1,c2,c3,c4,c5⟩,⟨wk,wn,wt,wa,wc⟩,⟨o1,o2,o3,o4,o5,o6,o7,o8⟩,⟨p1,p2,p3,p4,p5⟩,r12⟩:=r;obtain⟨Q1,Q2⟩:=Q;unfold iz at *;dsimp only at hwi
           cases Q2 with
           |none=>
            refine av.intro iJ az Tryz.func248 rfl (by rfl) (by kernel_rfl) (by show 2≤_;decide) rfl ?_;(conv=>whnf);refine bB cY hn rfl ?_;(conv=>whnf);refine bB cY hn rfl ?_;(conv=>whnf);refine bg [1000000000,1000000009,1000000010,1000000011,1000000012,1000000013] 400 hfd ?_;(conv=>whnf);refine bC (by simp[hxl];omega) ?_;(conv=>whnf);refine bC hd ?_;(conv=>whnf);refine bg [1000000005] 400 hwi ?_;(conv=>whnf);refine bB cO hr rfl ?_;(conv=>whnf);refine ag (.inl (by kernel_rfl)) ?_;(conv=>whnf);refine⟨.inl rfl,⟨⟨rfl,rfl,rfl,rfl,rfl,?_⟩,s6,s6,s6,s6,s6,s6,s6,s6,s6,s6,s6,s6,s6,s6,s6,trivial⟩⟩;exact bL cO k ⟨r1,r2,r3,r4,r5,r6,r7,⟨some fb,none,.nil,IntKind.i64.wrap (f4+1),true⟩,.mk wk wn wt wa wc,⟨o1,o2,o3,o4,o5,o6,o7,o8⟩,⟨p1,p2,p3,p4,p5⟩,r12⟩ zr.2
           |some s=>
            refine av.intro iJ az Tryz.func248 rfl (by rfl) (by kernel_rfl) (by show 2≤_;decide) rfl ?_;(conv=>whnf);refine bB cY hn rfl ?_;(conv=>whnf);refine bB cY hn rfl ?_;(conv=>whnf);refine bg [1000000000,1000000009,1000000010,1000000011,1000000012,1000000013] 400 hfd ?_;(conv=>whnf);refine bC (by simp[hxl];omega) ?_;(conv=>whnf);refine bC hd ?_;(conv=>whnf);refine bg [1000000005] 400 hwi ?_;(conv=>whnf);refine bB cO hr rfl ?_;(conv=>whnf);refine ag (.inl (by kernel_rfl)) ?_;(conv=>whnf);refine⟨.inl rfl,⟨⟨rfl,rfl,rfl,rfl,rfl,?_⟩,s6,s6,s6,s6,s6,s6,s6,s6,s6,s6,s6,s6,s6,s6,s6,trivial⟩⟩;exact bL cO k ⟨r1,r2,r3,r4,r5,r6,r7,⟨some fb,(some s),.nil,IntKind.i64.wrap (f4+1),true⟩,.mk wk wn wt wa wc,⟨o1,o2,o3,o4,o5,o6,o7,o8⟩,⟨p1,p2,p3,p4,p5⟩,r12⟩ zr.2
end MN
end
section
open Go Go.AM Go.Proofs TK
set_option maxRecDepth 100000
namespace MN
noncomputable def Pv:Nat→Option TI:=hint (jJ Tryz.prog) 212 [1000110]
theorem LX:bw Tryz.prog Pv:=(ah Tryz.prog).hint _ _
theorem CU (K:Ks) (S:Ss) (zr:bf Rn) (k:Nat) (r:Rn) (f:Fr) (xs:List Vl) (R:(Vl×ByteArray)×Ss) (hr:aJ k zr.2=some r) (hf:f.vals=.mZ xs) (hF:mo K S r f xs=some R):
 av Tryz.prog 251 [.p (.bG rS k),.p (.agg (dU f))] (hA K S zr) (.cz [.p (eV R.1.1),.p (.s R.1.2)]) (hA K R.2 zr):=by
 obtain⟨f1,f2,f3,f4,f5⟩:=f;dsimp only at hf;subst hf;unfold mo dy at hF;dsimp only at hF
 cases f1 with
 |none=>cases hF
 |some kn=>
  dsimp only at hF
  cases hn:aJ kn K.n.2 with
  |none=>rw[hn]at hF;cases hF
  |some n=>
   rw[hn]at hF;obtain⟨n1,n2,n3,n4,n5,n6,n7,n8,n9⟩:=n;dsimp only at hF;have hxl:(br xs).length=xs.length:=by rw[aQ];simp
   unfold hA iz iE dU at *;dsimp only[mG]at *;refine av.intro LX az Tryz.func251 rfl (by rfl) (by kernel_rfl) (by show 2≤_;decide) rfl ?_;(conv=>whnf);refine bB cY hn rfl ?_;(conv=>whnf);refine aj ?_ ?_<;>intro h1<;>conv=>whnf
   ·rw[show(n1==1)=true from h1]at hF
    cases hF;refine iX uP ?_;(conv=>whnf);refine⟨.inl rfl,⟨s6,s6,s6,s6,s6,s6,s6,s6,s6,s6,s6,s6,s6,s6,s6,s6,trivial⟩⟩
   rw[show(n1==1)=false from h1]at hF;dsimp only at hF;refine aj ?_ ?_<;>intro h2<;>conv=>whnf
   ·rw[show(n1==2)=true from h2]at hF
    cases hF;refine bB cY hn rfl ?_;(conv=>whnf);refine iX (mR _) ?_;(conv=>whnf);refine⟨.inl rfl,⟨s6,s6,s6,s6,s6,s6,s6,s6,s6,s6,s6,s6,s6,s6,s6,s6,trivial⟩⟩
   rw[show(n1==2)=false from h2]at hF;dsimp only at hF;refine aj ?_ ?_<;>intro h3<;>conv=>whnf
   ·rw[show(n1==3)=true from h3]at hF
    cases hF;refine bB cY hn rfl ?_;(conv=>whnf);refine iX (qm _) ?_;(conv=>whnf);refine⟨.inl rfl,⟨s6,s6,s6,s6,s6,s6,s6,s6,s6,s6,s6,s6,s6,s6,s6,s6,trivial⟩⟩
   rw[show(n1==3)=false from h3]at hF;dsimp only at hF;refine aj ?_ ?_<;>intro h4<;>conv=>whnf
   ·rw[show(n1==4)=true from h4]at hF
    cases hF;refine bB cY hn rfl ?_;(conv=>whnf);refine⟨.inl rfl,⟨s6,s6,s6,s6,s6,s6,s6,s6,s6,s6,s6,s6,s6,s6,s6,s6,trivial⟩⟩
   rw[show(n1==4)=false from h4]at hF;dsimp only at hF;refine aj ?_ ?_<;>intro h16<;>conv=>whnf
   ·rw[show(n1==16)=true from h16]at hF
    cases hF;refine bB cO hr rfl ?_;(conv=>whnf);refine iX (Je _) ?_;(conv=>whnf);refine⟨.inl rfl,⟨s6,s6,s6,s6,s6,s6,s6,s6,s6,s6,s6,s6,s6,s6,s6,s6,trivial⟩⟩
   rw[show(n1==16)=false from h16]at hF;dsimp only at hF;refine aj ?_ ?_<;>intro h5<;>conv=>whnf
   ·rw[show(n1==5)=true from h5]at hF
    dsimp only at hF
    cases hfd:findF S.s.2 n3 (S.s.1+1) f2 with
    |none=>rw[hfd]at hF;cases hF
    |some Q=>
     rw[hfd]at hF;have hfs:=find_spec sS S.s n3 f2 _ Q hfd
     cases Q with
     |none=>
      cases hF;unfold OT at hfs;rw[show eV (Option.getD none zV)=eV zV from rfl]at hfs;unfold zV at hfs;rw[eV]at hfs;cases f2
      all_goals
       refine bB cY hn rfl ?_;(conv=>whnf);refine bg [1000000005] 400 hfs ?_;(conv=>whnf);refine ag (.inl (by kernel_rfl)) ?_;(conv=>whnf);refine⟨.inl rfl,⟨s6,s6,s6,s6,s6,s6,s6,s6,s6,s6,s6,s6,s6,s6,s6,s6,trivial⟩⟩
     |some v=>
      cases hF;obtain⟨vk,vn,vt,va,vc⟩:=v;unfold OT at hfs;rw[show eV (Option.getD (some (.mk vk vn vt va vc)) zV)=eV (.mk vk vn vt va vc) from rfl,eV]at hfs;cases f2
      all_goals
       refine bB cY hn rfl ?_;(conv=>whnf);refine bg [1000000005] 400 hfs ?_;(conv=>whnf);refine ag (.inl (by kernel_rfl)) ?_;(conv=>whnf);refine⟨.inl rfl,⟨s6,s6,s6,s6,s6,s6,s6,s6,s6,s6,s6,s6,s6,s6,s6,s6,trivial⟩⟩
   rw[show(n1==5)=false from h5]at hF;dsimp only at hF;refine aj ?_ ?_<;>intro h12<;>conv=>whnf
   ·rw[show(n1==12)=true from h12]at hF
    dsimp only at hF
    cases hm:aJ r.maker K.mm.2 with
    |none=>rw[hm]at hF;cases hF
    |some m=>
     rw[hm]at hF;dsimp only at hF
     cases hmc:aJ m.makes K.mc.2 with
     |none=>rw[hmc]at hF;cases hF
     |some cs=>
      rw[hmc]at hF;dsimp only at hF;have hlc:=fun d=>bP ze n3 d cs;unfold sj Mb at *;refine bB cO hr rfl ?_;(conv=>whnf);refine bB iU hm rfl ?_;(conv=>whnf);refine bB cY hn rfl ?_;(conv=>whnf);refine ag ⟨rfl,rfl⟩ ?_;refine⟨jw ze cs,aq (enc:=bX ze) hmc,?_⟩
      cases hc:bh n3 cs with
      |none=>
       rw[hc]at hF hlc;cases hF;refine⟨_,_,hlc _,?_⟩;(conv=>whnf);refine ag (.inl (by kernel_rfl)) ?_;(conv=>whnf);refine⟨.inl rfl,⟨s6,s6,s6,s6,s6,s6,s6,s6,s6,s6,s6,s6,s6,s6,s6,s6,trivial⟩⟩
      |some c=>
       rw[hc]at hF hlc;obtain⟨cd,ca⟩:=c;dsimp only at hF;refine⟨_,_,hlc _,?_⟩;(conv=>whnf);refine ag (.inl (by kernel_rfl)) ?_;(conv=>whnf)
       cases hq:ca==(xs.length:Int) with
       |false=>
        rw[hq]at hF;cases hF;refine dm (show(!(ca==((br xs).length:Int)))=true by rw[hxl,hq];rfl) ?_;(conv=>whnf);refine⟨.inl rfl,⟨s6,s6,s6,s6,s6,s6,s6,s6,s6,s6,s6,s6,s6,s6,s6,s6,trivial⟩⟩
       |true=>
        rw[hq]at hF;dsimp only at hF
        cases hft:B7 S.c.2 (.mk 5 0 n3 xs none) with
        |none=>rw[hft]at hF;cases hF
        |some Q=>
         rw[hft]at hF;cases hF;have hfi:=CG S.c (.mk 5 0 n3 xs none) Q hft;rw[eV]at hfi;obtain⟨⟨u1,u2,u3,u4,u5⟩,w⟩:=Q;rw[eV]at hfi;refine bC (show(!(ca==((br xs).length:Int)))=false by rw[hxl,hq];rfl) ?_;(conv=>whnf);refine bB cY hn rfl ?_;(conv=>whnf);refine bg [1000000008] 400 hfi ?_;(conv=>whnf);refine ag (.inl (by kernel_rfl)) ?_;(conv=>whnf);refine⟨.inl rfl,⟨s6,s6,s6,s6,s6,s6,s6,s6,s6,s6,s6,s6,s6,s6,s6,s6,trivial⟩⟩
   rw[show(n1==12)=false from h12]at hF;dsimp only at hF;refine aj ?_ ?_<;>intro h21<;>conv=>whnf
   ·rw[show(n1==21)=true from h21]at hF
    cases xs with
    |nil=>cases hF
    |cons v xs=>
     dsimp only at hF
     cases hft:B7 ((S.c.1,⟨false,v⟩)::S.c.2) (.mk 8 0 ⟨#[]⟩ [] (some S.c.1)) with
     |none=>rw[hft]at hF;cases hF
     |some Q=>
      rw[hft]at hF;cases hF;have hfi:=CG (S.c.1+1,(S.c.1,⟨false,v⟩)::S.c.2) (.mk 8 0 ⟨#[]⟩ [] (some S.c.1)) Q hft;rw[eV]at hfi;obtain⟨⟨u1,u2,u3,u4,u5⟩,w⟩:=Q;rw[eV]at hfi;obtain⟨vk,vn,vt,va,vc⟩:=v;unfold kJ at *;refine au (i:=0) (x:=.agg [.i .i64 vk,.i .i64 vn,.s vt,.sl 5 (br va),eP cS vc]) rfl ?_;(conv=>whnf);refine bg [1000000008] 400 hfi ?_;(conv=>whnf);refine⟨.inl rfl,⟨s6,s6,s6,s6,s6,s6,s6,s6,s6,s6,s6,s6,s6,s6,s6,s6,trivial⟩⟩
   rw[show(n1==21)=false from h21]at hF;dsimp only at hF;refine aj ?_ ?_<;>intro h22<;>conv=>whnf
   ·rw[show(n1==22)=true from h22]at hF
    cases xs with
    |nil=>cases hF
    |cons v xs=>
     dsimp only at hF
     cases hft:FE S.c.2 v with
     |none=>rw[hft]at hF;cases hF
     |some Q=>
      rw[hft]at hF;cases hF;have hfi:=I8 S.c v Q hft;obtain⟨⟨u1,u2,u3,u4,u5⟩,w⟩:=Q;obtain⟨vk,vn,vt,va,vc⟩:=v;rw[eV,eV]at hfi;refine au (i:=0) (x:=.agg [.i .i64 vk,.i .i64 vn,.s vt,.sl 5 (br va),eP cS vc]) rfl ?_;(conv=>whnf);refine bg [1000000008] 400 hfi ?_;(conv=>whnf);refine⟨.inl rfl,⟨s6,s6,s6,s6,s6,s6,s6,s6,s6,s6,s6,s6,s6,s6,s6,s6,trivial⟩⟩
   rw[show(n1==22)=false from h22]at hF;dsimp only at hF;refine aj ?_ ?_<;>intro h23<;>conv=>whnf
   ·rw[show(n1==23)=true from h23]at hF
    rcases xs with _|⟨v,_|⟨x,xs⟩⟩
    ·cases hF
    ·cases hF
    ·dsimp only at hF
     cases hft:EA S.c v x with
     |none=>rw[hft]at hF;cases hF
     |some Q=>
      rw[hft]at hF;cases hF;have hfi:=J7 S.c v x Q hft;obtain⟨vk,vn,vt,va,vc⟩:=v;obtain⟨xk,xn,xt,xa,xc⟩:=x;rw[eV,eV]at hfi;refine iX uP ?_;(conv=>whnf);refine au (i:=0) (x:=.agg [.i .i64 vk,.i .i64 vn,.s vt,.sl 5 (br va),eP cS vc]) rfl ?_;(conv=>whnf);refine au (i:=1) (x:=.agg [.i .i64 xk,.i .i64 xn,.s xt,.sl 5 (br xa),eP cS xc]) rfl ?_;(conv=>whnf);refine bg [1000000008] 400 hfi ?_;(conv=>whnf);refine ag (.inl (by kernel_rfl)) ?_;(conv=>whnf);refine⟨.inl rfl,⟨s6,s6,s6,s6,s6,s6,s6,s6,s6,s6,s6,s6,s6,s6,s6,s6,trivial⟩⟩
   rw[show(n1==23)=false from h23]at hF;cases hF;refine⟨.inl rfl,⟨s6,s6,s6,s6,s6,s6,s6,s6,s6,s6,s6,s6,s6,s6,s6,s6,trivial⟩⟩
end MN
end
