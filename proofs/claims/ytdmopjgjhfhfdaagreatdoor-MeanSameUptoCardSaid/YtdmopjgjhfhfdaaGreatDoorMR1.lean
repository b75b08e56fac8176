/- Contracts, and the law, for every input. No conditions. -/
import Derived.Test.YtdmopjgjhfhfdaaGreatDoorMNS
import Derived.Test.YtdmopjgjhfhfdaaGreatDoorAMRngD
set_option linter.all false
section
open Go Go.AM Go.Proofs TK
set_option maxRecDepth 100000
namespace MN
theorem Oa {op:ByteArray} {r:AV} {kk n:Nat} {xs:List Vl} (z:bf (List Vl)) (hk:aJ kk z.2=some xs) (hn:n≤xs.length)
 (h:av Tryz.prog 255 [.p (.s op),.p (.sl 5 (br (xs.take n)))] [(1000000000,oB (z.1,hU kk z.2))] r [(1000000000,oB (z.1,hU kk z.2))]):
 av Tryz.prog 255 [.p (.s op),.p (.jV vS kk n)] [(1000000000,oB z)] r [(1000000000,oB (z.1,hU kk z.2))]:=by
 have hlen:(br xs).length=xs.length:=by rw[aQ];simp
 refine av.freeze (l:=1000000000) (T:=139) (one:=false) (sp:=vS) (nx:=z.1) (sz:=5) (k:=kk) (n:=n) (M:=cy br z.2) (xs:=br xs) h rfl rfl ?_ (aq hk) (by rw[hlen];exact hn) (by decide) rfl ?_
 ·intro x
  unfold oB;rw[Gp]
  cases hb:Nat.beq 1000000000 x with
  |true=>simp only[aF,hb]
  |false=>simp only[aF,hb]
 ·intro j a b h1 h2
  rcases j with _|_|j
  ·cases h1;cases h2;exact .inl ⟨rfl,fun _ _ q=>by cases q⟩
  ·cases h1;cases h2
   refine .inr ⟨_,_,rfl,rfl,?_⟩;rw[show br (xs.take n)=(br xs).take n by rw[aQ,aQ,List.map_take]];exact .jV
  ·cases h1
noncomputable def PB:Nat→Option TI:=hint (jJ Tryz.prog) 133 [1000025]
theorem GL:bw Tryz.prog PB:=(ah Tryz.prog).hint _ _
theorem N3 {op:ByteArray} {r:AV} (z:bf (List Vl))
 (h:av Tryz.prog 255 [.p (.s op),.p (.sl 5 (br []))] [(1000000000,oB z)] r [(1000000000,oB z)]):
 av Tryz.prog 255 [.p (.s op),.p .qZ] [(1000000000,oB z)] r [(1000000000,oB z)]:=by
 refine IL h rfl ?_;intro j a b h1 h2;rcases j with _|_|j
 ·cases h1;cases h2;exact .inl rfl
 ·cases h1;cases h2
  refine .inr ⟨_,_,rfl,rfl,fun M v hr=>?_⟩
  cases hr;exact .nil 5
 ·cases h1
theorem xI (K:Ks) (S:Ss) (zr:bf Rn) (k kn:Nat) (n:Nd) (r:Rn) (f:Fr) (xs:List Vl) (R:Vl×ByteArray) (hr:aJ k zr.2=some r) (hfn:f.n=some kn) (hn:aJ kn K.n.2=some n) (hz:gE n=false) (hx:bJ S f.vals=some xs) (hl:xS f.vals=false) (hF:dY n.text xs=some R):
 av Tryz.prog 247 [.p (.bG rS k),.p (.agg (dU f))] (hA K S zr) (.cz []) (match jU R.2 ⟨#[]⟩ with|false=>hA K (dM (dQ S f.vals) r R.2).1 (zr.1,aV k (dM (dQ S f.vals) r R.2).2 zr.2)|true=>hA K (dQ S f.vals) (zr.1,aV k (jF r R.1) zr.2)):=by
 have hlz:=qg K.n kn n hn;rw[hz]at hlz;have hfl:=fun w=>cI zr S.o k w r hr;have hgv:=jg zr k R.1 r hr;obtain⟨n1,n2,n3,n4,n5,n6,n7,n8,n9⟩:=n;obtain⟨f1,f2,f3,f4,f5⟩:=f;dsimp only at hfn hx hl hF;subst hfn;obtain⟨⟨u1,u2,u3,u4,u5⟩,w⟩:=R;rw[eV]at hgv
 cases f3 with
 |mZ l=>cases hl
 |nil=>
  cases hx;have hop:=N3 S.v (tC S.v n3 [] _ (by simp) hF);rw[eV]at hop;unfold hA iE dU jF dQ dM at *;dsimp only[mG]at *
  cases hw:jU w ⟨#[]⟩ with
  |false=>
   dsimp only;refine av.intro (ah Tryz.prog) az Tryz.func247 rfl (by rfl) (by kernel_rfl) (by show 2≤_;decide) rfl ?_;(conv=>whnf);refine bg [1000000002] 300 hlz ?_;(conv=>whnf);refine bB cY hn rfl ?_;(conv=>whnf);refine bg [1000000006] 400 hop ?_;(conv=>whnf);refine ag (.inl (by kernel_rfl)) ?_;(conv=>whnf);refine dm (show(!(jU w ⟨#[]⟩))=true by rw[hw];rfl) ?_;(conv=>whnf);refine bg [1000000000,1000000001] 300 (hfl w) ?_;(conv=>whnf);refine⟨.inl rfl,⟨s6,s6,s6,s6,s6,s6,s6,s6,s6,s6,s6,s6,s6,s6,s6,s6,trivial⟩⟩
  |true=>
   dsimp only;refine av.intro (ah Tryz.prog) az Tryz.func247 rfl (by rfl) (by kernel_rfl) (by show 2≤_;decide) rfl ?_;(conv=>whnf);refine bg [1000000002] 300 hlz ?_;(conv=>whnf);refine bB cY hn rfl ?_;(conv=>whnf);refine bg [1000000006] 400 hop ?_;(conv=>whnf);refine ag (.inl (by kernel_rfl)) ?_;(conv=>whnf);refine bC (show(!(jU w ⟨#[]⟩))=false by rw[hw];rfl) ?_;(conv=>whnf);refine bg [1000000000] 300 hgv ?_;(conv=>whnf);refine⟨.inl rfl,⟨s6,s6,s6,s6,s6,s6,s6,s6,s6,s6,s6,s6,s6,s6,s6,s6,trivial⟩⟩
 |blk kk m=>
  unfold bJ at hx;dsimp only at hx
  cases hL:aJ kk S.v.2 with
  |none=>rw[hL]at hx;cases hx
  |some L=>
   rw[hL]at hx;dsimp only at hx
   cases hg:Nat.ble m L.length&&Nat.ble m 2000000 with
   |false=>rw[hg]at hx;cases hx
   |true=>
    rw[hg]at hx;cases hx;rw[Bool.and_eq_true]at hg;have hg1:=Nat.le_of_ble_eq_true hg.1;have hg2:=Nat.le_of_ble_eq_true hg.2;have hop:=Oa S.v hL hg1 (tC (S.v.1,hU kk S.v.2) n3 (L.take m) _ (by rw[List.length_take];omega) hF);rw[eV]at hop;unfold hA iE dU jF dQ dM at *;dsimp only[mG]at *
    cases hw:jU w ⟨#[]⟩ with
    |false=>
     dsimp only;refine av.intro (ah Tryz.prog) az Tryz.func247 rfl (by rfl) (by kernel_rfl) (by show 2≤_;decide) rfl ?_;(conv=>whnf);refine bg [1000000002] 300 hlz ?_;(conv=>whnf);refine bB cY hn rfl ?_;(conv=>whnf);refine bg [1000000006] 400 hop ?_;(conv=>whnf);refine ag (.inl (by kernel_rfl)) ?_;(conv=>whnf);refine dm (show(!(jU w ⟨#[]⟩))=true by rw[hw];rfl) ?_;(conv=>whnf);refine bg [1000000000,1000000001] 300 (hfl w) ?_;(conv=>whnf);refine⟨.inl rfl,⟨s6,s6,s6,s6,s6,s6,s6,s6,s6,s6,s6,s6,s6,s6,s6,s6,trivial⟩⟩
    |true=>
     dsimp only;refine av.intro (ah Tryz.prog) az Tryz.func247 rfl (by rfl) (by kernel_rfl) (by show 2≤_;decide) rfl ?_;(conv=>whnf);refine bg [1000000002] 300 hlz ?_;(conv=>whnf);refine bB cY hn rfl ?_;(conv=>whnf);refine bg [1000000006] 400 hop ?_;(conv=>whnf);refine ag (.inl (by kernel_rfl)) ?_;(conv=>whnf);refine bC (show(!(jU w ⟨#[]⟩))=false by rw[hw];rfl) ?_;(conv=>whnf);refine bg [1000000000] 300 hgv ?_;(conv=>whnf);refine⟨.inl rfl,⟨s6,s6,s6,s6,s6,s6,s6,s6,s6,s6,s6,s6,s6,s6,s6,s6,trivial⟩⟩
end MN
end
section
open Go Go.AM Go.Proofs TK
set_option maxRecDepth 100000
namespace MN
theorem xL (nx g1 g2:Nat) (fl:List Fr) (f:Fr) (M:List (Nat×List Fr)):(nx,(vL fl).take g2++[.agg (dU f)])::mC g1 (cy vL M)=cy vL ((nx,fl.take g2++[f])::hU g1 M):=by
 rw[cy,tU];have:vL (fl.take g2++[f])=(vL fl).take g2++[.agg (dU f)]:=by unfold vL;simp[List.map_take]
 rw[this]
theorem zQ (K:Ks) (S:Ss) (zr:bf Rn) (k kn kk:Nat) (n:Nd) (r:Rn) (f:Fr) (v:Vl) (L:List Vl) (R:Ss×Rn) (hr:aJ k zr.2=some r) (hfn:f.n=some kn) (hn:aJ kn K.n.2=some n) (hz:gE n=true) (hfv:f.vals=.blk kk 1) (hL:aJ kk S.v.2=some (v::L))
 (hF:(match v.kind==3 with|false=>some (dM S r cD)|true=>match !((!(v.num==0))==jU n.text Fy) with|true=>some (S,jF r v)|false=>fU K S r f n 1)=some R):
 av Tryz.prog 247 [.p (.bG rS k),.p (.agg (dU f))] (hA K S zr) (.cz []) (hA K R.1 (zr.1,aV k R.2 zr.2)):=by
 have hlz:=qg K.n kn n hn;rw[hz]at hlz;have hfl:=fun w=>cI zr S.o k w r hr;have hgv:=jg zr k v r hr;obtain⟨n1,n2,n3,n4,n5,n6,n7,n8,n9⟩:=n;obtain⟨f1,f2,f3,f4,f5⟩:=f;obtain⟨vk,vn,vt,va,vc⟩:=v;dsimp only at hfn hfv;subst hfn;subst hfv;dsimp only[Vl.kind,Vl.num]at hF;rw[eV]at hgv
 cases hk:vk==3 with
 |false=>
  rw[hk]at hF;cases hF;unfold hA iE oB dU at *;dsimp only[mG]at *;refine av.intro (ah Tryz.prog) az Tryz.func247 rfl (by rfl) (by kernel_rfl) (by show 2≤_;decide) rfl ?_;(conv=>whnf);refine bg [1000000002] 300 hlz ?_;(conv=>whnf);refine ag ⟨by decide,by decide⟩ ?_;(conv=>whnf);refine ag ⟨rfl,by decide,.inr rfl⟩ ?_;refine⟨_,aq hL,?_⟩;refine au (i:=0) (x:=.agg [.i .i64 vk,.i .i64 vn,.s vt,.sl 5 (br va),eP cS vc]) (rfl) ?_;(conv=>whnf);refine dm (show(!(vk==3))=true by rw[hk];rfl) ?_;(conv=>whnf);refine bg [1000000000,1000000001] 300 (hfl cD) ?_;(conv=>whnf);refine⟨.inl rfl,⟨s6,s6,s6,s6,s6,s6,s6,s6,s6,s6,s6,s6,s6,s6,s6,s6,trivial⟩⟩
 |true=>
  rw[hk]at hF;dsimp only at hF
  cases hg:!((!(vn==0))==jU n3 Fy) with
  |true=>
   rw[hg]at hF;cases hF;unfold hA iE oB dU jF at *;dsimp only[mG]at *;refine av.intro (ah Tryz.prog) az Tryz.func247 rfl (by rfl) (by kernel_rfl) (by show 2≤_;decide) rfl ?_;(conv=>whnf);refine bg [1000000002] 300 hlz ?_;(conv=>whnf);refine ag ⟨by decide,by decide⟩ ?_;(conv=>whnf);refine ag ⟨rfl,by decide,.inr rfl⟩ ?_;refine⟨_,aq hL,?_⟩;refine au (i:=0) (x:=.agg [.i .i64 vk,.i .i64 vn,.s vt,.sl 5 (br va),eP cS vc]) (rfl) ?_;(conv=>whnf);refine bC (show(!(vk==3))=false by rw[hk];rfl) ?_;(conv=>whnf);refine bB cY hn rfl ?_;(conv=>whnf);refine ag (.inl (by kernel_rfl)) ?_;(conv=>whnf);refine dm hg ?_;(conv=>whnf);refine bg [1000000000] 300 hgv ?_;(conv=>whnf);refine⟨.inl rfl,⟨s6,s6,s6,s6,s6,s6,s6,s6,s6,s6,s6,s6,s6,s6,s6,s6,trivial⟩⟩
  |false=>
   rw[hg]at hF;dsimp only at hF;unfold fU at hF
   cases hp:tB S r ⟨some kn,f2,.blk kk 1,f4,f5⟩ with
   |none=>rw[hp]at hF;cases hF
   |some P=>
    rw[hp]at hF;obtain⟨S2,r2⟩:=P;dsimp only at hF
    cases ha:ju K.a ⟨n1,n2,n3,n4,n5,n6,n7,n8,n9⟩ 1 with
    |none=>rw[ha]at hF;cases hF
    |some c=>
     rw[ha]at hF;cases hF;have hev:=jq (zr.1,aV k r2 zr.2) k c ⟨some kn,f2,.blk kk 1,f4,f5⟩ f2 r2 (cw hr);rw[cP]at hev;have hen:∀M,sset k (cO r2) (cy cO M)=cy cO (aV k r2 M):=fun M=>bL cO k _ M;unfold tB at hp;unfold ju at ha;dsimp only at ha
     cases n5 with
     |none=>cases ha
     |some q=>
      obtain⟨q1,q2⟩:=q;dsimp only at ha
      cases hb:Nat.blt 1 q2 with
      |false=>rw[hb]at ha;cases ha
      |true=>
       rw[hb]at ha;dsimp only at ha
       cases hl:aJ q1 K.a.2 with
       |none=>rw[hl]at ha;cases ha
       |some al=>
        rw[hl]at ha;dsimp only at ha;have hb1:1<q2:=by rw[Nat.blt_eq]at hb;exact hb
        obtain⟨r1,r2',r3,r4,r5,r6,r7,⟨c1,c2,c3,c4,c5⟩,⟨wk,wn,wt,wa,wc⟩,⟨o1,o2,o3,o4,o5,o6,o7,o8⟩,⟨p1,p2,p3,p4,p5⟩,r12⟩:=r;dsimp only at hp
        cases r7 with
        |none=>
         cases hp;unfold hA iz iE oB yX Ji dU jD at *;dsimp only[mG]at *;rw[←hen]at hev;refine av.intro GL az Tryz.func247 rfl (by rfl) (by kernel_rfl) (by show 2≤_;decide) rfl ?_;(conv=>whnf);refine bg [1000000002] 300 hlz ?_;(conv=>whnf);refine ag ⟨by decide,by decide⟩ ?_;(conv=>whnf);refine ag ⟨rfl,by decide,.inr rfl⟩ ?_;refine⟨_,aq hL,?_⟩;refine au (i:=0) (x:=.agg [.i .i64 vk,.i .i64 vn,.s vt,.sl 5 (br va),eP cS vc]) (rfl) ?_;(conv=>whnf);refine bC (show(!(vk==3))=false by rw[hk];rfl) ?_;(conv=>whnf);refine bB cY hn rfl ?_;(conv=>whnf);refine ag (.inl (by kernel_rfl)) ?_;(conv=>whnf);refine bC hg ?_;(conv=>whnf);refine bB cO hr rfl ?_;(conv=>whnf);refine ag ⟨Nat.succ_pos _,Nat.le_of_ble_eq_true (by kernel_rfl)⟩ ?_;(conv=>whnf);refine bB cO hr rfl ?_;(conv=>whnf);refine ag (.inl (by kernel_rfl)) ?_;(conv=>whnf);refine bB cY hn rfl ?_;(conv=>whnf);refine ag ⟨by decide,hb1⟩ ?_;(conv=>whnf);refine ag ⟨rfl,by decide,.inr rfl⟩ ?_;refine⟨_,aq hl,?_⟩;refine au (i:=1) (x:=.bG nS c) (by unfold qF;rw[List.getElem?_map,ha];rfl) ?_;(conv=>whnf);refine bg [1000000000] 400 hev ?_;(conv=>whnf);refine ag (.inl (by kernel_rfl)) ?_;(conv=>whnf);refine⟨.inl rfl,⟨s6,s6,s6,s6,s6,s6,s6,s6,s6,s6,s6,s6,s6,s6,s6,s6,trivial⟩⟩
        |some q=>
         obtain⟨g1,g2⟩:=q;dsimp only at hp
         cases hfl2:aJ g1 S.f.2 with
         |none=>rw[hfl2]at hp;cases hp
         |some fl=>
          rw[hfl2]at hp;dsimp only at hp
          cases hg3:Nat.ble g2 fl.length&&Nat.ble g2 2000000 with
          |false=>rw[hg3]at hp;cases hp
          |true=>
           rw[hg3]at hp;cases hp;rw[Bool.and_eq_true]at hg3;have hg4:=Nat.le_of_ble_eq_true hg3.1;have hg5:=Nat.le_of_ble_eq_true hg3.2;unfold hA iz iE oB yX Ji dU jD at *;dsimp only[mG]at *;rw[←hen]at hev;refine av.intro GL az Tryz.func247 rfl (by rfl) (by kernel_rfl) (by show 2≤_;decide) rfl ?_;(conv=>whnf);refine bg [1000000002] 300 hlz ?_;(conv=>whnf);refine ag ⟨by decide,by decide⟩ ?_;(conv=>whnf);refine ag ⟨rfl,by decide,.inr rfl⟩ ?_;refine⟨_,aq hL,?_⟩;refine au (i:=0) (x:=.agg [.i .i64 vk,.i .i64 vn,.s vt,.sl 5 (br va),eP cS vc]) (rfl) ?_;(conv=>whnf);refine bC (show(!(vk==3))=false by rw[hk];rfl) ?_;(conv=>whnf);refine bB cY hn rfl ?_;(conv=>whnf);refine ag (.inl (by kernel_rfl)) ?_;(conv=>whnf);refine bC hg ?_;(conv=>whnf);refine bB cO hr rfl ?_;(conv=>whnf);refine⟨rfl,_,aq hfl2,?_⟩;refine ag ⟨by unfold vL;rw[List.length_map];exact hg4,Nat.le_trans (Nat.mul_le_mul_right _ (show g2+1≤2000001 by omega)) (Nat.le_of_ble_eq_true (by kernel_rfl))⟩ ?_;(conv=>whnf);refine bB cO hr rfl ?_;(conv=>whnf);refine ag (.inl (by kernel_rfl)) ?_;(conv=>whnf);refine bB cY hn rfl ?_;(conv=>whnf);refine ag ⟨by decide,hb1⟩ ?_;(conv=>whnf);refine ag ⟨rfl,by decide,.inr rfl⟩ ?_;refine⟨_,aq hl,?_⟩;refine au (i:=1) (x:=.bG nS c) (by unfold qF;rw[List.getElem?_map,ha];rfl) ?_;(conv=>whnf);refine bg [1000000000] 400 hev ?_;(conv=>whnf);refine ag (.inl (by kernel_rfl)) ?_;(conv=>whnf);refine⟨.inl rfl,⟨s6,s6,s6,s6,s6,s6,s6,⟨rfl,rfl,rfl,rfl,rfl,?_⟩,s6,s6,s6,s6,s6,s6,s6,s6,trivial⟩⟩;exact xL _ _ _ fl ⟨some kn,f2,.blk kk 1,f4,f5⟩ _
end MN
end
section
open Go Go.AM Go.Proofs TK
set_option maxRecDepth 100000
namespace MN
theorem BT (K:Ks) (S:Ss) (zr:bf Rn) (k kn kk:Nat) (n:Nd) (r:Rn) (f:Fr) (u v:Vl) (L:List Vl) (R:Ss×Rn) (hr:aJ k zr.2=some r) (hfn:f.n=some kn) (hn:aJ kn K.n.2=some n) (hz:gE n=true) (hfv:f.vals=.blk kk 2) (hL:aJ kk S.v.2=some (u::v::L))
 (hF:(match v.kind==3 with|false=>some (dM S r cD)|true=>some (S,jF r v))=some R):
 av Tryz.prog 247 [.p (.bG rS k),.p (.agg (dU f))] (hA K S zr) (.cz []) (hA K R.1 (zr.1,aV k R.2 zr.2)):=by
 have hlz:=qg K.n kn n hn;rw[hz]at hlz;have hfl:=fun w=>cI zr S.o k w r hr;have hgv:=jg zr k v r hr;obtain⟨n1,n2,n3,n4,n5,n6,n7,n8,n9⟩:=n;obtain⟨f1,f2,f3,f4,f5⟩:=f;obtain⟨uk,un,ut,ua,uc⟩:=u;obtain⟨vk,vn,vt,va,vc⟩:=v;dsimp only at hfn hfv;subst hfn;subst hfv;dsimp only[Vl.kind,Vl.num]at hF;rw[eV]at hgv
 cases hk:vk==3 with
 |false=>
  rw[hk]at hF;cases hF;unfold hA iE oB dU at *;dsimp only[mG]at *;refine av.intro (ah Tryz.prog) az Tryz.func247 rfl (by rfl) (by kernel_rfl) (by show 2≤_;decide) rfl ?_;(conv=>whnf);refine bg [1000000002] 300 hlz ?_;(conv=>whnf);refine ag ⟨by decide,by decide⟩ ?_;(conv=>whnf);refine ag ⟨rfl,by decide,.inr rfl⟩ ?_;refine⟨_,aq hL,?_⟩;refine au (i:=1) (x:=.agg [.i .i64 vk,.i .i64 vn,.s vt,.sl 5 (br va),eP cS vc]) (rfl) ?_;(conv=>whnf);refine dm (show(!(vk==3))=true by rw[hk];rfl) ?_;(conv=>whnf);refine bg [1000000000,1000000001] 300 (hfl cD) ?_;(conv=>whnf);refine⟨.inl rfl,⟨s6,s6,s6,s6,s6,s6,s6,s6,s6,s6,s6,s6,s6,s6,s6,s6,trivial⟩⟩
 |true=>
  rw[hk]at hF;cases hF;unfold hA iE oB dU jF at *;dsimp only[mG]at *;refine av.intro (ah Tryz.prog) az Tryz.func247 rfl (by rfl) (by kernel_rfl) (by show 2≤_;decide) rfl ?_;(conv=>whnf);refine bg [1000000002] 300 hlz ?_;(conv=>whnf);refine ag ⟨by decide,by decide⟩ ?_;(conv=>whnf);refine ag ⟨rfl,by decide,.inr rfl⟩ ?_;refine⟨_,aq hL,?_⟩;refine au (i:=1) (x:=.agg [.i .i64 vk,.i .i64 vn,.s vt,.sl 5 (br va),eP cS vc]) (rfl) ?_;(conv=>whnf);refine bC (show(!(vk==3))=false by rw[hk];rfl) ?_;(conv=>whnf);refine ag (.inl (by kernel_rfl)) ?_;(conv=>whnf);refine bg [1000000000] 300 hgv ?_;(conv=>whnf);refine⟨.inl rfl,⟨s6,s6,s6,s6,s6,s6,s6,s6,s6,s6,s6,s6,s6,s6,s6,s6,trivial⟩⟩
theorem Fj {S:Ss} {w:FV} {x:Vl} {xs:List Vl} (hl:xS w=false) (hx:bJ S w=some (x::xs)):∃kk L,w=.blk kk (xs.length+1)∧aJ kk S.v.2=some (x::xs++L):=by
 cases w with
 |nil=>cases hx
 |mZ l=>cases hl
 |blk kk m=>
  unfold bJ at hx;dsimp only at hx
  cases hL:aJ kk S.v.2 with
  |none=>rw[hL]at hx;cases hx
  |some L=>
   rw[hL]at hx;dsimp only at hx
   cases hg:Nat.ble m L.length&&Nat.ble m 2000000 with
   |false=>rw[hg]at hx;cases hx
   |true=>
    rw[hg]at hx;rw[Bool.and_eq_true]at hg;have hg1:=Nat.le_of_ble_eq_true hg.1;have hx:L.take m=x::xs:=Option.some.inj hx
    have hm:m=xs.length+1:=by
     have:=congrArg List.length hx;rw[List.length_take,List.length_cons]at this;omega
    refine⟨kk,L.drop m,by rw[hm],?_⟩;rw[←hx,List.take_append_drop];exact hL
theorem zC (K:Ks) (S:Ss) (zr:bf Rn) (k:Nat) (r:Rn) (f:Fr) (R:Ss×Rn) (hr:aJ k zr.2=some r) (hl:xS f.vals=false) (hF:ja K S r f=some R):
 av Tryz.prog 247 [.p (.bG rS k),.p (.agg (dU f))] (hA K S zr) (.cz []) (hA K R.1 (zr.1,aV k R.2 zr.2)):=by
 unfold ja dy at hF
 cases hfn:f.n with
 |none=>rw[hfn]at hF;cases hF
 |some kn=>
  rw[hfn]at hF;dsimp only at hF
  cases hn:aJ kn K.n.2 with
  |none=>rw[hn]at hF;cases hF
  |some n=>
   rw[hn]at hF;dsimp only at hF
   cases hx:bJ S f.vals with
   |none=>rw[hx]at hF;cases hF
   |some xs=>
    rw[hx]at hF;dsimp only at hF
    cases hz:gE n with
    |false=>
     rw[hz]at hF;dsimp only at hF
     cases ho:dY n.text xs with
     |none=>rw[ho]at hF;cases hF
     |some Q=>
      rw[ho]at hF;dsimp only at hF;have h:=xI K S zr k kn n r f xs Q hr hfn hn hz hx hl ho
      cases hq:jU Q.2 ⟨#[]⟩ with
      |false=>rw[hq]at hF h;cases hF;exact h
      |true=>rw[hq]at hF h;cases hF;exact h
    |true=>
     rw[hz]at hF;dsimp only at hF;rcases xs with _|⟨u,_|⟨v,_|⟨w,xs⟩⟩⟩
     ·cases hF
     ·obtain⟨kk,L,h1,h2⟩:=Fj hl hx
      exact zQ K S zr k kn kk n r f u L R hr hfn hn hz h1 h2 hF
     ·obtain⟨kk,L,h1,h2⟩:=Fj hl hx
      exact BT K S zr k kn kk n r f u v L R hr hfn hn hz h1 h2 hF
     ·cases hF
end MN
end
section
open Go Go.AM Go.Proofs TK
set_option maxRecDepth 100000
namespace MN
def JU (R:Option Fn):AV:=.cz [.p (match R with|some f=>eFn f|none=>.agg [.sl 1 [],.fR]),.p (.b R.isSome)]
def DX (K:Ks) (zr:bf Rn):Heap:=[(1000000000,iz zr),(1000000001,sj K.mm),(1000000002,Mb K.mc),(1000000003,KH K.mf),(1000000004,K8 K.mt),(1000000005,MD K.im)]
theorem IZ (K:Ks) (zr:bf Rn) (k:Nat) (r:Rn) (m:Mk) (name:ByteArray) (xs:List Vl) (fn:Fn) (es:TM Fn) (hr:aJ k zr.2=some r) (hm:aJ r.maker K.mm.2=some m) (he:aJ m.funcs K.mf.2=some es) (hf:bh name es=some fn):
 av Tryz.prog 256 [.p (.bG rS k),.p (.s name),.p (.sl 5 (br xs))] (DX K zr) (JU (some fn)) (DX K zr):=by
 obtain⟨m1,m2,m3,m4,m5,m6⟩:=m;obtain⟨fnn,fb⟩:=fn;have hlk:=fun d=>bP eFn name d es;rw[hf]at hlk;unfold DX JU iz sj KH;refine av.intro (ah Tryz.prog) az Tryz.func256 rfl (by rfl) (by kernel_rfl) (by show 3≤_;decide) rfl ?_;(conv=>whnf);refine bB cO hr rfl ?_;(conv=>whnf);refine bB iU hm rfl ?_;(conv=>whnf);refine ag ⟨rfl,rfl⟩ ?_;refine⟨jw eFn es,aq (enc:=bX eFn) he,?_⟩;refine⟨_,_,hlk _,?_⟩;(conv=>whnf);refine⟨.inl rfl,⟨s6,s6,s6,s6,s6,s6,trivial⟩⟩
theorem LR {l:List Im} {j:Nat} {x:Im} (h:l[j]?=some x):(BC l)[j]?=some (.agg [.s x.trait,.s x.typ,.amp fM x.funcs]):=by
 unfold BC;rw[List.getElem?_map,h];rfl
theorem D2 (K:Ks) (zr:bf Rn) (k:Nat) (r:Rn) (m:Mk) (name:ByteArray) (xs:List Vl) (es:TM Fn) (ts:TM ByteArray) (hr:aJ k zr.2=some r) (hm:aJ r.maker K.mm.2=some m) (he:aJ m.funcs K.mf.2=some es) (hf:bh name es=none) (ht:aJ m.traits K.mt.2=some ts) (hft:bh name ts=none):
 av Tryz.prog 256 [.p (.bG rS k),.p (.s name),.p (.sl 5 (br xs))] (DX K zr) (JU none) (DX K zr):=by
 obtain⟨m1,m2,m3,m4,m5,m6⟩:=m;have hlk:=fun d=>bP eFn name d es;have hlt:=fun d=>bP .s name d ts;rw[hf]at hlk;rw[hft]at hlt;unfold DX JU iz sj KH K8;refine av.intro (ah Tryz.prog) az Tryz.func256 rfl (by rfl) (by kernel_rfl) (by show 3≤_;decide) rfl ?_;(conv=>whnf);refine bB cO hr rfl ?_;(conv=>whnf);refine bB iU hm rfl ?_;(conv=>whnf);refine ag ⟨rfl,rfl⟩ ?_;refine⟨jw eFn es,aq (enc:=bX eFn) he,?_⟩;refine⟨_,_,hlk _,?_⟩;(conv=>whnf);refine bB cO hr rfl ?_;(conv=>whnf);refine bB iU hm rfl ?_;(conv=>whnf);refine ag ⟨rfl,rfl⟩ ?_;refine⟨jw .s ts,aq (enc:=bX .s) ht,?_⟩;refine⟨_,_,hlt _,?_⟩;(conv=>whnf);refine⟨.inl rfl,⟨s6,s6,s6,s6,s6,s6,trivial⟩⟩
theorem Eu (K:Ks) (zr:bf Rn) (k:Nat) (r:Rn) (m:Mk) (name trait:ByteArray) (es:TM Fn) (ts:TM ByteArray) (hr:aJ k zr.2=some r) (hm:aJ r.maker K.mm.2=some m) (he:aJ m.funcs K.mf.2=some es) (hf:bh name es=none) (ht:aJ m.traits K.mt.2=some ts) (hft:bh name ts=some trait):
 av Tryz.prog 256 [.p (.bG rS k),.p (.s name),.p (.sl 5 (br []))] (DX K zr) (JU none) (DX K zr):=by
 obtain⟨m1,m2,m3,m4,m5,m6⟩:=m;have hlk:=fun d=>bP eFn name d es;have hlt:=fun d=>bP .s name d ts;rw[hf]at hlk;rw[hft]at hlt;unfold DX JU iz sj KH K8;refine av.intro (ah Tryz.prog) az Tryz.func256 rfl (by rfl) (by kernel_rfl) (by show 3≤_;decide) rfl ?_;(conv=>whnf);refine bB cO hr rfl ?_;(conv=>whnf);refine bB iU hm rfl ?_;(conv=>whnf);refine ag ⟨rfl,rfl⟩ ?_;refine⟨jw eFn es,aq (enc:=bX eFn) he,?_⟩;refine⟨_,_,hlk _,?_⟩;(conv=>whnf);refine bB cO hr rfl ?_;(conv=>whnf);refine bB iU hm rfl ?_;(conv=>whnf);refine ag ⟨rfl,rfl⟩ ?_;refine⟨jw .s ts,aq (enc:=bX .s) ht,?_⟩;refine⟨_,_,hlt _,?_⟩;(conv=>whnf);refine⟨.inl rfl,⟨s6,s6,s6,s6,s6,s6,trivial⟩⟩
theorem HF (K:Ks) (zr:bf Rn) (k:Nat) (r:Rn) (m:Mk) (name trait:ByteArray) (v:Vl) (xs:List Vl) (es:TM Fn) (ts:TM ByteArray) (R:Option Fn) (hr:aJ k zr.2=some r) (hm:aJ r.maker K.mm.2=some m) (he:aJ m.funcs K.mf.2=some es) (hf:bh name es=none) (ht:aJ m.traits K.mt.2=some ts) (hft:bh name ts=some trait)
 (hF:(match Dq K m v with|none=>none|some none=>some none|some (some t)=>match ux K m with|none=>none|some l=>qR K trait t name l)=some R):
 av Tryz.prog 256 [.p (.bG rS k),.p (.s name),.p (.sl 5 (br (v::xs)))] (DX K zr) (JU R) (DX K zr):=by
 obtain⟨m1,m2,m3,m4,m5,m6⟩:=m;have hlk:=fun d=>bP eFn name d es;have hlt:=fun d=>bP .s name d ts;rw[hf]at hlk;rw[hft]at hlt;obtain⟨vk,vn,vt,va,vc⟩:=v;unfold DX JU iz sj KH K8 Mb MD;unfold Dq at hF;dsimp only[Vl.kind,Vl.text]at hF;have hbs:=EP vk;refine av.pU (ah Tryz.prog) Tryz.func256 rfl (by rfl) (by show 3≤_;decide) rfl ?_;refine iW.cut (ah Tryz.prog) az (by kernel_rfl) 6 [0,1,6,10,12] [6,1000000000,1000000001,1000000002,1000000003,1000000004,1000000005] (fun typ:ByteArray=>[.p (.bG rS k),.p (.s name),.ptr 6 0,.p (.s trait),.p (.s typ)]) (fun _=>[.cells [.cq,.p .fR],.store 142 true rS zr.1 31 (cy cO zr.2),.store 84 true mS K.mm.1 6 (cy iU K.mm.2),.store 77 true cM K.mc.1 0 (cy (bX ze) K.mc.2),.store 78 true fM K.mf.1 0 (cy (bX eFn) K.mf.2),.store 79 true tM K.mt.1 0 (cy (bX .s) K.mt.2),.store 108 false iS K.im.1 3 (cy BC K.im.2)]) (fun typ=>(match ux K ⟨m1,m2,m3,m4,m5,m6⟩ with|none=>none|some l=>qR K trait typ name l)=some R) ?_ ?_
 rotate_left
 ·intro typ hF
  refine iW.fin (ah Tryz.prog) az (by kernel_rfl) ?_;(conv=>whnf)
  cases m5 with
  |none=>
   cases hF;refine bB cO hr rfl ?_;(conv=>whnf);refine bB iU hm rfl ?_;(conv=>whnf);refine bK (ah _) az (by kernel_rfl) 0 [6,92,93,94] [6,1000000000,1000000001,1000000002,1000000003,1000000004,1000000005] (fun j (_:Unit)=>[.ptr 6 0,.p .qZ,.p (.i .i64 0),.p (.i .i64 (ix j))]) (fun _ _=>[.cells [.cq,.p .fR],.store 142 true rS zr.1 31 (cy cO zr.2),.store 84 true mS K.mm.1 6 (cy iU K.mm.2),.store 77 true cM K.mc.1 0 (cy (bX ze) K.mc.2),.store 78 true fM K.mf.1 0 (cy (bX eFn) K.mf.2),.store 79 true tM K.mt.1 0 (cy (bX .s) K.mt.2),.store 108 false iS K.im.1 3 (cy BC K.im.2)]) (fun _ _=>True) () ⟨rfl,rfl,rfl,rfl⟩ trivial ?_;rintro j _ hj -;(conv=>whnf);refine aj ?_ ?_<;>intro h1<;>conv=>whnf
   ·have:j=0:=by omega
    subst this;cases h1
   ·refine⟨.inl rfl,⟨s6,s6,s6,s6,s6,s6,trivial⟩⟩
  |some q=>
   obtain⟨q1,q2⟩:=q;unfold ux at hF;dsimp only at hF
   cases hi:aJ q1 K.im.2 with
   |none=>rw[hi]at hF;cases hF
   |some il=>
    rw[hi]at hF;dsimp only at hF
    cases hg:Nat.ble q2 il.length&&Nat.ble q2 2000000 with
    |false=>rw[hg]at hF;cases hF
    |true=>
     rw[hg]at hF;dsimp only at hF;rw[Bool.and_eq_true]at hg;have hg1:=Nat.le_of_ble_eq_true hg.1;have hg2:=Nat.le_of_ble_eq_true hg.2;refine bB cO hr rfl ?_;(conv=>whnf);refine bB iU hm rfl ?_;(conv=>whnf);refine bK (ah _) az (by kernel_rfl) q2 [1,6,10,12,92,93,94] [6,1000000000,1000000001,1000000002,1000000003,1000000004,1000000005] (fun j (_:Unit)=>[.p (.s name),.ptr 6 0,.p (.s trait),.p (.s typ),.p (.jV iS q1 q2),.p (.i .i64 q2),.p (.i .i64 (ix j))]) (fun _ _=>[.cells [.cq,.p .fR],.store 142 true rS zr.1 31 (cy cO zr.2),.store 84 true mS K.mm.1 6 (cy iU K.mm.2),.store 77 true cM K.mc.1 0 (cy (bX ze) K.mc.2),.store 78 true fM K.mf.1 0 (cy (bX eFn) K.mf.2),.store 79 true tM K.mt.1 0 (cy (bX .s) K.mt.2),.store 108 false iS K.im.1 3 (cy BC K.im.2)]) (fun j _=>qR K trait typ name ((il.take q2).drop j)=some R) () ⟨rfl,rfl,rfl,rfl⟩ hF ?_;rintro j _ hj hQ;(conv=>whnf);refine aj ?_ ?_<;>intro h1<;>conv=>whnf
     ·have hj1:=cj h1 rfl hj (by omega)
      have hjl:(il.take q2)[j]?=il[j]?:=List.getElem?_take_of_lt hj1;obtain⟨a,ha⟩:∃a,il[j]?=some a:=⟨_,List.getElem?_eq_getElem (by omega)⟩
      rw[drop_cons (hjl.trans ha),qR]at hQ;have hji:(ix j).toNat=j:=by rw[nh (by omega)];simp
      refine ag ⟨by rw[nh (by omega)];omega,by rw[hji];exact hj1⟩ ?_;rw[hji];have hag:=LR ha;obtain⟨at_,ay,af⟩:=a;dsimp only at hQ hag;(conv=>whnf);refine ag ⟨rfl,by decide,.inr rfl⟩ ?_;refine⟨_,aq hi,?_⟩;refine au (i:=j) (x:=.agg [.s at_,.s ay,.amp fM af]) (hag) ?_;(conv=>whnf);refine aj ?_ ?_<;>intro g1<;>conv=>whnf
      ·rw[show jU at_ trait=true from g1,Bool.true_and]at hQ
       refine aj ?_ ?_<;>intro g2<;>conv=>whnf
       ·rw[show jU ay typ=true from g2]at hQ
        dsimp only at hQ
        cases hfm:aJ af K.mf.2 with
        |none=>rw[hfm]at hQ;cases hQ
        |some fs=>
         rw[hfm]at hQ;cases hQ;have hlf:=fun d=>bP eFn name d fs;refine ag ⟨rfl,rfl⟩ ?_;refine⟨jw eFn fs,aq (enc:=bX eFn) hfm,?_⟩
         cases hff:bh name fs with
         |none=>
          rw[hff]at hlf;refine⟨_,_,hlf _,?_⟩;(conv=>whnf);refine⟨.inl rfl,⟨s6,s6,s6,s6,s6,s6,trivial⟩⟩
         |some fn=>
          rw[hff]at hlf;obtain⟨fn1,fn2⟩:=fn;refine⟨_,_,hlf _,?_⟩;(conv=>whnf);refine⟨.inl rfl,⟨s6,s6,s6,s6,s6,s6,trivial⟩⟩
       ·rw[show jU ay typ=false from g2]at hQ
        exact⟨hj1,(),⟨rfl,rfl,rfl,rfl⟩,hQ⟩
      ·rw[show jU at_ trait=false from g1,Bool.false_and]at hQ
       exact⟨hj1,(),⟨rfl,rfl,rfl,rfl⟩,hQ⟩
     ·have h1:=cm h1 rfl hj (by omega)
      subst h1;rw[List.drop_eq_nil_of_le (by rw[List.length_take];omega)]at hQ;cases hQ;refine⟨.inl rfl,⟨s6,s6,s6,s6,s6,s6,trivial⟩⟩
 (conv=>whnf);refine bB cO hr rfl ?_;(conv=>whnf);refine bB iU hm rfl ?_;(conv=>whnf);refine ag ⟨rfl,rfl⟩ ?_;refine⟨jw eFn es,aq (enc:=bX eFn) he,?_⟩;refine⟨_,_,hlk _,?_⟩;(conv=>whnf);refine bB cO hr rfl ?_;(conv=>whnf);refine bB iU hm rfl ?_;(conv=>whnf);refine ag ⟨rfl,rfl⟩ ?_;refine⟨jw .s ts,aq (enc:=bX .s) ht,?_⟩;refine⟨_,_,hlt _,?_⟩;(conv=>whnf);refine au (i:=0) (x:=.agg [.i .i64 vk,.i .i64 vn,.s vt,.sl 5 (br va),eP cS vc]) rfl ?_;(conv=>whnf);refine iX hbs ?_;(conv=>whnf);refine au (i:=0) (x:=.agg [.i .i64 vk,.i .i64 vn,.s vt,.sl 5 (br va),eP cS vc]) rfl ?_;(conv=>whnf);refine aj ?_ ?_<;>intro h5<;>conv=>whnf
 ·rw[show(vk==5)=true from h5]at hF
  dsimp only at hF
  cases hmc:aJ m2 K.mc.2 with
  |none=>rw[hmc]at hF;cases hF
  |some cs=>
   rw[hmc]at hF;dsimp only at hF;have hlc:=fun d=>bP ze vt d cs;refine bB cO hr rfl ?_;(conv=>whnf);refine bB iU hm rfl ?_;(conv=>whnf);refine au (i:=0) (x:=.agg [.i .i64 vk,.i .i64 vn,.s vt,.sl 5 (br va),eP cS vc]) rfl ?_;(conv=>whnf);refine ag ⟨rfl,rfl⟩ ?_;refine⟨jw ze cs,aq (enc:=bX ze) hmc,?_⟩
   cases hc:bh vt cs with
   |none=>
    rw[hc]at hF hlc;cases hF;refine⟨_,_,hlc _,?_⟩;(conv=>whnf);refine ag (.inl (by kernel_rfl)) ?_;(conv=>whnf);refine⟨.inl rfl,⟨s6,s6,s6,s6,s6,s6,trivial⟩⟩
   |some c=>
    rw[hc]at hF hlc;obtain⟨cd,ca⟩:=c;dsimp only at hF;refine⟨_,_,hlc _,?_⟩;(conv=>whnf);refine ag (.inl (by kernel_rfl)) ?_;(conv=>whnf);exact⟨cd,⟨rfl,rfl,rfl,rfl⟩,hF⟩
 ·rw[show(vk==5)=false from h5]at hF
  dsimp only at hF;refine aj ?_ ?_<;>intro h6<;>conv=>whnf
  ·rw[show jU (oN vk) ⟨#[]⟩=true from h6]at hF
   cases hF;refine⟨.inl rfl,⟨s6,s6,s6,s6,s6,s6,trivial⟩⟩
  ·rw[show jU (oN vk) ⟨#[]⟩=false from h6]at hF
   dsimp only at hF;exact⟨oN vk,⟨rfl,rfl,rfl,rfl⟩,hF⟩
end MN
end
section
open Go Go.AM Go.Proofs TK
set_option maxRecDepth 100000
namespace MN
noncomputable def PN:Nat→Option TI:=hint (jJ Tryz.prog) 218 [1000032]
theorem GI:bw Tryz.prog PN:=(ah Tryz.prog).hint _ _
theorem zL (K:Ks) (z0:bf Sc) (c:Nat) (nd:Nd) (v:Vl) (hc:aJ c K.n.2=some nd) (hl:nd.free.length≤2000000) (R:bf Sc×Option Nat) (hF:zw v.text v.args nd.free 0 0 (z0,none)=some R):
 av Tryz.prog 257 [.p (.bG nS c),.p (eV v)] [(1000000000,iE K.n),(1000000001,zh sS z0)] (.p (eP sS R.2)) [(1000000000,iE K.n),(1000000001,zh sS R.1)]:=by
 unfold zh iE;obtain⟨vk,vn,vt,va,vc⟩:=v;obtain⟨n1,n2,n3,n4,n5,n6,n7,n8,n9⟩:=nd;dsimp only[Vl.text,Vl.args]at hF hl;rw[eV];refine av.intro GI az Tryz.func257 rfl (by rfl) (by kernel_rfl) (by show 2≤_;decide) rfl ?_;(conv=>whnf);refine ag ⟨rfl,by decide,.inl rfl⟩ ?_;refine⟨_,aq hc,?_⟩;refine au (i:=0) rfl ?_;(conv=>whnf);refine bK GI az (by kernel_rfl) n9.length [3,5,6,12,13,14] [3,1000000000,1000000001] (fun j (z:(bf Sc×Option Nat)×Nat)=>[.ptr 3 0,.p (eP sS z.1.2),.p (.i .i64 (z.2:Int)),.p (.sl 1 (n9.map .s)),.p (.i .i64 (n9.map PV.s).length),.p (.i .i64 (ix j))]) (fun _ z=>[.cells (ij [.i .i64 vk,.i .i64 vn,.s vt,.sl 5 (br va),eP cS vc]),.store 160 true nS K.n.1 9 (cy cY K.n.2),.store 218 true sS z.1.1.1 7 (cy (Om sS) z.1.1.2)]) (fun j z=>z.2≤j∧zw vt va (n9.drop j) j z.2 z.1=some R) ((z0,none),0) ⟨rfl,rfl,rfl,rfl⟩ ⟨Nat.le_refl _,hF⟩ ?_;rintro j ⟨⟨⟨nx,M⟩,s⟩,k⟩ hj ⟨hk,hQ⟩;dsimp only at hk hQ;(conv=>whnf);refine aj ?_ ?_<;>intro h1<;>conv=>whnf
 ·have hj1:=cj h1 (by simp) hj (by omega)
  obtain⟨a,ha1⟩:∃a,n9[j]?=some a:=⟨_,List.getElem?_eq_getElem hj1⟩
  rw[drop_cons ha1,zw]at hQ
  cases hb:Nat.blt j vt.size with
  |false=>rw[hb]at hQ;cases hQ
  |true=>
   rw[hb]at hQ;dsimp only at hQ;rw[Nat.blt_eq]at hb;have hji:ix j=(j:Int):=nh (by omega);have hjn:(ix j).toNat=j:=by rw[hji];simp
   refine bM (x:=.s a) (by simp[ha1]) (by omega) ?_;(conv=>whnf);refine⟨_,⟨by rw[hji];omega,by rw[hji];omega⟩,rfl,?_⟩;rw[hjn];(conv=>whnf);refine aj ?_ ?_<;>intro h2<;>conv=>whnf
   ·rw[show((((vt[j]?).getD 0).toNat:Int)==49)=true from h2]at hQ
    dsimp only at hQ
    cases hv:va[k]? with
    |none=>rw[hv]at hQ;cases hQ
    |some v=>
     rw[hv]at hQ;dsimp only at hQ;obtain⟨wk,wn,wt,wa,wc⟩:=v;refine au (i:=k) (x:=.agg [.i .i64 wk,.i .i64 wn,.s wt,.sl 5 (br wa),eP cS wc]) (by rw[aQ];simp[hv,eV]) ?_;have hkw:IntKind.i64.wrap ((k:Int)+1)=((k+1:Nat):Int):=by rw[wrap64 (by omega) (by omega)];rfl
     cases s with
     |none=>
      (conv=>whnf);rw[hkw];exact⟨hj1,(((nx+1,(nx,⟨a,.mk wk wn wt wa wc,none⟩)::M),some nx),k+1),⟨rfl,rfl,rfl,rfl⟩,by dsimp only;omega,hQ⟩
     |some s=>
      (conv=>whnf);rw[hkw];exact⟨hj1,(((nx+1,(nx,⟨a,.mk wk wn wt wa wc,(some s)⟩)::M),some nx),k+1),⟨rfl,rfl,rfl,rfl⟩,by dsimp only;omega,hQ⟩
   ·rw[show((((vt[j]?).getD 0).toNat:Int)==49)=false from h2]at hQ
    exact⟨hj1,(((nx,M),s),k),⟨rfl,rfl,rfl,rfl⟩,by dsimp only;omega,hQ⟩
 ·have h1:=cm h1 (by simp) hj (by omega)
  subst h1;rw[List.drop_length]at hQ;cases hQ;refine⟨.inl rfl,⟨s6,s6,trivial⟩⟩
end MN
end
