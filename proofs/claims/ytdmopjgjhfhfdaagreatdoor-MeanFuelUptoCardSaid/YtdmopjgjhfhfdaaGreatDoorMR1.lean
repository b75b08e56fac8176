/- Contracts, and the law, for every input. No conditions. -/
import Derived.Test.YtdmopjgjhfhfdaaGreatDoorMNS
import Derived.Test.YtdmopjgjhfhfdaaGreatDoorAMRngD
set_option linter.all false
section
open Go Go.AM Go.Proofs TK
set_option maxRecDepth 100000
namespace MN
theorem N8 {op:ByteArray} {r:AV} {kk n:Nat} {xs:List Vl} (z:bf (List Vl)) (hk:aK kk z.2=some xs) (hn:n≤xs.length)
 (h:av Tryz.prog 255 [.p (.s op),.p (.sl 5 (bu (xs.take n)))] [(1000000000,oG (z.1,gW kk z.2))] r [(1000000000,oG (z.1,gW kk z.2))]):
 av Tryz.prog 255 [.p (.s op),.p (.jR vS kk n)] [(1000000000,oG z)] r [(1000000000,oG (z.1,gW kk z.2))]:=by
 have hlen:(bu xs).length=xs.length:=by rw[aR];simp
 refine av.freeze (l:=1000000000) (T:=139) (one:=false) (sp:=vS) (nx:=z.1) (sz:=5) (k:=kk) (n:=n) (M:=cC bu z.2) (xs:=bu xs) h rfl rfl ?_ (aq hk) (by rw[hlen];exact hn) (by decide) rfl ?_
 ·intro x
  unfold oG;rw[F8]
  cases hb:Nat.beq 1000000000 x with
  |true=>simp only[aG,hb]
  |false=>simp only[aG,hb]
 ·intro j a b h1 h2
  rcases j with _|_|j
  ·cases h1;cases h2;exact .inl ⟨rfl,fun _ _ q=>by cases q⟩
  ·cases h1;cases h2
   refine .inr ⟨_,_,rfl,rfl,?_⟩;rw[show bu (xs.take n)=(bu xs).take n by rw[aR,aR,List.map_take]];exact .jR
  ·cases h1
noncomputable def Qc:Nat→Option TI:=hint (jQ Tryz.prog) 133 [1000025]
theorem Hp:bz Tryz.prog Qc:=(ah Tryz.prog).hint _ _
theorem Oj {op:ByteArray} {r:AV} (z:bf (List Vl))
 (h:av Tryz.prog 255 [.p (.s op),.p (.sl 5 (bu []))] [(1000000000,oG z)] r [(1000000000,oG z)]):
 av Tryz.prog 255 [.p (.s op),.p .sj] [(1000000000,oG z)] r [(1000000000,oG z)]:=by
 refine KC h rfl ?_;intro j a b h1 h2;rcases j with _|_|j
 ·cases h1;cases h2;exact .inl rfl
 ·cases h1;cases h2
  refine .inr ⟨_,_,rfl,rfl,fun M v hr=>?_⟩
  cases hr;exact .nil 5
 ·cases h1
theorem xF (K:Ks) (S:Ss) (zr:bf Rn) (k kn:Nat) (n:Nd) (r:Rn) (f:Fr) (xs:List Vl) (R:Vl×ByteArray) (hr:aK k zr.2=some r) (hfn:f.n=some kn) (hn:aK kn K.n.2=some n) (hz:gH n=false) (hx:bJ S f.vals=some xs) (hl:yu f.vals=false) (hF:dW n.text xs=some R):
 av Tryz.prog 247 [.p (.bH rS k),.p (.agg (dX f))] (hA K S zr) (.cA []) (match jV R.2 ⟨#[]⟩ with|false=>hA K (dQ (dS S f.vals) r R.2).1 (zr.1,aW k (dQ (dS S f.vals) r R.2).2 zr.2)|true=>hA K (dS S f.vals) (zr.1,aW k (jS r R.1) zr.2)):=by
 have hlz:=qD K.n kn n hn;rw[hz]at hlz;have hfl:=fun w=>cJ zr S.o k w r hr;have hgv:=jq zr k R.1 r hr;obtain⟨n1,n2,n3,n4,n5,n6,n7,n8,n9⟩:=n;obtain⟨f1,f2,f3,f4,f5⟩:=f;dsimp only at hfn hx hl hF;subst hfn;obtain⟨⟨u1,u2,u3,u4,u5⟩,w⟩:=R;rw[eV]at hgv
 cases f3 with
 |nA l=>cases hl
 |nil=>
  cases hx;have hop:=Oj S.v (tf S.v n3 [] _ (by simp) hF);rw[eV]at hop;unfold hA iH dX jS dS dQ at *;dsimp only[mJ]at *
  cases hw:jV w ⟨#[]⟩ with
  |false=>
   dsimp only;refine av.intro (ah Tryz.prog) aC Tryz.func247 rfl (by rfl) (by kernel_rfl) (by show 2≤_;decide) rfl ?_;(conv=>whnf);refine bh [1000000002] 300 hlz ?_;(conv=>whnf);refine bC dc hn rfl ?_;(conv=>whnf);refine bh [1000000006] 400 hop ?_;(conv=>whnf);refine ag (.inl (by kernel_rfl)) ?_;(conv=>whnf);refine dw (show(!(jV w ⟨#[]⟩))=true by rw[hw];rfl) ?_;(conv=>whnf);refine bh [1000000000,1000000001] 300 (hfl w) ?_;(conv=>whnf);refine⟨.inl rfl,⟨s6,s6,s6,s6,s6,s6,s6,s6,s6,s6,s6,s6,s6,s6,s6,s6,trivial⟩⟩
  |true=>
   dsimp only;refine av.intro (ah Tryz.prog) aC Tryz.func247 rfl (by rfl) (by kernel_rfl) (by show 2≤_;decide) rfl ?_;(conv=>whnf);refine bh [1000000002] 300 hlz ?_;(conv=>whnf);refine bC dc hn rfl ?_;(conv=>whnf);refine bh [1000000006] 400 hop ?_;(conv=>whnf);refine ag (.inl (by kernel_rfl)) ?_;(conv=>whnf);refine bD (show(!(jV w ⟨#[]⟩))=false by rw[hw];rfl) ?_;(conv=>whnf);refine bh [1000000000] 300 hgv ?_;(conv=>whnf);refine⟨.inl rfl,⟨s6,s6,s6,s6,s6,s6,s6,s6,s6,s6,s6,s6,s6,s6,s6,s6,trivial⟩⟩
 |blk kk m=>
  unfold bJ at hx;dsimp only at hx
  cases hL:aK kk S.v.2 with
  |none=>rw[hL]at hx;cases hx
  |some L=>
   rw[hL]at hx;dsimp only at hx
   cases hg:Nat.ble m L.length&&Nat.ble m 2000000 with
   |false=>rw[hg]at hx;cases hx
   |true=>
    rw[hg]at hx;cases hx;rw[Bool.and_eq_true]at hg;have hg1:=Nat.le_of_ble_eq_true hg.1;have hg2:=Nat.le_of_ble_eq_true hg.2;have hop:=N8 S.v hL hg1 (tf (S.v.1,gW kk S.v.2) n3 (L.take m) _ (by rw[List.length_take];omega) hF);rw[eV]at hop;unfold hA iH dX jS dS dQ at *;dsimp only[mJ]at *
    cases hw:jV w ⟨#[]⟩ with
    |false=>
     dsimp only;refine av.intro (ah Tryz.prog) aC Tryz.func247 rfl (by rfl) (by kernel_rfl) (by show 2≤_;decide) rfl ?_;(conv=>whnf);refine bh [1000000002] 300 hlz ?_;(conv=>whnf);refine bC dc hn rfl ?_;(conv=>whnf);refine bh [1000000006] 400 hop ?_;(conv=>whnf);refine ag (.inl (by kernel_rfl)) ?_;(conv=>whnf);refine dw (show(!(jV w ⟨#[]⟩))=true by rw[hw];rfl) ?_;(conv=>whnf);refine bh [1000000000,1000000001] 300 (hfl w) ?_;(conv=>whnf);refine⟨.inl rfl,⟨s6,s6,s6,s6,s6,s6,s6,s6,s6,s6,s6,s6,s6,s6,s6,s6,trivial⟩⟩
    |true=>
     dsimp only;refine av.intro (ah Tryz.prog) aC Tryz.func247 rfl (by rfl) (by kernel_rfl) (by show 2≤_;decide) rfl ?_;(conv=>whnf);refine bh [1000000002] 300 hlz ?_;(conv=>whnf);refine bC dc hn rfl ?_;(conv=>whnf);refine bh [1000000006] 400 hop ?_;(conv=>whnf);refine ag (.inl (by kernel_rfl)) ?_;(conv=>whnf);refine bD (show(!(jV w ⟨#[]⟩))=false by rw[hw];rfl) ?_;(conv=>whnf);refine bh [1000000000] 300 hgv ?_;(conv=>whnf);refine⟨.inl rfl,⟨s6,s6,s6,s6,s6,s6,s6,s6,s6,s6,s6,s6,s6,s6,s6,s6,trivial⟩⟩
end MN
end
section
open Go Go.AM Go.Proofs TK
set_option maxRecDepth 100000
namespace MN
theorem yT (nx g1 g2:Nat) (fl:List Fr) (f:Fr) (M:List (Nat×List Fr)):(nx,(vN fl).take g2++[.agg (dX f)])::mH g1 (cC vN M)=cC vN ((nx,fl.take g2++[f])::gW g1 M):=by
 rw[cC,uo];have:vN (fl.take g2++[f])=(vN fl).take g2++[.agg (dX f)]:=by unfold vN;simp[List.map_take]
 rw[this]
theorem zW (K:Ks) (S:Ss) (zr:bf Rn) (k kn kk:Nat) (n:Nd) (r:Rn) (f:Fr) (v:Vl) (L:List Vl) (R:Ss×Rn) (hr:aK k zr.2=some r) (hfn:f.n=some kn) (hn:aK kn K.n.2=some n) (hz:gH n=true) (hfv:f.vals=.blk kk 1) (hL:aK kk S.v.2=some (v::L))
 (hF:(match v.kind==3 with|false=>some (dQ S r cG)|true=>match !((!(v.num==0))==jV n.text Fc) with|true=>some (S,jS r v)|false=>ga K S r f n 1)=some R):
 av Tryz.prog 247 [.p (.bH rS k),.p (.agg (dX f))] (hA K S zr) (.cA []) (hA K R.1 (zr.1,aW k R.2 zr.2)):=by
 have hlz:=qD K.n kn n hn;rw[hz]at hlz;have hfl:=fun w=>cJ zr S.o k w r hr;have hgv:=jq zr k v r hr;obtain⟨n1,n2,n3,n4,n5,n6,n7,n8,n9⟩:=n;obtain⟨f1,f2,f3,f4,f5⟩:=f;obtain⟨vk,vn,vt,va,vc⟩:=v;dsimp only at hfn hfv;subst hfn;subst hfv;dsimp only[Vl.kind,Vl.num]at hF;rw[eV]at hgv
 cases hk:vk==3 with
 |false=>
  rw[hk]at hF;cases hF;unfold hA iH oG dX at *;dsimp only[mJ]at *;refine av.intro (ah Tryz.prog) aC Tryz.func247 rfl (by rfl) (by kernel_rfl) (by show 2≤_;decide) rfl ?_;(conv=>whnf);refine bh [1000000002] 300 hlz ?_;(conv=>whnf);refine ag ⟨by decide,by decide⟩ ?_;(conv=>whnf);refine ag ⟨rfl,by decide,.inr rfl⟩ ?_;refine⟨_,aq hL,?_⟩;refine au (i:=0) (x:=.agg [.i .i64 vk,.i .i64 vn,.s vt,.sl 5 (bu va),eP cS vc]) (rfl) ?_;(conv=>whnf);refine dw (show(!(vk==3))=true by rw[hk];rfl) ?_;(conv=>whnf);refine bh [1000000000,1000000001] 300 (hfl cG) ?_;(conv=>whnf);refine⟨.inl rfl,⟨s6,s6,s6,s6,s6,s6,s6,s6,s6,s6,s6,s6,s6,s6,s6,s6,trivial⟩⟩
 |true=>
  rw[hk]at hF;dsimp only at hF
  cases hg:!((!(vn==0))==jV n3 Fc) with
  |true=>
   rw[hg]at hF;cases hF;unfold hA iH oG dX jS at *;dsimp only[mJ]at *;refine av.intro (ah Tryz.prog) aC Tryz.func247 rfl (by rfl) (by kernel_rfl) (by show 2≤_;decide) rfl ?_;(conv=>whnf);refine bh [1000000002] 300 hlz ?_;(conv=>whnf);refine ag ⟨by decide,by decide⟩ ?_;(conv=>whnf);refine ag ⟨rfl,by decide,.inr rfl⟩ ?_;refine⟨_,aq hL,?_⟩;refine au (i:=0) (x:=.agg [.i .i64 vk,.i .i64 vn,.s vt,.sl 5 (bu va),eP cS vc]) (rfl) ?_;(conv=>whnf);refine bD (show(!(vk==3))=false by rw[hk];rfl) ?_;(conv=>whnf);refine bC dc hn rfl ?_;(conv=>whnf);refine ag (.inl (by kernel_rfl)) ?_;(conv=>whnf);refine dw hg ?_;(conv=>whnf);refine bh [1000000000] 300 hgv ?_;(conv=>whnf);refine⟨.inl rfl,⟨s6,s6,s6,s6,s6,s6,s6,s6,s6,s6,s6,s6,s6,s6,s6,s6,trivial⟩⟩
  |false=>
   rw[hg]at hF;dsimp only at hF;unfold ga at hF
   cases hp:tQ S r ⟨some kn,f2,.blk kk 1,f4,f5⟩ with
   |none=>rw[hp]at hF;cases hF
   |some P=>
    rw[hp]at hF;obtain⟨S2,r2⟩:=P;dsimp only at hF
    cases ha:ja K.a ⟨n1,n2,n3,n4,n5,n6,n7,n8,n9⟩ 1 with
    |none=>rw[ha]at hF;cases hF
    |some c=>
     rw[ha]at hF;cases hF;have hev:=jr (zr.1,aW k r2 zr.2) k c ⟨some kn,f2,.blk kk 1,f4,f5⟩ f2 r2 (cx hr);rw[cT]at hev;have hen:∀M,sset k (cP r2) (cC cP M)=cC cP (aW k r2 M):=fun M=>bM cP k _ M;unfold tQ at hp;unfold ja at ha;dsimp only at ha
     cases n5 with
     |none=>cases ha
     |some q=>
      obtain⟨q1,q2⟩:=q;dsimp only at ha
      cases hb:Nat.blt 1 q2 with
      |false=>rw[hb]at ha;cases ha
      |true=>
       rw[hb]at ha;dsimp only at ha
       cases hl:aK q1 K.a.2 with
       |none=>rw[hl]at ha;cases ha
       |some al=>
        rw[hl]at ha;dsimp only at ha;have hb1:1<q2:=by rw[Nat.blt_eq]at hb;exact hb
        obtain⟨r1,r2',r3,r4,r5,r6,r7,⟨c1,c2,c3,c4,c5⟩,⟨wk,wn,wt,wa,wc⟩,⟨o1,o2,o3,o4,o5,o6,o7,o8⟩,⟨p1,p2,p3,p4,p5⟩,r12⟩:=r;dsimp only at hp
        cases r7 with
        |none=>
         cases hp;unfold hA iE iH oG xS J9 dX jU at *;dsimp only[mJ]at *;rw[←hen]at hev;refine av.intro Hp aC Tryz.func247 rfl (by rfl) (by kernel_rfl) (by show 2≤_;decide) rfl ?_;(conv=>whnf);refine bh [1000000002] 300 hlz ?_;(conv=>whnf);refine ag ⟨by decide,by decide⟩ ?_;(conv=>whnf);refine ag ⟨rfl,by decide,.inr rfl⟩ ?_;refine⟨_,aq hL,?_⟩;refine au (i:=0) (x:=.agg [.i .i64 vk,.i .i64 vn,.s vt,.sl 5 (bu va),eP cS vc]) (rfl) ?_;(conv=>whnf);refine bD (show(!(vk==3))=false by rw[hk];rfl) ?_;(conv=>whnf);refine bC dc hn rfl ?_;(conv=>whnf);refine ag (.inl (by kernel_rfl)) ?_;(conv=>whnf);refine bD hg ?_;(conv=>whnf);refine bC cP hr rfl ?_;(conv=>whnf);refine ag ⟨Nat.succ_pos _,Nat.le_of_ble_eq_true (by kernel_rfl)⟩ ?_;(conv=>whnf);refine bC cP hr rfl ?_;(conv=>whnf);refine ag (.inl (by kernel_rfl)) ?_;(conv=>whnf);refine bC dc hn rfl ?_;(conv=>whnf);refine ag ⟨by decide,hb1⟩ ?_;(conv=>whnf);refine ag ⟨rfl,by decide,.inr rfl⟩ ?_;refine⟨_,aq hl,?_⟩;refine au (i:=1) (x:=.bH nS c) (by unfold ry;rw[List.getElem?_map,ha];rfl) ?_;(conv=>whnf);refine bh [1000000000] 400 hev ?_;(conv=>whnf);refine ag (.inl (by kernel_rfl)) ?_;(conv=>whnf);refine⟨.inl rfl,⟨s6,s6,s6,s6,s6,s6,s6,s6,s6,s6,s6,s6,s6,s6,s6,s6,trivial⟩⟩
        |some q=>
         obtain⟨g1,g2⟩:=q;dsimp only at hp
         cases hfl2:aK g1 S.f.2 with
         |none=>rw[hfl2]at hp;cases hp
         |some fl=>
          rw[hfl2]at hp;dsimp only at hp
          cases hg3:Nat.ble g2 fl.length&&Nat.ble g2 2000000 with
          |false=>rw[hg3]at hp;cases hp
          |true=>
           rw[hg3]at hp;cases hp;rw[Bool.and_eq_true]at hg3;have hg4:=Nat.le_of_ble_eq_true hg3.1;have hg5:=Nat.le_of_ble_eq_true hg3.2;unfold hA iE iH oG xS J9 dX jU at *;dsimp only[mJ]at *;rw[←hen]at hev;refine av.intro Hp aC Tryz.func247 rfl (by rfl) (by kernel_rfl) (by show 2≤_;decide) rfl ?_;(conv=>whnf);refine bh [1000000002] 300 hlz ?_;(conv=>whnf);refine ag ⟨by decide,by decide⟩ ?_;(conv=>whnf);refine ag ⟨rfl,by decide,.inr rfl⟩ ?_;refine⟨_,aq hL,?_⟩;refine au (i:=0) (x:=.agg [.i .i64 vk,.i .i64 vn,.s vt,.sl 5 (bu va),eP cS vc]) (rfl) ?_;(conv=>whnf);refine bD (show(!(vk==3))=false by rw[hk];rfl) ?_;(conv=>whnf);refine bC dc hn rfl ?_;(conv=>whnf);refine ag (.inl (by kernel_rfl)) ?_;(conv=>whnf);refine bD hg ?_;(conv=>whnf);refine bC cP hr rfl ?_;(conv=>whnf);refine⟨rfl,_,aq hfl2,?_⟩;refine ag ⟨by unfold vN;rw[List.length_map];exact hg4,Nat.le_trans (Nat.mul_le_mul_right _ (show g2+1≤2000001 by omega)) (Nat.le_of_ble_eq_true (by kernel_rfl))⟩ ?_;(conv=>whnf);refine bC cP hr rfl ?_;(conv=>whnf);refine ag (.inl (by kernel_rfl)) ?_;(conv=>whnf);refine bC dc hn rfl ?_;(conv=>whnf);refine ag ⟨by decide,hb1⟩ ?_;(conv=>whnf);refine ag ⟨rfl,by decide,.inr rfl⟩ ?_;refine⟨_,aq hl,?_⟩;refine au (i:=1) (x:=.bH nS c) (by unfold ry;rw[List.getElem?_map,ha];rfl) ?_;(conv=>whnf);refine bh [1000000000] 400 hev ?_;(conv=>whnf);refine ag (.inl (by kernel_rfl)) ?_;(conv=>whnf);refine⟨.inl rfl,⟨s6,s6,s6,s6,s6,s6,s6,⟨rfl,rfl,rfl,rfl,rfl,?_⟩,s6,s6,s6,s6,s6,s6,s6,s6,trivial⟩⟩;exact yT _ _ _ fl ⟨some kn,f2,.blk kk 1,f4,f5⟩ _
end MN
end
section
open Go Go.AM Go.Proofs TK
set_option maxRecDepth 100000
namespace MN
theorem A3 (K:Ks) (S:Ss) (zr:bf Rn) (k kn kk:Nat) (n:Nd) (r:Rn) (f:Fr) (u v:Vl) (L:List Vl) (R:Ss×Rn) (hr:aK k zr.2=some r) (hfn:f.n=some kn) (hn:aK kn K.n.2=some n) (hz:gH n=true) (hfv:f.vals=.blk kk 2) (hL:aK kk S.v.2=some (u::v::L))
 (hF:(match v.kind==3 with|false=>some (dQ S r cG)|true=>some (S,jS r v))=some R):
 av Tryz.prog 247 [.p (.bH rS k),.p (.agg (dX f))] (hA K S zr) (.cA []) (hA K R.1 (zr.1,aW k R.2 zr.2)):=by
 have hlz:=qD K.n kn n hn;rw[hz]at hlz;have hfl:=fun w=>cJ zr S.o k w r hr;have hgv:=jq zr k v r hr;obtain⟨n1,n2,n3,n4,n5,n6,n7,n8,n9⟩:=n;obtain⟨f1,f2,f3,f4,f5⟩:=f;obtain⟨uk,un,ut,ua,uc⟩:=u;obtain⟨vk,vn,vt,va,vc⟩:=v;dsimp only at hfn hfv;subst hfn;subst hfv;dsimp only[Vl.kind,Vl.num]at hF;rw[eV]at hgv
 cases hk:vk==3 with
 |false=>
  rw[hk]at hF;cases hF;unfold hA iH oG dX at *;dsimp only[mJ]at *;refine av.intro (ah Tryz.prog) aC Tryz.func247 rfl (by rfl) (by kernel_rfl) (by show 2≤_;decide) rfl ?_;(conv=>whnf);refine bh [1000000002] 300 hlz ?_;(conv=>whnf);refine ag ⟨by decide,by decide⟩ ?_;(conv=>whnf);refine ag ⟨rfl,by decide,.inr rfl⟩ ?_;refine⟨_,aq hL,?_⟩;refine au (i:=1) (x:=.agg [.i .i64 vk,.i .i64 vn,.s vt,.sl 5 (bu va),eP cS vc]) (rfl) ?_;(conv=>whnf);refine dw (show(!(vk==3))=true by rw[hk];rfl) ?_;(conv=>whnf);refine bh [1000000000,1000000001] 300 (hfl cG) ?_;(conv=>whnf);refine⟨.inl rfl,⟨s6,s6,s6,s6,s6,s6,s6,s6,s6,s6,s6,s6,s6,s6,s6,s6,trivial⟩⟩
 |true=>
  rw[hk]at hF;cases hF;unfold hA iH oG dX jS at *;dsimp only[mJ]at *;refine av.intro (ah Tryz.prog) aC Tryz.func247 rfl (by rfl) (by kernel_rfl) (by show 2≤_;decide) rfl ?_;(conv=>whnf);refine bh [1000000002] 300 hlz ?_;(conv=>whnf);refine ag ⟨by decide,by decide⟩ ?_;(conv=>whnf);refine ag ⟨rfl,by decide,.inr rfl⟩ ?_;refine⟨_,aq hL,?_⟩;refine au (i:=1) (x:=.agg [.i .i64 vk,.i .i64 vn,.s vt,.sl 5 (bu va),eP cS vc]) (rfl) ?_;(conv=>whnf);refine bD (show(!(vk==3))=false by rw[hk];rfl) ?_;(conv=>whnf);refine ag (.inl (by kernel_rfl)) ?_;(conv=>whnf);refine bh [1000000000] 300 hgv ?_;(conv=>whnf);refine⟨.inl rfl,⟨s6,s6,s6,s6,s6,s6,s6,s6,s6,s6,s6,s6,s6,s6,s6,s6,trivial⟩⟩
theorem Fw {S:Ss} {w:FV} {x:Vl} {xs:List Vl} (hl:yu w=false) (hx:bJ S w=some (x::xs)):∃kk L,w=.blk kk (xs.length+1)∧aK kk S.v.2=some (x::xs++L):=by
 cases w with
 |nil=>cases hx
 |nA l=>cases hl
 |blk kk m=>
  unfold bJ at hx;dsimp only at hx
  cases hL:aK kk S.v.2 with
  |none=>rw[hL]at hx;cases hx
  |some L=>
   rw[hL]at hx;dsimp only at hx
   cases hg:Nat.ble m L.length&&Nat.ble m 2000000 with
   |false=>rw[hg]at hx;cases hx
   |true=>
    rw[hg]at hx;rw[Bool.and_eq_true]at hg;have hg1:=Nat.le_of_ble_eq_true hg.1;have hx:L.take m=x::xs:=Option.some.inj hx
    have hm:m=xs.length+1:=by
     have:=congrArg List.length hx;rw[List.length_take,List.length_cons]at this;omega
    refine⟨kk,L.drop m,by rw[hm],?_⟩;rw[←hx,List.take_append_drop];exact hL
theorem zP (K:Ks) (S:Ss) (zr:bf Rn) (k:Nat) (r:Rn) (f:Fr) (R:Ss×Rn) (hr:aK k zr.2=some r) (hl:yu f.vals=false) (hF:jn K S r f=some R):
 av Tryz.prog 247 [.p (.bH rS k),.p (.agg (dX f))] (hA K S zr) (.cA []) (hA K R.1 (zr.1,aW k R.2 zr.2)):=by
 unfold jn dA at hF
 cases hfn:f.n with
 |none=>rw[hfn]at hF;cases hF
 |some kn=>
  rw[hfn]at hF;dsimp only at hF
  cases hn:aK kn K.n.2 with
  |none=>rw[hn]at hF;cases hF
  |some n=>
   rw[hn]at hF;dsimp only at hF
   cases hx:bJ S f.vals with
   |none=>rw[hx]at hF;cases hF
   |some xs=>
    rw[hx]at hF;dsimp only at hF
    cases hz:gH n with
    |false=>
     rw[hz]at hF;dsimp only at hF
     cases ho:dW n.text xs with
     |none=>rw[ho]at hF;cases hF
     |some Q=>
      rw[ho]at hF;dsimp only at hF;have h:=xF K S zr k kn n r f xs Q hr hfn hn hz hx hl ho
      cases hq:jV Q.2 ⟨#[]⟩ with
      |false=>rw[hq]at hF h;cases hF;exact h
      |true=>rw[hq]at hF h;cases hF;exact h
    |true=>
     rw[hz]at hF;dsimp only at hF;rcases xs with _|⟨u,_|⟨v,_|⟨w,xs⟩⟩⟩
     ·cases hF
     ·obtain⟨kk,L,h1,h2⟩:=Fw hl hx
      exact zW K S zr k kn kk n r f u L R hr hfn hn hz h1 h2 hF
     ·obtain⟨kk,L,h1,h2⟩:=Fw hl hx
      exact A3 K S zr k kn kk n r f u v L R hr hfn hn hz h1 h2 hF
     ·cases hF
end MN
end
section
open Go Go.AM Go.Proofs TK
set_option maxRecDepth 100000
namespace MN
def IT (R:Option Fn):AV:=.cA [.p (match R with|some f=>eFn f|none=>.agg [.sl 1 [],.fW]),.p (.b R.isSome)]
def Ef (K:Ks) (zr:bf Rn):Heap:=[(1000000000,iE zr),(1000000001,sG K.mm),(1000000002,Mt K.mc),(1000000003,K6 K.mf),(1000000004,LX K.mt),(1000000005,MW K.im)]
theorem Js (K:Ks) (zr:bf Rn) (k:Nat) (r:Rn) (m:Mk) (name:ByteArray) (xs:List Vl) (fn:Fn) (es:TM Fn) (hr:aK k zr.2=some r) (hm:aK r.maker K.mm.2=some m) (he:aK m.funcs K.mf.2=some es) (hf:bq name es=some fn):
 av Tryz.prog 256 [.p (.bH rS k),.p (.s name),.p (.sl 5 (bu xs))] (Ef K zr) (IT (some fn)) (Ef K zr):=by
 obtain⟨m1,m2,m3,m4,m5,m6⟩:=m;obtain⟨fnn,fb⟩:=fn;have hlk:=fun d=>bQ eFn name d es;rw[hf]at hlk;unfold Ef IT iE sG K6;refine av.intro (ah Tryz.prog) aC Tryz.func256 rfl (by rfl) (by kernel_rfl) (by show 3≤_;decide) rfl ?_;(conv=>whnf);refine bC cP hr rfl ?_;(conv=>whnf);refine bC iU hm rfl ?_;(conv=>whnf);refine ag ⟨rfl,rfl⟩ ?_;refine⟨jB eFn es,aq (enc:=bX eFn) he,?_⟩;refine⟨_,_,hlk _,?_⟩;(conv=>whnf);refine⟨.inl rfl,⟨s6,s6,s6,s6,s6,s6,trivial⟩⟩
theorem Mb {l:List Im} {j:Nat} {x:Im} (h:l[j]?=some x):(Ce l)[j]?=some (.agg [.s x.trait,.s x.typ,.amp fM x.funcs]):=by
 unfold Ce;rw[List.getElem?_map,h];rfl
theorem El (K:Ks) (zr:bf Rn) (k:Nat) (r:Rn) (m:Mk) (name:ByteArray) (xs:List Vl) (es:TM Fn) (ts:TM ByteArray) (hr:aK k zr.2=some r) (hm:aK r.maker K.mm.2=some m) (he:aK m.funcs K.mf.2=some es) (hf:bq name es=none) (ht:aK m.traits K.mt.2=some ts) (hft:bq name ts=none):
 av Tryz.prog 256 [.p (.bH rS k),.p (.s name),.p (.sl 5 (bu xs))] (Ef K zr) (IT none) (Ef K zr):=by
 obtain⟨m1,m2,m3,m4,m5,m6⟩:=m;have hlk:=fun d=>bQ eFn name d es;have hlt:=fun d=>bQ .s name d ts;rw[hf]at hlk;rw[hft]at hlt;unfold Ef IT iE sG K6 LX;refine av.intro (ah Tryz.prog) aC Tryz.func256 rfl (by rfl) (by kernel_rfl) (by show 3≤_;decide) rfl ?_;(conv=>whnf);refine bC cP hr rfl ?_;(conv=>whnf);refine bC iU hm rfl ?_;(conv=>whnf);refine ag ⟨rfl,rfl⟩ ?_;refine⟨jB eFn es,aq (enc:=bX eFn) he,?_⟩;refine⟨_,_,hlk _,?_⟩;(conv=>whnf);refine bC cP hr rfl ?_;(conv=>whnf);refine bC iU hm rfl ?_;(conv=>whnf);refine ag ⟨rfl,rfl⟩ ?_;refine⟨jB .s ts,aq (enc:=bX .s) ht,?_⟩;refine⟨_,_,hlt _,?_⟩;(conv=>whnf);refine⟨.inl rfl,⟨s6,s6,s6,s6,s6,s6,trivial⟩⟩
theorem EJ (K:Ks) (zr:bf Rn) (k:Nat) (r:Rn) (m:Mk) (name trait:ByteArray) (es:TM Fn) (ts:TM ByteArray) (hr:aK k zr.2=some r) (hm:aK r.maker K.mm.2=some m) (he:aK m.funcs K.mf.2=some es) (hf:bq name es=none) (ht:aK m.traits K.mt.2=some ts) (hft:bq name ts=some trait):
 av Tryz.prog 256 [.p (.bH rS k),.p (.s name),.p (.sl 5 (bu []))] (Ef K zr) (IT none) (Ef K zr):=by
 obtain⟨m1,m2,m3,m4,m5,m6⟩:=m;have hlk:=fun d=>bQ eFn name d es;have hlt:=fun d=>bQ .s name d ts;rw[hf]at hlk;rw[hft]at hlt;unfold Ef IT iE sG K6 LX;refine av.intro (ah Tryz.prog) aC Tryz.func256 rfl (by rfl) (by kernel_rfl) (by show 3≤_;decide) rfl ?_;(conv=>whnf);refine bC cP hr rfl ?_;(conv=>whnf);refine bC iU hm rfl ?_;(conv=>whnf);refine ag ⟨rfl,rfl⟩ ?_;refine⟨jB eFn es,aq (enc:=bX eFn) he,?_⟩;refine⟨_,_,hlk _,?_⟩;(conv=>whnf);refine bC cP hr rfl ?_;(conv=>whnf);refine bC iU hm rfl ?_;(conv=>whnf);refine ag ⟨rfl,rfl⟩ ?_;refine⟨jB .s ts,aq (enc:=bX .s) ht,?_⟩;refine⟨_,_,hlt _,?_⟩;(conv=>whnf);refine⟨.inl rfl,⟨s6,s6,s6,s6,s6,s6,trivial⟩⟩
theorem ID (K:Ks) (zr:bf Rn) (k:Nat) (r:Rn) (m:Mk) (name trait:ByteArray) (v:Vl) (xs:List Vl) (es:TM Fn) (ts:TM ByteArray) (R:Option Fn) (hr:aK k zr.2=some r) (hm:aK r.maker K.mm.2=some m) (he:aK m.funcs K.mf.2=some es) (hf:bq name es=none) (ht:aK m.traits K.mt.2=some ts) (hft:bq name ts=some trait)
 (hF:(match Dl K m v with|none=>none|some none=>some none|some (some t)=>match uS K m with|none=>none|some l=>qM K trait t name l)=some R):
 av Tryz.prog 256 [.p (.bH rS k),.p (.s name),.p (.sl 5 (bu (v::xs)))] (Ef K zr) (IT R) (Ef K zr):=by
 obtain⟨m1,m2,m3,m4,m5,m6⟩:=m;have hlk:=fun d=>bQ eFn name d es;have hlt:=fun d=>bQ .s name d ts;rw[hf]at hlk;rw[hft]at hlt;obtain⟨vk,vn,vt,va,vc⟩:=v;unfold Ef IT iE sG K6 LX Mt MW;unfold Dl at hF;dsimp only[Vl.kind,Vl.text]at hF;have hbs:=EU vk;refine av.pZ (ah Tryz.prog) Tryz.func256 rfl (by rfl) (by show 3≤_;decide) rfl ?_;refine iN.cut (ah Tryz.prog) aC (by kernel_rfl) 6 [0,1,6,10,12] [6,1000000000,1000000001,1000000002,1000000003,1000000004,1000000005] (fun typ:ByteArray=>[.p (.bH rS k),.p (.s name),.ptr 6 0,.p (.s trait),.p (.s typ)]) (fun _=>[.cells [.cu,.p .fW],.store 142 true rS zr.1 31 (cC cP zr.2),.store 84 true mS K.mm.1 6 (cC iU K.mm.2),.store 77 true cM K.mc.1 0 (cC (bX zu) K.mc.2),.store 78 true fM K.mf.1 0 (cC (bX eFn) K.mf.2),.store 79 true tM K.mt.1 0 (cC (bX .s) K.mt.2),.store 108 false iS K.im.1 3 (cC Ce K.im.2)]) (fun typ=>(match uS K ⟨m1,m2,m3,m4,m5,m6⟩ with|none=>none|some l=>qM K trait typ name l)=some R) ?_ ?_
 rotate_left
 ·intro typ hF
  refine iN.fin (ah Tryz.prog) aC (by kernel_rfl) ?_;(conv=>whnf)
  cases m5 with
  |none=>
   cases hF;refine bC cP hr rfl ?_;(conv=>whnf);refine bC iU hm rfl ?_;(conv=>whnf);refine bL (ah _) aC (by kernel_rfl) 0 [6,92,93,94] [6,1000000000,1000000001,1000000002,1000000003,1000000004,1000000005] (fun j (_:Unit)=>[.ptr 6 0,.p .sj,.p (.i .i64 0),.p (.i .i64 (ix j))]) (fun _ _=>[.cells [.cu,.p .fW],.store 142 true rS zr.1 31 (cC cP zr.2),.store 84 true mS K.mm.1 6 (cC iU K.mm.2),.store 77 true cM K.mc.1 0 (cC (bX zu) K.mc.2),.store 78 true fM K.mf.1 0 (cC (bX eFn) K.mf.2),.store 79 true tM K.mt.1 0 (cC (bX .s) K.mt.2),.store 108 false iS K.im.1 3 (cC Ce K.im.2)]) (fun _ _=>True) () ⟨rfl,rfl,rfl,rfl⟩ trivial ?_;rintro j _ hj -;(conv=>whnf);refine aj ?_ ?_<;>intro h1<;>conv=>whnf
   ·have:j=0:=by omega
    subst this;cases h1
   ·refine⟨.inl rfl,⟨s6,s6,s6,s6,s6,s6,trivial⟩⟩
  |some q=>
   obtain⟨q1,q2⟩:=q;unfold uS at hF;dsimp only at hF
   cases hi:aK q1 K.im.2 with
   |none=>rw[hi]at hF;cases hF
   |some il=>
    rw[hi]at hF;dsimp only at hF
    cases hg:Nat.ble q2 il.length&&Nat.ble q2 2000000 with
    |false=>rw[hg]at hF;cases hF
    |true=>
     rw[hg]at hF;dsimp only at hF;rw[Bool.and_eq_true]at hg;have hg1:=Nat.le_of_ble_eq_true hg.1;have hg2:=Nat.le_of_ble_eq_true hg.2;refine bC cP hr rfl ?_;(conv=>whnf);refine bC iU hm rfl ?_;(conv=>whnf);refine bL (ah _) aC (by kernel_rfl) q2 [1,6,10,12,92,93,94] [6,1000000000,1000000001,1000000002,1000000003,1000000004,1000000005] (fun j (_:Unit)=>[.p (.s name),.ptr 6 0,.p (.s trait),.p (.s typ),.p (.jR iS q1 q2),.p (.i .i64 q2),.p (.i .i64 (ix j))]) (fun _ _=>[.cells [.cu,.p .fW],.store 142 true rS zr.1 31 (cC cP zr.2),.store 84 true mS K.mm.1 6 (cC iU K.mm.2),.store 77 true cM K.mc.1 0 (cC (bX zu) K.mc.2),.store 78 true fM K.mf.1 0 (cC (bX eFn) K.mf.2),.store 79 true tM K.mt.1 0 (cC (bX .s) K.mt.2),.store 108 false iS K.im.1 3 (cC Ce K.im.2)]) (fun j _=>qM K trait typ name ((il.take q2).drop j)=some R) () ⟨rfl,rfl,rfl,rfl⟩ hF ?_;rintro j _ hj hQ;(conv=>whnf);refine aj ?_ ?_<;>intro h1<;>conv=>whnf
     ·have hj1:=cm h1 rfl hj (by omega)
      have hjl:(il.take q2)[j]?=il[j]?:=List.getElem?_take_of_lt hj1;obtain⟨a,ha⟩:∃a,il[j]?=some a:=⟨_,List.getElem?_eq_getElem (by omega)⟩
      rw[drop_cons (hjl.trans ha),qM]at hQ;have hji:(ix j).toNat=j:=by rw[nq (by omega)];simp
      refine ag ⟨by rw[nq (by omega)];omega,by rw[hji];exact hj1⟩ ?_;rw[hji];have hag:=Mb ha;obtain⟨at_,ay,af⟩:=a;dsimp only at hQ hag;(conv=>whnf);refine ag ⟨rfl,by decide,.inr rfl⟩ ?_;refine⟨_,aq hi,?_⟩;refine au (i:=j) (x:=.agg [.s at_,.s ay,.amp fM af]) (hag) ?_;(conv=>whnf);refine aj ?_ ?_<;>intro g1<;>conv=>whnf
      ·rw[show jV at_ trait=true from g1,Bool.true_and]at hQ
       refine aj ?_ ?_<;>intro g2<;>conv=>whnf
       ·rw[show jV ay typ=true from g2]at hQ
        dsimp only at hQ
        cases hfm:aK af K.mf.2 with
        |none=>rw[hfm]at hQ;cases hQ
        |some fs=>
         rw[hfm]at hQ;cases hQ;have hlf:=fun d=>bQ eFn name d fs;refine ag ⟨rfl,rfl⟩ ?_;refine⟨jB eFn fs,aq (enc:=bX eFn) hfm,?_⟩
         cases hff:bq name fs with
         |none=>
          rw[hff]at hlf;refine⟨_,_,hlf _,?_⟩;(conv=>whnf);refine⟨.inl rfl,⟨s6,s6,s6,s6,s6,s6,trivial⟩⟩
         |some fn=>
          rw[hff]at hlf;obtain⟨fn1,fn2⟩:=fn;refine⟨_,_,hlf _,?_⟩;(conv=>whnf);refine⟨.inl rfl,⟨s6,s6,s6,s6,s6,s6,trivial⟩⟩
       ·rw[show jV ay typ=false from g2]at hQ
        exact⟨hj1,(),⟨rfl,rfl,rfl,rfl⟩,hQ⟩
      ·rw[show jV at_ trait=false from g1,Bool.false_and]at hQ
       exact⟨hj1,(),⟨rfl,rfl,rfl,rfl⟩,hQ⟩
     ·have h1:=cq h1 rfl hj (by omega)
      subst h1;rw[List.drop_eq_nil_of_le (by rw[List.length_take];omega)]at hQ;cases hQ;refine⟨.inl rfl,⟨s6,s6,s6,s6,s6,s6,trivial⟩⟩
 (conv=>whnf);refine bC cP hr rfl ?_;(conv=>whnf);refine bC iU hm rfl ?_;(conv=>whnf);refine ag ⟨rfl,rfl⟩ ?_;refine⟨jB eFn es,aq (enc:=bX eFn) he,?_⟩;refine⟨_,_,hlk _,?_⟩;(conv=>whnf);refine bC cP hr rfl ?_;(conv=>whnf);refine bC iU hm rfl ?_;(conv=>whnf);refine ag ⟨rfl,rfl⟩ ?_;refine⟨jB .s ts,aq (enc:=bX .s) ht,?_⟩;refine⟨_,_,hlt _,?_⟩;(conv=>whnf);refine au (i:=0) (x:=.agg [.i .i64 vk,.i .i64 vn,.s vt,.sl 5 (bu va),eP cS vc]) rfl ?_;(conv=>whnf);refine jA hbs ?_;(conv=>whnf);refine au (i:=0) (x:=.agg [.i .i64 vk,.i .i64 vn,.s vt,.sl 5 (bu va),eP cS vc]) rfl ?_;(conv=>whnf);refine aj ?_ ?_<;>intro h5<;>conv=>whnf
 ·rw[show(vk==5)=true from h5]at hF
  dsimp only at hF
  cases hmc:aK m2 K.mc.2 with
  |none=>rw[hmc]at hF;cases hF
  |some cs=>
   rw[hmc]at hF;dsimp only at hF;have hlc:=fun d=>bQ zu vt d cs;refine bC cP hr rfl ?_;(conv=>whnf);refine bC iU hm rfl ?_;(conv=>whnf);refine au (i:=0) (x:=.agg [.i .i64 vk,.i .i64 vn,.s vt,.sl 5 (bu va),eP cS vc]) rfl ?_;(conv=>whnf);refine ag ⟨rfl,rfl⟩ ?_;refine⟨jB zu cs,aq (enc:=bX zu) hmc,?_⟩
   cases hc:bq vt cs with
   |none=>
    rw[hc]at hF hlc;cases hF;refine⟨_,_,hlc _,?_⟩;(conv=>whnf);refine ag (.inl (by kernel_rfl)) ?_;(conv=>whnf);refine⟨.inl rfl,⟨s6,s6,s6,s6,s6,s6,trivial⟩⟩
   |some c=>
    rw[hc]at hF hlc;obtain⟨cd,ca⟩:=c;dsimp only at hF;refine⟨_,_,hlc _,?_⟩;(conv=>whnf);refine ag (.inl (by kernel_rfl)) ?_;(conv=>whnf);exact⟨cd,⟨rfl,rfl,rfl,rfl⟩,hF⟩
 ·rw[show(vk==5)=false from h5]at hF
  dsimp only at hF;refine aj ?_ ?_<;>intro h6<;>conv=>whnf
  ·rw[show jV (oL vk) ⟨#[]⟩=true from h6]at hF
   cases hF;refine⟨.inl rfl,⟨s6,s6,s6,s6,s6,s6,trivial⟩⟩
  ·rw[show jV (oL vk) ⟨#[]⟩=false from h6]at hF
   dsimp only at hF;exact⟨oL vk,⟨rfl,rfl,rfl,rfl⟩,hF⟩
end MN
end
section
open Go Go.AM Go.Proofs TK
set_option maxRecDepth 100000
namespace MN
noncomputable def PX:Nat→Option TI:=hint (jQ Tryz.prog) 218 [1000032]
theorem Gx:bz Tryz.prog PX:=(ah Tryz.prog).hint _ _
theorem zK (K:Ks) (z0:bf Sc) (c:Nat) (nd:Nd) (v:Vl) (hc:aK c K.n.2=some nd) (hl:nd.free.length≤2000000) (R:bf Sc×Option Nat) (hF:zw v.text v.args nd.free 0 0 (z0,none)=some R):
 av Tryz.prog 257 [.p (.bH nS c),.p (eV v)] [(1000000000,iH K.n),(1000000001,zX sS z0)] (.p (eP sS R.2)) [(1000000000,iH K.n),(1000000001,zX sS R.1)]:=by
 unfold zX iH;obtain⟨vk,vn,vt,va,vc⟩:=v;obtain⟨n1,n2,n3,n4,n5,n6,n7,n8,n9⟩:=nd;dsimp only[Vl.text,Vl.args]at hF hl;rw[eV];refine av.intro Gx aC Tryz.func257 rfl (by rfl) (by kernel_rfl) (by show 2≤_;decide) rfl ?_;(conv=>whnf);refine ag ⟨rfl,by decide,.inl rfl⟩ ?_;refine⟨_,aq hc,?_⟩;refine au (i:=0) rfl ?_;(conv=>whnf);refine bL Gx aC (by kernel_rfl) n9.length [3,5,6,12,13,14] [3,1000000000,1000000001] (fun j (z:(bf Sc×Option Nat)×Nat)=>[.ptr 3 0,.p (eP sS z.1.2),.p (.i .i64 (z.2:Int)),.p (.sl 1 (n9.map .s)),.p (.i .i64 (n9.map PV.s).length),.p (.i .i64 (ix j))]) (fun _ z=>[.cells (gY [.i .i64 vk,.i .i64 vn,.s vt,.sl 5 (bu va),eP cS vc]),.store 160 true nS K.n.1 9 (cC dc K.n.2),.store 218 true sS z.1.1.1 7 (cC (OZ sS) z.1.1.2)]) (fun j z=>z.2≤j∧zw vt va (n9.drop j) j z.2 z.1=some R) ((z0,none),0) ⟨rfl,rfl,rfl,rfl⟩ ⟨Nat.le_refl _,hF⟩ ?_;rintro j ⟨⟨⟨nx,M⟩,s⟩,k⟩ hj ⟨hk,hQ⟩;dsimp only at hk hQ;(conv=>whnf);refine aj ?_ ?_<;>intro h1<;>conv=>whnf
 ·have hj1:=cm h1 (by simp) hj (by omega)
  obtain⟨a,ha1⟩:∃a,n9[j]?=some a:=⟨_,List.getElem?_eq_getElem hj1⟩
  rw[drop_cons ha1,zw]at hQ
  cases hb:Nat.blt j vt.size with
  |false=>rw[hb]at hQ;cases hQ
  |true=>
   rw[hb]at hQ;dsimp only at hQ;rw[Nat.blt_eq]at hb;have hji:ix j=(j:Int):=nq (by omega);have hjn:(ix j).toNat=j:=by rw[hji];simp
   refine bO (x:=.s a) (by simp[ha1]) (by omega) ?_;(conv=>whnf);refine⟨_,⟨by rw[hji];omega,by rw[hji];omega⟩,rfl,?_⟩;rw[hjn];(conv=>whnf);refine aj ?_ ?_<;>intro h2<;>conv=>whnf
   ·rw[show((((vt[j]?).getD 0).toNat:Int)==49)=true from h2]at hQ
    dsimp only at hQ
    cases hv:va[k]? with
    |none=>rw[hv]at hQ;cases hQ
    |some v=>
     rw[hv]at hQ;dsimp only at hQ;obtain⟨wk,wn,wt,wa,wc⟩:=v;refine au (i:=k) (x:=.agg [.i .i64 wk,.i .i64 wn,.s wt,.sl 5 (bu wa),eP cS wc]) (by rw[aR];simp[hv,eV]) ?_;have hkw:IntKind.i64.wrap ((k:Int)+1)=((k+1:Nat):Int):=by rw[wrap64 (by omega) (by omega)];rfl
     cases s with
     |none=>
      (conv=>whnf);rw[hkw];exact⟨hj1,(((nx+1,(nx,⟨a,.mk wk wn wt wa wc,none⟩)::M),some nx),k+1),⟨rfl,rfl,rfl,rfl⟩,by dsimp only;omega,hQ⟩
     |some s=>
      (conv=>whnf);rw[hkw];exact⟨hj1,(((nx+1,(nx,⟨a,.mk wk wn wt wa wc,(some s)⟩)::M),some nx),k+1),⟨rfl,rfl,rfl,rfl⟩,by dsimp only;omega,hQ⟩
   ·rw[show((((vt[j]?).getD 0).toNat:Int)==49)=false from h2]at hQ
    exact⟨hj1,(((nx,M),s),k),⟨rfl,rfl,rfl,rfl⟩,by dsimp only;omega,hQ⟩
 ·have h1:=cq h1 (by simp) hj (by omega)
  subst h1;rw[List.drop_length]at hQ;cases hQ;refine⟨.inl rfl,⟨s6,s6,trivial⟩⟩
end MN
end
