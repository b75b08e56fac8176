/- Contracts, and the law, for every input. No conditions. -/
import Derived.Test.YtdmopjgjhfhfdaaGreatDoorMNN
set_option linter.all false
set_option maxRecDepth 100000
open Go Go.AM Go.Proofs TK
namespace MN
theorem iH {α:Type} {k:Nat} {x:α}:∀{M:List (Nat×α)},aK k M=some x->bf k x M=M
 | [],h=>by cases h
 |(a,y)::r,h=>by
  rw[aK]at h;rw[bf]
  cases hb:Nat.beq a k with
  |true=>rw[hb]at h;cases h;rfl
  |false=>rw[hb]at h;dsimp only at h ⊢;rw[iH h]
theorem Hp {f:Fr} {v:Vl} {r S2 r2}:∀{l:List Ar} {S:Ss},kV f v l S r=some (false,S2,r2)->r2=r
 | [],_,h=>by cases h;rfl
 |a::l,S,h=>by
  rw[kV]at h;split at h
  ·cases h
  ·cases h
  ·exact Hp h
theorem HJ {K:Ks} {S S2:Ss} {r r2:Rn} {f:Fr} {v:Vl} (h:nL K S r f v=some (false,S2,r2)):r2=r:=by
 unfold nL at h;split at h
 ·cases h
 ·split at h
  ·cases h
  ·exact Hp h
theorem Gc (K:Ks) (S:Ss) (zr:aZ Rn) (k:Nat) (r:Rn) (f:Fr) (xs:List Vl) (R:Ss×Rn) (hr:aK k zr.2=some r) (hf:f.vals=.nw xs) (hF:kW K S r f xs=some R):
 au Tryz.prog 246 [.p (.bH rS k),.p (.agg (ey f))] (hA K S zr) (.cI []) (hA K R.1 (zr.1,bf k R.2 zr.2)):=by
 unfold kW at hF
 cases xs with
 |nil=>cases hF
 |cons v xs=>
  try dsimp only at hF
  cases ht:nL K S r f v with
  |none=>rw[ht]at hF;cases hF
  |some q=>
   rw[ht]at hF;have htk:=Bx K zr k r f v hr S q ht;obtain⟨b,S2,r2⟩:=q;obtain⟨f1,f2,f3,f4,f5⟩:=f;obtain⟨vk,vn,vt,va,vc⟩:=v;dsimp only at hf;subst hf
   cases b with
   |true=>
    cases hF;dsimp only at htk;unfold hA ey at *;rw[eV]at htk;dsimp only[nq]at *;refine au.iN av Tryz.func246 rfl (by rfl) (by kernel_rfl) rfl rfl ?_;(conv=>whnf);refine aq (i:=0) (x:=.agg [.i .i64 vk,.i .i64 vn,.s vt,.sl 5 (bz va),eP cS vc]) (by rw[aR];simp[eV]) ?_;(conv=>whnf);refine bh iA 300 htk ?_;(conv=>whnf);refine ag (.inl (by kernel_rfl)) ?_;(conv=>whnf);refine⟨.inl rfl,by(repeat refine⟨s6,?_⟩);trivial⟩
   |false=>
    have hr2:r2=r:=HJ ht;cases hF;dsimp only at htk;have hfl:=cQ zr S2.o k Kb r hr;unfold hA ey at *;rw[eV]at htk;dsimp only[nq]at *;refine au.iN av Tryz.func246 rfl (by rfl) (by kernel_rfl) rfl rfl ?_;(conv=>whnf);refine aq (i:=0) (x:=.agg [.i .i64 vk,.i .i64 vn,.s vt,.sl 5 (bz va),eP cS vc]) (by rw[aR];simp[eV]) ?_;(conv=>whnf);refine bh iA 300 htk ?_;(conv=>whnf);refine ag (.inl (by kernel_rfl)) ?_;(conv=>whnf);refine bh [1000000000,1000000001] 300 hfl ?_;(conv=>whnf);rw[hr2];refine⟨.inl rfl,by(repeat refine⟨s6,?_⟩);trivial⟩
theorem Dd (K:Ks) (S:Ss) (zr:aZ Rn) (k:Nat) (r:Rn) (f:Fr) (xs:List Vl) (R:Ss×Rn) (hr:aK k zr.2=some r) (hf:f.vals=.nw xs) (hF:mQ S r f xs=some R):
 au Tryz.prog 249 [.p (.bH rS k),.p (.agg (ey f))] (hA K S zr) (.cI []) (hA K R.1 (zr.1,bf k R.2 zr.2)):=by
 have hfl:=fun w=>cQ zr S.o k w r hr;obtain⟨f1,f2,f3,f4,f5⟩:=f;dsimp only at hf;subst hf;unfold mQ at hF
 try dsimp only at hF
 cases hg:Nat.ble xs.length 2000000&&Nat.ble r.names.length 2000000 with
 |false=>rw[hg]at hF;cases hF
 |true=>
  rw[hg]at hF;rw[Bool.and_eq_true]at hg;have hg1:=Nat.le_of_ble_eq_true hg.1;have hg2:=Nat.le_of_ble_eq_true hg.2
  try dsimp only at hF
  have hbg:=fun R=>xY zr S.s k xs r R hr hg2;have hal:=fun b=>ni S.c xs b hg1;obtain⟨r1,r2,r3,r4,r5,r6,r7,⟨c1,c2,c3,c4,c5⟩,⟨wk,wn,wt,wa,wc⟩,⟨o1,o2,o3,o4,o5,o6,o7,o8⟩,⟨p1,p2,p3,p4,p5⟩,r12⟩:=r;have hxl:(bz xs).length=xs.length:=by rw[aR];simp
  unfold hA gW ey at *;refine au.iN av Tryz.func249 rfl (by rfl) (by kernel_rfl) rfl rfl ?_;(conv=>whnf);refine ai ?_ ?_<;>intro h1<;>conv=>whnf
  ·rw[show f5=true from h1,Bool.true_or]at hF
   cases hF;refine ag (.inl (by kernel_rfl)) ?_;(conv=>whnf);refine bh [1000000000,1000000001] 300 (hfl cK) ?_;(conv=>whnf);refine⟨.inl rfl,by(repeat refine⟨s6,?_⟩);trivial⟩
  rw[show f5=false from h1,Bool.false_or]at hF;refine bw cj hr rfl ?_;(conv=>whnf);refine ag (.inl (by kernel_rfl)) ?_;(conv=>whnf);refine ai ?_ ?_<;>intro h2<;>conv=>whnf
  ·rw[show Nat.beq xs.length r2.length=false from by cases hq:Nat.beq xs.length r2.length with|false=>rfl|true=>have:=Nat.eq_of_beq_eq_true hq;rw[hxl,List.length_map,this]at h2;simp at h2]at hF
   cases hF;refine bh [1000000000,1000000001] 300 (hfl cK) ?_;(conv=>whnf);refine⟨.inl rfl,by(repeat refine⟨s6,?_⟩);trivial⟩
  rw[show Nat.beq xs.length r2.length=true from by
   have:xs.length=r2.length:=by rw[hxl,List.length_map]at h2;simp at h2;omega
   rw[this];exact Nat.beq_refl _]at hF
  dsimp only[Bool.not_true]at hF
  cases ha:mN S.c.2 xs with
  |none=>rw[ha]at hF;cases hF
  |some b=>
   rw[ha]at hF;have hal:=hal b ha;refine bh [1000000008] 300 hal ?_;(conv=>whnf)
   cases b with
   |true=>
    cases hF;(conv=>whnf);refine bh [1000000000,1000000001] 300 (hfl lQ) ?_;(conv=>whnf);refine⟨.inl rfl,by(repeat refine⟨s6,?_⟩);trivial⟩
   |false=>
    try dsimp only at hF
    cases hw:kU r2 xs (S.s,none) with
    |none=>rw[hw]at hF;cases hF
    |some Q=>
     rw[hw]at hF;cases hF;have hbg:=hbg Q hw;(conv=>whnf);refine bh [1000000000,1000000005] 300 hbg ?_;(conv=>whnf);refine⟨.inl rfl,by(repeat refine⟨s6,?_⟩);trivial⟩
theorem PD {op:ByteArray} {r:AV} {kk n:Nat} {xs:List Vl} (z:aZ (List Vl)) (hk:aK kk z.2=some xs) (hn:n<=xs.length)
 (h:au Tryz.prog 255 [.p (.s op),.p (.sl 5 (bz (xs.take n)))] [(1000000000,pO (z.1,iE kk z.2))] r [(1000000000,pO (z.1,iE kk z.2))]):
 au Tryz.prog 255 [.p (.s op),.p (.kE vS kk n)] [(1000000000,pO z)] r [(1000000000,pO (z.1,iE kk z.2))]:=by
 have hlen:(bz xs).length=xs.length:=by rw[aR];simp
 refine au.freeze (l:=1000000000) (T:=139) (one:=false) (sp:=vS) (nx:=z.1) (sz:=5) (k:=kk) (n:=n) (M:=cD bz z.2) (xs:=bz xs) h rfl rfl ?_ (aj hk) (by rw[hlen];exact hn) (by decide) rfl ?_
 ·intro x
  unfold pO;rw[Is]
  cases hb:Nat.beq 1000000000 x with
  |true=>simp only[aF,hb]
  |false=>simp only[aF,hb]
 ·intro j a b h1 h2
  rcases j with _|_|j
  ·cases h1;cases h2;exact .inl ⟨rfl,fun _ _ q=>by cases q⟩
  ·cases h1;cases h2
   refine .inr ⟨_,_,rfl,rfl,?_⟩;rw[show bz (xs.take n)=(bz xs).take n by rw[aR,aR,List.map_take]];exact .kE
  ·cases h1
noncomputable def Rq:Nat->Option TI:=hint (iX Tryz.prog) 133 [1000025]
theorem HP:bB Tryz.prog Rq:=(aG Tryz.prog).hint _ _
theorem Qq {op:ByteArray} {r:AV} (z:aZ (List Vl))
 (h:au Tryz.prog 255 [.p (.s op),.p (.sl 5 (bz []))] [(1000000000,pO z)] r [(1000000000,pO z)]):
 au Tryz.prog 255 [.p (.s op),.p .tf] [(1000000000,pO z)] r [(1000000000,pO z)]:=by
 refine K5 h rfl ?_;intro j a b h1 h2;rcases j with _|_|j
 ·cases h1;cases h2;exact .inl rfl
 ·cases h1;cases h2
  refine .inr ⟨_,_,rfl,rfl,fun M v hr=>?_⟩
  cases hr;exact .nil 5
 ·cases h1
theorem yE (K:Ks) (S:Ss) (zr:aZ Rn) (k kn:Nat) (n:Nd) (r:Rn) (f:Fr) (xs:List Vl) (R:Vl×ByteArray) (hr:aK k zr.2=some r) (hfn:f.n=some kn) (hn:aK kn K.n.2=some n) (hz:gQ n=false) (hx:bL S f.vals=some xs) (hl:zi f.vals=false) (hF:er n.text xs=some R):
 au Tryz.prog 247 [.p (.bH rS k),.p (.agg (ey f))] (hA K S zr) (.cI []) (match kB R.2 ⟨#[]⟩ with|false=>hA K (dV (dY S f.vals) r R.2).1 (zr.1,bf k (dV (dY S f.vals) r R.2).2 zr.2)|true=>hA K (dY S f.vals) (zr.1,bf k (kI r R.1) zr.2)):=by
 have hlz:=qZ K.n kn n hn;rw[hz]at hlz;have hfl:=fun w=>cQ zr S.o k w r hr;have hgv:=jK zr k R.1 r hr;obtain⟨n1,n2,n3,n4,n5,n6,n7,n8,n9⟩:=n;obtain⟨f1,f2,f3,f4,f5⟩:=f;dsimp only at hfn hx hl hF;subst hfn;obtain⟨⟨u1,u2,u3,u4,u5⟩,w⟩:=R;rw[eV]at hgv
 cases f3 with
 |nw l=>cases hl
 |nil=>
  cases hx;have hop:=Qq S.v (ue S.v n3 [] _ (by simp) hF);rw[eV]at hop;unfold hA iZ ey kI dY dV at *;dsimp only[nq]at *
  cases hw:kB w ⟨#[]⟩ with
  |false=>
   dsimp only;refine au.iN av Tryz.func247 rfl (by rfl) (by kernel_rfl) rfl rfl ?_;(conv=>whnf);refine bh [1000000002] 300 hlz ?_;(conv=>whnf);refine bw dm hn rfl ?_;(conv=>whnf);refine bh [1000000006] 400 hop ?_;(conv=>whnf);refine ag (.inl (by kernel_rfl)) ?_;(conv=>whnf);refine dy (show(!(kB w ⟨#[]⟩))=true by rw[hw];rfl) ?_;(conv=>whnf);refine bh [1000000000,1000000001] 300 (hfl w) ?_;(conv=>whnf);refine⟨.inl rfl,by(repeat refine⟨s6,?_⟩);trivial⟩
  |true=>
   dsimp only;refine au.iN av Tryz.func247 rfl (by rfl) (by kernel_rfl) rfl rfl ?_;(conv=>whnf);refine bh [1000000002] 300 hlz ?_;(conv=>whnf);refine bw dm hn rfl ?_;(conv=>whnf);refine bh [1000000006] 400 hop ?_;(conv=>whnf);refine ag (.inl (by kernel_rfl)) ?_;(conv=>whnf);refine bD (show(!(kB w ⟨#[]⟩))=false by rw[hw];rfl) ?_;(conv=>whnf);refine bh [1000000000] 300 hgv ?_;(conv=>whnf);refine⟨.inl rfl,by(repeat refine⟨s6,?_⟩);trivial⟩
 |blk kk m=>
  unfold bL at hx;dsimp only at hx
  cases hL:aK kk S.v.2 with
  |none=>rw[hL]at hx;cases hx
  |some L=>
   rw[hL]at hx;dsimp only at hx
   cases hg:Nat.ble m L.length&&Nat.ble m 2000000 with
   |false=>rw[hg]at hx;cases hx
   |true=>
    rw[hg]at hx;cases hx;rw[Bool.and_eq_true]at hg;have hg1:=Nat.le_of_ble_eq_true hg.1;have hg2:=Nat.le_of_ble_eq_true hg.2;have hop:=PD S.v hL hg1 (ue (S.v.1,iE kk S.v.2) n3 (L.take m) _ (by rw[List.length_take];omega) hF);rw[eV]at hop;unfold hA iZ ey kI dY dV at *;dsimp only[nq]at *
    cases hw:kB w ⟨#[]⟩ with
    |false=>
     dsimp only;refine au.iN av Tryz.func247 rfl (by rfl) (by kernel_rfl) rfl rfl ?_;(conv=>whnf);refine bh [1000000002] 300 hlz ?_;(conv=>whnf);refine bw dm hn rfl ?_;(conv=>whnf);refine bh [1000000006] 400 hop ?_;(conv=>whnf);refine ag (.inl (by kernel_rfl)) ?_;(conv=>whnf);refine dy (show(!(kB w ⟨#[]⟩))=true by rw[hw];rfl) ?_;(conv=>whnf);refine bh [1000000000,1000000001] 300 (hfl w) ?_;(conv=>whnf);refine⟨.inl rfl,by(repeat refine⟨s6,?_⟩);trivial⟩
    |true=>
     dsimp only;refine au.iN av Tryz.func247 rfl (by rfl) (by kernel_rfl) rfl rfl ?_;(conv=>whnf);refine bh [1000000002] 300 hlz ?_;(conv=>whnf);refine bw dm hn rfl ?_;(conv=>whnf);refine bh [1000000006] 400 hop ?_;(conv=>whnf);refine ag (.inl (by kernel_rfl)) ?_;(conv=>whnf);refine bD (show(!(kB w ⟨#[]⟩))=false by rw[hw];rfl) ?_;(conv=>whnf);refine bh [1000000000] 300 hgv ?_;(conv=>whnf);refine⟨.inl rfl,by(repeat refine⟨s6,?_⟩);trivial⟩
theorem zy (nx g1 g2:Nat) (fl:List Fr) (f:Fr) (M:List (Nat×List Fr)):(nx,(wV fl).take g2++[.agg (ey f)])::mX g1 (cD wV M)=cD wV ((nx,fl.take g2++[f])::iE g1 M):=by
 rw[cD,ug];have:wV (fl.take g2++[f])=(wV fl).take g2++[.agg (ey f)]:=by unfold wV;simp[List.map_take]
 rw[this]
theorem Az (K:Ks) (S:Ss) (zr:aZ Rn) (k kn kk:Nat) (n:Nd) (r:Rn) (f:Fr) (v:Vl) (L:List Vl) (R:Ss×Rn) (hr:aK k zr.2=some r) (hfn:f.n=some kn) (hn:aK kn K.n.2=some n) (hz:gQ n=true) (hfv:f.vals=.blk kk 1) (hL:aK kk S.v.2=some (v::L))
 (hF:(match v.kind==3 with|false=>some (dV S r cK)|true=>match !((!(v.num==0))==kB n.text FJ) with|true=>some (S,kI r v)|false=>gD K S r f n 1)=some R):
 au Tryz.prog 247 [.p (.bH rS k),.p (.agg (ey f))] (hA K S zr) (.cI []) (hA K R.1 (zr.1,bf k R.2 zr.2)):=by
 have hlz:=qZ K.n kn n hn;rw[hz]at hlz;have hfl:=fun w=>cQ zr S.o k w r hr;have hgv:=jK zr k v r hr;obtain⟨n1,n2,n3,n4,n5,n6,n7,n8,n9⟩:=n;obtain⟨f1,f2,f3,f4,f5⟩:=f;obtain⟨vk,vn,vt,va,vc⟩:=v;dsimp only at hfn hfv;subst hfn;subst hfv;dsimp only[Vl.kind,Vl.num]at hF;rw[eV]at hgv
 cases hk:vk==3 with
 |false=>
  rw[hk]at hF;cases hF;unfold hA iZ pO ey at *;dsimp only[nq]at *;refine au.iN av Tryz.func247 rfl (by rfl) (by kernel_rfl) rfl rfl ?_;(conv=>whnf);refine bh [1000000002] 300 hlz ?_;(conv=>whnf);refine ag ⟨by decide,by decide⟩ ?_;(conv=>whnf);refine ag ⟨rfl,by decide,.inr rfl⟩ ?_;refine⟨_,aj hL,?_⟩;refine aq (i:=0) (x:=.agg [.i .i64 vk,.i .i64 vn,.s vt,.sl 5 (bz va),eP cS vc]) (rfl) ?_;(conv=>whnf);refine dy (show(!(vk==3))=true by rw[hk];rfl) ?_;(conv=>whnf);refine bh [1000000000,1000000001] 300 (hfl cK) ?_;(conv=>whnf);refine⟨.inl rfl,by(repeat refine⟨s6,?_⟩);trivial⟩
 |true=>
  rw[hk]at hF;dsimp only at hF
  cases hg:!((!(vn==0))==kB n3 FJ) with
  |true=>
   rw[hg]at hF;cases hF;unfold hA iZ pO ey kI at *;dsimp only[nq]at *;refine au.iN av Tryz.func247 rfl (by rfl) (by kernel_rfl) rfl rfl ?_;(conv=>whnf);refine bh [1000000002] 300 hlz ?_;(conv=>whnf);refine ag ⟨by decide,by decide⟩ ?_;(conv=>whnf);refine ag ⟨rfl,by decide,.inr rfl⟩ ?_;refine⟨_,aj hL,?_⟩;refine aq (i:=0) (x:=.agg [.i .i64 vk,.i .i64 vn,.s vt,.sl 5 (bz va),eP cS vc]) (rfl) ?_;(conv=>whnf);refine bD (show(!(vk==3))=false by rw[hk];rfl) ?_;(conv=>whnf);refine bw dm hn rfl ?_;(conv=>whnf);refine ag (.inl (by kernel_rfl)) ?_;(conv=>whnf);refine dy hg ?_;(conv=>whnf);refine bh [1000000000] 300 hgv ?_;(conv=>whnf);refine⟨.inl rfl,by(repeat refine⟨s6,?_⟩);trivial⟩
  |false=>
   rw[hg]at hF;dsimp only at hF;unfold gD at hF
   cases hp:uy S r ⟨some kn,f2,.blk kk 1,f4,f5⟩ with
   |none=>rw[hp]at hF;cases hF
   |some P=>
    rw[hp]at hF;obtain⟨S2,r2⟩:=P;dsimp only at hF
    cases ha:jn K.a ⟨n1,n2,n3,n4,n5,n6,n7,n8,n9⟩ 1 with
    |none=>rw[ha]at hF;cases hF
    |some c=>
     rw[ha]at hF;cases hF;have hev:=jL (zr.1,bf k r2 zr.2) k c ⟨some kn,f2,.blk kk 1,f4,f5⟩ f2 r2 (cA hr);rw[cY]at hev;have hen:∀M,sset k (cj r2) (cD cj M)=cD cj (bf k r2 M):=fun M=>bN cj k _ M;unfold uy at hp;unfold jn at ha;dsimp only at ha
     cases n5 with
     |none=>cases ha
     |some q=>
      obtain⟨q1,q2⟩:=q;dsimp only at ha
      cases hb:Nat.blt 1 q2 with
      |false=>rw[hb]at ha;cases ha
      |true=>
       rw[hb]at ha;dsimp only at ha
       cases hl:aK q1 K.a.2 with
       |none=>rw[hl]at ha;cases ha
       |some al=>
        rw[hl]at ha;dsimp only at ha;have hb1:1<q2:=by rw[Nat.blt_eq]at hb;exact hb
        obtain⟨r1,r2',r3,r4,r5,r6,r7,⟨c1,c2,c3,c4,c5⟩,⟨wk,wn,wt,wa,wc⟩,⟨o1,o2,o3,o4,o5,o6,o7,o8⟩,⟨p1,p2,p3,p4,p5⟩,r12⟩:=r;dsimp only at hp
        cases r7 with
        |none=>
         cases hp;unfold hA gW iZ pO yO J3 ey kJ at *;dsimp only[nq]at *;rw[<-hen]at hev;refine au.intro HP av Tryz.func247 rfl (by rfl) (by kernel_rfl) (by show 2<=_;decide) rfl ?_;(conv=>whnf);refine bh [1000000002] 300 hlz ?_;(conv=>whnf);refine ag ⟨by decide,by decide⟩ ?_;(conv=>whnf);refine ag ⟨rfl,by decide,.inr rfl⟩ ?_;refine⟨_,aj hL,?_⟩;refine aq (i:=0) (x:=.agg [.i .i64 vk,.i .i64 vn,.s vt,.sl 5 (bz va),eP cS vc]) (rfl) ?_;(conv=>whnf);refine bD (show(!(vk==3))=false by rw[hk];rfl) ?_;(conv=>whnf);refine bw dm hn rfl ?_;(conv=>whnf);refine ag (.inl (by kernel_rfl)) ?_;(conv=>whnf);refine bD hg ?_;(conv=>whnf);refine bw cj hr rfl ?_;(conv=>whnf);refine ag ⟨Nat.succ_pos _,Nat.le_of_ble_eq_true (by kernel_rfl)⟩ ?_;(conv=>whnf);refine bw cj hr rfl ?_;(conv=>whnf);refine ag (.inl (by kernel_rfl)) ?_;(conv=>whnf);refine bw dm hn rfl ?_;(conv=>whnf);refine ag ⟨by decide,hb1⟩ ?_;(conv=>whnf);refine ag ⟨rfl,by decide,.inr rfl⟩ ?_;refine⟨_,aj hl,?_⟩;refine aq (i:=1) (x:=.bH nS c) (by unfold rK;rw[List.getElem?_map,ha];rfl) ?_;(conv=>whnf);refine bh [1000000000] 400 hev ?_;(conv=>whnf);refine ag (.inl (by kernel_rfl)) ?_;(conv=>whnf);refine⟨.inl rfl,by(repeat refine⟨s6,?_⟩);trivial⟩
        |some q=>
         obtain⟨g1,g2⟩:=q;dsimp only at hp
         cases hfl2:aK g1 S.f.2 with
         |none=>rw[hfl2]at hp;cases hp
         |some fl=>
          rw[hfl2]at hp;dsimp only at hp
          cases hg3:Nat.ble g2 fl.length&&Nat.ble g2 2000000 with
          |false=>rw[hg3]at hp;cases hp
          |true=>
           rw[hg3]at hp;cases hp;rw[Bool.and_eq_true]at hg3;have hg4:=Nat.le_of_ble_eq_true hg3.1;have hg5:=Nat.le_of_ble_eq_true hg3.2;unfold hA gW iZ pO yO J3 ey kJ at *;dsimp only[nq]at *;rw[<-hen]at hev;refine au.intro HP av Tryz.func247 rfl (by rfl) (by kernel_rfl) (by show 2<=_;decide) rfl ?_;(conv=>whnf);refine bh [1000000002] 300 hlz ?_;(conv=>whnf);refine ag ⟨by decide,by decide⟩ ?_;(conv=>whnf);refine ag ⟨rfl,by decide,.inr rfl⟩ ?_;refine⟨_,aj hL,?_⟩;refine aq (i:=0) (x:=.agg [.i .i64 vk,.i .i64 vn,.s vt,.sl 5 (bz va),eP cS vc]) (rfl) ?_;(conv=>whnf);refine bD (show(!(vk==3))=false by rw[hk];rfl) ?_;(conv=>whnf);refine bw dm hn rfl ?_;(conv=>whnf);refine ag (.inl (by kernel_rfl)) ?_;(conv=>whnf);refine bD hg ?_;(conv=>whnf);refine bw cj hr rfl ?_;(conv=>whnf);refine⟨rfl,_,aj hfl2,?_⟩;refine ag ⟨by unfold wV;rw[List.length_map];exact hg4,Nat.le_trans (Nat.mul_le_mul_right _ (show g2+1<=2000001 by omega)) (Nat.le_of_ble_eq_true (by kernel_rfl))⟩ ?_;(conv=>whnf);refine bw cj hr rfl ?_;(conv=>whnf);refine ag (.inl (by kernel_rfl)) ?_;(conv=>whnf);refine bw dm hn rfl ?_;(conv=>whnf);refine ag ⟨by decide,hb1⟩ ?_;(conv=>whnf);refine ag ⟨rfl,by decide,.inr rfl⟩ ?_;refine⟨_,aj hl,?_⟩;refine aq (i:=1) (x:=.bH nS c) (by unfold rK;rw[List.getElem?_map,ha];rfl) ?_;(conv=>whnf);refine bh [1000000000] 400 hev ?_;(conv=>whnf);refine ag (.inl (by kernel_rfl)) ?_;(conv=>whnf);refine⟨.inl rfl,⟨s6,s6,s6,s6,s6,s6,s6,⟨rfl,rfl,rfl,rfl,rfl,?_⟩,s6,s6,s6,s6,s6,s6,s6,s6,trivial⟩⟩;exact zy _ _ _ fl ⟨some kn,f2,.blk kk 1,f4,f5⟩ _
theorem BX (K:Ks) (S:Ss) (zr:aZ Rn) (k kn kk:Nat) (n:Nd) (r:Rn) (f:Fr) (u v:Vl) (L:List Vl) (R:Ss×Rn) (hr:aK k zr.2=some r) (hfn:f.n=some kn) (hn:aK kn K.n.2=some n) (hz:gQ n=true) (hfv:f.vals=.blk kk 2) (hL:aK kk S.v.2=some (u::v::L))
 (hF:(match v.kind==3 with|false=>some (dV S r cK)|true=>some (S,kI r v))=some R):
 au Tryz.prog 247 [.p (.bH rS k),.p (.agg (ey f))] (hA K S zr) (.cI []) (hA K R.1 (zr.1,bf k R.2 zr.2)):=by
 have hlz:=qZ K.n kn n hn;rw[hz]at hlz;have hfl:=fun w=>cQ zr S.o k w r hr;have hgv:=jK zr k v r hr;obtain⟨n1,n2,n3,n4,n5,n6,n7,n8,n9⟩:=n;obtain⟨f1,f2,f3,f4,f5⟩:=f;obtain⟨uk,un,ut,ua,uc⟩:=u;obtain⟨vk,vn,vt,va,vc⟩:=v;dsimp only at hfn hfv;subst hfn;subst hfv;dsimp only[Vl.kind,Vl.num]at hF;rw[eV]at hgv
 cases hk:vk==3 with
 |false=>
  rw[hk]at hF;cases hF;unfold hA iZ pO ey at *;dsimp only[nq]at *;refine au.iN av Tryz.func247 rfl (by rfl) (by kernel_rfl) rfl rfl ?_;(conv=>whnf);refine bh [1000000002] 300 hlz ?_;(conv=>whnf);refine ag ⟨by decide,by decide⟩ ?_;(conv=>whnf);refine ag ⟨rfl,by decide,.inr rfl⟩ ?_;refine⟨_,aj hL,?_⟩;refine aq (i:=1) (x:=.agg [.i .i64 vk,.i .i64 vn,.s vt,.sl 5 (bz va),eP cS vc]) (rfl) ?_;(conv=>whnf);refine dy (show(!(vk==3))=true by rw[hk];rfl) ?_;(conv=>whnf);refine bh [1000000000,1000000001] 300 (hfl cK) ?_;(conv=>whnf);refine⟨.inl rfl,by(repeat refine⟨s6,?_⟩);trivial⟩
 |true=>
  rw[hk]at hF;cases hF;unfold hA iZ pO ey kI at *;dsimp only[nq]at *;refine au.iN av Tryz.func247 rfl (by rfl) (by kernel_rfl) rfl rfl ?_;(conv=>whnf);refine bh [1000000002] 300 hlz ?_;(conv=>whnf);refine ag ⟨by decide,by decide⟩ ?_;(conv=>whnf);refine ag ⟨rfl,by decide,.inr rfl⟩ ?_;refine⟨_,aj hL,?_⟩;refine aq (i:=1) (x:=.agg [.i .i64 vk,.i .i64 vn,.s vt,.sl 5 (bz va),eP cS vc]) (rfl) ?_;(conv=>whnf);refine bD (show(!(vk==3))=false by rw[hk];rfl) ?_;(conv=>whnf);refine ag (.inl (by kernel_rfl)) ?_;(conv=>whnf);refine bh [1000000000] 300 hgv ?_;(conv=>whnf);refine⟨.inl rfl,by(repeat refine⟨s6,?_⟩);trivial⟩
theorem Fk {S:Ss} {w:FV} {x:Vl} {xs:List Vl} (hl:zi w=false) (hx:bL S w=some (x::xs)):∃kk L,w=.blk kk (xs.length+1)/\aK kk S.v.2=some (x::xs++L):=by
 cases w with
 |nil=>cases hx
 |nw l=>cases hl
 |blk kk m=>
  unfold bL at hx;dsimp only at hx
  cases hL:aK kk S.v.2 with
  |none=>rw[hL]at hx;cases hx
  |some L=>
   rw[hL]at hx;dsimp only at hx
   cases hg:Nat.ble m L.length&&Nat.ble m 2000000 with
   |false=>rw[hg]at hx;cases hx
   |true=>
    rw[hg]at hx;rw[Bool.and_eq_true]at hg;have hg1:=Nat.le_of_ble_eq_true hg.1;have hx:L.take m=x::xs:=Option.some.inj hx
    have hm:m=xs.length+1:=by
     have:=congrArg List.length hx;rw[List.length_take,List.length_cons]at this;omega
    refine⟨kk,L.drop m,by rw[hm],?_⟩;rw[<-hx,List.take_append_drop];exact hL
theorem AD (K:Ks) (S:Ss) (zr:aZ Rn) (k:Nat) (r:Rn) (f:Fr) (R:Ss×Rn) (hr:aK k zr.2=some r) (hl:zi f.vals=false) (hF:jB K S r f=some R):
 au Tryz.prog 247 [.p (.bH rS k),.p (.agg (ey f))] (hA K S zr) (.cI []) (hA K R.1 (zr.1,bf k R.2 zr.2)):=by
 unfold jB cW at hF
 cases hfn:f.n with
 |none=>rw[hfn]at hF;cases hF
 |some kn=>
  rw[hfn]at hF;dsimp only at hF
  cases hn:aK kn K.n.2 with
  |none=>rw[hn]at hF;cases hF
  |some n=>
   rw[hn]at hF;dsimp only at hF
   cases hx:bL S f.vals with
   |none=>rw[hx]at hF;cases hF
   |some xs=>
    rw[hx]at hF;dsimp only at hF
    cases hz:gQ n with
    |false=>
     rw[hz]at hF;dsimp only at hF
     cases ho:er n.text xs with
     |none=>rw[ho]at hF;cases hF
     |some Q=>
      rw[ho]at hF;dsimp only at hF;have h:=yE K S zr k kn n r f xs Q hr hfn hn hz hx hl ho
      cases hq:kB Q.2 ⟨#[]⟩ with
      |false=>rw[hq]at hF h;cases hF;exact h
      |true=>rw[hq]at hF h;cases hF;exact h
    |true=>
     rw[hz]at hF;dsimp only at hF;rcases xs with _|⟨u,_|⟨v,_|⟨w,xs⟩⟩⟩
     ·cases hF
     ·obtain⟨kk,L,h1,h2⟩:=Fk hl hx
      exact Az K S zr k kn kk n r f u L R hr hfn hn hz h1 h2 hF
     ·obtain⟨kk,L,h1,h2⟩:=Fk hl hx
      exact BX K S zr k kn kk n r f u v L R hr hfn hn hz h1 h2 hF
     ·cases hF
def Ki (R:Option Fn):AV:=.cI [.p (match R with|some f=>eFn f|none=>.agg [.sl 1 [],.gm]),.p (.b R.isSome)]
def Fc (K:Ks) (zr:aZ Rn):Heap:=[(1000000000,gW zr),(1000000001,tq K.mm),(1000000002,NP K.mc),(1000000003,Md K.mf),(1000000004,Mi K.mt),(1000000005,OS K.im)]
theorem J9 (K:Ks) (zr:aZ Rn) (k:Nat) (r:Rn) (m:Mk) (name:ByteArray) (xs:List Vl) (fn:Fn) (es:TM Fn) (hr:aK k zr.2=some r) (hm:aK r.maker K.mm.2=some m) (he:aK m.funcs K.mf.2=some es) (hf:aV name es=some fn):
 au Tryz.prog 256 [.p (.bH rS k),.p (.s name),.p (.sl 5 (bz xs))] (Fc K zr) (Ki (some fn)) (Fc K zr):=by
 obtain⟨m1,m2,m3,m4,m5,m6⟩:=m;obtain⟨fnn,fb⟩:=fn;have hlk:=fun d=>bQ eFn name d es;rw[hf]at hlk;unfold Fc Ki gW tq Md;refine au.iN av Tryz.func256 rfl (by rfl) (by kernel_rfl) rfl rfl ?_;(conv=>whnf);refine bw cj hr rfl ?_;(conv=>whnf);refine bw jr hm rfl ?_;(conv=>whnf);refine ag ⟨rfl,rfl⟩ ?_;refine⟨jR eFn es,aj (enc:=bX eFn) he,?_⟩;refine⟨_,_,hlk _,?_⟩;(conv=>whnf);refine⟨.inl rfl,by(repeat refine⟨s6,?_⟩);trivial⟩
theorem MB {l:List Im} {j:Nat} {x:Im} (h:l[j]?=some x):(BK l)[j]?=some (.agg [.s x.trait,.s x.typ,.amp fM x.funcs]):=by
 unfold BK;rw[List.getElem?_map,h];rfl
theorem FT (K:Ks) (zr:aZ Rn) (k:Nat) (r:Rn) (m:Mk) (name:ByteArray) (xs:List Vl) (es:TM Fn) (ts:TM ByteArray) (hr:aK k zr.2=some r) (hm:aK r.maker K.mm.2=some m) (he:aK m.funcs K.mf.2=some es) (hf:aV name es=none) (ht:aK m.traits K.mt.2=some ts) (hft:aV name ts=none):
 au Tryz.prog 256 [.p (.bH rS k),.p (.s name),.p (.sl 5 (bz xs))] (Fc K zr) (Ki none) (Fc K zr):=by
 obtain⟨m1,m2,m3,m4,m5,m6⟩:=m;have hlk:=fun d=>bQ eFn name d es;have hlt:=fun d=>bQ .s name d ts;rw[hf]at hlk;rw[hft]at hlt;unfold Fc Ki gW tq Md Mi;refine au.iN av Tryz.func256 rfl (by rfl) (by kernel_rfl) rfl rfl ?_;(conv=>whnf);refine bw cj hr rfl ?_;(conv=>whnf);refine bw jr hm rfl ?_;(conv=>whnf);refine ag ⟨rfl,rfl⟩ ?_;refine⟨jR eFn es,aj (enc:=bX eFn) he,?_⟩;refine⟨_,_,hlk _,?_⟩;(conv=>whnf);refine bw cj hr rfl ?_;(conv=>whnf);refine bw jr hm rfl ?_;(conv=>whnf);refine ag ⟨rfl,rfl⟩ ?_;refine⟨jR .s ts,aj (enc:=bX .s) ht,?_⟩;refine⟨_,_,hlt _,?_⟩;(conv=>whnf);refine⟨.inl rfl,by(repeat refine⟨s6,?_⟩);trivial⟩
theorem FH (K:Ks) (zr:aZ Rn) (k:Nat) (r:Rn) (m:Mk) (name trait:ByteArray) (es:TM Fn) (ts:TM ByteArray) (hr:aK k zr.2=some r) (hm:aK r.maker K.mm.2=some m) (he:aK m.funcs K.mf.2=some es) (hf:aV name es=none) (ht:aK m.traits K.mt.2=some ts) (hft:aV name ts=some trait):
 au Tryz.prog 256 [.p (.bH rS k),.p (.s name),.p (.sl 5 (bz []))] (Fc K zr) (Ki none) (Fc K zr):=by
 obtain⟨m1,m2,m3,m4,m5,m6⟩:=m;have hlk:=fun d=>bQ eFn name d es;have hlt:=fun d=>bQ .s name d ts;rw[hf]at hlk;rw[hft]at hlt;unfold Fc Ki gW tq Md Mi;refine au.iN av Tryz.func256 rfl (by rfl) (by kernel_rfl) rfl rfl ?_;(conv=>whnf);refine bw cj hr rfl ?_;(conv=>whnf);refine bw jr hm rfl ?_;(conv=>whnf);refine ag ⟨rfl,rfl⟩ ?_;refine⟨jR eFn es,aj (enc:=bX eFn) he,?_⟩;refine⟨_,_,hlk _,?_⟩;(conv=>whnf);refine bw cj hr rfl ?_;(conv=>whnf);refine bw jr hm rfl ?_;(conv=>whnf);refine ag ⟨rfl,rfl⟩ ?_;refine⟨jR .s ts,aj (enc:=bX .s) ht,?_⟩;refine⟨_,_,hlt _,?_⟩;(conv=>whnf);refine⟨.inl rfl,by(repeat refine⟨s6,?_⟩);trivial⟩
theorem IT (K:Ks) (zr:aZ Rn) (k:Nat) (r:Rn) (m:Mk) (name trait:ByteArray) (v:Vl) (xs:List Vl) (es:TM Fn) (ts:TM ByteArray) (R:Option Fn) (hr:aK k zr.2=some r) (hm:aK r.maker K.mm.2=some m) (he:aK m.funcs K.mf.2=some es) (hf:aV name es=none) (ht:aK m.traits K.mt.2=some ts) (hft:aV name ts=some trait)
 (hF:(match Ey K m v with|none=>none|some none=>some none|some (some t)=>match vf K m with|none=>none|some l=>pq K trait t name l)=some R):
 au Tryz.prog 256 [.p (.bH rS k),.p (.s name),.p (.sl 5 (bz (v::xs)))] (Fc K zr) (Ki R) (Fc K zr):=by
 obtain⟨m1,m2,m3,m4,m5,m6⟩:=m;have hlk:=fun d=>bQ eFn name d es;have hlt:=fun d=>bQ .s name d ts;rw[hf]at hlk;rw[hft]at hlt;obtain⟨vk,vn,vt,va,vc⟩:=v;unfold Fc Ki gW tq Md Mi NP OS;unfold Ey at hF;dsimp only[Vl.kind,Vl.text]at hF;have hbs:=GF vk;refine au.qG (aG Tryz.prog) Tryz.func256 rfl (by rfl) (by show 3<=_;decide) rfl ?_;refine jh.cut (aG Tryz.prog) av (by kernel_rfl) 6 [0,1,6,10,12] [6,1000000000,1000000001,1000000002,1000000003,1000000004,1000000005] (fun typ:ByteArray=>[.p (.bH rS k),.p (.s name),.ptr 6 0,.p (.s trait),.p (.s typ)]) (fun _=>[.cells [.cx,.p .gm],.store 142 true rS zr.1 31 (cD cj zr.2),.store 84 true mS K.mm.1 6 (cD jr K.mm.2),.store 77 true cM K.mc.1 0 (cD (bX Ab) K.mc.2),.store 78 true fM K.mf.1 0 (cD (bX eFn) K.mf.2),.store 79 true tM K.mt.1 0 (cD (bX .s) K.mt.2),.store 108 false iS K.im.1 3 (cD BK K.im.2)]) (fun typ=>(match vf K ⟨m1,m2,m3,m4,m5,m6⟩ with|none=>none|some l=>pq K trait typ name l)=some R) ?_ ?_
 rotate_left
 ·intro typ hF
  refine jh.fin (aG Tryz.prog) av (by kernel_rfl) ?_;(conv=>whnf)
  cases m5 with
  |none=>
   cases hF;refine bw cj hr rfl ?_;(conv=>whnf);refine bw jr hm rfl ?_;(conv=>whnf);refine bK (aG _) av (by kernel_rfl) 0 [6,92,93,94] [6,1000000000,1000000001,1000000002,1000000003,1000000004,1000000005] (fun j (_:Unit)=>[.ptr 6 0,.p .tf,.p (.i .i64 0),.p (.i .i64 (ix j))]) (fun _ _=>[.cells [.cx,.p .gm],.store 142 true rS zr.1 31 (cD cj zr.2),.store 84 true mS K.mm.1 6 (cD jr K.mm.2),.store 77 true cM K.mc.1 0 (cD (bX Ab) K.mc.2),.store 78 true fM K.mf.1 0 (cD (bX eFn) K.mf.2),.store 79 true tM K.mt.1 0 (cD (bX .s) K.mt.2),.store 108 false iS K.im.1 3 (cD BK K.im.2)]) (fun _ _=>True) () ⟨rfl,rfl,rfl,rfl⟩ trivial ?_;rintro j _ hj -;(conv=>whnf);refine ai ?_ ?_<;>intro h1<;>conv=>whnf
   ·have:j=0:=by omega
    subst this;cases h1
   ·refine⟨.inl rfl,by(repeat refine⟨s6,?_⟩);trivial⟩
  |some q=>
   obtain⟨q1,q2⟩:=q;unfold vf at hF;dsimp only at hF
   cases hi:aK q1 K.im.2 with
   |none=>rw[hi]at hF;cases hF
   |some il=>
    rw[hi]at hF;dsimp only at hF
    cases hg:Nat.ble q2 il.length&&Nat.ble q2 2000000 with
    |false=>rw[hg]at hF;cases hF
    |true=>
     rw[hg]at hF;dsimp only at hF;rw[Bool.and_eq_true]at hg;have hg1:=Nat.le_of_ble_eq_true hg.1;have hg2:=Nat.le_of_ble_eq_true hg.2;refine bw cj hr rfl ?_;(conv=>whnf);refine bw jr hm rfl ?_;(conv=>whnf);refine bK (aG _) av (by kernel_rfl) q2 [1,6,10,12,92,93,94] [6,1000000000,1000000001,1000000002,1000000003,1000000004,1000000005] (fun j (_:Unit)=>[.p (.s name),.ptr 6 0,.p (.s trait),.p (.s typ),.p (.kE iS q1 q2),.p (.i .i64 q2),.p (.i .i64 (ix j))]) (fun _ _=>[.cells [.cx,.p .gm],.store 142 true rS zr.1 31 (cD cj zr.2),.store 84 true mS K.mm.1 6 (cD jr K.mm.2),.store 77 true cM K.mc.1 0 (cD (bX Ab) K.mc.2),.store 78 true fM K.mf.1 0 (cD (bX eFn) K.mf.2),.store 79 true tM K.mt.1 0 (cD (bX .s) K.mt.2),.store 108 false iS K.im.1 3 (cD BK K.im.2)]) (fun j _=>pq K trait typ name ((il.take q2).drop j)=some R) () ⟨rfl,rfl,rfl,rfl⟩ hF ?_;rintro j _ hj hQ;(conv=>whnf);refine ai ?_ ?_<;>intro h1<;>conv=>whnf
     ·have hj1:=cu h1 rfl hj (by omega)
      have hjl:(il.take q2)[j]?=il[j]?:=List.getElem?_take_of_lt hj1;obtain⟨a,ha⟩:∃a,il[j]?=some a:=⟨_,List.getElem?_eq_getElem (by omega)⟩
      rw[drop_cons (hjl.trans ha),pq]at hQ;have hji:(ix j).toNat=j:=by rw[kR (by omega)];simp
      refine ag ⟨by rw[kR (by omega)];omega,by rw[hji];exact hj1⟩ ?_;rw[hji];have hag:=MB ha;obtain⟨at_,ay,af⟩:=a;dsimp only at hQ hag;(conv=>whnf);refine ag ⟨rfl,by decide,.inr rfl⟩ ?_;refine⟨_,aj hi,?_⟩;refine aq (i:=j) (x:=.agg [.s at_,.s ay,.amp fM af]) (hag) ?_;(conv=>whnf);refine ai ?_ ?_<;>intro g1<;>conv=>whnf
      ·rw[show kB at_ trait=true from g1,Bool.true_and]at hQ
       refine ai ?_ ?_<;>intro g2<;>conv=>whnf
       ·rw[show kB ay typ=true from g2]at hQ
        dsimp only at hQ
        cases hfm:aK af K.mf.2 with
        |none=>rw[hfm]at hQ;cases hQ
        |some fs=>
         rw[hfm]at hQ;cases hQ;have hlf:=fun d=>bQ eFn name d fs;refine ag ⟨rfl,rfl⟩ ?_;refine⟨jR eFn fs,aj (enc:=bX eFn) hfm,?_⟩
         cases hff:aV name fs with
         |none=>
          rw[hff]at hlf;refine⟨_,_,hlf _,?_⟩;(conv=>whnf);refine⟨.inl rfl,by(repeat refine⟨s6,?_⟩);trivial⟩
         |some fn=>
          rw[hff]at hlf;obtain⟨fn1,fn2⟩:=fn;refine⟨_,_,hlf _,?_⟩;(conv=>whnf);refine⟨.inl rfl,by(repeat refine⟨s6,?_⟩);trivial⟩
       ·rw[show kB ay typ=false from g2]at hQ
        exact⟨hj1,(),⟨rfl,rfl,rfl,rfl⟩,hQ⟩
      ·rw[show kB at_ trait=false from g1,Bool.false_and]at hQ
       exact⟨hj1,(),⟨rfl,rfl,rfl,rfl⟩,hQ⟩
     ·have h1:=cv h1 rfl hj (by omega)
      subst h1;rw[List.drop_eq_nil_of_le (by rw[List.length_take];omega)]at hQ;cases hQ;refine⟨.inl rfl,by(repeat refine⟨s6,?_⟩);trivial⟩
 (conv=>whnf);refine bw cj hr rfl ?_;(conv=>whnf);refine bw jr hm rfl ?_;(conv=>whnf);refine ag ⟨rfl,rfl⟩ ?_;refine⟨jR eFn es,aj (enc:=bX eFn) he,?_⟩;refine⟨_,_,hlk _,?_⟩;(conv=>whnf);refine bw cj hr rfl ?_;(conv=>whnf);refine bw jr hm rfl ?_;(conv=>whnf);refine ag ⟨rfl,rfl⟩ ?_;refine⟨jR .s ts,aj (enc:=bX .s) ht,?_⟩;refine⟨_,_,hlt _,?_⟩;(conv=>whnf);refine aq (i:=0) (x:=.agg [.i .i64 vk,.i .i64 vn,.s vt,.sl 5 (bz va),eP cS vc]) rfl ?_;(conv=>whnf);refine kK hbs ?_;(conv=>whnf);refine aq (i:=0) (x:=.agg [.i .i64 vk,.i .i64 vn,.s vt,.sl 5 (bz va),eP cS vc]) rfl ?_;(conv=>whnf);refine ai ?_ ?_<;>intro h5<;>conv=>whnf
 ·rw[show(vk==5)=true from h5]at hF
  dsimp only at hF
  cases hmc:aK m2 K.mc.2 with
  |none=>rw[hmc]at hF;cases hF
  |some cs=>
   rw[hmc]at hF;dsimp only at hF;have hlc:=fun d=>bQ Ab vt d cs;refine bw cj hr rfl ?_;(conv=>whnf);refine bw jr hm rfl ?_;(conv=>whnf);refine aq (i:=0) (x:=.agg [.i .i64 vk,.i .i64 vn,.s vt,.sl 5 (bz va),eP cS vc]) rfl ?_;(conv=>whnf);refine ag ⟨rfl,rfl⟩ ?_;refine⟨jR Ab cs,aj (enc:=bX Ab) hmc,?_⟩
   cases hc:aV vt cs with
   |none=>
    rw[hc]at hF hlc;cases hF;refine⟨_,_,hlc _,?_⟩;(conv=>whnf);refine ag (.inl (by kernel_rfl)) ?_;(conv=>whnf);refine⟨.inl rfl,by(repeat refine⟨s6,?_⟩);trivial⟩
   |some c=>
    rw[hc]at hF hlc;obtain⟨cd,ca⟩:=c;dsimp only at hF;refine⟨_,_,hlc _,?_⟩;(conv=>whnf);refine ag (.inl (by kernel_rfl)) ?_;(conv=>whnf);exact⟨cd,⟨rfl,rfl,rfl,rfl⟩,hF⟩
 ·rw[show(vk==5)=false from h5]at hF
  dsimp only at hF;refine ai ?_ ?_<;>intro h6<;>conv=>whnf
  ·rw[show kB (qB vk) ⟨#[]⟩=true from h6]at hF
   cases hF;refine⟨.inl rfl,by(repeat refine⟨s6,?_⟩);trivial⟩
  ·rw[show kB (qB vk) ⟨#[]⟩=false from h6]at hF
   dsimp only at hF;exact⟨qB vk,⟨rfl,rfl,rfl,rfl⟩,hF⟩
noncomputable def Rc:Nat->Option TI:=hint (iX Tryz.prog) 218 [1000032]
theorem Hw:bB Tryz.prog Rc:=(aG Tryz.prog).hint _ _
theorem AI (K:Ks) (z0:aZ Sc) (c:Nat) (nd:Nd) (v:Vl) (hc:aK c K.n.2=some nd) (hl:nd.free.length<=2000000) (R:aZ Sc×Option Nat) (hF:AE v.text v.args nd.free 0 0 (z0,none)=some R):
 au Tryz.prog 257 [.p (.bH nS c),.p (eV v)] [(1000000000,iZ K.n),(1000000001,Ay sS z0)] (.p (eP sS R.2)) [(1000000000,iZ K.n),(1000000001,Ay sS R.1)]:=by
 unfold Ay iZ;obtain⟨vk,vn,vt,va,vc⟩:=v;obtain⟨n1,n2,n3,n4,n5,n6,n7,n8,n9⟩:=nd;dsimp only[Vl.text,Vl.args]at hF hl;rw[eV];refine au.intro Hw av Tryz.func257 rfl (by rfl) (by kernel_rfl) (by show 2<=_;decide) rfl ?_;(conv=>whnf);refine ag ⟨rfl,by decide,.inl rfl⟩ ?_;refine⟨_,aj hc,?_⟩;refine aq (i:=0) rfl ?_;(conv=>whnf);refine bK Hw av (by kernel_rfl) n9.length [3,5,6,12,13,14] [3,1000000000,1000000001] (fun j (z:(aZ Sc×Option Nat)×Nat)=>[.ptr 3 0,.p (eP sS z.1.2),.p (.i .i64 (z.2:Int)),.p (.sl 1 (n9.map .s)),.p (.i .i64 (n9.map PV.s).length),.p (.i .i64 (ix j))]) (fun _ z=>[.cells (iK [.i .i64 vk,.i .i64 vn,.s vt,.sl 5 (bz va),eP cS vc]),.store 160 true nS K.n.1 9 (cD dm K.n.2),.store 218 true sS z.1.1.1 7 (cD (Px sS) z.1.1.2)]) (fun j z=>z.2<=j/\AE vt va (n9.drop j) j z.2 z.1=some R) ((z0,none),0) ⟨rfl,rfl,rfl,rfl⟩ ⟨Nat.le_refl _,hF⟩ ?_;rintro j ⟨⟨⟨nx,M⟩,s⟩,k⟩ hj ⟨hk,hQ⟩;dsimp only at hk hQ;(conv=>whnf);refine ai ?_ ?_<;>intro h1<;>conv=>whnf
 ·have hj1:=cu h1 (by simp) hj (by omega)
  obtain⟨a,ha1⟩:∃a,n9[j]?=some a:=⟨_,List.getElem?_eq_getElem hj1⟩
  rw[drop_cons ha1,AE]at hQ
  cases hb:Nat.blt j vt.size with
  |false=>rw[hb]at hQ;cases hQ
  |true=>
   rw[hb]at hQ;dsimp only at hQ;rw[Nat.blt_eq]at hb;have hji:ix j=(j:Int):=kR (by omega);have hjn:(ix j).toNat=j:=by rw[hji];simp
   refine bM (x:=.s a) (by simp[ha1]) (by omega) ?_;(conv=>whnf);refine⟨_,⟨by rw[hji];omega,by rw[hji];omega⟩,rfl,?_⟩;rw[hjn];(conv=>whnf);refine ai ?_ ?_<;>intro h2<;>conv=>whnf
   ·rw[show((((vt[j]?).getD 0).toNat:Int)==49)=true from h2]at hQ
    dsimp only at hQ
    cases hv:va[k]? with
    |none=>rw[hv]at hQ;cases hQ
    |some v=>
     rw[hv]at hQ;dsimp only at hQ;obtain⟨wk,wn,wt,wa,wc⟩:=v;refine aq (i:=k) (x:=.agg [.i .i64 wk,.i .i64 wn,.s wt,.sl 5 (bz wa),eP cS wc]) (by rw[aR];simp[hv,eV]) ?_;have hkw:IntKind.i64.wrap ((k:Int)+1)=((k+1:Nat):Int):=by rw[wrap64 (by omega) (by omega)];rfl
     cases s with
     |none=>
      (conv=>whnf);rw[hkw];exact⟨hj1,(((nx+1,(nx,⟨a,.mk wk wn wt wa wc,none⟩)::M),some nx),k+1),⟨rfl,rfl,rfl,rfl⟩,by dsimp only;omega,hQ⟩
     |some s=>
      (conv=>whnf);rw[hkw];exact⟨hj1,(((nx+1,(nx,⟨a,.mk wk wn wt wa wc,(some s)⟩)::M),some nx),k+1),⟨rfl,rfl,rfl,rfl⟩,by dsimp only;omega,hQ⟩
   ·rw[show((((vt[j]?).getD 0).toNat:Int)==49)=false from h2]at hQ
    exact⟨hj1,(((nx,M),s),k),⟨rfl,rfl,rfl,rfl⟩,by dsimp only;omega,hQ⟩
 ·have h1:=cv h1 (by simp) hj (by omega)
  subst h1;rw[List.drop_length]at hQ;cases hQ;refine⟨.inl rfl,⟨s6,s6,trivial⟩⟩
end MN
