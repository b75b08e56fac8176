/- Contracts, and the law, for every input. No conditions. -/
import Derived.Test.YtdmopjgjhfhfdaaGreatDoorMNZ
set_option linter.all false
set_option maxRecDepth 100000
open Go Go.AM Go.Proofs TK
namespace MN
theorem G3 (K:Ks) (S:Ss) (zr:aZ Rn) (k:Nat) (r:Rn) (kn:Nat) (n:Nd) (f2:Option Nat) (f4:Int) (f5:Bool) (xs:List Vl) (R:Ss×Rn) (hr:aK k zr.2=some r) (hn:aK kn K.n.2=some n) (hF:vQ K S r n xs=some R):
 au Tryz.prog 258 [.p (.bH rS k),.p (.agg (ey ⟨some kn,f2,.nw xs,f4,f5⟩))] (hA K S zr) (.cI []) (hA K R.1 (zr.1,bf k R.2 zr.2)):=by
 have hfl:=fun w=>cQ zr S.o k w r hr;have htl:=fun o=>lG zr S.o k o r hr;unfold vQ at hF
 cases hm:aK r.maker K.mm.2 with
 |none=>rw[hm]at hF;cases hF
 |some m=>
  rw[hm]at hF;dsimp only at hF
  cases he:aK m.actors K.ma.2 with
  |none=>rw[he]at hF;cases hF
  |some es=>
   rw[he]at hF;dsimp only at hF;obtain⟨m1,m2,m3,m4,m5,m6⟩:=m;have hlk:=fun d=>bQ eFn n.text d es;have hxl:(bz xs).length=xs.length:=by rw[aR];simp
   cases hf:aV n.text es with
   |none=>
    rw[hf]at hF hlk;cases hF;obtain⟨n1,n2,n3,n4,n5,n6,n7,n8,n9⟩:=n;unfold hA gW tq Ik iZ ey at *;dsimp only[nq]at *;refine au.iN av Tryz.func258 rfl (by rfl) (by kernel_rfl) rfl rfl ?_;(conv=>whnf);refine bw cj hr rfl ?_;(conv=>whnf);refine bw jr hm rfl ?_;(conv=>whnf);refine bw dm hn rfl ?_;(conv=>whnf);refine ag ⟨rfl,rfl⟩ ?_;refine⟨jR eFn es,aj (enc:=bX eFn) he,?_⟩;refine⟨_,_,hlk _,?_⟩;(conv=>whnf);refine ag (.inl (by kernel_rfl)) ?_;(conv=>whnf);refine bh [1000000000,1000000001] 300 (hfl Bj) ?_;(conv=>whnf);refine⟨.inl rfl,by(repeat refine⟨s6,?_⟩);trivial⟩
   |some a=>
    rw[hf]at hF hlk;obtain⟨an,ab⟩:=a;dsimp only at hF;have hanl:(an.map PV.s).length=an.length:=List.length_map _;have hV:=iR S.c S.g xs
    cases hb:Nat.beq an.length xs.length with
    |false=>
     rw[hb]at hF;cases hF;obtain⟨n1,n2,n3,n4,n5,n6,n7,n8,n9⟩:=n;unfold hA gW tq Ik iZ ey at *;dsimp only[nq]at *;refine au.iN av Tryz.func258 rfl (by rfl) (by kernel_rfl) rfl rfl ?_;(conv=>whnf);refine bw cj hr rfl ?_;(conv=>whnf);refine bw jr hm rfl ?_;(conv=>whnf);refine bw dm hn rfl ?_;(conv=>whnf);refine ag ⟨rfl,rfl⟩ ?_;refine⟨jR eFn es,aj (enc:=bX eFn) he,?_⟩;refine⟨_,_,hlk _,?_⟩;(conv=>whnf);refine ag (.inl (by kernel_rfl)) ?_;(conv=>whnf)
     refine dy (by rw[hanl,hxl];have:an.length≠xs.length:=fun e=>by rw[e,Nat.beq_refl]at hb;cases hb
                   simp;omega) ?_
     (conv=>whnf);refine bh [1000000000,1000000001] 300 (hfl cK) ?_;(conv=>whnf);refine⟨.inl rfl,by(repeat refine⟨s6,?_⟩);trivial⟩
    |true=>
     rw[hb]at hF;dsimp only at hF
     cases hQ:ox S.c S.g xs with
     |none=>rw[hQ]at hF;cases hF
     |some Q=>
      rw[hQ]at hF;have hV:=hV Q hQ;obtain⟨⟨os,why⟩,c2,g2⟩:=Q;dsimp only at hF hV;obtain⟨n1,n2,n3,n4,n5,n6,n7,n8,n9⟩:=n;have hend:=fun(M:List (Nat×Rn)) (r':Rn)=>bN cj k r' M
      cases hw:kB why ⟨#[]⟩ with
      |false=>
       rw[hw]at hF;cases hF;unfold hA gW tq Ik iZ ey at *;dsimp only[nq]at *;refine au.iN av Tryz.func258 rfl (by rfl) (by kernel_rfl) rfl rfl ?_;(conv=>whnf);refine bw cj hr rfl ?_;(conv=>whnf);refine bw jr hm rfl ?_;(conv=>whnf);refine bw dm hn rfl ?_;(conv=>whnf);refine ag ⟨rfl,rfl⟩ ?_;refine⟨jR eFn es,aj (enc:=bX eFn) he,?_⟩;refine⟨_,_,hlk _,?_⟩;(conv=>whnf);refine ag (.inl (by kernel_rfl)) ?_;(conv=>whnf);refine bD (by rw[hanl,hxl,Nat.eq_of_beq_eq_true hb];simp) ?_;(conv=>whnf);refine bh [1000000008,1000000015] 300 hV ?_;(conv=>whnf);refine dy (by rw[show(why.toList==ByteArray.toList ⟨#[]⟩)=false from hw];rfl) ?_;(conv=>whnf);refine bh [1000000000,1000000001] 300 (hfl why) ?_;(conv=>whnf);refine⟨.inl rfl,by(repeat refine⟨s6,?_⟩);trivial⟩
      |true=>
       rw[hw]at hF;cases hF;have htl:=htl ⟨4,0,n3,0,0,⟨#[]⟩,[],os⟩;have hrt:=cA (y:=y9 r S.o.1) hr;have hen2:=fun(y:Rn)=>(bN cj k y (bf k (y9 r S.o.1) zr.2)).trans (congrArg (cD cj) (cY k (y9 r S.o.1) y zr.2));unfold hA gW tq Ik iZ ey at *;dsimp only[nq]at *;refine au.iN av Tryz.func258 rfl (by rfl) (by kernel_rfl) rfl rfl ?_;(conv=>whnf);refine bw cj hr rfl ?_;(conv=>whnf);refine bw jr hm rfl ?_;(conv=>whnf);refine bw dm hn rfl ?_;(conv=>whnf);refine ag ⟨rfl,rfl⟩ ?_;refine⟨jR eFn es,aj (enc:=bX eFn) he,?_⟩;refine⟨_,_,hlk _,?_⟩;(conv=>whnf);refine ag (.inl (by kernel_rfl)) ?_;(conv=>whnf);refine bD (by rw[hanl,hxl,Nat.eq_of_beq_eq_true hb];simp) ?_;(conv=>whnf);refine bh [1000000008,1000000015] 300 hV ?_;(conv=>whnf);refine bD (by rw[show(why.toList==ByteArray.toList ⟨#[]⟩)=true from hw];rfl) ?_;(conv=>whnf);refine bw dm hn rfl ?_;(conv=>whnf);refine bh [1000000000,1000000001] 300 htl ?_;(conv=>whnf);refine bw cj hrt rfl ?_;(conv=>whnf);obtain⟨r1,r2,r3,r4,r5,r6,r7,⟨c1,c2',c3,c4,c5⟩,⟨wk,wn,wt,wa,wc⟩,⟨o1,o2,o3,o4,o5,o6,o7,o8⟩,⟨p1,p2,p3,p4,p5⟩,r12⟩:=r;refine⟨.inl rfl,⟨⟨rfl,rfl,rfl,rfl,rfl,?_⟩,s6,s6,s6,s6,s6,s6,s6,s6,s6,s6,s6,s6,s6,s6,s6,trivial⟩⟩;exact hen2 { y9 ⟨r1,r2,r3,r4,r5,r6,r7,⟨c1,c2',c3,c4,c5⟩,⟨wk,wn,wt,wa,wc⟩,⟨o1,o2,o3,o4,o5,o6,o7,o8⟩,⟨p1,p2,p3,p4,p5⟩,r12⟩ S.o.1 with mode:=2 }
theorem LU (K:Ks) (S:Ss) (zr:aZ Rn) (k:Nat) (r:Rn) (kn:Nat) (n:Nd) (f2:Option Nat) (f4:Int) (f5:Bool) (v:Vl) (xs:List Vl) (R:Ss×Rn) (hr:aK k zr.2=some r) (hn:aK kn K.n.2=some n) (hk:n.kind=20) (hF:jx S r v 2 (some (nN S r (Aw 2 v.num)))=some R):
 au Tryz.prog 250 [.p (.bH rS k),.p (.agg (ey ⟨some kn,f2,.nw (v::xs),f4,f5⟩))] (hA K S zr) (.cI []) (hA K R.1 (zr.1,bf k R.2 zr.2)):=by
 have hfl:=fun(c:aZ Cl) (g:aZ (List Nat)) w=>cQ zr ({ S with c:=c,g:=g }:Ss).o k w r hr;have htl:=fun(c:aZ Cl) (g:aZ (List Nat)) o=>lG zr ({ S with c:=c,g:=g }:Ss).o k o r hr;have hV:=iR S.c S.g xs;have hsl:(((bz (v::xs)).take (((bz (v::xs)).length:Int)).toNat).drop (1:Int).toNat)=bz xs:=by rw[Int.toNat_natCast,List.take_length];rfl
 unfold jx at hF;obtain⟨n1,n2,n3,n4,n5,n6,n7,n8,n9⟩:=n;dsimp only at hk;subst hk;obtain⟨vk,vn,vt,va,vc⟩:=v;dsimp only[Vl.kind,Vl.num,Vl.text]at hF;have hv0:(bz (.mk vk vn vt va vc::xs))[0]?=some (.agg [.i .i64 vk,.i .i64 vn,.s vt,.sl 5 (bz va),eP cS vc]):=by rw[aR];simp[eV]
 unfold hA iZ ey at *;dsimp only[nq]at *;refine au.iN av Tryz.func250 rfl (by rfl) (by kernel_rfl) rfl rfl ?_;(conv=>whnf);refine ag (.inl (by kernel_rfl)) ?_;(conv=>whnf);refine bw dm hn rfl ?_;(conv=>whnf)
 first|refine dy (by kernel_rfl) ?_|refine bD (by kernel_rfl) ?_|skip
 conv=>whnf
 first|refine dy (by kernel_rfl) ?_|refine bD (by kernel_rfl) ?_|skip
 (conv=>whnf);refine bw dm hn rfl ?_;(conv=>whnf)
 first|refine dy (by kernel_rfl) ?_|refine bD (by kernel_rfl) ?_|skip
 (conv=>whnf);refine aq (i:=0) hv0 ?_;(conv=>whnf);refine ai ?_ ?_<;>intro h1<;>conv=>whnf
 ·rw[show(vk==2)=false by simpa using h1]at hF
  cases hF;refine bh [1000000000,1000000001] 300 (hfl S.c S.g cK) ?_;(conv=>whnf);refine⟨.inl rfl,by(repeat refine⟨s6,?_⟩);trivial⟩
 rw[show(vk==2)=true by simpa using h1]at hF;dsimp only at hF;refine bw dm hn rfl ?_;(conv=>whnf)
 first|refine dy (by kernel_rfl) ?_|refine bD (by kernel_rfl) ?_|skip
 conv=>whnf
 first|refine dy (by kernel_rfl) ?_|refine bD (by kernel_rfl) ?_|skip
 conv=>whnf
 first|refine dy (by kernel_rfl) ?_|refine bD (by kernel_rfl) ?_|skip
 conv=>whnf
 first|refine dy (by kernel_rfl) ?_|refine bD (by kernel_rfl) ?_|skip
 conv=>whnf
 first|refine dy (by kernel_rfl) ?_|refine bD (by kernel_rfl) ?_|skip
 (conv=>whnf);cases hF;refine aq (i:=0) hv0 ?_;(conv=>whnf);refine bh [1000000000,1000000001] 300 (htl S.c S.g (Aw 2 vn)) ?_;(conv=>whnf);refine⟨.inl rfl,by(repeat refine⟨s6,?_⟩);trivial⟩
theorem JU (K:Ks) (S:Ss) (zr:aZ Rn) (k:Nat) (r:Rn) (kn:Nat) (n:Nd) (f2:Option Nat) (f4:Int) (f5:Bool) (v:Vl) (xs:List Vl) (R:Ss×Rn) (hr:aK k zr.2=some r) (hn:aK kn K.n.2=some n) (hk:n.kind=24) (hF:jx S r v 6 (some (nN S r (Aw 5 v.num)))=some R):
 au Tryz.prog 250 [.p (.bH rS k),.p (.agg (ey ⟨some kn,f2,.nw (v::xs),f4,f5⟩))] (hA K S zr) (.cI []) (hA K R.1 (zr.1,bf k R.2 zr.2)):=by
 have hfl:=fun(c:aZ Cl) (g:aZ (List Nat)) w=>cQ zr ({ S with c:=c,g:=g }:Ss).o k w r hr;have htl:=fun(c:aZ Cl) (g:aZ (List Nat)) o=>lG zr ({ S with c:=c,g:=g }:Ss).o k o r hr;have hV:=iR S.c S.g xs;have hsl:(((bz (v::xs)).take (((bz (v::xs)).length:Int)).toNat).drop (1:Int).toNat)=bz xs:=by rw[Int.toNat_natCast,List.take_length];rfl
 unfold jx at hF;obtain⟨n1,n2,n3,n4,n5,n6,n7,n8,n9⟩:=n;dsimp only at hk;subst hk;obtain⟨vk,vn,vt,va,vc⟩:=v;dsimp only[Vl.kind,Vl.num,Vl.text]at hF;have hv0:(bz (.mk vk vn vt va vc::xs))[0]?=some (.agg [.i .i64 vk,.i .i64 vn,.s vt,.sl 5 (bz va),eP cS vc]):=by rw[aR];simp[eV]
 unfold hA iZ ey at *;dsimp only[nq]at *;refine au.iN av Tryz.func250 rfl (by rfl) (by kernel_rfl) rfl rfl ?_;(conv=>whnf);refine ag (.inl (by kernel_rfl)) ?_;(conv=>whnf);refine bw dm hn rfl ?_;(conv=>whnf)
 first|refine dy (by kernel_rfl) ?_|refine bD (by kernel_rfl) ?_|skip
 conv=>whnf
 first|refine dy (by kernel_rfl) ?_|refine bD (by kernel_rfl) ?_|skip
 (conv=>whnf);refine bw dm hn rfl ?_;(conv=>whnf)
 first|refine dy (by kernel_rfl) ?_|refine bD (by kernel_rfl) ?_|skip
 (conv=>whnf);refine aq (i:=0) hv0 ?_;(conv=>whnf);refine ai ?_ ?_<;>intro h1<;>conv=>whnf
 ·rw[show(vk==6)=false by simpa using h1]at hF
  cases hF;refine bh [1000000000,1000000001] 300 (hfl S.c S.g cK) ?_;(conv=>whnf);refine⟨.inl rfl,by(repeat refine⟨s6,?_⟩);trivial⟩
 rw[show(vk==6)=true by simpa using h1]at hF;dsimp only at hF;refine bw dm hn rfl ?_;(conv=>whnf)
 first|refine dy (by kernel_rfl) ?_|refine bD (by kernel_rfl) ?_|skip
 conv=>whnf
 first|refine dy (by kernel_rfl) ?_|refine bD (by kernel_rfl) ?_|skip
 conv=>whnf
 first|refine dy (by kernel_rfl) ?_|refine bD (by kernel_rfl) ?_|skip
 conv=>whnf
 first|refine dy (by kernel_rfl) ?_|refine bD (by kernel_rfl) ?_|skip
 conv=>whnf
 first|refine dy (by kernel_rfl) ?_|refine bD (by kernel_rfl) ?_|skip
 (conv=>whnf);cases hF;refine aq (i:=0) hv0 ?_;(conv=>whnf);refine bh [1000000000,1000000001] 300 (htl S.c S.g (Aw 5 vn)) ?_;(conv=>whnf);refine⟨.inl rfl,by(repeat refine⟨s6,?_⟩);trivial⟩
theorem JX (K:Ks) (S:Ss) (zr:aZ Rn) (k:Nat) (r:Rn) (kn:Nat) (n:Nd) (f2:Option Nat) (f4:Int) (f5:Bool) (v:Vl) (xs:List Vl) (R:Ss×Rn) (hr:aK k zr.2=some r) (hn:aK kn K.n.2=some n) (hk:n.kind=25) (hF:jx S r v 6 (some (nN S r (Aw 6 v.num)))=some R):
 au Tryz.prog 250 [.p (.bH rS k),.p (.agg (ey ⟨some kn,f2,.nw (v::xs),f4,f5⟩))] (hA K S zr) (.cI []) (hA K R.1 (zr.1,bf k R.2 zr.2)):=by
 have hfl:=fun(c:aZ Cl) (g:aZ (List Nat)) w=>cQ zr ({ S with c:=c,g:=g }:Ss).o k w r hr;have htl:=fun(c:aZ Cl) (g:aZ (List Nat)) o=>lG zr ({ S with c:=c,g:=g }:Ss).o k o r hr;have hV:=iR S.c S.g xs;have hsl:(((bz (v::xs)).take (((bz (v::xs)).length:Int)).toNat).drop (1:Int).toNat)=bz xs:=by rw[Int.toNat_natCast,List.take_length];rfl
 unfold jx at hF;obtain⟨n1,n2,n3,n4,n5,n6,n7,n8,n9⟩:=n;dsimp only at hk;subst hk;obtain⟨vk,vn,vt,va,vc⟩:=v;dsimp only[Vl.kind,Vl.num,Vl.text]at hF;have hv0:(bz (.mk vk vn vt va vc::xs))[0]?=some (.agg [.i .i64 vk,.i .i64 vn,.s vt,.sl 5 (bz va),eP cS vc]):=by rw[aR];simp[eV]
 unfold hA iZ ey at *;dsimp only[nq]at *;refine au.iN av Tryz.func250 rfl (by rfl) (by kernel_rfl) rfl rfl ?_;(conv=>whnf);refine ag (.inl (by kernel_rfl)) ?_;(conv=>whnf);refine bw dm hn rfl ?_;(conv=>whnf)
 first|refine dy (by kernel_rfl) ?_|refine bD (by kernel_rfl) ?_|skip
 conv=>whnf
 first|refine dy (by kernel_rfl) ?_|refine bD (by kernel_rfl) ?_|skip
 (conv=>whnf);refine bw dm hn rfl ?_;(conv=>whnf)
 first|refine dy (by kernel_rfl) ?_|refine bD (by kernel_rfl) ?_|skip
 (conv=>whnf);refine aq (i:=0) hv0 ?_;(conv=>whnf);refine ai ?_ ?_<;>intro h1<;>conv=>whnf
 ·rw[show(vk==6)=false by simpa using h1]at hF
  cases hF;refine bh [1000000000,1000000001] 300 (hfl S.c S.g cK) ?_;(conv=>whnf);refine⟨.inl rfl,by(repeat refine⟨s6,?_⟩);trivial⟩
 rw[show(vk==6)=true by simpa using h1]at hF;dsimp only at hF;refine bw dm hn rfl ?_;(conv=>whnf)
 first|refine dy (by kernel_rfl) ?_|refine bD (by kernel_rfl) ?_|skip
 conv=>whnf
 first|refine dy (by kernel_rfl) ?_|refine bD (by kernel_rfl) ?_|skip
 conv=>whnf
 first|refine dy (by kernel_rfl) ?_|refine bD (by kernel_rfl) ?_|skip
 conv=>whnf
 first|refine dy (by kernel_rfl) ?_|refine bD (by kernel_rfl) ?_|skip
 conv=>whnf
 first|refine dy (by kernel_rfl) ?_|refine bD (by kernel_rfl) ?_|skip
 (conv=>whnf);cases hF;refine aq (i:=0) hv0 ?_;(conv=>whnf);refine bh [1000000000,1000000001] 300 (htl S.c S.g (Aw 6 vn)) ?_;(conv=>whnf);refine⟨.inl rfl,by(repeat refine⟨s6,?_⟩);trivial⟩
theorem Lb (K:Ks) (S:Ss) (zr:aZ Rn) (k:Nat) (r:Rn) (kn:Nat) (n:Nd) (f2:Option Nat) (f4:Int) (f5:Bool) (v:Vl) (xs:List Vl) (R:Ss×Rn) (hr:aK k zr.2=some r) (hn:aK kn K.n.2=some n) (hk:n.kind=19) (hF:jx S r v 4 (some (dV S r v.text))=some R):
 au Tryz.prog 250 [.p (.bH rS k),.p (.agg (ey ⟨some kn,f2,.nw (v::xs),f4,f5⟩))] (hA K S zr) (.cI []) (hA K R.1 (zr.1,bf k R.2 zr.2)):=by
 have hfl:=fun(c:aZ Cl) (g:aZ (List Nat)) w=>cQ zr ({ S with c:=c,g:=g }:Ss).o k w r hr;have htl:=fun(c:aZ Cl) (g:aZ (List Nat)) o=>lG zr ({ S with c:=c,g:=g }:Ss).o k o r hr;have hV:=iR S.c S.g xs;have hsl:(((bz (v::xs)).take (((bz (v::xs)).length:Int)).toNat).drop (1:Int).toNat)=bz xs:=by rw[Int.toNat_natCast,List.take_length];rfl
 unfold jx at hF;obtain⟨n1,n2,n3,n4,n5,n6,n7,n8,n9⟩:=n;dsimp only at hk;subst hk;obtain⟨vk,vn,vt,va,vc⟩:=v;dsimp only[Vl.kind,Vl.num,Vl.text]at hF;have hv0:(bz (.mk vk vn vt va vc::xs))[0]?=some (.agg [.i .i64 vk,.i .i64 vn,.s vt,.sl 5 (bz va),eP cS vc]):=by rw[aR];simp[eV]
 unfold hA iZ ey at *;dsimp only[nq]at *;refine au.iN av Tryz.func250 rfl (by rfl) (by kernel_rfl) rfl rfl ?_;(conv=>whnf);refine ag (.inl (by kernel_rfl)) ?_;(conv=>whnf);refine bw dm hn rfl ?_;(conv=>whnf)
 first|refine dy (by kernel_rfl) ?_|refine bD (by kernel_rfl) ?_|skip
 conv=>whnf
 first|refine dy (by kernel_rfl) ?_|refine bD (by kernel_rfl) ?_|skip
 (conv=>whnf);refine bw dm hn rfl ?_;(conv=>whnf)
 first|refine dy (by kernel_rfl) ?_|refine bD (by kernel_rfl) ?_|skip
 (conv=>whnf);refine aq (i:=0) hv0 ?_;(conv=>whnf);refine ai ?_ ?_<;>intro h1<;>conv=>whnf
 ·rw[show(vk==4)=false by simpa using h1]at hF
  cases hF;refine bh [1000000000,1000000001] 300 (hfl S.c S.g cK) ?_;(conv=>whnf);refine⟨.inl rfl,by(repeat refine⟨s6,?_⟩);trivial⟩
 rw[show(vk==4)=true by simpa using h1]at hF;dsimp only at hF;refine bw dm hn rfl ?_;(conv=>whnf)
 first|refine dy (by kernel_rfl) ?_|refine bD (by kernel_rfl) ?_|skip
 conv=>whnf
 first|refine dy (by kernel_rfl) ?_|refine bD (by kernel_rfl) ?_|skip
 conv=>whnf
 first|refine dy (by kernel_rfl) ?_|refine bD (by kernel_rfl) ?_|skip
 conv=>whnf
 first|refine dy (by kernel_rfl) ?_|refine bD (by kernel_rfl) ?_|skip
 conv=>whnf
 first|refine dy (by kernel_rfl) ?_|refine bD (by kernel_rfl) ?_|skip
 (conv=>whnf);cases hF;refine aq (i:=0) hv0 ?_;(conv=>whnf);refine bh [1000000000,1000000001] 300 (hfl S.c S.g vt) ?_;(conv=>whnf);refine⟨.inl rfl,by(repeat refine⟨s6,?_⟩);trivial⟩
theorem J1 (K:Ks) (S:Ss) (zr:aZ Rn) (k:Nat) (r:Rn) (kn:Nat) (n:Nd) (f2:Option Nat) (f4:Int) (f5:Bool) (v:Vl) (xs:List Vl) (R:Ss×Rn) (hr:aK k zr.2=some r) (hn:aK kn K.n.2=some n) (hk:n.kind=15) (hF:jx S r v 6 (Bq S r v xs)=some R):
 au Tryz.prog 250 [.p (.bH rS k),.p (.agg (ey ⟨some kn,f2,.nw (v::xs),f4,f5⟩))] (hA K S zr) (.cI []) (hA K R.1 (zr.1,bf k R.2 zr.2)):=by
 have hfl:=fun(c:aZ Cl) (g:aZ (List Nat)) w=>cQ zr ({ S with c:=c,g:=g }:Ss).o k w r hr;have htl:=fun(c:aZ Cl) (g:aZ (List Nat)) o=>lG zr ({ S with c:=c,g:=g }:Ss).o k o r hr;have hV:=iR S.c S.g xs;have hsl:(((bz (v::xs)).take (((bz (v::xs)).length:Int)).toNat).drop (1:Int).toNat)=bz xs:=by rw[Int.toNat_natCast,List.take_length];rfl
 unfold jx at hF;obtain⟨n1,n2,n3,n4,n5,n6,n7,n8,n9⟩:=n;dsimp only at hk;subst hk;obtain⟨vk,vn,vt,va,vc⟩:=v;dsimp only[Vl.kind,Vl.num,Vl.text]at hF;have hv0:(bz (.mk vk vn vt va vc::xs))[0]?=some (.agg [.i .i64 vk,.i .i64 vn,.s vt,.sl 5 (bz va),eP cS vc]):=by rw[aR];simp[eV]
 unfold hA iZ ey at *;dsimp only[nq]at *;refine au.iN av Tryz.func250 rfl (by rfl) (by kernel_rfl) rfl rfl ?_;(conv=>whnf);refine ag (.inl (by kernel_rfl)) ?_;(conv=>whnf);refine bw dm hn rfl ?_;(conv=>whnf)
 first|refine dy (by kernel_rfl) ?_|refine bD (by kernel_rfl) ?_|skip
 conv=>whnf
 first|refine dy (by kernel_rfl) ?_|refine bD (by kernel_rfl) ?_|skip
 (conv=>whnf);refine bw dm hn rfl ?_;(conv=>whnf)
 first|refine dy (by kernel_rfl) ?_|refine bD (by kernel_rfl) ?_|skip
 (conv=>whnf);refine aq (i:=0) hv0 ?_;(conv=>whnf);refine ai ?_ ?_<;>intro h1<;>conv=>whnf
 ·rw[show(vk==6)=false by simpa using h1]at hF
  cases hF;refine bh [1000000000,1000000001] 300 (hfl S.c S.g cK) ?_;(conv=>whnf);refine⟨.inl rfl,by(repeat refine⟨s6,?_⟩);trivial⟩
 rw[show(vk==6)=true by simpa using h1]at hF;dsimp only at hF;refine bw dm hn rfl ?_;(conv=>whnf)
 first|refine dy (by kernel_rfl) ?_|refine bD (by kernel_rfl) ?_|skip
 conv=>whnf
 first|refine dy (by kernel_rfl) ?_|refine bD (by kernel_rfl) ?_|skip
 conv=>whnf
 first|refine dy (by kernel_rfl) ?_|refine bD (by kernel_rfl) ?_|skip
 conv=>whnf
 first|refine dy (by kernel_rfl) ?_|refine bD (by kernel_rfl) ?_|skip
 conv=>whnf
 first|refine dy (by kernel_rfl) ?_|refine bD (by kernel_rfl) ?_|skip
 (conv=>whnf);unfold Bq at hF;refine ag ⟨by decide,by rw[aR];simp;omega,Int.le_refl _⟩ ?_;(conv=>whnf)
 cases hQ:ox S.c S.g xs with
 |none=>rw[hQ]at hF;cases hF
 |some Q=>
  rw[hQ]at hF;have hV:=hV Q hQ;rw[<-hsl]at hV;obtain⟨⟨os,why⟩,c2,g2⟩:=Q;dsimp only at hF hV;refine bh [1000000008,1000000015] 300 hV ?_;(conv=>whnf)
  cases hw:kB why ⟨#[]⟩ with
  |false=>
   rw[hw]at hF;cases hF;refine dy (by rw[show(why.toList==ByteArray.toList ⟨#[]⟩)=false from hw];rfl) ?_;(conv=>whnf);refine bh [1000000000,1000000001] 300 (hfl c2 g2 why) ?_;(conv=>whnf);refine⟨.inl rfl,by(repeat refine⟨s6,?_⟩);trivial⟩
  |true=>
   rw[hw]at hF;refine bD (by rw[show(why.toList==ByteArray.toList ⟨#[]⟩)=true from hw];rfl) ?_;(conv=>whnf)
   cases os with
   |nil=>cases hF
   |cons o os=>
    obtain⟨ok,on,ot,oa⟩:=o;cases hF;refine aq (i:=0) hv0 ?_;(conv=>whnf);refine aq (i:=0) (x:=.agg [.i .i64 ok,.i .i64 on,.s ot,.sl 4 (gT oa)]) (by rw[gT,eO];rfl) ?_;(conv=>whnf);refine bh [1000000000,1000000001] 300 (htl c2 g2 ⟨3,vn,⟨#[]⟩,ok,on,ot,oa,[]⟩) ?_;(conv=>whnf);refine ag (.inl (by kernel_rfl)) ?_;(conv=>whnf);refine⟨.inl rfl,by(repeat refine⟨s6,?_⟩);trivial⟩
theorem Gg (K:Ks) (S:Ss) (zr:aZ Rn) (k:Nat) (r:Rn) (f:Fr) (xs:List Vl) (R:Ss×Rn) (hr:aK k zr.2=some r) (hf:f.vals=.nw xs) (hF:qd K S r f xs=some R):
 au Tryz.prog 250 [.p (.bH rS k),.p (.agg (ey f))] (hA K S zr) (.cI []) (hA K R.1 (zr.1,bf k R.2 zr.2)):=by
 obtain⟨f1,f2,f3,f4,f5⟩:=f;dsimp only at hf;subst hf;unfold qd cW at hF;dsimp only at hF
 cases f1 with
 |none=>cases hF
 |some kn=>
  dsimp only at hF
  cases hn:aK kn K.n.2 with
  |none=>rw[hn]at hF;cases hF
  |some n=>
   rw[hn]at hF;dsimp only at hF
   cases h14:n.kind==14 with
   |true=>
    rw[h14]at hF;have hsp:=G3 K S zr k r kn n f2 f4 f5 xs R hr hn hF;have hk:n.kind=14:=by simpa using h14
    obtain⟨n1,n2,n3,n4,n5,n6,n7,n8,n9⟩:=n;dsimp only at hk;subst hk;unfold hA iZ ey at *;dsimp only[nq]at *;refine au.iN av Tryz.func250 rfl (by rfl) (by kernel_rfl) rfl rfl ?_;(conv=>whnf);refine ag (.inl (by kernel_rfl)) ?_;(conv=>whnf);refine bw dm hn rfl ?_;(conv=>whnf)
    first|refine dy (by kernel_rfl) ?_|refine bD (by kernel_rfl) ?_|skip
    conv=>whnf
    first|refine dy (by kernel_rfl) ?_|refine bD (by kernel_rfl) ?_|skip
    (conv=>whnf);refine bw dm hn rfl ?_;(conv=>whnf)
    first|refine dy (by kernel_rfl) ?_|refine bD (by kernel_rfl) ?_|skip
    (conv=>whnf);refine bh iA 300 hsp ?_;(conv=>whnf);refine⟨.inl rfl,by(repeat refine⟨s6,?_⟩);trivial⟩
   |false=>
    rw[h14]at hF
    cases xs with
    |nil=>cases hF
    |cons v xs=>
     dsimp only at hF
     cases h20:n.kind==20 with
     |true=>rw[h20]at hF;exact LU K S zr k r kn n f2 f4 f5 v xs R hr hn (by simpa using h20) hF
     |false=>
     rw[h20]at hF;dsimp only at hF
     cases h24:n.kind==24 with
     |true=>rw[h24]at hF;exact JU K S zr k r kn n f2 f4 f5 v xs R hr hn (by simpa using h24) hF
     |false=>
     rw[h24]at hF;dsimp only at hF
     cases h25:n.kind==25 with
     |true=>rw[h25]at hF;exact JX K S zr k r kn n f2 f4 f5 v xs R hr hn (by simpa using h25) hF
     |false=>
     rw[h25]at hF;dsimp only at hF
     cases h19:n.kind==19 with
     |true=>rw[h19]at hF;exact Lb K S zr k r kn n f2 f4 f5 v xs R hr hn (by simpa using h19) hF
     |false=>
     rw[h19]at hF;dsimp only at hF
     cases h15:n.kind==15 with
     |true=>rw[h15]at hF;exact J1 K S zr k r kn n f2 f4 f5 v xs R hr hn (by simpa using h15) hF
     |false=>
     rw[h15]at hF;dsimp only at hF;cases hF
theorem uZ {fn:Nat} {K:Ks} {S:Ss} {zr:aZ Rn} {H':Heap} {r:AV} {k:Nat} {f:Fr} {xs:List Vl} (hgl:fD (hA K S zr) H'=true) (hl:zi f.vals=false) (hx:bL S f.vals=some xs)
 (h:au Tryz.prog fn [.p (.bH rS k),.p (.agg (ey { f with vals:=.nw xs }))] (hA K (dY S f.vals) zr) r H'):
 au Tryz.prog fn [.p (.bH rS k),.p (.agg (ey f))] (hA K S zr) r H':=by
 obtain⟨f1,f2,f3,f4,f5⟩:=f;dsimp only at *
 cases f3 with
 |nw l=>cases hl
 |nil=>cases hx;exact Re (f:=⟨f1,f2,.nil,f4,f5⟩) h
 |blk kk m=>
  unfold bL at hx;dsimp only at hx
  cases hL:aK kk S.v.2 with
  |none=>rw[hL]at hx;cases hx
  |some L=>
   rw[hL]at hx;dsimp only at hx
   cases hg:Nat.ble m L.length&&Nat.ble m 2000000 with
   |false=>rw[hg]at hx;cases hx
   |true=>
    rw[hg]at hx;cases hx;rw[Bool.and_eq_true]at hg;exact Q5 (f:=⟨f1,f2,.blk kk m,f4,f5⟩) hgl hL (Nat.le_of_ble_eq_true hg.1) h
theorem ze (f1 f2:Option Nat) (w w':FV) (f4:Int) (f5:Bool) (v:Vl):∀(l:List Ar) (S:Ss) (r:Rn),kV ⟨f1,f2,w,f4,f5⟩ v l S r=kV ⟨f1,f2,w',f4,f5⟩ v l S r
 | [],_,_=>rfl
 |a::l,S,r=>by
  rw[kV,kV];dsimp only;split
  ·rfl
  ·rfl
  ·exact ze f1 f2 w w' f4 f5 v l _ r
theorem OF {K:Ks} {S:Ss} {r:Rn} {f:Fr} {n:Nd} {R:Ss×Rn} (h:n.kind=6) (hF:eI K S r f n=some R):∃xs,bL S f.vals=some xs/\BW K S r f n xs=some R:=by
 unfold eI at hF;rw[h]at hF
 cases hx:bL S f.vals with
 |none=>rw[hx]at hF;cases hF
 |some xs=>rw[hx]at hF;exact⟨xs,rfl,hF⟩
theorem Qh {K:Ks} {S:Ss} {r:Rn} {f:Fr} {n:Nd} {R:Ss×Rn} (h:n.kind=7) (hF:eI K S r f n=some R):∃xs,bL S f.vals=some xs/\mT K (dY S f.vals) r f xs=some R:=by
 unfold eI at hF;rw[h]at hF
 cases hx:bL S f.vals with
 |none=>rw[hx]at hF;cases hF
 |some xs=>rw[hx]at hF;exact⟨xs,rfl,hF⟩
theorem JR {K:Ks} {S:Ss} {r:Rn} {f:Fr} {n:Nd} {R:Ss×Rn} (h:n.kind=13) (hF:eI K S r f n=some R):∃xs,bL S f.vals=some xs/\kW K (dY S f.vals) r f xs=some R:=by
 unfold eI at hF;rw[h]at hF
 cases hx:bL S f.vals with
 |none=>rw[hx]at hF;cases hF
 |some xs=>rw[hx]at hF;exact⟨xs,rfl,hF⟩
theorem MD {K:Ks} {S:Ss} {r:Rn} {f:Fr} {n:Nd} {R:Ss×Rn} (h:n.kind=9) (hF:eI K S r f n=some R):∃xs,bL S f.vals=some xs/\uE K (dY S f.vals) r f xs=some R:=by
 unfold eI at hF;rw[h]at hF
 cases hx:bL S f.vals with
 |none=>rw[hx]at hF;cases hF
 |some xs=>rw[hx]at hF;exact⟨xs,rfl,hF⟩
theorem L8 {K:Ks} {S:Ss} {r:Rn} {f:Fr} {n:Nd} {R:Ss×Rn} (h:n.kind=11) (hF:eI K S r f n=some R):∃xs,bL S f.vals=some xs/\uE K (dY S f.vals) r f xs=some R:=by
 unfold eI at hF;rw[h]at hF
 cases hx:bL S f.vals with
 |none=>rw[hx]at hF;cases hF
 |some xs=>rw[hx]at hF;exact⟨xs,rfl,hF⟩
theorem II {K:Ks} {S:Ss} {r:Rn} {f:Fr} {n:Nd} {R:Ss×Rn} (h:n.kind=17) (hF:eI K S r f n=some R):∃xs,bL S f.vals=some xs/\mQ (dY S f.vals) r f xs=some R:=by
 unfold eI at hF;rw[h]at hF
 cases hx:bL S f.vals with
 |none=>rw[hx]at hF;cases hF
 |some xs=>rw[hx]at hF;exact⟨xs,rfl,hF⟩
theorem PM {K:Ks} {S:Ss} {r:Rn} {f:Fr} {n:Nd} {R:Ss×Rn} (h:n.kind=8) (hF:eI K S r f n=some R):jB K S r f=some R:=by
 unfold eI at hF;rw[h]at hF;exact hF
theorem La {K:Ks} {S:Ss} {r:Rn} {f:Fr} {n:Nd} {R:Ss×Rn} (h:n.kind=15\/n.kind=14\/n.kind=20\/n.kind=24\/n.kind=25\/n.kind=19) (hF:eI K S r f n=some R):∃xs,bL S f.vals=some xs/\qd K (dY S f.vals) r f xs=some R:=by
 unfold eI at hF;rcases h with h|h|h|h|h|h <;>
 ·rw[h]at hF
  cases hx:bL S f.vals with
  |none=>rw[hx]at hF;cases hF
  |some xs=>rw[hx]at hF;exact⟨xs,rfl,hF⟩
theorem IZ {K:Ks} {S:Ss} {r:Rn} {f:Fr} {n:Nd} {R:Ss×Rn} (h6:(n.kind==6)=false) (h7:(n.kind==7)=false) (h13:(n.kind==13)=false) (h8:(n.kind==8)=false) (h9:(n.kind==9)=false) (h11:(n.kind==11)=false) (h17:(n.kind==17)=false)
 (h15:(n.kind==15)=false) (h14:(n.kind==14)=false) (h20:(n.kind==20)=false) (h24:(n.kind==24)=false) (h25:(n.kind==25)=false) (h19:(n.kind==19)=false) (hF:eI K S r f n=some R):∃xs,bL S f.vals=some xs/\qQ K (dY S f.vals) r f xs=some R:=by
 unfold eI at hF;rw[h6,h7,h8,h13,h9,h11,h17,h15,h14,h20,h24,h25,h19]at hF
 cases hx:bL S f.vals with
 |none=>rw[hx]at hF;cases hF
 |some xs=>rw[hx]at hF;exact⟨xs,rfl,hF⟩
theorem Gl (K:Ks) (S:Ss) (zr:aZ Rn) (k:Nat) (r:Rn) (f:Fr) (xs:List Vl) (R:Ss×Rn) (hr:aK k zr.2=some r) (hl:zi f.vals=false) (hx:bL S f.vals=some xs) (hF:mT K (dY S f.vals) r f xs=some R):
 au Tryz.prog 245 [.p (.bH rS k),.p (.agg (ey f))] (hA K S zr) (.cI []) (hA K R.1 (zr.1,bf k R.2 zr.2)):=by
 obtain⟨f1,f2,f3,f4,f5⟩:=f;exact uZ rfl hl hx (choose_spec K (dY S f3) zr k r ⟨f1,f2,.nw xs,f4,f5⟩ xs R hr rfl hF)
theorem DT (K:Ks) (S:Ss) (zr:aZ Rn) (k:Nat) (r:Rn) (f:Fr) (xs:List Vl) (R:Ss×Rn) (hr:aK k zr.2=some r) (hl:zi f.vals=false) (hx:bL S f.vals=some xs) (hF:uE K (dY S f.vals) r f xs=some R):
 au Tryz.prog 248 [.p (.bH rS k),.p (.agg (ey f))] (hA K S zr) (.cI []) (hA K R.1 (zr.1,bf k R.2 zr.2)):=by
 obtain⟨f1,f2,f3,f4,f5⟩:=f;exact uZ rfl hl hx (I1 K (dY S f3) zr k r ⟨f1,f2,.nw xs,f4,f5⟩ xs R hr rfl hF)
theorem Gx (K:Ks) (S:Ss) (zr:aZ Rn) (k:Nat) (r:Rn) (f:Fr) (xs:List Vl) (R:Ss×Rn) (hr:aK k zr.2=some r) (hl:zi f.vals=false) (hx:bL S f.vals=some xs) (hF:mQ (dY S f.vals) r f xs=some R):
 au Tryz.prog 249 [.p (.bH rS k),.p (.agg (ey f))] (hA K S zr) (.cI []) (hA K R.1 (zr.1,bf k R.2 zr.2)):=by
 obtain⟨f1,f2,f3,f4,f5⟩:=f;exact uZ rfl hl hx (Dd K (dY S f3) zr k r ⟨f1,f2,.nw xs,f4,f5⟩ xs R hr rfl hF)
theorem Ja (K:Ks) (S:Ss) (zr:aZ Rn) (k:Nat) (r:Rn) (f:Fr) (xs:List Vl) (R:Ss×Rn) (hr:aK k zr.2=some r) (hl:zi f.vals=false) (hx:bL S f.vals=some xs) (hF:qd K (dY S f.vals) r f xs=some R):
 au Tryz.prog 250 [.p (.bH rS k),.p (.agg (ey f))] (hA K S zr) (.cI []) (hA K R.1 (zr.1,bf k R.2 zr.2)):=by
 obtain⟨f1,f2,f3,f4,f5⟩:=f;exact uZ rfl hl hx (Gg K (dY S f3) zr k r ⟨f1,f2,.nw xs,f4,f5⟩ xs R hr rfl hF)
theorem Jd (K:Ks) (S:Ss) (zr:aZ Rn) (k:Nat) (r:Rn) (f:Fr) (xs:List Vl) (R:Ss×Rn) (hr:aK k zr.2=some r) (hl:zi f.vals=false) (hx:bL S f.vals=some xs) (hF:kW K (dY S f.vals) r f xs=some R):
 au Tryz.prog 246 [.p (.bH rS k),.p (.agg (ey f))] (hA K S zr) (.cI []) (hA K R.1 (zr.1,bf k R.2 zr.2)):=by
 obtain⟨f1,f2,f3,f4,f5⟩:=f;exact uZ rfl hl hx (Gc K (dY S f3) zr k r ⟨f1,f2,.nw xs,f4,f5⟩ xs R hr rfl (by unfold kW nL at hF ⊢;simp only[ze f1 f2 (.nw xs) f3];exact hF))
theorem yG (K:Ks) (S:Ss) (zr:aZ Rn) (k:Nat) (r:Rn) (f:Fr) (n:Nd) (R:Ss×Rn) (hr:aK k zr.2=some r) (hl:zi f.vals=false) (h:n.kind=7) (hF:eI K S r f n=some R):
 au Tryz.prog 245 [.p (.bH rS k),.p (.agg (ey f))] (hA K S zr) (.cI []) (hA K R.1 (zr.1,bf k R.2 zr.2)):=by
 obtain⟨xs,h1,h2⟩:=Qh h hF;exact Gl K S zr k r f xs R hr hl h1 h2
theorem vP (K:Ks) (S:Ss) (zr:aZ Rn) (k:Nat) (r:Rn) (f:Fr) (n:Nd) (R:Ss×Rn) (hr:aK k zr.2=some r) (hl:zi f.vals=false) (h:n.kind=13) (hF:eI K S r f n=some R):
 au Tryz.prog 246 [.p (.bH rS k),.p (.agg (ey f))] (hA K S zr) (.cI []) (hA K R.1 (zr.1,bf k R.2 zr.2)):=by
 obtain⟨xs,h1,h2⟩:=JR h hF;exact Jd K S zr k r f xs R hr hl h1 h2
theorem yF (K:Ks) (S:Ss) (zr:aZ Rn) (k:Nat) (r:Rn) (f:Fr) (n:Nd) (R:Ss×Rn) (hr:aK k zr.2=some r) (hl:zi f.vals=false) (h:n.kind=9) (hF:eI K S r f n=some R):
 au Tryz.prog 248 [.p (.bH rS k),.p (.agg (ey f))] (hA K S zr) (.cI []) (hA K R.1 (zr.1,bf k R.2 zr.2)):=by
 obtain⟨xs,h1,h2⟩:=MD h hF;exact DT K S zr k r f xs R hr hl h1 h2
theorem wN (K:Ks) (S:Ss) (zr:aZ Rn) (k:Nat) (r:Rn) (f:Fr) (n:Nd) (R:Ss×Rn) (hr:aK k zr.2=some r) (hl:zi f.vals=false) (h:n.kind=11) (hF:eI K S r f n=some R):
 au Tryz.prog 248 [.p (.bH rS k),.p (.agg (ey f))] (hA K S zr) (.cI []) (hA K R.1 (zr.1,bf k R.2 zr.2)):=by
 obtain⟨xs,h1,h2⟩:=L8 h hF;exact DT K S zr k r f xs R hr hl h1 h2
theorem sW (K:Ks) (S:Ss) (zr:aZ Rn) (k:Nat) (r:Rn) (f:Fr) (n:Nd) (R:Ss×Rn) (hr:aK k zr.2=some r) (hl:zi f.vals=false) (h:n.kind=17) (hF:eI K S r f n=some R):
 au Tryz.prog 249 [.p (.bH rS k),.p (.agg (ey f))] (hA K S zr) (.cI []) (hA K R.1 (zr.1,bf k R.2 zr.2)):=by
 obtain⟨xs,h1,h2⟩:=II h hF;exact Gx K S zr k r f xs R hr hl h1 h2
theorem vX (K:Ks) (S:Ss) (zr:aZ Rn) (k:Nat) (r:Rn) (f:Fr) (n:Nd) (R:Ss×Rn) (hr:aK k zr.2=some r) (hl:zi f.vals=false) (h:n.kind=15\/n.kind=14\/n.kind=20\/n.kind=24\/n.kind=25\/n.kind=19) (hF:eI K S r f n=some R):
 au Tryz.prog 250 [.p (.bH rS k),.p (.agg (ey f))] (hA K S zr) (.cI []) (hA K R.1 (zr.1,bf k R.2 zr.2)):=by
 obtain⟨xs,h1,h2⟩:=La h hF;exact Ja K S zr k r f xs R hr hl h1 h2
theorem F9 (K:Ks) (S:Ss) (zr:aZ Rn) (k:Nat) (r:Rn) (f:Fr) (xs:List Vl) (R:(Vl×ByteArray)×Ss) (hr:aK k zr.2=some r) (hl:zi f.vals=false) (hx:bL S f.vals=some xs) (hF:mK K (dY S f.vals) r f xs=some R):
 au Tryz.prog 251 [.p (.bH rS k),.p (.agg (ey f))] (hA K S zr) (.cI [.p (eV R.1.1),.p (.s R.1.2)]) (hA K R.2 zr):=by
 obtain⟨f1,f2,f3,f4,f5⟩:=f;exact uZ rfl hl hx (DX K (dY S f3) zr k r ⟨f1,f2,.nw xs,f4,f5⟩ xs R hr rfl hF)
end MN
