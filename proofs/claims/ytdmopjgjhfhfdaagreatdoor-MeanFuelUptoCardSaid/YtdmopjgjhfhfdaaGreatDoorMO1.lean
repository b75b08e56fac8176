/- Contracts, and the law, for every input. No conditions. -/
import Derived.Test.YtdmopjgjhfhfdaaGreatDoorMNS
import Derived.Test.YtdmopjgjhfhfdaaGreatDoorMNZ
set_option linter.all false
section
open Go Go.AM Go.Proofs TK
set_option maxRecDepth 100000
namespace MN
theorem FK (K:Ks) (S:Ss) (zr:bf Rn) (k:Nat) (r:Rn) (kn:Nat) (n:Nd) (f2:Option Nat) (f4:Int) (f5:Bool) (xs:List Vl) (R:Ss×Rn) (hr:aK k zr.2=some r) (hn:aK kn K.n.2=some n) (hF:uv K S r n xs=some R):
 av Tryz.prog 258 [.p (.bH rS k),.p (.agg (dX ⟨some kn,f2,.nA xs,f4,f5⟩))] (hA K S zr) (.cA []) (hA K R.1 (zr.1,aW k R.2 zr.2)):=by
 have hfl:=fun w=>cJ zr S.o k w r hr;have htl:=fun o=>kG zr S.o k o r hr;unfold uv at hF
 cases hm:aK r.maker K.mm.2 with
 |none=>rw[hm]at hF;cases hF
 |some m=>
  rw[hm]at hF;dsimp only at hF
  cases he:aK m.actors K.ma.2 with
  |none=>rw[he]at hF;cases hF
  |some es=>
   rw[he]at hF;dsimp only at hF;obtain⟨m1,m2,m3,m4,m5,m6⟩:=m;have hlk:=fun d=>bQ eFn n.text d es;have hxl:(bu xs).length=xs.length:=by rw[aR];simp
   cases hf:bq n.text es with
   |none=>
    rw[hf]at hF hlk;cases hF;obtain⟨n1,n2,n3,n4,n5,n6,n7,n8,n9⟩:=n;unfold hA iE sG Gy iH dX at *;dsimp only[mJ]at *;refine av.intro (ah Tryz.prog) aC Tryz.func258 rfl (by rfl) (by kernel_rfl) (by show 2≤_;decide) rfl ?_;(conv=>whnf);refine bC cP hr rfl ?_;(conv=>whnf);refine bC iU hm rfl ?_;(conv=>whnf);refine bC dc hn rfl ?_;(conv=>whnf);refine ag ⟨rfl,rfl⟩ ?_;refine⟨jB eFn es,aq (enc:=bX eFn) he,?_⟩;refine⟨_,_,hlk _,?_⟩;(conv=>whnf);refine ag (.inl (by kernel_rfl)) ?_;(conv=>whnf);refine bh [1000000000,1000000001] 300 (hfl Ac) ?_;(conv=>whnf);refine⟨.inl rfl,⟨s6,s6,s6,s6,s6,s6,s6,s6,s6,s6,s6,s6,s6,s6,s6,s6,trivial⟩⟩
   |some a=>
    rw[hf]at hF hlk;obtain⟨an,ab⟩:=a;dsimp only at hF;have hanl:(an.map PV.s).length=an.length:=List.length_map _;have hV:=iy S.c S.g xs
    cases hb:Nat.beq an.length xs.length with
    |false=>
     rw[hb]at hF;cases hF;obtain⟨n1,n2,n3,n4,n5,n6,n7,n8,n9⟩:=n;unfold hA iE sG Gy iH dX at *;dsimp only[mJ]at *;refine av.intro (ah Tryz.prog) aC Tryz.func258 rfl (by rfl) (by kernel_rfl) (by show 2≤_;decide) rfl ?_;(conv=>whnf);refine bC cP hr rfl ?_;(conv=>whnf);refine bC iU hm rfl ?_;(conv=>whnf);refine bC dc hn rfl ?_;(conv=>whnf);refine ag ⟨rfl,rfl⟩ ?_;refine⟨jB eFn es,aq (enc:=bX eFn) he,?_⟩;refine⟨_,_,hlk _,?_⟩;(conv=>whnf);refine ag (.inl (by kernel_rfl)) ?_;(conv=>whnf)
     refine dw (by rw[hanl,hxl];have:an.length≠xs.length:=fun e=>by rw[e,Nat.beq_refl]at hb;cases hb
                   simp;omega) ?_
     (conv=>whnf);refine bh [1000000000,1000000001] 300 (hfl cG) ?_;(conv=>whnf);refine⟨.inl rfl,⟨s6,s6,s6,s6,s6,s6,s6,s6,s6,s6,s6,s6,s6,s6,s6,s6,trivial⟩⟩
    |true=>
     rw[hb]at hF;dsimp only at hF
     cases hQ:oc S.c S.g xs with
     |none=>rw[hQ]at hF;cases hF
     |some Q=>
      rw[hQ]at hF;have hV:=hV Q hQ;obtain⟨⟨os,why⟩,c2,g2⟩:=Q;dsimp only at hF hV;obtain⟨n1,n2,n3,n4,n5,n6,n7,n8,n9⟩:=n;have hend:=fun(M:List (Nat×Rn)) (r':Rn)=>bM cP k r' M
      cases hw:jV why ⟨#[]⟩ with
      |false=>
       rw[hw]at hF;cases hF;unfold hA iE sG Gy iH dX at *;dsimp only[mJ]at *;refine av.intro (ah Tryz.prog) aC Tryz.func258 rfl (by rfl) (by kernel_rfl) (by show 2≤_;decide) rfl ?_;(conv=>whnf);refine bC cP hr rfl ?_;(conv=>whnf);refine bC iU hm rfl ?_;(conv=>whnf);refine bC dc hn rfl ?_;(conv=>whnf);refine ag ⟨rfl,rfl⟩ ?_;refine⟨jB eFn es,aq (enc:=bX eFn) he,?_⟩;refine⟨_,_,hlk _,?_⟩;(conv=>whnf);refine ag (.inl (by kernel_rfl)) ?_;(conv=>whnf);refine bD (by rw[hanl,hxl,Nat.eq_of_beq_eq_true hb];simp) ?_;(conv=>whnf);refine bh [1000000008,1000000015] 300 hV ?_;(conv=>whnf);refine dw (by rw[show(why.toList==ByteArray.toList ⟨#[]⟩)=false from hw];rfl) ?_;(conv=>whnf);refine bh [1000000000,1000000001] 300 (hfl why) ?_;(conv=>whnf);refine⟨.inl rfl,⟨s6,s6,s6,s6,s6,s6,s6,s6,s6,s6,s6,s6,s6,s6,s6,s6,trivial⟩⟩
      |true=>
       rw[hw]at hF;cases hF;have htl:=htl ⟨4,0,n3,0,0,⟨#[]⟩,[],os⟩;have hrt:=cx (y:=yz r S.o.1) hr;have hen2:=fun(y:Rn)=>(bM cP k y (aW k (yz r S.o.1) zr.2)).trans (congrArg (cC cP) (cT k (yz r S.o.1) y zr.2));unfold hA iE sG Gy iH dX at *;dsimp only[mJ]at *;refine av.intro (ah Tryz.prog) aC Tryz.func258 rfl (by rfl) (by kernel_rfl) (by show 2≤_;decide) rfl ?_;(conv=>whnf);refine bC cP hr rfl ?_;(conv=>whnf);refine bC iU hm rfl ?_;(conv=>whnf);refine bC dc hn rfl ?_;(conv=>whnf);refine ag ⟨rfl,rfl⟩ ?_;refine⟨jB eFn es,aq (enc:=bX eFn) he,?_⟩;refine⟨_,_,hlk _,?_⟩;(conv=>whnf);refine ag (.inl (by kernel_rfl)) ?_;(conv=>whnf);refine bD (by rw[hanl,hxl,Nat.eq_of_beq_eq_true hb];simp) ?_;(conv=>whnf);refine bh [1000000008,1000000015] 300 hV ?_;(conv=>whnf);refine bD (by rw[show(why.toList==ByteArray.toList ⟨#[]⟩)=true from hw];rfl) ?_;(conv=>whnf);refine bC dc hn rfl ?_;(conv=>whnf);refine bh [1000000000,1000000001] 300 htl ?_;(conv=>whnf);refine bC cP hrt rfl ?_;(conv=>whnf);obtain⟨r1,r2,r3,r4,r5,r6,r7,⟨c1,c2',c3,c4,c5⟩,⟨wk,wn,wt,wa,wc⟩,⟨o1,o2,o3,o4,o5,o6,o7,o8⟩,⟨p1,p2,p3,p4,p5⟩,r12⟩:=r;refine⟨.inl rfl,⟨⟨rfl,rfl,rfl,rfl,rfl,?_⟩,s6,s6,s6,s6,s6,s6,s6,s6,s6,s6,s6,s6,s6,s6,s6,trivial⟩⟩;exact hen2 { yz ⟨r1,r2,r3,r4,r5,r6,r7,⟨c1,c2',c3,c4,c5⟩,⟨wk,wn,wt,wa,wc⟩,⟨o1,o2,o3,o4,o5,o6,o7,o8⟩,⟨p1,p2,p3,p4,p5⟩,r12⟩ S.o.1 with mode:=2 }
theorem Ka (K:Ks) (S:Ss) (zr:bf Rn) (k:Nat) (r:Rn) (kn:Nat) (n:Nd) (f2:Option Nat) (f4:Int) (f5:Bool) (v:Vl) (xs:List Vl) (R:Ss×Rn) (hr:aK k zr.2=some r) (hn:aK kn K.n.2=some n) (hk:n.kind=20) (hF:jc S r v 2 (some (mQ S r (zy 2 v.num)))=some R):
 av Tryz.prog 250 [.p (.bH rS k),.p (.agg (dX ⟨some kn,f2,.nA (v::xs),f4,f5⟩))] (hA K S zr) (.cA []) (hA K R.1 (zr.1,aW k R.2 zr.2)):=by
 have hfl:=fun(c:bf Cl) (g:bf (List Nat)) w=>cJ zr ({ S with c:=c,g:=g }:Ss).o k w r hr;have htl:=fun(c:bf Cl) (g:bf (List Nat)) o=>kG zr ({ S with c:=c,g:=g }:Ss).o k o r hr;have hV:=iy S.c S.g xs;have hsl:(((bu (v::xs)).take (((bu (v::xs)).length:Int)).toNat).drop (1:Int).toNat)=bu xs:=by rw[Int.toNat_natCast,List.take_length];rfl
 unfold jc at hF;obtain⟨n1,n2,n3,n4,n5,n6,n7,n8,n9⟩:=n;dsimp only at hk;subst hk;obtain⟨vk,vn,vt,va,vc⟩:=v;dsimp only[Vl.kind,Vl.num,Vl.text]at hF;have hv0:(bu (.mk vk vn vt va vc::xs))[0]?=some (.agg [.i .i64 vk,.i .i64 vn,.s vt,.sl 5 (bu va),eP cS vc]):=by rw[aR];simp[eV]
 unfold hA iH dX at *;dsimp only[mJ]at *;refine av.intro (ah Tryz.prog) aC Tryz.func250 rfl (by rfl) (by kernel_rfl) (by show 2≤_;decide) rfl ?_;(conv=>whnf);refine ag (.inl (by kernel_rfl)) ?_;(conv=>whnf);refine bC dc hn rfl ?_;(conv=>whnf)
 first|refine dw (by kernel_rfl) ?_|refine bD (by kernel_rfl) ?_|skip
 conv=>whnf
 first|refine dw (by kernel_rfl) ?_|refine bD (by kernel_rfl) ?_|skip
 (conv=>whnf);refine bC dc hn rfl ?_;(conv=>whnf)
 first|refine dw (by kernel_rfl) ?_|refine bD (by kernel_rfl) ?_|skip
 (conv=>whnf);refine au (i:=0) hv0 ?_;(conv=>whnf);refine aj ?_ ?_<;>intro h1<;>conv=>whnf
 ·rw[show(vk==2)=false by simpa using h1]at hF
  cases hF;refine bh [1000000000,1000000001] 300 (hfl S.c S.g cG) ?_;(conv=>whnf);refine⟨.inl rfl,⟨s6,s6,s6,s6,s6,s6,s6,s6,s6,s6,s6,s6,s6,s6,s6,s6,trivial⟩⟩
 rw[show(vk==2)=true by simpa using h1]at hF;dsimp only at hF;refine bC dc hn rfl ?_;(conv=>whnf)
 first|refine dw (by kernel_rfl) ?_|refine bD (by kernel_rfl) ?_|skip
 conv=>whnf
 first|refine dw (by kernel_rfl) ?_|refine bD (by kernel_rfl) ?_|skip
 conv=>whnf
 first|refine dw (by kernel_rfl) ?_|refine bD (by kernel_rfl) ?_|skip
 conv=>whnf
 first|refine dw (by kernel_rfl) ?_|refine bD (by kernel_rfl) ?_|skip
 conv=>whnf
 first|refine dw (by kernel_rfl) ?_|refine bD (by kernel_rfl) ?_|skip
 (conv=>whnf);cases hF;refine au (i:=0) hv0 ?_;(conv=>whnf);refine bh [1000000000,1000000001] 300 (htl S.c S.g (zy 2 vn)) ?_;(conv=>whnf);refine⟨.inl rfl,⟨s6,s6,s6,s6,s6,s6,s6,s6,s6,s6,s6,s6,s6,s6,s6,s6,trivial⟩⟩
theorem Jd (K:Ks) (S:Ss) (zr:bf Rn) (k:Nat) (r:Rn) (kn:Nat) (n:Nd) (f2:Option Nat) (f4:Int) (f5:Bool) (v:Vl) (xs:List Vl) (R:Ss×Rn) (hr:aK k zr.2=some r) (hn:aK kn K.n.2=some n) (hk:n.kind=24) (hF:jc S r v 6 (some (mQ S r (zy 5 v.num)))=some R):
 av Tryz.prog 250 [.p (.bH rS k),.p (.agg (dX ⟨some kn,f2,.nA (v::xs),f4,f5⟩))] (hA K S zr) (.cA []) (hA K R.1 (zr.1,aW k R.2 zr.2)):=by
 have hfl:=fun(c:bf Cl) (g:bf (List Nat)) w=>cJ zr ({ S with c:=c,g:=g }:Ss).o k w r hr;have htl:=fun(c:bf Cl) (g:bf (List Nat)) o=>kG zr ({ S with c:=c,g:=g }:Ss).o k o r hr;have hV:=iy S.c S.g xs;have hsl:(((bu (v::xs)).take (((bu (v::xs)).length:Int)).toNat).drop (1:Int).toNat)=bu xs:=by rw[Int.toNat_natCast,List.take_length];rfl
 unfold jc at hF;obtain⟨n1,n2,n3,n4,n5,n6,n7,n8,n9⟩:=n;dsimp only at hk;subst hk;obtain⟨vk,vn,vt,va,vc⟩:=v;dsimp only[Vl.kind,Vl.num,Vl.text]at hF;have hv0:(bu (.mk vk vn vt va vc::xs))[0]?=some (.agg [.i .i64 vk,.i .i64 vn,.s vt,.sl 5 (bu va),eP cS vc]):=by rw[aR];simp[eV]
 unfold hA iH dX at *;dsimp only[mJ]at *;refine av.intro (ah Tryz.prog) aC Tryz.func250 rfl (by rfl) (by kernel_rfl) (by show 2≤_;decide) rfl ?_;(conv=>whnf);refine ag (.inl (by kernel_rfl)) ?_;(conv=>whnf);refine bC dc hn rfl ?_;(conv=>whnf)
 first|refine dw (by kernel_rfl) ?_|refine bD (by kernel_rfl) ?_|skip
 conv=>whnf
 first|refine dw (by kernel_rfl) ?_|refine bD (by kernel_rfl) ?_|skip
 (conv=>whnf);refine bC dc hn rfl ?_;(conv=>whnf)
 first|refine dw (by kernel_rfl) ?_|refine bD (by kernel_rfl) ?_|skip
 (conv=>whnf);refine au (i:=0) hv0 ?_;(conv=>whnf);refine aj ?_ ?_<;>intro h1<;>conv=>whnf
 ·rw[show(vk==6)=false by simpa using h1]at hF
  cases hF;refine bh [1000000000,1000000001] 300 (hfl S.c S.g cG) ?_;(conv=>whnf);refine⟨.inl rfl,⟨s6,s6,s6,s6,s6,s6,s6,s6,s6,s6,s6,s6,s6,s6,s6,s6,trivial⟩⟩
 rw[show(vk==6)=true by simpa using h1]at hF;dsimp only at hF;refine bC dc hn rfl ?_;(conv=>whnf)
 first|refine dw (by kernel_rfl) ?_|refine bD (by kernel_rfl) ?_|skip
 conv=>whnf
 first|refine dw (by kernel_rfl) ?_|refine bD (by kernel_rfl) ?_|skip
 conv=>whnf
 first|refine dw (by kernel_rfl) ?_|refine bD (by kernel_rfl) ?_|skip
 conv=>whnf
 first|refine dw (by kernel_rfl) ?_|refine bD (by kernel_rfl) ?_|skip
 conv=>whnf
 first|refine dw (by kernel_rfl) ?_|refine bD (by kernel_rfl) ?_|skip
 (conv=>whnf);cases hF;refine au (i:=0) hv0 ?_;(conv=>whnf);refine bh [1000000000,1000000001] 300 (htl S.c S.g (zy 5 vn)) ?_;(conv=>whnf);refine⟨.inl rfl,⟨s6,s6,s6,s6,s6,s6,s6,s6,s6,s6,s6,s6,s6,s6,s6,s6,trivial⟩⟩
theorem Kq (K:Ks) (S:Ss) (zr:bf Rn) (k:Nat) (r:Rn) (kn:Nat) (n:Nd) (f2:Option Nat) (f4:Int) (f5:Bool) (v:Vl) (xs:List Vl) (R:Ss×Rn) (hr:aK k zr.2=some r) (hn:aK kn K.n.2=some n) (hk:n.kind=25) (hF:jc S r v 6 (some (mQ S r (zy 6 v.num)))=some R):
 av Tryz.prog 250 [.p (.bH rS k),.p (.agg (dX ⟨some kn,f2,.nA (v::xs),f4,f5⟩))] (hA K S zr) (.cA []) (hA K R.1 (zr.1,aW k R.2 zr.2)):=by
 have hfl:=fun(c:bf Cl) (g:bf (List Nat)) w=>cJ zr ({ S with c:=c,g:=g }:Ss).o k w r hr;have htl:=fun(c:bf Cl) (g:bf (List Nat)) o=>kG zr ({ S with c:=c,g:=g }:Ss).o k o r hr;have hV:=iy S.c S.g xs;have hsl:(((bu (v::xs)).take (((bu (v::xs)).length:Int)).toNat).drop (1:Int).toNat)=bu xs:=by rw[Int.toNat_natCast,List.take_length];rfl
 unfold jc at hF;obtain⟨n1,n2,n3,n4,n5,n6,n7,n8,n9⟩:=n;dsimp only at hk;subst hk;obtain⟨vk,vn,vt,va,vc⟩:=v;dsimp only[Vl.kind,Vl.num,Vl.text]at hF;have hv0:(bu (.mk vk vn vt va vc::xs))[0]?=some (.agg [.i .i64 vk,.i .i64 vn,.s vt,.sl 5 (bu va),eP cS vc]):=by rw[aR];simp[eV]
 unfold hA iH dX at *;dsimp only[mJ]at *;refine av.intro (ah Tryz.prog) aC Tryz.func250 rfl (by rfl) (by kernel_rfl) (by show 2≤_;decide) rfl ?_;(conv=>whnf);refine ag (.inl (by kernel_rfl)) ?_;(conv=>whnf);refine bC dc hn rfl ?_;(conv=>whnf)
 first|refine dw (by kernel_rfl) ?_|refine bD (by kernel_rfl) ?_|skip
 conv=>whnf
 first|refine dw (by kernel_rfl) ?_|refine bD (by kernel_rfl) ?_|skip
 (conv=>whnf);refine bC dc hn rfl ?_;(conv=>whnf)
 first|refine dw (by kernel_rfl) ?_|refine bD (by kernel_rfl) ?_|skip
 (conv=>whnf);refine au (i:=0) hv0 ?_;(conv=>whnf);refine aj ?_ ?_<;>intro h1<;>conv=>whnf
 ·rw[show(vk==6)=false by simpa using h1]at hF
  cases hF;refine bh [1000000000,1000000001] 300 (hfl S.c S.g cG) ?_;(conv=>whnf);refine⟨.inl rfl,⟨s6,s6,s6,s6,s6,s6,s6,s6,s6,s6,s6,s6,s6,s6,s6,s6,trivial⟩⟩
 rw[show(vk==6)=true by simpa using h1]at hF;dsimp only at hF;refine bC dc hn rfl ?_;(conv=>whnf)
 first|refine dw (by kernel_rfl) ?_|refine bD (by kernel_rfl) ?_|skip
 conv=>whnf
 first|refine dw (by kernel_rfl) ?_|refine bD (by kernel_rfl) ?_|skip
 conv=>whnf
 first|refine dw (by kernel_rfl) ?_|refine bD (by kernel_rfl) ?_|skip
 conv=>whnf
 first|refine dw (by kernel_rfl) ?_|refine bD (by kernel_rfl) ?_|skip
 conv=>whnf
 first|refine dw (by kernel_rfl) ?_|refine bD (by kernel_rfl) ?_|skip
 (conv=>whnf);cases hF;refine au (i:=0) hv0 ?_;(conv=>whnf);refine bh [1000000000,1000000001] 300 (htl S.c S.g (zy 6 vn)) ?_;(conv=>whnf);refine⟨.inl rfl,⟨s6,s6,s6,s6,s6,s6,s6,s6,s6,s6,s6,s6,s6,s6,s6,s6,trivial⟩⟩
theorem JZ (K:Ks) (S:Ss) (zr:bf Rn) (k:Nat) (r:Rn) (kn:Nat) (n:Nd) (f2:Option Nat) (f4:Int) (f5:Bool) (v:Vl) (xs:List Vl) (R:Ss×Rn) (hr:aK k zr.2=some r) (hn:aK kn K.n.2=some n) (hk:n.kind=19) (hF:jc S r v 4 (some (dQ S r v.text))=some R):
 av Tryz.prog 250 [.p (.bH rS k),.p (.agg (dX ⟨some kn,f2,.nA (v::xs),f4,f5⟩))] (hA K S zr) (.cA []) (hA K R.1 (zr.1,aW k R.2 zr.2)):=by
 have hfl:=fun(c:bf Cl) (g:bf (List Nat)) w=>cJ zr ({ S with c:=c,g:=g }:Ss).o k w r hr;have htl:=fun(c:bf Cl) (g:bf (List Nat)) o=>kG zr ({ S with c:=c,g:=g }:Ss).o k o r hr;have hV:=iy S.c S.g xs;have hsl:(((bu (v::xs)).take (((bu (v::xs)).length:Int)).toNat).drop (1:Int).toNat)=bu xs:=by rw[Int.toNat_natCast,List.take_length];rfl
 unfold jc at hF;obtain⟨n1,n2,n3,n4,n5,n6,n7,n8,n9⟩:=n;dsimp only at hk;subst hk;obtain⟨vk,vn,vt,va,vc⟩:=v;dsimp only[Vl.kind,Vl.num,Vl.text]at hF;have hv0:(bu (.mk vk vn vt va vc::xs))[0]?=some (.agg [.i .i64 vk,.i .i64 vn,.s vt,.sl 5 (bu va),eP cS vc]):=by rw[aR];simp[eV]
 unfold hA iH dX at *;dsimp only[mJ]at *;refine av.intro (ah Tryz.prog) aC Tryz.func250 rfl (by rfl) (by kernel_rfl) (by show 2≤_;decide) rfl ?_;(conv=>whnf);refine ag (.inl (by kernel_rfl)) ?_;(conv=>whnf);refine bC dc hn rfl ?_;(conv=>whnf)
 first|refine dw (by kernel_rfl) ?_|refine bD (by kernel_rfl) ?_|skip
 conv=>whnf
 first|refine dw (by kernel_rfl) ?_|refine bD (by kernel_rfl) ?_|skip
 (conv=>whnf);refine bC dc hn rfl ?_;(conv=>whnf)
 first|refine dw (by kernel_rfl) ?_|refine bD (by kernel_rfl) ?_|skip
 (conv=>whnf);refine au (i:=0) hv0 ?_;(conv=>whnf);refine aj ?_ ?_<;>intro h1<;>conv=>whnf
 ·rw[show(vk==4)=false by simpa using h1]at hF
  cases hF;refine bh [1000000000,1000000001] 300 (hfl S.c S.g cG) ?_;(conv=>whnf);refine⟨.inl rfl,⟨s6,s6,s6,s6,s6,s6,s6,s6,s6,s6,s6,s6,s6,s6,s6,s6,trivial⟩⟩
 rw[show(vk==4)=true by simpa using h1]at hF;dsimp only at hF;refine bC dc hn rfl ?_;(conv=>whnf)
 first|refine dw (by kernel_rfl) ?_|refine bD (by kernel_rfl) ?_|skip
 conv=>whnf
 first|refine dw (by kernel_rfl) ?_|refine bD (by kernel_rfl) ?_|skip
 conv=>whnf
 first|refine dw (by kernel_rfl) ?_|refine bD (by kernel_rfl) ?_|skip
 conv=>whnf
 first|refine dw (by kernel_rfl) ?_|refine bD (by kernel_rfl) ?_|skip
 conv=>whnf
 first|refine dw (by kernel_rfl) ?_|refine bD (by kernel_rfl) ?_|skip
 (conv=>whnf);cases hF;refine au (i:=0) hv0 ?_;(conv=>whnf);refine bh [1000000000,1000000001] 300 (hfl S.c S.g vt) ?_;(conv=>whnf);refine⟨.inl rfl,⟨s6,s6,s6,s6,s6,s6,s6,s6,s6,s6,s6,s6,s6,s6,s6,s6,trivial⟩⟩
theorem KL (K:Ks) (S:Ss) (zr:bf Rn) (k:Nat) (r:Rn) (kn:Nat) (n:Nd) (f2:Option Nat) (f4:Int) (f5:Bool) (v:Vl) (xs:List Vl) (R:Ss×Rn) (hr:aK k zr.2=some r) (hn:aK kn K.n.2=some n) (hk:n.kind=15) (hF:jc S r v 6 (AR S r v xs)=some R):
 av Tryz.prog 250 [.p (.bH rS k),.p (.agg (dX ⟨some kn,f2,.nA (v::xs),f4,f5⟩))] (hA K S zr) (.cA []) (hA K R.1 (zr.1,aW k R.2 zr.2)):=by
 have hfl:=fun(c:bf Cl) (g:bf (List Nat)) w=>cJ zr ({ S with c:=c,g:=g }:Ss).o k w r hr;have htl:=fun(c:bf Cl) (g:bf (List Nat)) o=>kG zr ({ S with c:=c,g:=g }:Ss).o k o r hr;have hV:=iy S.c S.g xs;have hsl:(((bu (v::xs)).take (((bu (v::xs)).length:Int)).toNat).drop (1:Int).toNat)=bu xs:=by rw[Int.toNat_natCast,List.take_length];rfl
 unfold jc at hF;obtain⟨n1,n2,n3,n4,n5,n6,n7,n8,n9⟩:=n;dsimp only at hk;subst hk;obtain⟨vk,vn,vt,va,vc⟩:=v;dsimp only[Vl.kind,Vl.num,Vl.text]at hF;have hv0:(bu (.mk vk vn vt va vc::xs))[0]?=some (.agg [.i .i64 vk,.i .i64 vn,.s vt,.sl 5 (bu va),eP cS vc]):=by rw[aR];simp[eV]
 unfold hA iH dX at *;dsimp only[mJ]at *;refine av.intro (ah Tryz.prog) aC Tryz.func250 rfl (by rfl) (by kernel_rfl) (by show 2≤_;decide) rfl ?_;(conv=>whnf);refine ag (.inl (by kernel_rfl)) ?_;(conv=>whnf);refine bC dc hn rfl ?_;(conv=>whnf)
 first|refine dw (by kernel_rfl) ?_|refine bD (by kernel_rfl) ?_|skip
 conv=>whnf
 first|refine dw (by kernel_rfl) ?_|refine bD (by kernel_rfl) ?_|skip
 (conv=>whnf);refine bC dc hn rfl ?_;(conv=>whnf)
 first|refine dw (by kernel_rfl) ?_|refine bD (by kernel_rfl) ?_|skip
 (conv=>whnf);refine au (i:=0) hv0 ?_;(conv=>whnf);refine aj ?_ ?_<;>intro h1<;>conv=>whnf
 ·rw[show(vk==6)=false by simpa using h1]at hF
  cases hF;refine bh [1000000000,1000000001] 300 (hfl S.c S.g cG) ?_;(conv=>whnf);refine⟨.inl rfl,⟨s6,s6,s6,s6,s6,s6,s6,s6,s6,s6,s6,s6,s6,s6,s6,s6,trivial⟩⟩
 rw[show(vk==6)=true by simpa using h1]at hF;dsimp only at hF;refine bC dc hn rfl ?_;(conv=>whnf)
 first|refine dw (by kernel_rfl) ?_|refine bD (by kernel_rfl) ?_|skip
 conv=>whnf
 first|refine dw (by kernel_rfl) ?_|refine bD (by kernel_rfl) ?_|skip
 conv=>whnf
 first|refine dw (by kernel_rfl) ?_|refine bD (by kernel_rfl) ?_|skip
 conv=>whnf
 first|refine dw (by kernel_rfl) ?_|refine bD (by kernel_rfl) ?_|skip
 conv=>whnf
 first|refine dw (by kernel_rfl) ?_|refine bD (by kernel_rfl) ?_|skip
 (conv=>whnf);unfold AR at hF;refine ag ⟨by decide,by rw[aR];simp;omega,Int.le_refl _⟩ ?_;(conv=>whnf)
 cases hQ:oc S.c S.g xs with
 |none=>rw[hQ]at hF;cases hF
 |some Q=>
  rw[hQ]at hF;have hV:=hV Q hQ;rw[←hsl]at hV;obtain⟨⟨os,why⟩,c2,g2⟩:=Q;dsimp only at hF hV;refine bh [1000000008,1000000015] 300 hV ?_;(conv=>whnf)
  cases hw:jV why ⟨#[]⟩ with
  |false=>
   rw[hw]at hF;cases hF;refine dw (by rw[show(why.toList==ByteArray.toList ⟨#[]⟩)=false from hw];rfl) ?_;(conv=>whnf);refine bh [1000000000,1000000001] 300 (hfl c2 g2 why) ?_;(conv=>whnf);refine⟨.inl rfl,⟨s6,s6,s6,s6,s6,s6,s6,s6,s6,s6,s6,s6,s6,s6,s6,s6,trivial⟩⟩
  |true=>
   rw[hw]at hF;refine bD (by rw[show(why.toList==ByteArray.toList ⟨#[]⟩)=true from hw];rfl) ?_;(conv=>whnf)
   cases os with
   |nil=>cases hF
   |cons o os=>
    obtain⟨ok,on,ot,oa⟩:=o;cases hF;refine au (i:=0) hv0 ?_;(conv=>whnf);refine au (i:=0) (x:=.agg [.i .i64 ok,.i .i64 on,.s ot,.sl 4 (gK oa)]) (by rw[gK,eO];rfl) ?_;(conv=>whnf);refine bh [1000000000,1000000001] 300 (htl c2 g2 ⟨3,vn,⟨#[]⟩,ok,on,ot,oa,[]⟩) ?_;(conv=>whnf);refine ag (.inl (by kernel_rfl)) ?_;(conv=>whnf);refine⟨.inl rfl,⟨s6,s6,s6,s6,s6,s6,s6,s6,s6,s6,s6,s6,s6,s6,s6,s6,trivial⟩⟩
theorem Fk (K:Ks) (S:Ss) (zr:bf Rn) (k:Nat) (r:Rn) (f:Fr) (xs:List Vl) (R:Ss×Rn) (hr:aK k zr.2=some r) (hf:f.vals=.nA xs) (hF:pG K S r f xs=some R):
 av Tryz.prog 250 [.p (.bH rS k),.p (.agg (dX f))] (hA K S zr) (.cA []) (hA K R.1 (zr.1,aW k R.2 zr.2)):=by
 obtain⟨f1,f2,f3,f4,f5⟩:=f;dsimp only at hf;subst hf;unfold pG dA at hF;dsimp only at hF
 cases f1 with
 |none=>cases hF
 |some kn=>
  dsimp only at hF
  cases hn:aK kn K.n.2 with
  |none=>rw[hn]at hF;cases hF
  |some n=>
   rw[hn]at hF;dsimp only at hF
   cases h14:n.kind==14 with
   |true=>
    rw[h14]at hF;have hsp:=FK K S zr k r kn n f2 f4 f5 xs R hr hn hF;have hk:n.kind=14:=by simpa using h14
    obtain⟨n1,n2,n3,n4,n5,n6,n7,n8,n9⟩:=n;dsimp only at hk;subst hk;unfold hA iH dX at *;dsimp only[mJ]at *;refine av.intro (ah Tryz.prog) aC Tryz.func250 rfl (by rfl) (by kernel_rfl) (by show 2≤_;decide) rfl ?_;(conv=>whnf);refine ag (.inl (by kernel_rfl)) ?_;(conv=>whnf);refine bC dc hn rfl ?_;(conv=>whnf)
    first|refine dw (by kernel_rfl) ?_|refine bD (by kernel_rfl) ?_|skip
    conv=>whnf
    first|refine dw (by kernel_rfl) ?_|refine bD (by kernel_rfl) ?_|skip
    (conv=>whnf);refine bC dc hn rfl ?_;(conv=>whnf)
    first|refine dw (by kernel_rfl) ?_|refine bD (by kernel_rfl) ?_|skip
    (conv=>whnf);refine bh iA 300 hsp ?_;(conv=>whnf);refine⟨.inl rfl,⟨s6,s6,s6,s6,s6,s6,s6,s6,s6,s6,s6,s6,s6,s6,s6,s6,trivial⟩⟩
   |false=>
    rw[h14]at hF
    cases xs with
    |nil=>cases hF
    |cons v xs=>
     dsimp only at hF
     cases h20:n.kind==20 with
     |true=>rw[h20]at hF;exact Ka K S zr k r kn n f2 f4 f5 v xs R hr hn (by simpa using h20) hF
     |false=>
     rw[h20]at hF;dsimp only at hF
     cases h24:n.kind==24 with
     |true=>rw[h24]at hF;exact Jd K S zr k r kn n f2 f4 f5 v xs R hr hn (by simpa using h24) hF
     |false=>
     rw[h24]at hF;dsimp only at hF
     cases h25:n.kind==25 with
     |true=>rw[h25]at hF;exact Kq K S zr k r kn n f2 f4 f5 v xs R hr hn (by simpa using h25) hF
     |false=>
     rw[h25]at hF;dsimp only at hF
     cases h19:n.kind==19 with
     |true=>rw[h19]at hF;exact JZ K S zr k r kn n f2 f4 f5 v xs R hr hn (by simpa using h19) hF
     |false=>
     rw[h19]at hF;dsimp only at hF
     cases h15:n.kind==15 with
     |true=>rw[h15]at hF;exact KL K S zr k r kn n f2 f4 f5 v xs R hr hn (by simpa using h15) hF
     |false=>
     rw[h15]at hF;dsimp only at hF;cases hF
end MN
end
section
open Go Go.AM Go.Proofs TK
set_option maxRecDepth 100000
namespace MN
theorem u7 {fn:Nat} {K:Ks} {S:Ss} {zr:bf Rn} {H':Heap} {r:AV} {k:Nat} {f:Fr} {xs:List Vl} (hgl:fK (hA K S zr) H'=true) (hl:yu f.vals=false) (hx:bJ S f.vals=some xs)
 (h:av Tryz.prog fn [.p (.bH rS k),.p (.agg (dX { f with vals:=.nA xs }))] (hA K (dS S f.vals) zr) r H'):
 av Tryz.prog fn [.p (.bH rS k),.p (.agg (dX f))] (hA K S zr) r H':=by
 obtain⟨f1,f2,f3,f4,f5⟩:=f;dsimp only at *
 cases f3 with
 |nA l=>cases hl
 |nil=>cases hx;exact Pv (f:=⟨f1,f2,.nil,f4,f5⟩) h
 |blk kk m=>
  unfold bJ at hx;dsimp only at hx
  cases hL:aK kk S.v.2 with
  |none=>rw[hL]at hx;cases hx
  |some L=>
   rw[hL]at hx;dsimp only at hx
   cases hg:Nat.ble m L.length&&Nat.ble m 2000000 with
   |false=>rw[hg]at hx;cases hx
   |true=>
    rw[hg]at hx;cases hx;rw[Bool.and_eq_true]at hg;exact PN (f:=⟨f1,f2,.blk kk m,f4,f5⟩) hgl hL (Nat.le_of_ble_eq_true hg.1) h
theorem yA (f1 f2:Option Nat) (w w':FV) (f4:Int) (f5:Bool) (v:Vl):∀(l:List Ar) (S:Ss) (r:Rn),mj ⟨f1,f2,w,f4,f5⟩ v l S r=mj ⟨f1,f2,w',f4,f5⟩ v l S r
 | [],_,_=>rfl
 |a::l,S,r=>by
  rw[mj,mj];dsimp only;split
  ·rfl
  ·rfl
  ·exact yA f1 f2 w w' f4 f5 v l _ r
theorem NC {K:Ks} {S:Ss} {r:Rn} {f:Fr} {n:Nd} {R:Ss×Rn} (h:n.kind=6) (hF:eH K S r f n=some R):∃xs,bJ S f.vals=some xs∧A1 K S r f n xs=some R:=by
 unfold eH at hF;rw[h]at hF
 cases hx:bJ S f.vals with
 |none=>rw[hx]at hF;cases hF
 |some xs=>rw[hx]at hF;exact⟨xs,rfl,hF⟩
theorem OX {K:Ks} {S:Ss} {r:Rn} {f:Fr} {n:Nd} {R:Ss×Rn} (h:n.kind=7) (hF:eH K S r f n=some R):∃xs,bJ S f.vals=some xs∧lY K (dS S f.vals) r f xs=some R:=by
 unfold eH at hF;rw[h]at hF
 cases hx:bJ S f.vals with
 |none=>rw[hx]at hF;cases hF
 |some xs=>rw[hx]at hF;exact⟨xs,rfl,hF⟩
theorem JD {K:Ks} {S:Ss} {r:Rn} {f:Fr} {n:Nd} {R:Ss×Rn} (h:n.kind=13) (hF:eH K S r f n=some R):∃xs,bJ S f.vals=some xs∧kA K (dS S f.vals) r f xs=some R:=by
 unfold eH at hF;rw[h]at hF
 cases hx:bJ S f.vals with
 |none=>rw[hx]at hF;cases hF
 |some xs=>rw[hx]at hF;exact⟨xs,rfl,hF⟩
theorem LA {K:Ks} {S:Ss} {r:Rn} {f:Fr} {n:Nd} {R:Ss×Rn} (h:n.kind=9) (hF:eH K S r f n=some R):∃xs,bJ S f.vals=some xs∧sW K (dS S f.vals) r f xs=some R:=by
 unfold eH at hF;rw[h]at hF
 cases hx:bJ S f.vals with
 |none=>rw[hx]at hF;cases hF
 |some xs=>rw[hx]at hF;exact⟨xs,rfl,hF⟩
theorem Jn {K:Ks} {S:Ss} {r:Rn} {f:Fr} {n:Nd} {R:Ss×Rn} (h:n.kind=11) (hF:eH K S r f n=some R):∃xs,bJ S f.vals=some xs∧sW K (dS S f.vals) r f xs=some R:=by
 unfold eH at hF;rw[h]at hF
 cases hx:bJ S f.vals with
 |none=>rw[hx]at hF;cases hF
 |some xs=>rw[hx]at hF;exact⟨xs,rfl,hF⟩
theorem IC {K:Ks} {S:Ss} {r:Rn} {f:Fr} {n:Nd} {R:Ss×Rn} (h:n.kind=17) (hF:eH K S r f n=some R):∃xs,bJ S f.vals=some xs∧lZ (dS S f.vals) r f xs=some R:=by
 unfold eH at hF;rw[h]at hF
 cases hx:bJ S f.vals with
 |none=>rw[hx]at hF;cases hF
 |some xs=>rw[hx]at hF;exact⟨xs,rfl,hF⟩
theorem Oc {K:Ks} {S:Ss} {r:Rn} {f:Fr} {n:Nd} {R:Ss×Rn} (h:n.kind=8) (hF:eH K S r f n=some R):jn K S r f=some R:=by
 unfold eH at hF;rw[h]at hF;exact hF
theorem KQ {K:Ks} {S:Ss} {r:Rn} {f:Fr} {n:Nd} {R:Ss×Rn} (h:n.kind=15∨n.kind=14∨n.kind=20∨n.kind=24∨n.kind=25∨n.kind=19) (hF:eH K S r f n=some R):∃xs,bJ S f.vals=some xs∧pG K (dS S f.vals) r f xs=some R:=by
 unfold eH at hF;rcases h with h|h|h|h|h|h <;>
 ·rw[h]at hF
  cases hx:bJ S f.vals with
  |none=>rw[hx]at hF;cases hF
  |some xs=>rw[hx]at hF;exact⟨xs,rfl,hF⟩
theorem HN {K:Ks} {S:Ss} {r:Rn} {f:Fr} {n:Nd} {R:Ss×Rn} (h6:(n.kind==6)=false) (h7:(n.kind==7)=false) (h13:(n.kind==13)=false) (h8:(n.kind==8)=false) (h9:(n.kind==9)=false) (h11:(n.kind==11)=false) (h17:(n.kind==17)=false)
 (h15:(n.kind==15)=false) (h14:(n.kind==14)=false) (h20:(n.kind==20)=false) (h24:(n.kind==24)=false) (h25:(n.kind==25)=false) (h19:(n.kind==19)=false) (hF:eH K S r f n=some R):∃xs,bJ S f.vals=some xs∧qj K (dS S f.vals) r f xs=some R:=by
 unfold eH at hF;rw[h6,h7,h8,h13,h9,h11,h17,h15,h14,h20,h24,h25,h19]at hF
 cases hx:bJ S f.vals with
 |none=>rw[hx]at hF;cases hF
 |some xs=>rw[hx]at hF;exact⟨xs,rfl,hF⟩
theorem E5 (K:Ks) (S:Ss) (zr:bf Rn) (k:Nat) (r:Rn) (f:Fr) (xs:List Vl) (R:Ss×Rn) (hr:aK k zr.2=some r) (hl:yu f.vals=false) (hx:bJ S f.vals=some xs) (hF:lY K (dS S f.vals) r f xs=some R):
 av Tryz.prog 245 [.p (.bH rS k),.p (.agg (dX f))] (hA K S zr) (.cA []) (hA K R.1 (zr.1,aW k R.2 zr.2)):=by
 obtain⟨f1,f2,f3,f4,f5⟩:=f;exact u7 rfl hl hx (choose_spec K (dS S f3) zr k r ⟨f1,f2,.nA xs,f4,f5⟩ xs R hr rfl hF)
theorem DU (K:Ks) (S:Ss) (zr:bf Rn) (k:Nat) (r:Rn) (f:Fr) (xs:List Vl) (R:Ss×Rn) (hr:aK k zr.2=some r) (hl:yu f.vals=false) (hx:bJ S f.vals=some xs) (hF:sW K (dS S f.vals) r f xs=some R):
 av Tryz.prog 248 [.p (.bH rS k),.p (.agg (dX f))] (hA K S zr) (.cA []) (hA K R.1 (zr.1,aW k R.2 zr.2)):=by
 obtain⟨f1,f2,f3,f4,f5⟩:=f;exact u7 rfl hl hx (HO K (dS S f3) zr k r ⟨f1,f2,.nA xs,f4,f5⟩ xs R hr rfl hF)
theorem ET (K:Ks) (S:Ss) (zr:bf Rn) (k:Nat) (r:Rn) (f:Fr) (xs:List Vl) (R:Ss×Rn) (hr:aK k zr.2=some r) (hl:yu f.vals=false) (hx:bJ S f.vals=some xs) (hF:lZ (dS S f.vals) r f xs=some R):
 av Tryz.prog 249 [.p (.bH rS k),.p (.agg (dX f))] (hA K S zr) (.cA []) (hA K R.1 (zr.1,aW k R.2 zr.2)):=by
 obtain⟨f1,f2,f3,f4,f5⟩:=f;exact u7 rfl hl hx (DW K (dS S f3) zr k r ⟨f1,f2,.nA xs,f4,f5⟩ xs R hr rfl hF)
theorem HP (K:Ks) (S:Ss) (zr:bf Rn) (k:Nat) (r:Rn) (f:Fr) (xs:List Vl) (R:Ss×Rn) (hr:aK k zr.2=some r) (hl:yu f.vals=false) (hx:bJ S f.vals=some xs) (hF:pG K (dS S f.vals) r f xs=some R):
 av Tryz.prog 250 [.p (.bH rS k),.p (.agg (dX f))] (hA K S zr) (.cA []) (hA K R.1 (zr.1,aW k R.2 zr.2)):=by
 obtain⟨f1,f2,f3,f4,f5⟩:=f;exact u7 rfl hl hx (Fk K (dS S f3) zr k r ⟨f1,f2,.nA xs,f4,f5⟩ xs R hr rfl hF)
theorem HV (K:Ks) (S:Ss) (zr:bf Rn) (k:Nat) (r:Rn) (f:Fr) (xs:List Vl) (R:Ss×Rn) (hr:aK k zr.2=some r) (hl:yu f.vals=false) (hx:bJ S f.vals=some xs) (hF:kA K (dS S f.vals) r f xs=some R):
 av Tryz.prog 246 [.p (.bH rS k),.p (.agg (dX f))] (hA K S zr) (.cA []) (hA K R.1 (zr.1,aW k R.2 zr.2)):=by
 obtain⟨f1,f2,f3,f4,f5⟩:=f;exact u7 rfl hl hx (Fb K (dS S f3) zr k r ⟨f1,f2,.nA xs,f4,f5⟩ xs R hr rfl (by unfold kA oB at hF ⊢;simp only[yA f1 f2 (.nA xs) f3];exact hF))
theorem yx (K:Ks) (S:Ss) (zr:bf Rn) (k:Nat) (r:Rn) (f:Fr) (n:Nd) (R:Ss×Rn) (hr:aK k zr.2=some r) (hl:yu f.vals=false) (h:n.kind=7) (hF:eH K S r f n=some R):
 av Tryz.prog 245 [.p (.bH rS k),.p (.agg (dX f))] (hA K S zr) (.cA []) (hA K R.1 (zr.1,aW k R.2 zr.2)):=by
 obtain⟨xs,h1,h2⟩:=OX h hF;exact E5 K S zr k r f xs R hr hl h1 h2
theorem uD (K:Ks) (S:Ss) (zr:bf Rn) (k:Nat) (r:Rn) (f:Fr) (n:Nd) (R:Ss×Rn) (hr:aK k zr.2=some r) (hl:yu f.vals=false) (h:n.kind=13) (hF:eH K S r f n=some R):
 av Tryz.prog 246 [.p (.bH rS k),.p (.agg (dX f))] (hA K S zr) (.cA []) (hA K R.1 (zr.1,aW k R.2 zr.2)):=by
 obtain⟨xs,h1,h2⟩:=JD h hF;exact HV K S zr k r f xs R hr hl h1 h2
theorem xK (K:Ks) (S:Ss) (zr:bf Rn) (k:Nat) (r:Rn) (f:Fr) (n:Nd) (R:Ss×Rn) (hr:aK k zr.2=some r) (hl:yu f.vals=false) (h:n.kind=9) (hF:eH K S r f n=some R):
 av Tryz.prog 248 [.p (.bH rS k),.p (.agg (dX f))] (hA K S zr) (.cA []) (hA K R.1 (zr.1,aW k R.2 zr.2)):=by
 obtain⟨xs,h1,h2⟩:=LA h hF;exact DU K S zr k r f xs R hr hl h1 h2
theorem vY (K:Ks) (S:Ss) (zr:bf Rn) (k:Nat) (r:Rn) (f:Fr) (n:Nd) (R:Ss×Rn) (hr:aK k zr.2=some r) (hl:yu f.vals=false) (h:n.kind=11) (hF:eH K S r f n=some R):
 av Tryz.prog 248 [.p (.bH rS k),.p (.agg (dX f))] (hA K S zr) (.cA []) (hA K R.1 (zr.1,aW k R.2 zr.2)):=by
 obtain⟨xs,h1,h2⟩:=Jn h hF;exact DU K S zr k r f xs R hr hl h1 h2
theorem rQ (K:Ks) (S:Ss) (zr:bf Rn) (k:Nat) (r:Rn) (f:Fr) (n:Nd) (R:Ss×Rn) (hr:aK k zr.2=some r) (hl:yu f.vals=false) (h:n.kind=17) (hF:eH K S r f n=some R):
 av Tryz.prog 249 [.p (.bH rS k),.p (.agg (dX f))] (hA K S zr) (.cA []) (hA K R.1 (zr.1,aW k R.2 zr.2)):=by
 obtain⟨xs,h1,h2⟩:=IC h hF;exact ET K S zr k r f xs R hr hl h1 h2
theorem uR (K:Ks) (S:Ss) (zr:bf Rn) (k:Nat) (r:Rn) (f:Fr) (n:Nd) (R:Ss×Rn) (hr:aK k zr.2=some r) (hl:yu f.vals=false) (h:n.kind=15∨n.kind=14∨n.kind=20∨n.kind=24∨n.kind=25∨n.kind=19) (hF:eH K S r f n=some R):
 av Tryz.prog 250 [.p (.bH rS k),.p (.agg (dX f))] (hA K S zr) (.cA []) (hA K R.1 (zr.1,aW k R.2 zr.2)):=by
 obtain⟨xs,h1,h2⟩:=KQ h hF;exact HP K S zr k r f xs R hr hl h1 h2
theorem Fv (K:Ks) (S:Ss) (zr:bf Rn) (k:Nat) (r:Rn) (f:Fr) (xs:List Vl) (R:(Vl×ByteArray)×Ss) (hr:aK k zr.2=some r) (hl:yu f.vals=false) (hx:bJ S f.vals=some xs) (hF:mh K (dS S f.vals) r f xs=some R):
 av Tryz.prog 251 [.p (.bH rS k),.p (.agg (dX f))] (hA K S zr) (.cA [.p (eV R.1.1),.p (.s R.1.2)]) (hA K R.2 zr):=by
 obtain⟨f1,f2,f3,f4,f5⟩:=f;exact u7 rfl hl hx (D5 K (dS S f3) zr k r ⟨f1,f2,.nA xs,f4,f5⟩ xs R hr rfl hF)
end MN
end
