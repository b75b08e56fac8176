/- Contracts, and the law, for every input. No conditions. -/
import Derived.Test.YtdmopjgjhfhfdaaGreatDoorMO2
set_option linter.all false
set_option maxRecDepth 100000
open Go Go.AM Go.Proofs TK
namespace MN
def HQ:List Vl->AV
 | []=>.cx
 |v::l=>.so 5 (bz (v::l))
theorem Fq (l:List Vl) (v:Vl):HQ (l++[v])=.so 5 (bz l++[eV v]):=by
 rw[show bz l++[eV v]=bz (l++[v]) by rw[aR,aR];simp];cases l<;>rfl
theorem zu (K:Ks) (S:Ss) (zr:aZ Rn) (k:Nat) (r:Rn) (f:Fr) (R:Ss×Rn) (hr:aK k zr.2=some r) (kn:Nat) (n:Nd) (hfn:f.n=some kn) (hn:aK kn K.n.2=some n) (hF:vr K S r f n=some R):
 au Tryz.prog 243 [.p (.bH rS k),.p (.agg (ey f))] (hA K S zr) (.cI []) (hA K R.1 (zr.1,bf k R.2 zr.2)):=by
 have hfl:=fun w=>cQ zr S.o k w r hr;have hgv:=fun v=>jK zr k v r hr;obtain⟨f1,f2,f3,f4,f5⟩:=f;dsimp only at hfn;subst hfn;obtain⟨n1,n2,n3,n4,n5,n6,n7,n8,n9⟩:=n;unfold vr at hF;dsimp only at hF
 cases hfb:Nat.ble n9.length 2000000 with
 |false=>rw[hfb]at hF;cases hF
 |true=>
  rw[hfb]at hF;have hfb:=Nat.le_of_ble_eq_true hfb;dsimp only at hF
  cases hcl:wL S.s.2 (S.s.1+1) f2 n9 ([],[]) with
  |none=>rw[hcl]at hF;cases hF
  |some q=>
   rw[hcl]at hF;dsimp only at hF
   cases hlg:jg S.c.2 (.mk 7 n8 (ju q.1) q.2 none) with
   |none=>rw[hlg]at hF;cases hF
   |some b=>
    rw[hlg]at hF;have hls:=oF S.c _ b hlg;have hfd:=fun s Q hQ=>find_spec sS S.s s f2 (S.s.1+1) Q hQ;unfold hA iZ ey Ay Qz zV kQ at *;rw[eV]at hls;refine au.iN av Tryz.func243 rfl (by rfl) (by kernel_rfl) rfl rfl ?_;(conv=>whnf);refine bw dm hn rfl ?_;(conv=>whnf);refine bw dm hn rfl ?_;(conv=>whnf);refine bK (aG _) av (by kernel_rfl) n9.length [0,3,4,5,21,22,23] (3::4::iA) (fun j (z:List Int×List Vl)=>[.p (.bH rS k),.ptr 3 0,.ptr 4 0,.so 1 (z.1.map (PV.i .u8)),.p (.sl 1 (n9.map .s)),.p (.i .i64 (n9.map PV.s).length),.p (.i .i64 (ix j))]) (fun j z=>.cells (iK [eP nS (some kn),eP sS f2,nq f3,.i .i64 f4,.b f5])::.cells [.p (.i .i64 7),.p (.i .i64 n8),.p (.s ⟨#[]⟩),HQ z.2,.p .gm]::An K S zr) (fun j z=>(z.1.length<=j/\z.2.length<=j)/\wL S.s.2 (S.s.1+1) f2 (n9.drop j) z=some q) ([],[]) ⟨rfl,rfl,rfl,rfl⟩ ⟨⟨Nat.le_refl _,Nat.le_refl _⟩,hcl⟩ ?_;intro j z hj hz;obtain⟨bs,l⟩:=z;have hbl:=(And.left hz).1;have hll:=(And.left hz).2;have hQ:=And.right hz;clear hz;dsimp only at hbl hll hQ;have hbm:(bs.map (PV.i .u8)).length=bs.length:=List.length_map _;have hlm:(bz l).length=l.length:=by rw[aR];simp
    (conv=>whnf);refine ai ?_ ?_<;>intro h1<;>conv=>whnf
    ·have hj1:=cu h1 (by simp) hj (by omega)
     obtain⟨a,ha1⟩:∃a,n9[j]?=some a:=⟨_,List.getElem?_eq_getElem hj1⟩
     rw[drop_cons ha1,wL]at hQ;refine bM (x:=.s a) (by simp[ha1]) (by omega) ?_;(conv=>whnf)
     cases hf:findF S.s.2 a (S.s.1+1) f2 with
     |none=>rw[hf]at hQ;cases hQ
     |some v=>
      rw[hf]at hQ;have hfs:=hfd a v hf;dsimp only at hfs hQ
      cases v with
      |none=>
       rw[show eV (Option.getD none (Vl.mk 0 0 ⟨#[]⟩ [] none))=eV (Vl.mk 0 0 ⟨#[]⟩ [] none) from rfl,eV]at hfs;cases f2
       all_goals
        refine bh [1000000005] 300 hfs ?_;(conv=>whnf);refine ag (Nat.le_trans (Nat.mul_le_mul_right _ (show(bs.map (PV.i .u8)).length+1<=2000001 by rw[hbm];omega)) (Nat.le_of_ble_eq_true (by kernel_rfl))) ?_;(conv=>whnf);refine⟨hj1,(bs++[48],l),⟨rfl,by show _=[_,_,_,AV.so 1 ((bs++[48]).map (PV.i .u8)),_,_,_];rw[List.map_append];rfl,rfl,by cases l<;>rfl⟩,⟨⟨by dsimp only;simp;omega,by dsimp only;omega⟩,hQ⟩⟩
      |some v=>
       obtain⟨vk,vn,vt,va,vc⟩:=v;rw[show eV (Option.getD (some (Vl.mk vk vn vt va vc)) (Vl.mk 0 0 ⟨#[]⟩ [] none))=eV (Vl.mk vk vn vt va vc) from rfl,eV]at hfs;have hsn:=Fq l (.mk vk vn vt va vc);rw[eV]at hsn
       cases f2 with
       |none=>rw[findF]at hf;cases hf
       |some s=>
        cases l with
        |nil=>
         refine bh [1000000005] 300 hfs ?_;(conv=>whnf);refine ag (Nat.le_trans (Nat.mul_le_mul_right _ (show(bs.map (PV.i .u8)).length+1<=2000001 by rw[hbm];omega)) (Nat.le_of_ble_eq_true (by kernel_rfl))) ?_;(conv=>whnf);refine ag (Nat.le_trans (Nat.mul_le_mul_right _ (show 0+1<=2000001 by skip;omega)) (Nat.le_of_ble_eq_true (by kernel_rfl))) ?_;(conv=>whnf);exact⟨hj1,(bs++[49],[]++[.mk vk vn vt va vc]),⟨by show _=List.map some (bu.cells _::bu.cells [_,_,_,HQ ([]++[.mk vk vn vt va vc]),_]::_);rw[hsn];rfl,by show _=[_,_,_,AV.so 1 ((bs++[49]).map (PV.i .u8)),_,_,_];rw[List.map_append];rfl,rfl,rfl⟩,⟨⟨by dsimp only;simp;omega,by simp only[List.length_append,List.length_cons,List.length_nil]at hll ⊢;omega⟩,hQ⟩⟩
        |cons w l=>
         refine bh [1000000005] 300 hfs ?_;(conv=>whnf);refine ag (Nat.le_trans (Nat.mul_le_mul_right _ (show(bs.map (PV.i .u8)).length+1<=2000001 by rw[hbm];omega)) (Nat.le_of_ble_eq_true (by kernel_rfl))) ?_;(conv=>whnf);refine ag (Nat.le_trans (Nat.mul_le_mul_right _ (show(bz (w::l)).length+1<=2000001 by rw[hlm];omega)) (Nat.le_of_ble_eq_true (by kernel_rfl))) ?_;(conv=>whnf);exact⟨hj1,(bs++[49],(w::l)++[.mk vk vn vt va vc]),⟨by show _=List.map some (bu.cells _::bu.cells [_,_,_,HQ ((w::l)++[.mk vk vn vt va vc]),_]::_);rw[hsn];rfl,by show _=[_,_,_,AV.so 1 ((bs++[49]).map (PV.i .u8)),_,_,_];rw[List.map_append];rfl,rfl,rfl⟩,⟨⟨by dsimp only;simp;omega,by simp only[List.length_append,List.length_cons,List.length_nil]at hll ⊢;omega⟩,hQ⟩⟩
    ·have h1:=cv h1 (by simp) hj (by omega)
     subst h1;rw[List.drop_length]at hQ;cases hQ
     cases l with
     |nil=>
      refine⟨bs,_,rfl,rfl,?_⟩;(conv=>whnf);refine bh [1000000008] 300 hls ?_;(conv=>whnf)
      cases b with
      |true=>
       cases hF;(conv=>whnf);refine bh [1000000000,1000000001] 300 (hfl lQ) ?_;(conv=>whnf);refine⟨.inl rfl,by(repeat refine⟨s6,?_⟩);trivial⟩
      |false=>
       cases hF;have hgv:=hgv (.mk 7 n8 (ju bs) [] none);rw[eV]at hgv;(conv=>whnf);refine bh [1000000000] 300 hgv ?_;(conv=>whnf);refine⟨.inl rfl,by(repeat refine⟨s6,?_⟩);trivial⟩
     |cons w l=>
      refine⟨bs,_,rfl,rfl,?_⟩;(conv=>whnf);refine bh [1000000008] 300 hls ?_;(conv=>whnf)
      cases b with
      |true=>
       cases hF;(conv=>whnf);refine bh [1000000000,1000000001] 300 (hfl lQ) ?_;(conv=>whnf);refine⟨.inl rfl,by(repeat refine⟨s6,?_⟩);trivial⟩
      |false=>
       cases hF;have hgv:=hgv (.mk 7 n8 (ju bs) (w::l) none);rw[eV]at hgv;(conv=>whnf);refine bh [1000000000] 300 hgv ?_;(conv=>whnf);refine⟨.inl rfl,by(repeat refine⟨s6,?_⟩);trivial⟩
theorem Fe (K:Ks) (S:Ss) (zr:aZ Rn) (k:Nat) (r:Rn) (f:Fr) (R:Ss×Rn) (hr:aK k zr.2=some r) (hl:f.vals=.nil) (hF:sw K S r f=some R):
 au Tryz.prog 237 [.p (.bH rS k),.p (.agg (ey f))] (hA K S zr) (.cI []) (hA K R.1 (zr.1,bf k R.2 zr.2)):=by
 have hrs:=wK K S zr k r f R hr;have hfl:=cQ zr S.o k cK r hr;have hwt:=fun n kn=>JH zr S.o K.n k f r n kn hr;unfold sw cW at hF;obtain⟨f1,f2,f3,f4,f5⟩:=f;dsimp only at hF hl;subst hl
 cases f1 with
 |none=>cases hF
 |some kn=>
  dsimp only at hF
  cases hn:aK kn K.n.2 with
  |none=>rw[hn]at hF;cases hF
  |some n=>
   rw[hn]at hF;have hwt:=hwt n kn rfl hn;obtain⟨n1,n2,n3,n4,n5,n6,n7,n8,n9⟩:=n;dsimp only at hF;generalize hZ:iQ ⟨n1,n2,n3,n4,n5,n6,n7,n8,n9⟩=Z at hF hwt;unfold hA iZ ey at *;dsimp only[nq]at *
   cases n5 with
   |none=>
    refine au.iN av Tryz.func237 rfl (by rfl) (by kernel_rfl) rfl rfl ?_;(conv=>whnf);refine bw dm hn rfl ?_;(conv=>whnf);refine ai ?_ ?_<;>intro h1<;>conv=>whnf
    ·rw[show decide (n7<0)=true from h1]at hF
     cases hF;refine bh [1000000000,1000000001] 300 hfl ?_;(conv=>whnf);refine⟨.inl rfl,by(repeat refine⟨s6,?_⟩);trivial⟩
    rw[show decide (n7<0)=false from h1]at hF;dsimp only at hF;refine bw dm hn rfl ?_;(conv=>whnf);refine bw dm hn rfl ?_;(conv=>whnf);refine ag (.inl (by kernel_rfl)) ?_;(conv=>whnf);refine ai ?_ ?_<;>intro h2<;>conv=>whnf
    ·rw[show decide ((fT none:Int)<n7)=true from h2]at hF
     refine bh iA 300 (hrs hF) ?_;(conv=>whnf);refine⟨.inl rfl,by(repeat refine⟨s6,?_⟩);trivial⟩
    rw[show decide ((fT none:Int)<n7)=false from h2]at hF;dsimp only at hF;refine bw dm hn rfl ?_;(conv=>whnf);refine ai ?_ ?_<;>intro h10<;>conv=>whnf
    ·rw[show(n1==10)=true from h10]at hF
     have hcs:=zu K S zr k r ⟨some kn,f2,.nil,f4,f5⟩ R hr kn _ rfl hn hF;unfold hA iZ ey at hcs;dsimp only[nq]at hcs;refine bh iA 300 hcs ?_;(conv=>whnf);refine⟨.inl rfl,by(repeat refine⟨s6,?_⟩);trivial⟩
    rw[show(n1==10)=false from h10]at hF;dsimp only at hF;refine ai ?_ ?_<;>intro h18<;>conv=>whnf
    ·rw[show(n1==18)=true from h18]at hF
     cases hF;refine bh [1000000000,1000000001,1000000002] 300 hwt ?_;(conv=>whnf);refine⟨.inl rfl,by(repeat refine⟨s6,?_⟩);trivial⟩
    rw[show(n1==18)=false from h18]at hF;refine bh iA 300 (hrs hF) ?_;(conv=>whnf);refine⟨.inl rfl,by(repeat refine⟨s6,?_⟩);trivial⟩
   |some q=>
    refine au.iN av Tryz.func237 rfl (by rfl) (by kernel_rfl) rfl rfl ?_;(conv=>whnf);refine bw dm hn rfl ?_;(conv=>whnf);refine ai ?_ ?_<;>intro h1<;>conv=>whnf
    ·rw[show decide (n7<0)=true from h1]at hF
     cases hF;refine bh [1000000000,1000000001] 300 hfl ?_;(conv=>whnf);refine⟨.inl rfl,by(repeat refine⟨s6,?_⟩);trivial⟩
    rw[show decide (n7<0)=false from h1]at hF;dsimp only at hF;refine bw dm hn rfl ?_;(conv=>whnf);refine bw dm hn rfl ?_;(conv=>whnf);refine ag (.inl (by kernel_rfl)) ?_;(conv=>whnf);refine ai ?_ ?_<;>intro h2<;>conv=>whnf
    ·rw[show decide ((fT (some q):Int)<n7)=true from h2]at hF
     refine bh iA 300 (hrs hF) ?_;(conv=>whnf);refine⟨.inl rfl,by(repeat refine⟨s6,?_⟩);trivial⟩
    rw[show decide ((fT (some q):Int)<n7)=false from h2]at hF;dsimp only at hF;refine bw dm hn rfl ?_;(conv=>whnf);refine ai ?_ ?_<;>intro h10<;>conv=>whnf
    ·rw[show(n1==10)=true from h10]at hF
     have hcs:=zu K S zr k r ⟨some kn,f2,.nil,f4,f5⟩ R hr kn _ rfl hn hF;unfold hA iZ ey at hcs;dsimp only[nq]at hcs;refine bh iA 300 hcs ?_;(conv=>whnf);refine⟨.inl rfl,by(repeat refine⟨s6,?_⟩);trivial⟩
    rw[show(n1==10)=false from h10]at hF;dsimp only at hF;refine ai ?_ ?_<;>intro h18<;>conv=>whnf
    ·rw[show(n1==18)=true from h18]at hF
     cases hF;refine bh [1000000000,1000000001,1000000002] 300 hwt ?_;(conv=>whnf);refine⟨.inl rfl,by(repeat refine⟨s6,?_⟩);trivial⟩
    rw[show(n1==18)=false from h18]at hF;refine bh iA 300 (hrs hF) ?_;(conv=>whnf);refine⟨.inl rfl,by(repeat refine⟨s6,?_⟩);trivial⟩
noncomputable def Ru:Nat->Option TI:=hint (ic (iX Tryz.prog) 136 [1,1,0,1,1]) 127 [1000050]
theorem Ig:bB Tryz.prog Ru:=((aG Tryz.prog).ic _ _).hint _ _
theorem Lp (nx g1 g2:Nat) (fl:List Vl) (v:Vl) (M:List (Nat×List Vl)):(nx,(bz fl).take g2++[eV v])::mX g1 (cD bz M)=cD bz ((nx,fl.take g2++[v])::iE g1 M):=by
 rw[cD,ug];have:bz (fl.take g2++[v])=(bz fl).take g2++[eV v]:=by rw[aR,aR];simp[List.map_take]
 rw[this]
theorem Kt {l:List Fr} {j:Nat} {f:Fr} (h:l[j]?=some f):(wV l)[j]?=some (.agg (ey f)):=by
 unfold wV;rw[List.getElem?_map,h];rfl
theorem Kk (K:Ks) (S:Ss) (zr:aZ Rn) (k:Nat) (r:Rn) (R:Ss×Rn) (hr:aK k zr.2=some r) (hc:r.cur.n.isSome) (hl:r.cur.vals=.nil) (hF:nJ K S r=some R):
 au Tryz.prog 233 [.p (.bH rS k)] (hA K S zr) (.cI []) (hA K R.1 (zr.1,bf k R.2 zr.2)):=by
 have he:=Fe K S zr k r r.cur R hr hl;obtain⟨r1,r2,r3,r4,r5,r6,r7,⟨c1,c2,c3,c4,c5⟩,⟨wk,wn,wt,wa,wc⟩,⟨o1,o2,o3,o4,o5,o6,o7,o8⟩,⟨p1,p2,p3,p4,p5⟩,r12⟩:=r;dsimp only at hl hc;subst hl
 cases c1 with
 |none=>cases hc
 |some kn=>
  unfold nJ at hF;dsimp only at hF;have he:=he hF;unfold hA gW ey at *;dsimp only[nq]at *
  cases c2 with
  |none=>
   refine au.iN av Tryz.func233 rfl (by rfl) (by kernel_rfl) rfl rfl ?_;(conv=>whnf);refine bw cj hr rfl ?_;(conv=>whnf);refine bw cj hr rfl ?_;(conv=>whnf);refine bh iA 300 he ?_;(conv=>whnf);refine⟨.inl rfl,by(repeat refine⟨s6,?_⟩);trivial⟩
  |some s=>
   refine au.iN av Tryz.func233 rfl (by rfl) (by kernel_rfl) rfl rfl ?_;(conv=>whnf);refine bw cj hr rfl ?_;(conv=>whnf);refine bw cj hr rfl ?_;(conv=>whnf);refine bh iA 300 he ?_;(conv=>whnf);refine⟨.inl rfl,by(repeat refine⟨s6,?_⟩);trivial⟩
theorem step_end (K:Ks) (S:Ss) (zr:aZ Rn) (k:Nat) (r:Rn) (hr:aK k zr.2=some r) (hc:r.cur.n=none) (hs:r.stack=none\/∃q,r.stack=some (q,0)):
 au Tryz.prog 233 [.p (.bH rS k)] (hA K S zr) (.cI []) (hA K { S with o:=(S.o.1+1,(S.o.1,E8)::S.o.2) } (zr.1,bf k (uz r E8 S.o.1) zr.2)):=by
 have he:=AP zr S.o k E8 r hr;obtain⟨r1,r2,r3,r4,r5,r6,r7,⟨c1,c2,c3,c4,c5⟩,⟨wk,wn,wt,wa,wc⟩,⟨o1,o2,o3,o4,o5,o6,o7,o8⟩,⟨p1,p2,p3,p4,p5⟩,r12⟩:=r;dsimp only at hc hs;subst hc;unfold hA gW at *;rcases hs with rfl|⟨q,rfl⟩
 ·refine au.iN av Tryz.func233 rfl (by rfl) (by kernel_rfl) rfl rfl ?_
  (conv=>whnf);refine bw cj hr rfl ?_;(conv=>whnf);refine bw cj hr rfl ?_;(conv=>whnf);refine bh [1000000000,1000000001] 300 he ?_;(conv=>whnf);refine⟨.inl rfl,by(repeat refine⟨s6,?_⟩);trivial⟩
 ·refine au.iN av Tryz.func233 rfl (by rfl) (by kernel_rfl) rfl rfl ?_
  (conv=>whnf);refine bw cj hr rfl ?_;(conv=>whnf);refine bw cj hr rfl ?_;(conv=>whnf);refine bh [1000000000,1000000001] 300 he ?_;(conv=>whnf);refine⟨.inl rfl,by(repeat refine⟨s6,?_⟩);trivial⟩
theorem L5 (K:Ks) (S:Ss) (zr:aZ Rn) (k:Nat) (r:Rn) (R:Ss×Rn) (q j:Nat) (l:List Fr) (f:Fr) (S2:Ss) (w:FV) (hr:aK k zr.2=some r) (hc:r.cur.n=none) (hs:r.stack=some (q,j+1)) (hq:aK q S.f.2=some l) (hj:l[j]?=some f) (hjb:j<=2000000)
 (hp:Bp S r.val f.vals=some (S2,w)) (hF:iu K S2 { r with stack:=some (q,j) } { f with vals:=w }=some R):
 au Tryz.prog 233 [.p (.bH rS k)] (hA K S zr) (.cI []) (hA K R.1 (zr.1,bf k R.2 zr.2)):=by
 have hrs:=wK K S2 (zr.1,bf k { r with stack:=some (q,j) } zr.2) k { r with stack:=some (q,j) } { f with vals:=w } R (cA hr) hF;rw[cY]at hrs;have hfg:=Kt hj;have hen:∀M,sset k (cj { r with stack:=some (q,j) }) (cD cj M)=cD cj (bf k { r with stack:=some (q,j) } M):=fun M=>bN cj k _ M;have hwj:IntKind.i64.wrap (((j+1:Nat):Int)-1)=(j:Int):=by rw[wrap64 (by omega) (by omega)];omega
 obtain⟨r1,r2,r3,r4,r5,r6,r7,⟨c1,c2,c3,c4,c5⟩,⟨wk,wn,wt,wa,wc⟩,⟨o1,o2,o3,o4,o5,o6,o7,o8⟩,⟨p1,p2,p3,p4,p5⟩,r12⟩:=r;obtain⟨f1,f2,f3,f4,f5⟩:=f;obtain⟨So,Ssc,Sv,Sf,Sc0,Sg0⟩:=S;dsimp only at hc hs hp;subst hc;subst hs;unfold iu cW at hF;dsimp only at hF
 cases f1 with
 |none=>cases hF
 |some kn=>
  clear hF;unfold hA gW pO J3 ey at *;dsimp only at *;rw[<-hen]at hrs;have hr2:th k (cD cj zr.2)=some [.agg (.bH mS r1::.sl 1 (r2.map .s)::eP nS r3::.i .i64 r4::.sl 5 (bz r5)::.i .i64 r6::.kE fS q (j+1)::([.gm,eP sS c2,nq c3,.i .i64 c4,.b c5]++(cV (.mk wk wn wt wa wc)++(BI ⟨o1,o2,o3,o4,o5,o6,o7,o8⟩++(ey ⟨p1,p2,p3,p4,p5⟩++[eP oS r12])))))]:=aj hr
  cases f3 with
  |nw x=>cases hp
  |nil=>
   cases hp;refine au.intro Ig av Tryz.func233 rfl (by rfl) (by kernel_rfl) (by show 1<=_;decide) rfl ?_;(conv=>whnf);refine ag ⟨rfl,by decide,.inl rfl⟩ ?_;refine⟨_,hr2,?_⟩;refine aq (i:=0) rfl ?_;(conv=>whnf);refine ag ⟨rfl,by decide,.inl rfl⟩ ?_;refine⟨_,hr2,?_⟩;refine aq (i:=0) rfl ?_;(conv=>whnf);refine bD (show decide (IntKind.i64.wrap (((j+1:Nat):Int)-1)<0)=false by rw[hwj];exact decide_eq_false (by omega)) ?_;(conv=>whnf);refine ag ⟨rfl,by decide,.inl rfl⟩ ?_;refine⟨_,hr2,?_⟩;refine aq (i:=0) rfl ?_;(conv=>whnf);refine ag ⟨by rw[hwj];omega,by rw[hwj];simp⟩ ?_;rw[hwj];(conv=>whnf);refine ag ⟨rfl,by decide,.inr rfl⟩ ?_;refine⟨_,aj hq,?_⟩;refine aq (i:=j) (x:=.agg [.bH nS kn,(eP sS f2),.tf,.i .i64 f4,.b f5]) (hfg) ?_;(conv=>whnf);refine ag ⟨rfl,by decide,.inl rfl⟩ ?_;refine⟨_,hr2,?_⟩;refine aq (i:=0) rfl ?_;(conv=>whnf);refine ag ⟨by omega,by omega⟩ ?_;rw[Int.toNat_natCast];(conv=>whnf);refine ag ⟨rfl,by decide,.inl rfl⟩ ?_;refine⟨_,hr2,?_⟩;refine aq (i:=0) rfl ?_;(conv=>whnf);refine ag ⟨rfl,by decide,.inl rfl⟩ ?_;refine⟨_,aJ hr2,?_⟩;refine aq (i:=0) rfl ?_;(conv=>whnf);refine ag ⟨Nat.succ_pos _,Nat.le_of_ble_eq_true (by kernel_rfl)⟩ ?_;(conv=>whnf);refine ag (.inl (by kernel_rfl)) ?_;(conv=>whnf);refine bh iA 300 hrs ?_;(conv=>whnf);refine⟨.inl rfl,by(repeat refine⟨s6,?_⟩);trivial⟩
  |blk kk m=>
   unfold Bp at hp;dsimp only at hp
   cases hL:aK kk Sv.2 with
   |none=>rw[hL]at hp;cases hp
   |some L=>
    rw[hL]at hp;dsimp only at hp
    cases hg:Nat.ble m L.length&&Nat.ble m 2000000 with
    |false=>rw[hg]at hp;cases hp
    |true=>
     rw[hg]at hp;cases hp;rw[Bool.and_eq_true]at hg;have hg4:=Nat.le_of_ble_eq_true hg.1;have hg5:=Nat.le_of_ble_eq_true hg.2;dsimp only at hrs;rw[<-Lp]at hrs;refine au.intro Ig av Tryz.func233 rfl (by rfl) (by kernel_rfl) (by show 1<=_;decide) rfl ?_;(conv=>whnf);refine ag ⟨rfl,by decide,.inl rfl⟩ ?_;refine⟨_,hr2,?_⟩;refine aq (i:=0) rfl ?_;(conv=>whnf);refine ag ⟨rfl,by decide,.inl rfl⟩ ?_;refine⟨_,hr2,?_⟩;refine aq (i:=0) rfl ?_;(conv=>whnf);refine bD (show decide (IntKind.i64.wrap (((j+1:Nat):Int)-1)<0)=false by rw[hwj];exact decide_eq_false (by omega)) ?_;(conv=>whnf);refine ag ⟨rfl,by decide,.inl rfl⟩ ?_;refine⟨_,hr2,?_⟩;refine aq (i:=0) rfl ?_;(conv=>whnf);refine ag ⟨by rw[hwj];omega,by rw[hwj];simp⟩ ?_;rw[hwj];(conv=>whnf);refine ag ⟨rfl,by decide,.inr rfl⟩ ?_;refine⟨_,aj hq,?_⟩;refine aq (i:=j) (x:=.agg [.bH nS kn,(eP sS f2),(.kE vS kk m),.i .i64 f4,.b f5]) (hfg) ?_;(conv=>whnf);refine ag ⟨rfl,by decide,.inl rfl⟩ ?_;refine⟨_,hr2,?_⟩;refine aq (i:=0) rfl ?_;(conv=>whnf);refine ag ⟨by omega,by omega⟩ ?_;rw[Int.toNat_natCast];(conv=>whnf);refine ag ⟨rfl,by decide,.inl rfl⟩ ?_;refine⟨_,hr2,?_⟩;refine aq (i:=0) rfl ?_;(conv=>whnf);refine ag ⟨rfl,by decide,.inl rfl⟩ ?_;refine⟨_,aJ hr2,?_⟩;refine aq (i:=0) rfl ?_;(conv=>whnf);refine⟨rfl,_,aj hL,?_⟩;refine ag ⟨by rw[aR,List.length_map];exact hg4,Nat.le_trans (Nat.mul_le_mul_right _ (show m+1<=2000001 by omega)) (Nat.le_of_ble_eq_true (by kernel_rfl))⟩ ?_;(conv=>whnf);refine ag (.inl (by kernel_rfl)) ?_;(conv=>whnf);refine bh iA 300 hrs ?_;(conv=>whnf);refine⟨.inl rfl,by(repeat refine⟨s6,?_⟩);trivial⟩
theorem Jp (K:Ks) (S:Ss) (zr:aZ Rn) (k:Nat) (r:Rn) (R:Ss×Rn) (hr:aK k zr.2=some r) (hl:r.cur.n.isSome->r.cur.vals=.nil) (hF:nJ K S r=some R):
 au Tryz.prog 233 [.p (.bH rS k)] (hA K S zr) (.cI []) (hA K R.1 (zr.1,bf k R.2 zr.2)):=by
 cases hc:r.cur.n with
 |some kn=>exact Kk K S zr k r R hr (by rw[hc];rfl) (hl (by rw[hc];rfl)) hF
 |none=>
  unfold nJ at hF;rw[hc]at hF;dsimp only at hF
  cases hs:r.stack with
  |none=>
   rw[hs]at hF;cases hF;exact step_end K S zr k r hr hc (.inl hs)
  |some q=>
   rw[hs]at hF;obtain⟨q,j⟩:=q
   cases j with
   |zero=>
    cases hF;exact step_end K S zr k r hr hc (.inr ⟨q,hs⟩)
   |succ j=>
    dsimp only at hF
    cases hq:aK q S.f.2 with
    |none=>rw[hq]at hF;cases hF
    |some l=>
     rw[hq]at hF;dsimp only at hF
     cases hj:l[j]? with
     |none=>rw[hj]at hF;cases hF
     |some f=>
      rw[hj]at hF;dsimp only at hF
      cases hb:Nat.ble j 2000000 with
      |false=>rw[hb]at hF;cases hF
      |true=>
       rw[hb]at hF;dsimp only at hF
       cases hp:Bp S r.val f.vals with
       |none=>rw[hp]at hF;cases hF
       |some P=>
        rw[hp]at hF;obtain⟨S2,w⟩:=P;exact L5 K S zr k r R q j l f S2 w hr hc hs hq hj (Nat.le_of_ble_eq_true hb) hp hF
theorem JG {r:Rn} (h:uv r=true) (hn:r.cur.n.isSome):r.cur.vals=.nil:=by
 unfold uv at h;split at h
 ·rename_i h1;rw[h1]at hn;cases hn
 ·split at h
  ·assumption
  ·cases h
theorem DG (K:Ks) (S:Ss) (zr:aZ Rn) (k:Nat) (r:Rn) (n:Nat) (R:Ou×Ss×Rn) (hr:aK k zr.2=some r) (hn:n<=2000000) (hF:uO K n S r=some R):
 au Tryz.prog 228 [.p (.bH rS k),.p (.i .i64 n)] (hA K S zr) (.p (.agg (BI R.1))) (hA K R.2.1 (zr.1,bf k R.2.2 zr.2)):=by
 obtain⟨⟨q1,q2,q3,q4,q5,q6,q7,q8⟩,S9,r9⟩:=R;unfold hA BI at *;dsimp only at *;refine au.iN av Tryz.func228 rfl (by rfl) (by kernel_rfl) rfl rfl ?_;(conv=>whnf)
 cases n with
 |zero=>
  cases hF;(conv=>whnf);rw[iH hr];refine⟨.inl rfl,by(repeat refine⟨s6,?_⟩);trivial⟩
 |succ n=>
 refine bK (aG _) av (by kernel_rfl) (n+1) [0,1,4] (4::iA) (fun j (z:Ss×Rn)=>[.p (.bH rS k),.p (.i .i64 ((n+1-j:Nat):Int)),.ptr 4 0]) (fun j z=>.cells [.p (.i .i64 0),.p (.i .i64 0),.p (.s ⟨#[]⟩),.p (.i .i64 0),.p (.i .i64 0),.p (.s ⟨#[]⟩),.cx,.cx]::An K z.1 (zr.1,bf k z.2 zr.2)) (fun j z=>uO K (n+1-j) z.1 z.2=some (⟨q1,q2,q3,q4,q5,q6,q7,q8⟩,S9,r9)) (S,r) ⟨by dsimp only;rw[iH hr];rfl,rfl,rfl,rfl⟩ hF ?_;rintro j ⟨S1,⟨a1,a2,a3,a4,a5,a6,a7,⟨d1,d2,d3,d4,d5⟩,⟨v1,v2,v3,v4,v5⟩,⟨l1,l2,l3,l4,l5,l6,l7,l8⟩,⟨e1,e2,e3,e4,e5⟩,a12⟩⟩ hj hQ;dsimp only at hQ
 cases hm:n+1-j with
 |zero=>
  rw[hm]at hQ;cases hQ;(conv=>whnf);refine⟨.inl rfl,by(repeat refine⟨s6,?_⟩);trivial⟩
 |succ m=>
  rw[hm]at hQ;rw[uO]at hQ;(conv=>whnf);refine dy (show decide (((m+1:Nat):Int)>0)=true from decide_eq_true (by omega)) ?_;(conv=>whnf);have hr1:aK k (bf k (⟨a1,a2,a3,a4,a5,a6,a7,⟨d1,d2,d3,d4,d5⟩,.mk v1 v2 v3 v4 v5,⟨l1,l2,l3,l4,l5,l6,l7,l8⟩,⟨e1,e2,e3,e4,e5⟩,a12⟩:Rn) zr.2)=some ⟨a1,a2,a3,a4,a5,a6,a7,⟨d1,d2,d3,d4,d5⟩,.mk v1 v2 v3 v4 v5,⟨l1,l2,l3,l4,l5,l6,l7,l8⟩,⟨e1,e2,e3,e4,e5⟩,a12⟩:=cA hr;dsimp only at hQ;refine bw cj hr1 rfl ?_;(conv=>whnf)
  cases he1:a6==1 with
  |true=>
   rw[he1,Bool.true_or]at hQ;cases hQ;(conv=>whnf);(conv=>whnf);refine bw cj hr1 rfl ?_;(conv=>whnf);refine⟨.inl rfl,by(repeat refine⟨s6,?_⟩);trivial⟩
  |false=>
   rw[he1,Bool.false_or]at hQ;(conv=>whnf)
   cases he3:a6==3 with
   |true=>
    rw[he3]at hQ;cases hQ;(conv=>whnf);refine bw cj hr1 rfl ?_;(conv=>whnf);refine⟨.inl rfl,by(repeat refine⟨s6,?_⟩);trivial⟩
   |false=>
    rw[he3]at hQ;dsimp only at hQ;(conv=>whnf)
    cases he2:a6==2 with
    |true=>
     rw[he2]at hQ;cases hQ;(conv=>whnf);refine⟨.inl rfl,by(repeat refine⟨s6,?_⟩);trivial⟩
    |false=>
     rw[he2]at hQ;dsimp only at hQ;(conv=>whnf)
     cases hok:uv ⟨a1,a2,a3,a4,a5,a6,a7,⟨d1,d2,d3,d4,d5⟩,.mk v1 v2 v3 v4 v5,⟨l1,l2,l3,l4,l5,l6,l7,l8⟩,⟨e1,e2,e3,e4,e5⟩,a12⟩ with
     |false=>rw[hok]at hQ;cases hQ
     |true=>
      rw[hok]at hQ;dsimp only at hQ
      cases hst:nJ K S1 ⟨a1,a2,a3,a4,a5,a6,a7,⟨d1,d2,d3,d4,d5⟩,.mk v1 v2 v3 v4 v5,⟨l1,l2,l3,l4,l5,l6,l7,l8⟩,⟨e1,e2,e3,e4,e5⟩,a12⟩ with
      |none=>rw[hst]at hQ;cases hQ
      |some P=>
       rw[hst]at hQ;have hsp:=Jp K S1 (zr.1,bf k ⟨a1,a2,a3,a4,a5,a6,a7,⟨d1,d2,d3,d4,d5⟩,.mk v1 v2 v3 v4 v5,⟨l1,l2,l3,l4,l5,l6,l7,l8⟩,⟨e1,e2,e3,e4,e5⟩,a12⟩ zr.2) k ⟨a1,a2,a3,a4,a5,a6,a7,⟨d1,d2,d3,d4,d5⟩,.mk v1 v2 v3 v4 v5,⟨l1,l2,l3,l4,l5,l6,l7,l8⟩,⟨e1,e2,e3,e4,e5⟩,a12⟩ P hr1 (JG hok) hst;rw[cY]at hsp;obtain⟨S2,r2⟩:=P;dsimp only at hQ hsp;have hr2:aK k (bf k r2 zr.2)=some r2:=cA hr;unfold hA at hsp;refine bh iA 300 hsp ?_;(conv=>whnf)
       cases ho:r2.out with
       |none=>
        rw[ho]at hQ;dsimp only at hQ;obtain⟨b1,b2,b3,b4,b5,b6,b7,⟨c1,c2,c3,c4,c5⟩,⟨wk,wn,wt,wa,wc⟩,⟨o1,o2,o3,o4,o5,o6,o7,o8⟩,⟨p1,p2,p3,p4,p5⟩,b12⟩:=r2;dsimp only at ho;subst ho;refine bw cj hr2 rfl ?_;(conv=>whnf);refine⟨by omega,(S2,_),⟨rfl,?_,rfl,rfl⟩,by rw[show n+1-(j+1)=m by omega];exact hQ⟩;dsimp only;rw[show n+1-(j+1)=m by omega];show [AV.p (.bH rS k),.p (.i .i64 (IntKind.i64.wrap (((m+1:Nat):Int)-1))),.ptr 4 0]=_;rw[wrap64 (by omega) (by omega)];rw[show((m+1:Nat):Int)-1=(m:Int) by omega]
       |some a=>
        rw[ho]at hQ;dsimp only at hQ
        cases hO:aK a S2.o.2 with
        |none=>rw[hO]at hQ;cases hQ
        |some o=>
         rw[hO]at hQ;cases hQ;obtain⟨b1,b2,b3,b4,b5,b6,b7,⟨c1,c2,c3,c4,c5⟩,⟨wk,wn,wt,wa,wc⟩,⟨o1,o2,o3,o4,o5,o6,o7,o8⟩,⟨p1,p2,p3,p4,p5⟩,b12⟩:=r2;dsimp only at ho;subst ho;refine bw cj hr2 rfl ?_;(conv=>whnf);refine bw cj hr2 rfl ?_;(conv=>whnf);refine ag ⟨rfl,by decide,.inl rfl⟩ ?_;refine⟨_,aj (enc:=RF) hO,?_⟩;refine aq (i:=0) rfl ?_;(conv=>whnf);refine bw cj hr2 rfl ?_;(conv=>whnf);refine⟨.inl rfl,⟨⟨rfl,rfl,rfl,rfl,rfl,?_⟩,s6,s6,s6,s6,s6,s6,s6,s6,s6,s6,s6,s6,s6,s6,s6,trivial⟩⟩;exact(bN cj k ⟨b1,b2,b3,b4,b5,b6,b7,⟨c1,c2,c3,c4,c5⟩,.mk wk wn wt wa wc,⟨o1,o2,o3,o4,o5,o6,o7,o8⟩,⟨p1,p2,p3,p4,p5⟩,none⟩ _).trans (by rw[cY])
mutual
def sO:Ov->Ov->Bool
 |.mk k n t l,.mk k' n' t' l'=>(k==k')&&((n==n')&&(kB t t'&&(Nat.beq l.length l'.length&&Mc l l')))
def Mc:List Ov->List Ov->Bool
 |a::r,b::r'=>sO a b&&Mc r r'
 |_,_=>true
end
mutual
def okO:Ov->Bool
 |.mk _ _ _ l=>Nat.ble l.length 2000000&&BU l
def BU:List Ov->Bool
 | []=>true
 |a::r=>okO a&&BU r
end
theorem z8:∀{l:List Ov},BU l=true->∀a∈l,okO a=true
 | [],_,a,h=>by cases h
 |b::r,hh,a,h=>by
  rw[BU,Bool.and_eq_true]at hh;rcases List.mem_cons.1 h with rfl|h
  ·exact hh.1
  ·exact z8 hh.2 a h
theorem rq:∀l:List Ov,gT l=l.map eO
 | []=>rfl
 |v::r=>by rw[gT,rq r];rfl
theorem DH (l l':List Ov) (hl:l.length<=2000000) (ih:∀x∈l,∀y,aU Tryz.prog 19 [.p (eO x),.p (eO y)] (.p (.b (sO x y)))):
 aU Tryz.prog 36 [.p (.sl 4 (gT l)),.p (.sl 4 (gT l')),.fn 19 [] []] (.p (.b (Nat.beq l.length l'.length&&Mc l l'))):=by
 have h1:=kX l;have h2:=kX l'
 cases hb:Nat.beq l.length l'.length with
 |false=>
  refine aU.iN av Tryz.func36 rfl (by rfl) (by kernel_rfl) rfl rfl ?_;(conv=>whnf)
  refine dy (by rw[h1,h2];have:l.length≠l'.length:=fun e=>by rw[e,Nat.beq_refl]at hb;cases hb
                simp;omega) ?_
  (conv=>whnf);exact .inl rfl
 |true=>
  have he:=Nat.eq_of_beq_eq_true hb;generalize hB:(true&&Mc l l')=B;rw[Bool.true_and]at hB;refine aU.iN av Tryz.func36 rfl (by rfl) (by kernel_rfl) rfl rfl ?_;(conv=>whnf);refine bD (by rw[h1,h2,he];simp) ?_;(conv=>whnf);refine bK (aG _) av (by kernel_rfl) l.length [1,2,15,16,17] [] (fun j (_:Unit)=>[.p (.sl 4 (gT l')),.fn 19 [] [],.p (.sl 4 (gT l)),.p (.i .i64 (gT l).length),.p (.i .i64 (ix j))]) (fun _ _=>[]) (fun j _=>Mc (l.drop j) (l'.drop j)=B) () ⟨rfl,rfl,rfl,rfl⟩ hB ?_;rintro j _ hj hQ;(conv=>whnf);refine ai ?_ ?_<;>intro g1<;>conv=>whnf
  ·have hj1:=cu g1 (by rw[h1]) hj (by omega)
   obtain⟨u,hu⟩:∃u,l[j]?=some u:=⟨_,List.getElem?_eq_getElem hj1⟩
   obtain⟨w,hw⟩:∃u,l'[j]?=some u:=⟨_,List.getElem?_eq_getElem (by omega)⟩
   rw[drop_cons hu,drop_cons hw,Mc]at hQ;have hi:=ih u (List.mem_of_getElem? hu) w;obtain⟨uk,un,ut,ul⟩:=u;obtain⟨wk,wn,wt,wl⟩:=w;rw[eO,eO]at hi;refine bM (x:=.agg [.i .i64 uk,.i .i64 un,.s ut,.sl 4 (gT ul)]) (by rw[rq,List.getElem?_map,hu];simp[eO]) (by omega) ?_;(conv=>whnf);refine bM (x:=.agg [.i .i64 wk,.i .i64 wn,.s wt,.sl 4 (gT wl)]) (by rw[rq,List.getElem?_map,hw];simp[eO]) (by omega) ?_;(conv=>whnf);refine kK hi ?_;(conv=>whnf)
   cases hs:sO (.mk uk un ut ul) (.mk wk wn wt wl) with
   |false=>
    rw[hs,Bool.false_and]at hQ;(conv=>whnf);subst hQ;exact .inl rfl
   |true=>
    rw[hs,Bool.true_and]at hQ;(conv=>whnf);exact⟨hj1,(),⟨rfl,rfl,rfl,rfl⟩,hQ⟩
  ·have g1:=cv g1 (by rw[h1]) hj (by omega)
   subst g1;rw[List.drop_length,Mc]at hQ
   ·subst hQ
    exact .inl rfl
   ·intro a r b r' h _;cases h
theorem sD:∀(a b:Ov),okO a=true->aU Tryz.prog 19 [.p (eO a),.p (eO b)] (.p (.b (sO a b)))
 |.mk k n t l,.mk k' n' t' l',h=>by
  rw[okO,Bool.and_eq_true]at h;have he:=DH l l' (Nat.le_of_ble_eq_true h.1) (fun x hx y=>sD x y (z8 h.2 x hx));rw[eO,eO,sO];generalize (Nat.beq l.length l'.length&&Mc l l')=B at he ⊢;refine aU.iN av Tryz.func19 rfl (by rfl) (by kernel_rfl) rfl rfl ?_;(conv=>whnf);refine ai ?_ ?_<;>intro h1<;>conv=>whnf
  ·rw[show(k==k')=true from h1,Bool.true_and]
   refine ai ?_ ?_<;>intro h2<;>conv=>whnf
   ·rw[show(n==n')=true from h2,Bool.true_and]
    refine ai ?_ ?_<;>intro h3<;>conv=>whnf
    ·rw[show kB t t'=true from h3,Bool.true_and]
     refine kK he ?_;(conv=>whnf);exact .inl rfl
    ·rw[show kB t t'=false from h3,Bool.false_and]
     exact .inl rfl
   ·rw[show(n==n')=false from h2,Bool.false_and]
    exact .inl rfl
  ·rw[show(k==k')=false from h1,Bool.false_and]
   exact .inl rfl
termination_by a _ _=>sizeOf a
decreasing_by
 have:=List.sizeOf_lt_of_mem hx;simp only[Ov.mk.sizeOf_spec];omega
def Pc (R:Option Vl):AV:=.cI [.p (eV (R.getD zV)),.p (.b R.isSome)]
def Np (R:Option (List Vl)):AV:=.cI [.p (.sl 5 (bz (R.getD []))),.p (.b R.isSome)]
def Lc (K:Ks) (z:aZ Cl):Heap:=[(1000000000,kQ z),(1000000001,tq K.mm),(1000000002,iZ K.n),(1000000003,yO K.a)]
def N8 (m:Nat):AV:=.fn 38 [.p (.bH mS m)] []
theorem BA (K:Ks) (m:Nat) (F:Ov->aZ Cl->Option (Option Vl×aZ Cl)) (hE:∀v z R,F v z=some R->au Tryz.prog 51 [.p (eO v),N8 m] (Lc K z) (Pc R.1) (Lc K R.2))
 (l:List Ov) (hl:l.length<=2000000) (z:aZ Cl) (R:Option (List Vl)×aZ Cl) (hF:kD F l z=some R):
 au Tryz.prog 37 [.p (.sl 4 (gT l)),N8 m] (Lc K z) (Np R.1) (Lc K R.2):=by
 have hlen:=kX l;unfold Np;unfold Lc N8 kQ at *;refine au.iN av Tryz.func37 rfl (by rfl) (by kernel_rfl) rfl rfl ?_;(conv=>whnf);refine qf 6 4 rfl ?_
 refine bK (aG _) av (by kernel_rfl) l.length [1,6,11,12,13] [1000000000,1000000001,1000000002,1000000003] (fun j (s:List Vl×aZ Cl)=>[.fn 38 [.p (.bH mS m)] [],.so 5 (bz s.1),.p (.sl 4 (gT l)),.p (.i .i64 (gT l).length),.p (.i .i64 (ix j))]) (fun _ s=>[.store 212 true cS s.2.1 6 (cD Au s.2.2),tq K.mm,iZ K.n,yO K.a]) (fun j s=>s.1.length<=j/\(match kD F (l.drop j) s.2 with|none=>none|some (none,z3)=>some (none,z3)|some (some q,z3)=>some (some (s.1++q),z3))=some R) ([],z) ⟨rfl,rfl,rfl,rfl⟩ ⟨Nat.le_refl _,by
  rw[List.drop_zero,hF];obtain⟨R1,R2⟩:=R
  cases R1 with
  |none=>rfl
  |some q=>rfl⟩ ?_
 rintro j ⟨s,zz⟩ hj ⟨hsl,hQ⟩;dsimp only at hsl hQ;(conv=>whnf);refine ai ?_ ?_<;>intro h1<;>conv=>whnf
 ·have hj1:=cu h1 (by rw[hlen]) hj (by omega)
  obtain⟨a,ha⟩:∃a,l[j]?=some a:=⟨_,List.getElem?_eq_getElem hj1⟩
  rw[drop_cons ha,kD]at hQ
  cases hf:F a zz with
  |none=>rw[hf]at hQ;cases hQ
  |some x=>
   rw[hf]at hQ;have hfs:=hE a zz x hf;obtain⟨ak,an,at_,al⟩:=a;rw[eO]at hfs;refine bM (x:=.agg [.i .i64 ak,.i .i64 an,.s at_,.sl 4 (gT al)]) (by rw[rq,List.getElem?_map,ha];simp[eO]) (by omega) ?_;(conv=>whnf);obtain⟨x,z2⟩:=x
   cases x with
   |none=>
    cases hQ;unfold Pc at hfs;rw[show eV (Option.getD (none,z2).1 zV)=eV zV from rfl]at hfs;unfold zV at hfs;rw[eV]at hfs;refine bh [1000000000,1000000001,1000000002,1000000003] 400 hfs ?_;(conv=>whnf);refine⟨.inl rfl,⟨s6,s6,s6,s6,trivial⟩⟩
   |some x=>
    obtain⟨xk,xn,xt,xa,xc⟩:=x;unfold Pc at hfs;rw[show eV (Option.getD (some (Vl.mk xk xn xt xa xc),z2).1 zV)=eV (.mk xk xn xt xa xc) from rfl,eV]at hfs;refine bh [1000000000,1000000001,1000000002,1000000003] 400 hfs ?_;(conv=>whnf);have hel:(bz s).length=s.length:=by rw[aR];simp
    refine ag (Nat.le_trans (Nat.mul_le_mul_right _ (show(bz s).length+1<=2000001 by rw[hel];omega)) (Nat.le_of_ble_eq_true (by kernel_rfl))) ?_;(conv=>whnf);refine⟨hj1,(s++[.mk xk xn xt xa xc],z2),⟨rfl,?_,rfl,rfl⟩,by simp;omega,?_⟩
    ·rw[aR (s++_),List.map_append,<-aR];rfl
    ·rw[<-hQ]
     dsimp only;rcases kD F (l.drop (j+1)) z2 with _|⟨_|q,z3⟩
     ·rfl
     ·rfl
     ·simp
 ·have h1:=cv h1 (by rw[hlen]) hj (by omega)
  subst h1;rw[List.drop_length]at hQ
  have:R=(some s,zz):=by
   rw[kD]at hQ;simp at hQ;exact hQ.symm
  subst this;refine⟨.inl rfl,⟨s6,s6,s6,s6,trivial⟩⟩
noncomputable def Q9:Nat->Option TI:=hint (iX Tryz.prog) 212 [1000113,1000096]
theorem C5:bB Tryz.prog Q9:=(aG Tryz.prog).hint _ _
def Qs (o:Int×Int×ByteArray):List AV:=[.p (.i .i64 o.1),.p (.i .i64 o.2.1),.p (.s o.2.2),.cx,.p .gm]
theorem CE (K:Ks) (m:Nat):∀(n:Nat) (v:Ov) (z:aZ Cl) (R:Option Vl×aZ Cl),fh K m n v z=some R->au Tryz.prog 51 [.p (eO v),N8 m] (Lc K z) (Pc R.1) (Lc K R.2)
 |0,_,_,_,hF=>by cases hF
 |n+1,.mk k num t l,z,R,hF=>by
  have ih:=CE K m n;have hlen:=kX l;have hall:=fun(h:l.length<=2000000) z R hR=>BA K m (fh K m n) ih l h z R hR;have hform:=fun R hR=>JL K m (.mk 7 num t l) R hR;unfold fh at hF
  cases hh:yB K m (.mk k num t l) with
  |none=>rw[hh]at hF;cases hF
  |some hd=>
   rw[hh]at hF;unfold yB at hh;dsimp only at hh;rw[eO]at hform ⊢;unfold Lc QD N8 Pc at *;refine au.qG C5 Tryz.func51 rfl (by rfl) (by show 2<=_;decide) rfl ?_;refine jh.cut C5 av (by kernel_rfl) 4 [1,2,4,6,7] [2,4,6,1000000000,1000000001,1000000002,1000000003] (fun P:(Int×Int×ByteArray)×Nat=>[.fn 38 [.p (.bH mS m)] [],.ptr 2 0,.ptr 4 0,.ptr 6 0,.p (.i .i64 (P.2:Int))]) (fun P=>[.cells [.p (.i .i64 k),.p (.i .i64 num),.p (.s t),.p (.sl 4 (gT l))],.cells [.p (.i .i64 0),.p (.i .i64 0),.p (.s ⟨#[]⟩),.cx,.p .gm],.cells (Qs P.1),kQ z,tq K.mm,iZ K.n,yO K.a]) (fun P=>hd=some P) ?_ ?_
   ·conv=>whnf
    refine ai ?_ ?_<;>intro g1<;>conv=>whnf
    ·have hk:k=1:=by simpa using g1
     subst hk;cases hh;exact⟨_,⟨rfl,rfl,rfl,rfl⟩,rfl⟩
    rw[show(k==1)=false from g1]at hh;dsimp only at hh;refine ai ?_ ?_<;>intro g2<;>conv=>whnf
    ·rw[show(k==2)=true from g2,Bool.true_or]at hh
     cases hh;refine dy g2 ?_;(conv=>whnf);exact⟨_,⟨rfl,rfl,rfl,rfl⟩,rfl⟩
    rw[show(k==2)=false from g2,Bool.false_or]at hh;refine ai ?_ ?_<;>intro g6<;>conv=>whnf
    ·rw[show(k==6)=true from g6]at hh
     cases hh;exact⟨_,⟨rfl,rfl,rfl,rfl⟩,rfl⟩
    rw[show(k==6)=false from g6]at hh;dsimp only at hh;refine ai ?_ ?_<;>intro g3<;>conv=>whnf
    ·rw[show(k==3)=true from g3]at hh
     have hk:k=3:=by simpa using g3
     subst hk;dsimp only at hh;refine ai ?_ ?_<;>intro a1<;>conv=>whnf
     ·rw[show(!(num==0))=true from a1,Bool.true_and]at hh
      refine ai ?_ ?_<;>intro a2<;>conv=>whnf
      ·rw[show(!(num==1))=true from a2]at hh
       cases hh;cases hF;refine⟨.inl rfl,⟨s6,s6,s6,s6,trivial⟩⟩
      ·rw[show(!(num==1))=false from a2]at hh
       cases hh;exact⟨_,⟨rfl,rfl,rfl,rfl⟩,rfl⟩
     ·rw[show(!(num==0))=false from a1,Bool.false_and]at hh
      cases hh;exact⟨_,⟨rfl,rfl,rfl,rfl⟩,rfl⟩
    rw[show(k==3)=false from g3]at hh;dsimp only at hh;refine ai ?_ ?_<;>intro g4<;>conv=>whnf
    ·rw[show(k==4)=true from g4]at hh
     have hk:k=4:=by simpa using g4
     subst hk;dsimp only at hh;refine ai ?_ ?_<;>intro a1<;>conv=>whnf
     ·rw[show decide ((t.size:Int)>64)=true from a1]at hh
      cases hh;cases hF;refine⟨.inl rfl,⟨s6,s6,s6,s6,trivial⟩⟩
     ·rw[show decide ((t.size:Int)>64)=false from a1]at hh
      cases hh;exact⟨_,⟨rfl,rfl,rfl,rfl⟩,rfl⟩
    rw[show(k==4)=false from g4]at hh;dsimp only at hh;refine ai ?_ ?_<;>intro g5<;>conv=>whnf
    ·rw[show(k==5)=true from g5]at hh
     have hk:k=5:=by simpa using g5
     subst hk;cases hh;exact⟨_,⟨rfl,rfl,rfl,rfl⟩,rfl⟩
    rw[show(k==5)=false from g5]at hh;dsimp only at hh;refine ai ?_ ?_<;>intro g7<;>conv=>whnf
    ·rw[show(k==7)=true from g7]at hh
     have hk:k=7:=by simpa using g7
     subst hk;dsimp only at hh
     cases hf:tu K m (.mk 7 num t l) with
     |none=>rw[hf]at hh;cases hh
     |some Q=>
      rw[hf]at hh;have hform:=hform Q hf;obtain⟨T,b⟩:=Q;refine bh [1000000001,1000000002,1000000003] 300 hform ?_;(conv=>whnf)
      cases b with
      |false=>
       cases hh;cases hF;(conv=>whnf);refine⟨.inl rfl,⟨s6,s6,s6,s6,trivial⟩⟩
      |true=>
       cases hh;(conv=>whnf);refine ag (.inl (by kernel_rfl)) ?_;(conv=>whnf);exact⟨_,⟨rfl,by rw[<-hlen];rfl,rfl,rfl⟩,rfl⟩
    rw[show(k==7)=false from g7]at hh;dsimp only at hh;refine ai ?_ ?_<;>intro g8<;>conv=>whnf
    ·rw[show(k==8)=true from g8]at hh
     have hk:k=8:=by simpa using g8
     subst hk;cases hh;exact⟨_,⟨rfl,rfl,rfl,rfl⟩,rfl⟩
    ·rw[show(k==8)=false from g8]at hh
     cases hh;cases hF;refine⟨.inl rfl,⟨s6,s6,s6,s6,trivial⟩⟩
   ·rintro⟨⟨o1,o2,o3⟩,most⟩ hP
    subst hP;clear hh;dsimp only[Qs]at hF ⊢;refine jh.fin C5 av (by kernel_rfl) ?_;(conv=>whnf);refine ai ?_ ?_<;>intro c1<;>conv=>whnf
    ·have hm:most=0:=by have:(most:Int)=0:=by simpa using c1
                        omega
     subst hm;cases hF;refine⟨.inl rfl,⟨s6,s6,s6,s6,trivial⟩⟩
    rw[show Nat.beq most 0=false from by cases hb:Nat.beq most 0 with|false=>rfl|true=>rw[Nat.eq_of_beq_eq_true hb]at c1;cases c1]at hF;dsimp only at hF;refine ai ?_ ?_<;>intro c2<;>conv=>whnf
    ·rw[show decide ((l.length:Int)>(most:Int))=true by rw[<-hlen];exact c2]at hF
     cases hF;refine⟨.inl rfl,⟨s6,s6,s6,s6,trivial⟩⟩
    rw[show decide ((l.length:Int)>(most:Int))=false by rw[<-hlen];exact c2]at hF;dsimp only at hF
    cases hl:Nat.ble l.length 2000000 with
    |false=>rw[hl]at hF;cases hF
    |true=>
     rw[hl]at hF;dsimp only at hF
     cases hL:kD (fh K m n) l z with
     |none=>rw[hL]at hF;cases hF
     |some Q=>
      rw[hL]at hF;have hall:=hall (Nat.le_of_ble_eq_true hl) z Q hL;unfold Np at hall;obtain⟨xs,z2⟩:=Q;refine bh [1000000000,1000000001,1000000002,1000000003] 400 hall ?_;(conv=>whnf)
      cases xs with
      |none=>
       cases hF;(conv=>whnf);refine⟨.inl rfl,⟨s6,s6,s6,s6,trivial⟩⟩
      |some xs=>
       dsimp only at hF;unfold El at hF;(conv=>whnf);refine ai ?_ ?_<;>intro c3<;>conv=>whnf
       ·rw[show(k==8)=false by simpa using c3]at hF
        cases hF;refine⟨.inl rfl,⟨s6,s6,s6,s6,trivial⟩⟩
       ·rw[show(k==8)=true by simpa using c3]at hF
        dsimp only at hF
        cases xs with
        |nil=>
         cases hF
         first|refine dy (by kernel_rfl) ?_|refine bD (by kernel_rfl) ?_|skip
         (conv=>whnf);refine⟨.inl rfl,⟨s6,s6,s6,s6,trivial⟩⟩
        |cons x xs=>
         cases hF;obtain⟨xk,xn,xt,xa,xc⟩:=x
         first|refine dy (by kernel_rfl) ?_|refine bD (by kernel_rfl) ?_|skip
         (conv=>whnf);refine aq (i:=0) (x:=.agg [.i .i64 xk,.i .i64 xn,.s xt,.sl 5 (bz xa),eP cS xc]) (by show(bz (Vl.mk xk xn xt xa xc::xs))[0]?=_;rw[aR];simp[eV]) ?_;(conv=>whnf);refine⟨.inl rfl,⟨s6,s6,s6,s6,trivial⟩⟩
noncomputable def Ry:Nat->Option TI:=hint (ic (iX Tryz.prog) 142 [1,1,1,1,5,1,0,1,1,0,1,1,1,1,1,5,1,1,1,1,1,1,1,4,4,1,1,0,1,1,1]) 142 [1000051]
theorem ud:bB Tryz.prog Ry:=((aG Tryz.prog).ic _ _).hint _ _
def Bf (zr:aZ Rn):Except Int Rn->AV
 |.ok _=>.cI [.p (.uY 132 (.bH rS zr.1)),.p (.i .i64 0)]
 |.error e=>.cI [.c .nilIface,.p (.i .i64 e)]
def Bl (zr:aZ Rn):Except Int Rn->aZ Rn
 |.ok r=>(zr.1+1,(zr.1,r)::zr.2)
 |.error _=>zr
theorem mo (K:Ks) (S:Ss) (zr:aZ Rn) (m:Nat) (name:ByteArray) (st:List Ov) (self:Int) (R:Ss×Except Int Rn) (hF:fY K S m name st self=some R):
 au Tryz.prog 20 [.p (.bH mS m),.p (.s name),.p (.sl 4 (gT st)),.p (.i .i64 self)] (hA K S zr) (Bf zr R.2) (hA K R.1 (Bl zr R.2)):=by
 have hlen:=kX st;have hall:=fun h z R hR=>BA K m (fh K m (mg st)) (CE K m (mg st)) st h z R hR;unfold fY at hF;generalize mg st=N at hF hall
 cases hm:aK m K.mm.2 with
 |none=>rw[hm]at hF;cases hF
 |some mk=>
  rw[hm]at hF;dsimp only at hF
  cases hes:aK mk.actors K.ma.2 with
  |none=>rw[hes]at hF;cases hF
  |some es=>
   rw[hes]at hF;dsimp only at hF;obtain⟨m1,m2,m3,m4,m5,m6⟩:=mk;have hlk:=fun d=>bQ eFn name d es
   cases hfn:aV name es with
   |none=>
    rw[hfn]at hF hlk;cases hF;unfold hA tq Ik gW at *;refine au.intro ud av Tryz.func20 rfl (by rfl) (by kernel_rfl) (by show 4<=_;decide) rfl ?_;(conv=>whnf);refine bw jr hm rfl ?_;(conv=>whnf);refine ag ⟨rfl,rfl⟩ ?_;refine⟨jR eFn es,aj (enc:=bX eFn) hes,?_⟩;refine⟨_,_,hlk _,?_⟩;(conv=>whnf);refine⟨.inl rfl,by(repeat refine⟨s6,?_⟩);trivial⟩
   |some fn=>
    rw[hfn]at hF hlk;obtain⟨fnn,fb⟩:=fn;have hfl:(fnn.map PV.s).length=fnn.length:=List.length_map _;dsimp only at hF
    cases hg:Nat.beq st.length fnn.length with
    |false=>
     rw[hg]at hF;cases hF;have hne:st.length≠fnn.length:=fun e=>by rw[e,Nat.beq_refl]at hg;cases hg
     unfold hA tq Ik gW at *;refine au.intro ud av Tryz.func20 rfl (by rfl) (by kernel_rfl) (by show 4<=_;decide) rfl ?_;(conv=>whnf);refine bw jr hm rfl ?_;(conv=>whnf);refine ag ⟨rfl,rfl⟩ ?_;refine⟨jR eFn es,aj (enc:=bX eFn) hes,?_⟩;refine⟨_,_,hlk _,?_⟩;(conv=>whnf);refine dy (by rw[hlen,hfl];simp;omega) ?_;(conv=>whnf);refine⟨.inl rfl,by(repeat refine⟨s6,?_⟩);trivial⟩
    |true=>
     rw[hg]at hF;have g1:=Nat.eq_of_beq_eq_true hg;dsimp only at hF
     cases hg2:Nat.ble st.length 2000000 with
     |false=>rw[hg2]at hF;cases hF
     |true=>
      rw[hg2]at hF;have g2:=Nat.le_of_ble_eq_true hg2;dsimp only at hF
      cases hfa:kD (fh K m N) st S.c with
      |none=>rw[hfa]at hF;cases hF
      |some q=>
       rw[hfa]at hF;have c1:=hall g2 S.c q hfa;unfold Np Lc N8 at c1;obtain⟨xs,c2⟩:=q
       cases xs with
       |none=>
        cases hF;unfold hA tq Ik gW at *;refine au.intro ud av Tryz.func20 rfl (by rfl) (by kernel_rfl) (by show 4<=_;decide) rfl ?_;(conv=>whnf);refine bw jr hm rfl ?_;(conv=>whnf);refine ag ⟨rfl,rfl⟩ ?_;refine⟨jR eFn es,aj (enc:=bX eFn) hes,?_⟩;refine⟨_,_,hlk _,?_⟩;(conv=>whnf);refine bD (by rw[hlen,hfl,g1];simp) ?_;(conv=>whnf);refine bh [1000000008,1000000009,1000000002,1000000003] 300 c1 ?_;(conv=>whnf);refine⟨.inl rfl,by(repeat refine⟨s6,?_⟩);trivial⟩
       |some l=>
        rw[show((some l,c2).1.getD [])=l from rfl]at c1;dsimp only at hF c1
        cases hll:Nat.ble l.length 2000000 with
        |false=>rw[hll]at hF;cases hF
        |true=>
         rw[hll]at hF;dsimp only at hF;have hll:=Nat.le_of_ble_eq_true hll
         cases hal:mN c2.2 l with
         |none=>rw[hal]at hF;cases hF
         |some b=>
          rw[hal]at hF;have cl:=ni c2 l b hll hal
          cases b with
          |true=>
           cases hF;unfold hA tq Ik gW at *;refine au.intro ud av Tryz.func20 rfl (by rfl) (by kernel_rfl) (by show 4<=_;decide) rfl ?_;(conv=>whnf);refine bw jr hm rfl ?_;(conv=>whnf);refine ag ⟨rfl,rfl⟩ ?_;refine⟨jR eFn es,aj (enc:=bX eFn) hes,?_⟩;refine⟨_,_,hlk _,?_⟩;(conv=>whnf);refine bD (by rw[hlen,hfl,g1];simp) ?_;(conv=>whnf);refine bh [1000000008,1000000009,1000000002,1000000003] 300 c1 ?_;(conv=>whnf);refine bh [1000000008] 300 cl ?_;(conv=>whnf);refine⟨.inl rfl,by(repeat refine⟨s6,?_⟩);trivial⟩
          |false=>
           dsimp only at hF
           cases hw:kU fnn l (S.s,none) with
           |none=>rw[hw]at hF;cases hF
           |some Q=>
            rw[hw]at hF;cases hF;have c3:=xY (zr.1+1,(zr.1,⟨m,fnn,some fb,self,[],0,none,⟨none,none,.nil,0,false⟩,zV,⟨0,0,⟨#[]⟩,0,0,⟨#[]⟩,[],[]⟩,⟨none,none,.nil,0,false⟩,none⟩)::zr.2) S.s zr.1 l ⟨m,fnn,some fb,self,[],0,none,⟨none,none,.nil,0,false⟩,zV,⟨0,0,⟨#[]⟩,0,0,⟨#[]⟩,[],[]⟩,⟨none,none,.nil,0,false⟩,none⟩ Q (aP _ _ _) (by show fnn.length<=_;omega) hw;rw[dL]at c3;unfold hA tq Ik gW at *;refine au.intro ud av Tryz.func20 rfl (by rfl) (by kernel_rfl) (by show 4<=_;decide) rfl ?_;(conv=>whnf);refine bw jr hm rfl ?_;(conv=>whnf);refine ag ⟨rfl,rfl⟩ ?_;refine⟨jR eFn es,aj (enc:=bX eFn) hes,?_⟩;refine⟨_,_,hlk _,?_⟩;(conv=>whnf);refine bD (by rw[hlen,hfl,g1];simp) ?_;(conv=>whnf);refine bh [1000000008,1000000009,1000000002,1000000003] 300 c1 ?_;(conv=>whnf);refine bh [1000000008] 300 cl ?_;(conv=>whnf);refine bh [1000000000,1000000005] 300 c3 ?_;(conv=>whnf);refine⟨.inl rfl,by(repeat refine⟨s6,?_⟩);trivial⟩
end MN
