/- Contracts, and the law, for every input. No conditions. -/
import Derived.Test.YtdmopjgjhfhfdaaGreatDoorMS1
set_option linter.all false
set_option maxRecDepth 100000
section
open Go Go.AM Go.Proofs
namespace TR
open MN (aV jR bX bQ s6)
def fX (l:List Ex) (σ:St):St:=l.foldl (fun σ e=>dh e σ) σ
def rF (l:List eZ) (σ:St):St:=l.foldl (fun σ a=>iz (eu a.pat) a.body σ) σ
theorem mw:∀(n:Nat) (xs:List Ex) (σ:St),visitFn n xs σ=fX (xs.take n) σ
 |0,[],σ=>by simp[visitFn,fX]
 |n+1,[],σ=>by simp[visitFn,fX]
 |0,_::_,σ=>by simp[visitFn,fX]
 |n+1,e::r,σ=>by rw[visitFn,mw n r];simp[fX]
theorem tP:∀(ms:List eZ) (σ:St),Bt ms σ=rF ms σ
 | [],σ=>by simp[Bt,rF]
 |.mk p e::r,σ=>by rw[Bt,tP r];simp[rF,iz,eZ.pat,eZ.body]
theorem wF (l:List Ex) (e:Ex) (σ:St):fX (l++[e]) σ=dh e (fX l σ):=by simp[fX]
theorem A9 (l:List eZ) (a:eZ) (σ:St):rF (l++[a]) σ=iz (eu a.pat) a.body (rF l σ):=by simp[rF]
theorem Cx (σ:St) (ns:List ByteArray):(σ.inc ns).out=σ.out:=rfl
theorem BF (σ:St) (ns:List ByteArray):(σ.dec ns).out=σ.out:=rfl
theorem Ld (t:ByteArray) (σ:St):(Nh t σ).out.length<=σ.out.length+1:=by
 unfold Nh;cases ((aV t σ.bound).getD 0==0)&&!((aV t σ.seen).getD false)<;>simp
theorem yC (l:List Ex) (h:∀e∈l,∀σ,(dh e σ).out.length<=σ.out.length+wE e):∀σ,(fX l σ).out.length<=σ.out.length+PV.cH (eC l):=by
 induction l with
 |nil=>intro σ;simp[fX]
 |cons e r ih=>
  intro σ;have h1:=h e (by simp) σ;have h2:=ih (fun x hx=>h x (by simp[hx])) (dh e σ);simp only[eC,PV.cH];rw[show fX (e::r) σ=fX r (dh e σ) from rfl];unfold wE at h1;omega
theorem Df (l:List eZ) (h:∀a∈l,∀σ,(dh a.body σ).out.length<=σ.out.length+wE a.body):∀σ,(rF l σ).out.length<=σ.out.length+PV.cH (jX l):=by
 induction l with
 |nil=>intro σ;simp[rF]
 |cons a r ih=>
  intro σ;have h1:=h a (by simp) (σ.inc (eu a.pat));have h2:=ih (fun x hx=>h x (by simp[hx])) (iz (eu a.pat) a.body σ);have h3:=BS a;simp only[jX,PV.cH];rw[show rF (a::r) σ=rF r (iz (eu a.pat) a.body σ) from rfl];rw[iz,BF]at h2;rw[Cx]at h1;unfold wA at h3;rw[iz];omega
theorem uB (l:List PV) (k:Nat):PV.cH (l.take k)<=PV.cH l:=by
 have:=PV.ef (l.take k) (l.drop k);rw[List.take_append_drop]at this;omega
theorem ql (l:List Ex) (k:Nat):eC (l.take k)=(eC l).take k:=by simp[jc,List.map_take]
theorem LA (l:List eZ) (k:Nat):jX (l.take k)=(jX l).take k:=by simp[kZ,List.map_take]
theorem qW (e:Ex):∀σ,(dh e σ).out.length<=σ.out.length+wE e:=by
 induction e using Ex.ind with
 |h k n t ns ts xs ms p ih1 ih2=>
 intro σ;have hA:=fun σ=>Df ms ih2 σ;have hV:=fun j σ=>yC (xs.take j) (fun e he=>ih1 e (List.mem_of_mem_take he)) σ;have hT:=fun j=>uB (eC xs) j;rw[tD,dh]
 have key:∀σ1:St,σ1.out.length<=σ.out.length+1+PV.cH (eC xs)->(bif k==13||k==18 then Bt ms σ1 else σ1).out.length<=σ.out.length+(t.size+8+PV.cH (ns.map bF)+PV.cH (mB ts)+PV.cH (eC xs)+PV.cH (jX ms)):=by
  intro σ1 h1;have:=hA σ1;rw[tP];cases k==13||k==18<;>simp<;>omega
 cases decide (ei k n xs.length<0) with
 |true=>simp<;>omega
 |false=>
 simp only[cond_false]
 cases decide ((xs.length:Int)<ei k n xs.length) with
 |true=>simp only[cond_true];rw[mw];have:=hV xs.length σ;have:=hT xs.length;rw[ql]at *;omega
 |false=>
 simp only[cond_false];refine key _ ?_
 cases k==5 with
 |true=>have:=Ld t σ;simp;omega
 |false=>
 cases k==6 with
 |true=>
  simp only[cond_false,cond_true]
  match xs,ih1 with
  | [],_=>simp[De];omega
  | [a],_=>simp[De];omega
  |a::b::r,ih1=>
   have h1:=ih1 a (by simp) σ;have h2:=ih1 b (by simp) ((dh a σ).inc [t]);rw[Cx]at h2;rw[De,BF];simp only[eC,PV.cH];unfold wE at h1 h2;omega
 |false=>
 cases k==10 with
 |true=>
  simp only[cond_false,cond_true]
  match xs,ih1 with
  | [],_=>simp[HZ];omega
  |a::r,ih1=>
   have h1:=ih1 a (by simp) (σ.inc ns);rw[Cx]at h1;rw[HZ,BF];simp only[eC,PV.cH];unfold wE at h1;omega
 |false=>simp only[cond_false];rw[mw];have:=hV (ei k n xs.length).toNat σ;have:=hT (ei k n xs.length).toNat;rw[ql]at *;omega
theorem Jw (e:Ex) (he:wE e<=1048640) (ih1:∀a∈e.args,vE a) (ih2:∀a∈e.dZ,vE a.body):vE e:=by
 intro σ hσ;obtain⟨k0,n0,t0,ns0,ts0,as0,ms0,p0⟩:=e;have hl:=uW k0 n0 t0 ns0 ts0 as0 ms0 p0;have hwm:=tD k0 n0 t0 ns0 ts0 as0 ms0 p0;simp only[Ex.args,Ex.dZ]at ih1 ih2;have hnd:=zK (Ex.mk k0 n0 t0 ns0 ts0 as0 ms0 p0);simp only[Ex.kind,Ex.num,Ex.args]at hnd;generalize hR:dh (Ex.mk k0 n0 t0 ns0 ts0 as0 ms0 p0) σ=R;rw[dh]at hR;have hT:=fun j=>uB (eC as0) j;have hV:=fun j σ=>yC (as0.take j) (fun e _=>qW e) σ
 have hcall:∀(j:Nat) (b:Ex) (σ':St),as0[j]?=some b->σ'.out.length<=σ.out.length+PV.cH (eC (as0.take j))->σ'.out.length+wE b<=2097152:=by
  intro j b σ' hb h;have h1:=uB (eC as0) (j+1);rw[<-ql,cF hb,uf,PV.ef]at h1;simp only[eC,PV.cH]at h1;unfold wE at hσ hwm ⊢;omega
 generalize hnn:ei k0 n0 as0.length=nd at hnd hR;refine au.iN av Tryz.func76 rfl (by rfl) (by kernel_rfl) rfl rfl ?_;(conv=>whnf);refine kK hnd ?_;(conv=>whnf);refine ai ?_ ?_<;>intro h1<;>conv=>whnf
 ·rw[h1,cond_true]at hR
  subst hR;exact⟨.inl rfl,⟨.inl rfl,.inl rfl,.inl rfl,trivial⟩,s6,s6,trivial⟩
 rw[h1]at hR;simp only[cond_false]at hR;refine ai ?_ ?_<;>intro h2<;>conv=>whnf
 ·have h2':decide ((as0.length:Int)<nd)=true:=by rw[<-cG as0];exact h2
  rw[h2',cond_true,mw,List.take_length]at hR
  refine bK (aG _) av (by kernel_rfl) as0.length [0,3,23,24,25] [1000000000,1000000001,1000000002,3] (fun k (s:St)=>[.ptr 1000000000 0,.ptr 3 0,.p (.sl 8 (eC as0)),.p (.i .i64 (eC as0).length),.p (.i .i64 (ix k))])
   (fun k s=>[.cells [.p (.amp 29 0),.p (.amp 30 0),.so 1 (s.out.map bF)],.store 205 true 29 1 0 [(0,bX PV.b s.seen)],.store 206 true 30 1 0 [(0,bX vJ s.bound)],.cells [.p (.i .i64 k0),.p (.i .i64 n0),.p (.s t0),.p (.sl 1 (ns0.map bF)),.p (.sl 3 (mB ts0)),.p (.sl 8 (eC as0)),.p (.sl 12 (jX ms0)),.p (.i .i64 p0)]]) (fun k s=>s=fX (as0.take k) σ) σ ⟨rfl,rfl,rfl,rfl⟩ rfl ?_
  intro k s hk hs;(conv=>whnf);refine ai ?_ ?_<;>intro h3<;>conv=>whnf
  ·have hk1:=cu h3 (by rw[cG]) hk (by omega)
   obtain⟨b,hb1⟩:∃b,as0[k]?=some b:=⟨as0[k],by simp[hk1]⟩
   refine bM (nZ hb1) (by omega) ?_;have hc:=ih1 b (List.mem_of_getElem? hb1) s (hcall k b s hb1 (by rw[hs];exact hV k σ));have hts:fX (as0.take (k+1)) σ=dh b s:=by rw[cF hb1,wF,hs]
   generalize dh b s=s' at hc hts;obtain⟨b1,b2,b3,b4,b5,b6,b7,b8⟩:=b;(conv=>whnf);refine bh [1000000000,1000000001,1000000002] 10000 hc ?_;(conv=>whnf);exact⟨hk1,s',⟨rfl,rfl,rfl,rfl⟩,hts.symm⟩
  ·have hk1:=cv h3 (by rw[cG]) hk (by omega)
   have hs2:fX as0 σ=s:=by rw[hs,hk1,List.take_length]
   rw[hs2]at hR;subst hR;exact⟨.inl rfl,⟨.inl rfl,.inl rfl,.inl rfl,trivial⟩,s6,s6,trivial⟩
 have h2':decide ((as0.length:Int)<nd)=false:=by rw[<-cG as0];exact h2
 have hnl:nd<=as0.length:=by have:=of_decide_eq_false h2';omega
 have hn0:0<=nd:=by have:=of_decide_eq_false h1;omega
 rw[h2']at hR;simp only[cond_false]at hR;refine ai ?_ ?_<;>intro h3<;>conv=>whnf
 ·have h3:(k0==5)=true:=h3
  obtain rfl:k0=5:=by simpa using h3
  rw[show((5:Int)==5)=true from rfl,show((5:Int)==13||(5:Int)==18)=false from rfl]at hR;simp only[cond_false,cond_true]at hR;rw[Nh]at hR;refine ag ⟨rfl,rfl⟩ ?_;refine⟨jR vJ σ.bound,rfl,?_⟩;refine⟨_,_,FU t0 σ.bound,?_⟩;(conv=>whnf);refine ai ?_ ?_<;>intro g1<;>conv=>whnf
  ·have g1:((aV t0 σ.bound).getD 0==0)=true:=g1
   refine ag ⟨rfl,rfl⟩ ?_;refine⟨jR PV.b σ.seen,rfl,?_⟩;refine⟨_,_,Pe t0 σ.seen,?_⟩;(conv=>whnf)
   first|refine ag (.inl (by kernel_rfl)) ?_|refine ag (by kernel_rfl) ?_
   (conv=>whnf);refine ai ?_ ?_<;>intro g2<;>conv=>whnf
   ·have g2:(!((aV t0 σ.seen).getD false))=true:=g2
    rw[g1,g2,Bool.and_self,cond_true]at hR;subst hR;refine ag ⟨rfl,rfl⟩ ?_;refine⟨jR PV.b σ.seen,rfl,?_⟩;(conv=>whnf)
    first|refine ag (.inl (by kernel_rfl)) ?_|refine ag (by kernel_rfl) ?_
    (conv=>whnf);refine ag (show((σ.out.map bF).length+1)*16<=140737488355328 by simp;omega) ?_;(conv=>whnf)
    first|refine ag (.inl (by kernel_rfl)) ?_|refine ag (by kernel_rfl) ?_
    (conv=>whnf);refine⟨.inl rfl,⟨.inl rfl,.inl rfl,.inl ?_,trivial⟩,⟨rfl,rfl,rfl,rfl,rfl,?_⟩,s6,trivial⟩
    ·simp only[List.map_append];rfl
    ·exact congrArg (fun q=>[(0,q)]) (Lx PV.b t0 true σ.seen).symm
   ·have g2:(!((aV t0 σ.seen).getD false))=false:=g2
    rw[g1,g2,Bool.and_false,cond_false]at hR;subst hR;exact⟨.inl rfl,⟨.inl rfl,.inl rfl,.inl rfl,trivial⟩,s6,s6,trivial⟩
  ·have g1:((aV t0 σ.bound).getD 0==0)=false:=g1
   rw[g1,Bool.false_and,cond_false]at hR;subst hR
   first|refine ag (.inl (by kernel_rfl)) ?_|refine ag (by kernel_rfl) ?_
   (conv=>whnf);exact⟨.inl rfl,⟨.inl rfl,.inl rfl,.inl rfl,trivial⟩,s6,s6,trivial⟩
 have h3:(k0==5)=false:=h3;rw[h3]at hR;simp only[cond_false]at hR;refine ai ?_ ?_<;>intro h4<;>conv=>whnf
 ·have h4:(k0==6)=true:=h4
  obtain rfl:k0=6:=by simpa using h4
  rw[show((6:Int)==6)=true from rfl,show((6:Int)==13||(6:Int)==18)=false from rfl]at hR;simp only[cond_false,cond_true]at hR;obtain rfl:nd=2:=by rw[<-hnn];rfl
  match as0,hnl with
  | [],hnl=>simp at hnl
  | [a],hnl=>simp at hnl
  |a::b::r,_=>
   rw[De]at hR;refine aq (i:=0) (x:=eE a) rfl ?_;have hwa:=mH (k:=6) (n:=n0) (t:=t0) (ns:=ns0) (ts:=ts0) (ms:=ms0) (p:=p0) (show a∈a::b::r by simp);have hwb:=mH (k:=6) (n:=n0) (t:=t0) (ns:=ns0) (ts:=ts0) (ms:=ms0) (p:=p0) (show b∈a::b::r by simp);have g7:=ih1 a (by simp) σ (by omega);have ho:=qW a σ;simp only[eC,PV.cH]at hwm;have g8:=ur [t0] b (by simp) (ih1 b (by simp)) (dh a σ) (by unfold wE at hwm ho hσ ⊢;omega);rw[iz]at g8;generalize dh a σ=σ1 at g7 g8 hR;rw[hR]at g8;obtain⟨a1,a2,a3,a4,a5,a6,a7,a8⟩:=a;(conv=>whnf);refine bh [1000000000,1000000001,1000000002] 10000 g7 ?_;(conv=>whnf);refine aq (i:=1) (x:=eE b) rfl ?_;obtain⟨b1,b2,b3,b4,b5,b6,b7,b8⟩:=b;(conv=>whnf);refine bh [1000000000,1000000001,1000000002] 10000 g8 ?_;(conv=>whnf)
   first|refine ag (.inl (by kernel_rfl)) ?_|refine ag (by kernel_rfl) ?_
   (conv=>whnf);exact⟨.inl rfl,⟨.inl rfl,.inl rfl,.inl rfl,trivial⟩,s6,s6,trivial⟩
 have h4:(k0==6)=false:=h4;rw[h4]at hR;simp only[cond_false]at hR;refine ai ?_ ?_<;>intro h5<;>conv=>whnf
 ·have h5:(k0==10)=true:=h5
  obtain rfl:k0=10:=by simpa using h5
  rw[show((10:Int)==10)=true from rfl,show((10:Int)==13||(10:Int)==18)=false from rfl]at hR;simp only[cond_false,cond_true]at hR;obtain rfl:nd=1:=by rw[<-hnn];rfl
  match as0,hnl with
  | [],hnl=>simp at hnl
  |a::r,_=>
   rw[HZ]at hR;refine aq (i:=0) (x:=eE a) rfl ?_;have hwa:=mH (k:=10) (n:=n0) (t:=t0) (ns:=ns0) (ts:=ts0) (ms:=ms0) (p:=p0) (show a∈a::r by simp);have g7:=ur ns0 a (by omega) (ih1 a (by simp)) σ (by omega);rw[iz,hR]at g7;obtain⟨a1,a2,a3,a4,a5,a6,a7,a8⟩:=a;(conv=>whnf);refine bh [1000000000,1000000001,1000000002] 10000 g7 ?_;(conv=>whnf)
   first|refine ag (.inl (by kernel_rfl)) ?_|refine ag (by kernel_rfl) ?_
   (conv=>whnf);exact⟨.inl rfl,⟨.inl rfl,.inl rfl,.inl rfl,trivial⟩,s6,s6,trivial⟩
 have h5:(k0==10)=false:=h5;rw[h5]at hR;simp only[cond_false]at hR;rw[mw]at hR;have hnl2:(as0.take nd.toNat).length=nd.toNat:=by simp;omega
 refine ag ⟨by omega,by omega,by rw[cG];omega⟩ ?_;(conv=>whnf)
 refine bK (aG _) av (by kernel_rfl) (as0.take nd.toNat).length [0,3,38,39,40] [1000000000,1000000001,1000000002,3] (fun k (s:St)=>[.ptr 1000000000 0,.ptr 3 0,.p (.sl 8 (eC (as0.take nd.toNat))),.p (.i .i64 (eC (as0.take nd.toNat)).length),.p (.i .i64 (ix k))])
  (fun k s=>[.cells [.p (.amp 29 0),.p (.amp 30 0),.so 1 (s.out.map bF)],.store 205 true 29 1 0 [(0,bX PV.b s.seen)],.store 206 true 30 1 0 [(0,bX vJ s.bound)],.cells [.p (.i .i64 k0),.p (.i .i64 n0),.p (.s t0),.p (.sl 1 (ns0.map bF)),.p (.sl 3 (mB ts0)),.p (.sl 8 (eC as0)),.p (.sl 12 (jX ms0)),.p (.i .i64 p0)]]) (fun k s=>s=fX ((as0.take nd.toNat).take k) σ) σ ⟨rfl,by rw[ql];rfl,rfl,rfl⟩ rfl ?_
 intro k s hk hs;(conv=>whnf);refine ai ?_ ?_<;>intro h6<;>conv=>whnf
 ·have hk1:=cu h6 (by rw[cG]) hk (by omega)
  obtain⟨b,hb1⟩:∃b,(as0.take nd.toNat)[k]?=some b:=⟨_,List.getElem?_eq_getElem hk1⟩
  refine bM (nZ hb1) (by omega) ?_;have hb2:as0[k]?=some b:=by rw[List.getElem?_take]at hb1;split at hb1;exact hb1;cases hb1
  have hkt:(as0.take nd.toNat).take k=as0.take k:=by rw[List.take_take,Nat.min_eq_left (by omega)]
  have hc:=ih1 b (List.mem_of_getElem? hb2) s (hcall k b s hb2 (by rw[hs,hkt];exact hV k σ));have hts:fX ((as0.take nd.toNat).take (k+1)) σ=dh b s:=by rw[cF hb1,wF,hs]
  generalize dh b s=s' at hc hts;obtain⟨b1,b2,b3,b4,b5,b6,b7,b8⟩:=b;(conv=>whnf);refine bh [1000000000,1000000001,1000000002] 10000 hc ?_;(conv=>whnf);exact⟨hk1,s',⟨rfl,rfl,rfl,rfl⟩,hts.symm⟩
 ·have hk1:=cv h6 (by rw[cG]) hk (by omega)
  have hs2:fX (as0.take nd.toNat) σ=s:=by rw[hs,hk1,List.take_length]
  rw[hs2]at hR
  have hsl:s.out.length<=σ.out.length+PV.cH (eC as0):=by
   have h1:=hV nd.toNat σ;have h2:=hT nd.toNat;rw[hs2,ql]at h1;omega
  have hso:=fun j=>Df (ms0.take j) (fun a _=>qW a.body) s
  have harm:∀(j:Nat) (b:eZ) (σ':St),ms0[j]?=some b->σ'.out.length<=s.out.length+PV.cH (jX (ms0.take j))->σ'.out.length+wE b.body<=2097152:=by
   intro j b σ' hb h;have h1:=uB (jX ms0) (j+1);rw[<-LA,cF hb,MQ,PV.ef]at h1;simp only[jX,PV.cH]at h1;have h2:=BS b;unfold wA at h2;omega
  refine ai ?_ ?_<;>intro h7<;>conv=>whnf
  ·have h7:(k0==13)=true:=h7
   rw[h7,Bool.true_or,cond_true,tP]at hR
   refine bK (aG _) av (by kernel_rfl) ms0.length [0,3,121,122,123] [1000000000,1000000001,1000000002,3] (fun k (s:St)=>[.ptr 1000000000 0,.ptr 3 0,.p (.sl 12 (jX ms0)),.p (.i .i64 (jX ms0).length),.p (.i .i64 (ix k))])
    (fun k s=>[.cells [.p (.amp 29 0),.p (.amp 30 0),.so 1 (s.out.map bF)],.store 205 true 29 1 0 [(0,bX PV.b s.seen)],.store 206 true 30 1 0 [(0,bX vJ s.bound)],.cells [.p (.i .i64 k0),.p (.i .i64 n0),.p (.s t0),.p (.sl 1 (ns0.map bF)),.p (.sl 3 (mB ts0)),.p (.sl 8 (eC as0)),.p (.sl 12 (jX ms0)),.p (.i .i64 p0)]]) (fun k s'=>s'=rF (ms0.take k) s) s ⟨rfl,rfl,rfl,rfl⟩ rfl ?_
   intro j s3 hj hs3;(conv=>whnf);refine ai ?_ ?_<;>intro h9<;>conv=>whnf
   ·have hj1:=cu h9 (by rw[jt]) hj (by omega)
    obtain⟨b,hb1⟩:∃b,ms0[j]?=some b:=⟨ms0[j],by simp[hj1]⟩
    refine bM (tN hb1) (by omega) ?_;have hbw:=oy (k:=k0) (n:=n0) (t:=t0) (ns:=ns0) (ts:=ts0) (xs:=as0) (p:=p0) (List.mem_of_getElem? hb1);have hbb:=zS b.pat;have hbs:=yu b.pat (by omega);have hc:=ur (eu b.pat) b.body (by omega) (ih2 b (List.mem_of_getElem? hb1)) s3 (harm j b s3 hb1 (by rw[hs3];exact hso j));have hts:rF (ms0.take (j+1)) s=iz (eu b.pat) b.body s3:=by rw[cF hb1,A9,hs3]
    generalize iz (eu b.pat) b.body s3=s' at hc hts;generalize eu b.pat=bp at hbs hc hbb;obtain⟨⟨ck,cn,ct,ca⟩,⟨c1,c2,c3,c4,c5,c6,c7,c8⟩⟩:=b;(conv=>whnf);refine kK hbs ?_;(conv=>whnf);refine bh [1000000000,1000000001,1000000002] 10000 hc ?_;(conv=>whnf)
    first|refine ag (.inl (by kernel_rfl)) ?_|refine ag (by kernel_rfl) ?_
    (conv=>whnf);exact⟨hj1,s',⟨rfl,rfl,rfl,rfl⟩,hts.symm⟩
   ·have hj1:=cv h9 (by rw[jt]) hj (by omega)
    have hs4:rF ms0 s=s3:=by rw[hs3,hj1,List.take_length]
    rw[hs4]at hR;subst hR;exact⟨.inl rfl,⟨.inl rfl,.inl rfl,.inl rfl,trivial⟩,s6,s6,trivial⟩
  ·have h7:(k0==13)=false:=h7
   rw[h7,Bool.false_or]at hR;refine ai ?_ ?_<;>intro h8<;>conv=>whnf
   ·have h8:(k0==18)=true:=h8
    rw[h8,cond_true,tP]at hR
    refine bK (aG _) av (by kernel_rfl) ms0.length [0,3,121,122,123] [1000000000,1000000001,1000000002,3] (fun k (s:St)=>[.ptr 1000000000 0,.ptr 3 0,.p (.sl 12 (jX ms0)),.p (.i .i64 (jX ms0).length),.p (.i .i64 (ix k))])
     (fun k s=>[.cells [.p (.amp 29 0),.p (.amp 30 0),.so 1 (s.out.map bF)],.store 205 true 29 1 0 [(0,bX PV.b s.seen)],.store 206 true 30 1 0 [(0,bX vJ s.bound)],.cells [.p (.i .i64 k0),.p (.i .i64 n0),.p (.s t0),.p (.sl 1 (ns0.map bF)),.p (.sl 3 (mB ts0)),.p (.sl 8 (eC as0)),.p (.sl 12 (jX ms0)),.p (.i .i64 p0)]]) (fun k s'=>s'=rF (ms0.take k) s) s ⟨rfl,rfl,rfl,rfl⟩ rfl ?_
    intro j s3 hj hs3;(conv=>whnf);refine ai ?_ ?_<;>intro h9<;>conv=>whnf
    ·have hj1:=cu h9 (by rw[jt]) hj (by omega)
     obtain⟨b,hb1⟩:∃b,ms0[j]?=some b:=⟨ms0[j],by simp[hj1]⟩
     refine bM (tN hb1) (by omega) ?_;have hbw:=oy (k:=k0) (n:=n0) (t:=t0) (ns:=ns0) (ts:=ts0) (xs:=as0) (p:=p0) (List.mem_of_getElem? hb1);have hbb:=zS b.pat;have hbs:=yu b.pat (by omega);have hc:=ur (eu b.pat) b.body (by omega) (ih2 b (List.mem_of_getElem? hb1)) s3 (harm j b s3 hb1 (by rw[hs3];exact hso j));have hts:rF (ms0.take (j+1)) s=iz (eu b.pat) b.body s3:=by rw[cF hb1,A9,hs3]
     generalize iz (eu b.pat) b.body s3=s' at hc hts;generalize eu b.pat=bp at hbs hc hbb;obtain⟨⟨ck,cn,ct,ca⟩,⟨c1,c2,c3,c4,c5,c6,c7,c8⟩⟩:=b;(conv=>whnf);refine kK hbs ?_;(conv=>whnf);refine bh [1000000000,1000000001,1000000002] 10000 hc ?_;(conv=>whnf)
     first|refine ag (.inl (by kernel_rfl)) ?_|refine ag (by kernel_rfl) ?_
     (conv=>whnf);exact⟨hj1,s',⟨rfl,rfl,rfl,rfl⟩,hts.symm⟩
    ·have hj1:=cv h9 (by rw[jt]) hj (by omega)
     have hs4:rF ms0 s=s3:=by rw[hs3,hj1,List.take_length]
     rw[hs4]at hR;subst hR;exact⟨.inl rfl,⟨.inl rfl,.inl rfl,.inl rfl,trivial⟩,s6,s6,trivial⟩
   ·have h8:(k0==18)=false:=h8
    rw[h8,cond_false]at hR;subst hR;exact⟨.inl rfl,⟨.inl rfl,.inl rfl,.inl rfl,trivial⟩,s6,s6,trivial⟩
theorem F4 (e:Ex):wE e<=1048640->vE e:=
 Ex.ind (Q:=fun e=>wE e<=1048640->vE e) (fun k n t ns ts xs ms p h1 h2 h=>Jw (.mk k n t ns ts xs ms p) h (fun a ha=>h1 a ha (by have:=mH (k:=k) (n:=n) (t:=t) (ns:=ns) (ts:=ts) (ms:=ms) (p:=p) (show a∈xs from ha);omega))
  (fun a ha=>h2 a ha (by have:=oy (k:=k) (n:=n) (t:=t) (ns:=ns) (ts:=ts) (xs:=xs) (p:=p) (show a∈ms from ha);omega))) e
end TR
namespace TR
open MN (aV jR bX bQ s6)
theorem QL {P:Program} {f:Nat} {args:List AV} {h hs0 hs h':Heap} {r:AV} {K:List Nat->Heap->AV->Prop} (R:List Nat) (B:Nat) (s:au P f (AV.p9 (gj R 0) args) hs r h') (hk:K R (dW R B h') (r.xA (eg R B))) (hl:Cz hs0 hs)
 (h2:pN h (gj R 0) (aW R) R 0=some hs0:=by rfl) (h1:(AV.dH (aW R) args&&nodupB R)=true:=by rfl) (h3:(nodupB (aO h')&&pG h B R.length (aO h')&&lq (aO h') R.length)=true:=by rfl):cU P f args h K:=
 .mem R B hs0 r h' h1 h2 (s.le hl) h3 hk
noncomputable def Rj:Nat->Option TI:=hint (hint (iX Tryz.prog) 205 [1000004]) 206 [1000005]
theorem MF:bB Tryz.prog Rj:=((aG Tryz.prog).hint _ _).hint _ _
def ny (e:Ex):List ByteArray:=(dh e ⟨[],[],[]⟩).out
def QT (n:Nat) (M:List (Nat×List PV)):bu:=.store 205 true 29 n 0 M
def QM (n:Nat) (M:List (Nat×List PV)):bu:=.store 206 true 30 n 0 M
theorem rX:∀l:List ByteArray,aY (l.map bF)=true
 | []=>rfl
 |_::r=>rX r
theorem jN {α:Type} (f:α->PV):∀l:List α,(∀a∈l,bC (f a)=true)->aY (l.map f)=true
 | [],_=>rfl
 |a::r,h=>by rw[List.map_cons,aY,h a (by simp),jN f r fun x hx=>h x (by simp[hx])];rfl
theorem KB (t:Ty):bC (eT t)=true:=by
 induction t using Ty.ind with
 |h k n xs ih=>simp[eT,bC,aY,kY,jN eT xs ih]
theorem Jx (t:Pt):bC (eP t)=true:=by
 induction t using Pt.ind with
 |h k n t xs ih=>simp[eP,bC,aY,mE,jN eP xs ih]
theorem sG (e:Ex):bC (eE e)=true:=by
 induction e using Ex.ind with
 |h k n t ns ts xs ms p ih1 ih2=>
  have h3:=jN eA ms fun a ha=>by
   have h4:=ih2 a ha;have h5:=Jx a.pat;obtain⟨⟨p1,p2,p3,p4⟩,⟨e1,e2,e3,e4,e5,e6,e7,e8⟩⟩:=a;simp only[eP,eE,bC,aY,eZ.pat,eZ.body]at h4 h5;simp[eA,eP,eE,PV.cells,bC,aY]at h4 h5 ⊢;simp[h4,h5]
  simp[eE,bC,aY,jc,kZ,kY,jN eE xs ih1,jN eT ts fun a _=>KB a,rX,h3]
theorem free_spec (e:Ex) (he:wE e<=1048640):au Tryz.prog 46 [.p (eE e)] [] (.p (.sl 1 ((ny e).map bF))) []:=by
 have h1:=F4 e he ⟨[],[],[]⟩ (by simp;omega);have hpl:=sG e
 have h2:au Tryz.prog 46 [.p (eE e)] ([]++[(1000000000,QT 0 []),(1000000001,QM 0 [])]) (.p (.sl 1 ((ny e).map bF))) ([]++[(1000000000,QT 1 [(0,bX PV.b (dh e ⟨[],[],[]⟩).seen)]),(1000000001,QM 1 [(0,bX vJ (dh e ⟨[],[],[]⟩).bound)])]):=by
  rw[ny];generalize dh e ⟨[],[],[]⟩=σ at h1;obtain⟨k0,n0,t0,ns0,ts0,as0,ms0,p0⟩:=e;unfold QT QM;refine au.intro MF av Tryz.func46 rfl (by rfl) (by kernel_rfl) (by show 1<=_;decide) rfl ?_;(conv=>whnf);refine QL [3,1000000000,1000000001] 10000 h1 ?_ ?_
  ·conv=>whnf
   exact⟨.inr rfl,s6,s6,trivial⟩
  ·exact⟨rfl,⟨.inl rfl,.inl rfl,.inr (.inr ⟨rfl,0,rfl⟩),trivial⟩,rfl,s6,rfl,s6,trivial⟩
 exact au.NL h2 (by simp[vV,hpl]) rfl rfl (rX _)
end TR
end
section
open Go Go.AM
namespace TR
structure O1 where
 name:ByteArray
 low:Int
 high:Int
structure PO where
 name:ByteArray
 ts:List Ty
structure PG where
 name:ByteArray
 ps:List ByteArray
 makes:List PO
structure Ac where
 name:ByteArray
 ps:List ByteArray
 ns:List ByteArray
 ts:List Ty
 out:Ty
 body:Ex
structure PC where
 name:ByteArray
 funcs:List Ac
structure xF where
 tr:ByteArray
 fo:ByteArray
 funcs:List Ac
structure JN where
 name:ByteArray
 ns:List ByteArray
 ts:List Ty
 msg:Ty
 body:Ex
structure nX where
 name:ByteArray
 ver:Int
 uses:List O1
 datas:List PG
 traits:List PC
 impls:List xF
 funcs:List Ac
 actors:List JN
def kT (u:O1):PV:=.agg [.s u.name,.i .i64 u.low,.i .i64 u.high]
def vK (m:PO):PV:=.agg [.s m.name,.sl 3 (mB m.ts)]
def kM (m:PG):PV:=.agg [.s m.name,.sl 1 (m.ps.map bF),.sl 2 (m.makes.map vK)]
def dj (f:Ac):PV:=.agg (.s f.name::.sl 1 (f.ps.map bF)::.sl 1 (f.ns.map bF)::.sl 3 (mB f.ts)::((eT f.out).cells++(eE f.body).cells))
def kN (m:PC):PV:=.agg [.s m.name,.sl 15 (m.funcs.map dj)]
def iI (m:xF):PV:=.agg [.s m.tr,.s m.fo,.sl 15 (m.funcs.map dj)]
def gZ (f:JN):PV:=.agg (.s f.name::.sl 1 (f.ns.map bF)::.sl 3 (mB f.ts)::((eT f.msg).cells++(eE f.body).cells))
def iY (p:nX):PV:=.agg [.s p.name,.i .i64 p.ver,.sl 3 (p.uses.map kT),.sl 3 (p.datas.map kM),.sl 2 (p.traits.map kN),.sl 3 (p.impls.map iI),.sl 15 (p.funcs.map dj),.sl 14 (p.actors.map gZ)]
def I8 (f:Ac):Nat:=PV.wt (dj f)
theorem xL (f:Ac):I8 f=f.name.size+1+(PV.cH (f.ps.map bF)+1)+(PV.cH (f.ns.map bF)+1)+(PV.cH (mB f.ts)+1)+wT f.out+wE f.body:=by
 simp only[I8,dj,PV.wt,PV.cH,PV.ef,yx];unfold wT wE;omega
theorem xI (f:JN):PV.wt (gZ f)=f.name.size+1+(PV.cH (f.ns.map bF)+1)+(PV.cH (mB f.ts)+1)+wT f.msg+wE f.body:=by
 simp only[gZ,PV.wt,PV.cH,PV.ef,yx];unfold wT wE;omega
theorem MC (m:PO):PV.wt (vK m)=m.name.size+1+(PV.cH (mB m.ts)+1):=by
 simp only[vK,PV.wt,PV.cH]<;>try omega
theorem HV (m:PG):PV.wt (kM m)=m.name.size+1+(PV.cH (m.ps.map bF)+1)+(PV.cH (m.makes.map vK)+1):=by
 simp only[kM,PV.wt,PV.cH]<;>try omega
theorem H9 (m:PC):PV.wt (kN m)=m.name.size+1+(PV.cH (m.funcs.map dj)+1):=by
 simp only[kN,PV.wt,PV.cH]<;>try omega
theorem xM (m:xF):PV.wt (iI m)=m.tr.size+1+(m.fo.size+1)+(PV.cH (m.funcs.map dj)+1):=by
 simp only[iI,PV.wt,PV.cH]<;>try omega
def vH (p:nX):Nat:=PV.wt (iY p)
theorem qR (p:nX):vH p=p.name.size+1+1+(PV.cH (p.uses.map kT)+1)+(PV.cH (p.datas.map kM)+1)+(PV.cH (p.traits.map kN)+1)+(PV.cH (p.impls.map iI)+1)+(PV.cH (p.funcs.map dj)+1)+(PV.cH (p.actors.map gZ)+1):=by
 simp only[vH,iY,PV.wt,PV.cH]<;>try omega
theorem uj {α:Type} (f:α->PV) (h:∀x,1<=PV.wt (f x)):∀(l:List α),l.length<=PV.cH (l.map f)
 | []=>by simp
 |x::r=>by have:=h x;have:=uj f h r;simp only[List.map_cons,PV.cH,List.length_cons];omega
theorem tK {α:Type} (f:α->PV) {x:α} {l:List α} (h:x∈l):PV.wt (f x)<=PV.cH (l.map f):=uo (List.mem_map.2 ⟨x,h,rfl⟩)
end TR
end
section
open Go Go.AM Go.Proofs TK
namespace MN
structure Ns where
 n:aZ Nd
 a:aZ (List Nat)
 b:aZ (List Ar)
 fu:Option (Nat×Nat)
def sC:Option (Nat×Nat)->Option (Nat×Nat)->Bool
 |none,none=>true
 |some p,some q=>Nat.beq p.1 q.1&&Nat.beq p.2 q.2
 |_,_=>false
theorem Bb {x y:Option (Nat×Nat)} (h:sC x y=true):x=y:=by
 rcases x with _|⟨a,b⟩<;>rcases y with _|⟨c,d⟩
 ·rfl
 ·cases h
 ·cases h
 ·have h:(Nat.beq a c&&Nat.beq b d)=true:=h
  rw[Bool.and_eq_true]at h;rw[Nat.eq_of_beq_eq_true h.1,Nat.eq_of_beq_eq_true h.2]
def lU {α:Type} (z:aZ (List α)) (q:Option (Nat×Nat)) (c:α):Option (aZ (List α)×(Nat×Nat)):=match q with
 |none=>some ((z.1+1,(z.1,[c])::z.2),(z.1,1))
 |some q=>match aK q.1 z.2 with
  |none=>none
  |some l=>match Nat.ble q.2 l.length&&Nat.ble q.2 2000000 with
   |false=>none
   |true=>some ((z.1+1,(z.1,l.take q.2++[c])::iE q.1 z.2),(z.1,q.2+1))
def pH (g:TR.Ex->Ns->Option (Ns×Nat)) (k:Nat):List TR.Ex->Ns->Option Ns
 | [],z=>some z
 |e::r,z=>match aK k z.n.2 with
  |none=>none
  |some n0=>match g e z with
   |none=>none
   |some (z2,c)=>match aK k z2.n.2 with
    |none=>none
    |some n1=>match sC n0.args n1.args with
     |false=>none
     |true=>match lU z2.a n0.args c with
      |none=>none
      |some (a3,q)=>pH g k r ⟨(z2.n.1,bf k { n1 with args:=some q } z2.n.2),a3,z2.b,z2.fu⟩
def pz (g:TR.Ex->Ns->Option (Ns×Nat)) (k:Nat):List TR.eZ->Ns->Option Ns
 | [],z=>some z
 |x::r,z=>match aK k z.n.2 with
  |none=>none
  |some n0=>match g x.body z with
   |none=>none
   |some (z2,c)=>match aK k z2.n.2 with
    |none=>none
    |some n1=>match sC n0.dZ n1.dZ&&Nat.ble (TR.wP x.pat) 1048576 with
     |false=>none
     |true=>match lU z2.b n0.dZ ⟨x.pat,c⟩ with
      |none=>none
      |some (b3,q)=>pz g k r ⟨(z2.n.1,bf k { n1 with dZ:=some q } z2.n.2),z2.a,b3,z2.fu⟩
def tU (e:TR.Ex):Nd:=⟨e.kind,e.num,e.text,e.names,none,none,TR.ei e.kind e.num e.args.length,0,[]⟩
def JA (e:TR.Ex) (k:Nat) (z:Ns):Option Ns:=match (e.kind==10)&&!(Nat.beq e.args.length 0) with
 |false=>some z
 |true=>match Nat.ble (TR.wE e) 1048640 with
  |false=>none
  |true=>match lU z.a z.fu k with
   |none=>none
   |some (a2,q)=>some ⟨(z.n.1,bf k { tU e with fn:=(fT z.fu:Int),free:=TR.ny e } z.n.2),a2,z.b,some q⟩
def hU:Nat->TR.Ex->Ns->Option (Ns×Nat)
 |0,_,_=>none
 |n+1,e,z=>match Nat.ble e.args.length 2000000&&(Nat.ble e.dZ.length 2000000&&Nat.ble e.names.length 2000000) with
  |false=>none
  |true=>match JA e z.n.1 ⟨(z.n.1+1,(z.n.1,tU e)::z.n.2),z.a,z.b,z.fu⟩ with
   |none=>none
   |some z1=>match pH (hU n) z.n.1 e.args z1 with
    |none=>none
    |some z2=>match pz (hU n) z.n.1 e.dZ z2 with
     |none=>none
     |some z3=>some (z3,z.n.1)
def firstT {α:Type} (es:TM α) (k:ByteArray) (v:α):TM α:=match aV k es with
 |some _=>es
 |none=>es++[(k,v)]
def vC (d:ByteArray):List TR.PO->TM Cn->TM Cn
 | [],es=>es
 |x::r,es=>vC d r (firstT es x.name ⟨d,x.ts.length⟩)
def mZ:List TR.PG->TM Cn->TM Cn
 | [],es=>es
 |d::r,es=>mZ r (vC d.name d.makes es)
def vm (t:ByteArray):List TR.Ac->TM ByteArray->TM ByteArray
 | [],es=>es
 |f::r,es=>vm t r (firstT es f.name t)
def jT:List TR.PC->TM ByteArray->TM ByteArray
 | [],es=>es
 |t::r,es=>jT r (vm t.name t.funcs es)
def GG (f:TR.Ac) (z:Ns):Option (Ns×Fn):=match Nat.ble f.ns.length 2000000 with
 |false=>none
 |true=>match hU (TR.wE f.body) f.body z with
  |none=>none
  |some (z2,k)=>some (z2,⟨f.ns,k⟩)
def Pz (f:TR.JN) (z:Ns):Option (Ns×Fn):=match Nat.ble f.ns.length 2000000 with
 |false=>none
 |true=>match hU (TR.wE f.body) f.body z with
  |none=>none
  |some (z2,k)=>some (z2,⟨f.ns,k⟩)
def mA:List TR.Ac->Ns->TM Fn->Option (Ns×TM Fn)
 | [],z,es=>some (z,es)
 |f::r,z,es=>match GG f z with
  |none=>none
  |some (z2,x)=>mA r z2 (firstT es f.name x)
def jV:List TR.JN->Ns->TM Fn->Option (Ns×TM Fn)
 | [],z,es=>some (z,es)
 |f::r,z,es=>match Pz f z with
  |none=>none
  |some (z2,x)=>jV r z2 (firstT es f.name x)
def mY:List TR.xF->Ns->aZ (TM Fn)->aZ (List Im)->Option (Nat×Nat)->Option (Ns×aZ (TM Fn)×aZ (List Im)×Option (Nat×Nat))
 | [],z,m,i,q=>some (z,m,i,q)
 |x::r,z,m,i,q=>match mA x.funcs z [] with
  |none=>none
  |some (z2,es)=>match lU i q ⟨x.tr,x.fo,m.1⟩ with
   |none=>none
   |some (i2,q2)=>mY r z2 (m.1+1,(m.1,es)::m.2) i2 (some q2)
def IC (p:TR.nX):Bool:=Nat.ble p.datas.length 2000000&&(p.datas.all (fun d=>Nat.ble d.makes.length 2000000)&&(Nat.ble p.traits.length 2000000&&(p.traits.all (fun t=>Nat.ble t.funcs.length 2000000)&&(Nat.ble p.impls.length 2000000&&(p.impls.all (fun t=>Nat.ble t.funcs.length 2000000)&&(Nat.ble p.funcs.length 2000000&&Nat.ble p.actors.length 2000000))))))
def kS (K:Ks) (z:Ns) (mk:Mk) (cs:TM Cn) (mf:aZ (TM Fn)) (ts:TM ByteArray) (im:aZ (List Im)) (acs:TM Fn):Ks:=
 ⟨z.n,z.a,z.b,(K.mm.1+1,(K.mm.1,mk)::K.mm.2),(K.mc.1+1,(K.mc.1,cs)::K.mc.2),mf,(K.mt.1+1,(K.mt.1,ts)::K.mt.2),im,(K.ma.1+1,(K.ma.1,acs)::K.ma.2)⟩
def wY (K:Ks) (fu q:Option (Nat×Nat)):Mk:=⟨fu,K.mc.1,K.mf.1,K.mt.1,q,K.ma.1⟩
def newF (p:TR.nX) (K:Ks):Option Ks:=match IC p with
 |false=>none
 |true=>match mY p.impls ⟨K.n,K.a,K.b,none⟩ (K.mf.1+1,(K.mf.1,[])::K.mf.2) K.im none with
  |none=>none
  |some (z1,mf1,im1,q)=>match aK K.mf.1 mf1.2 with
   |none=>none
   |some es0=>match mA p.funcs z1 es0 with
    |none=>none
    |some (z2,fs)=>match jV p.actors z2 [] with
     |none=>none
     |some (z3,acs)=>some (kS K z3 (wY K z3.fu q) (mZ p.datas []) (mf1.1,bf K.mf.1 fs mf1.2) (jT p.traits []) im1 acs)
end MN
end
section
open Go Go.AM Go.Proofs
namespace TR
theorem p7 (l:List ByteArray) (h:l.length<=2097152):aU Tryz.prog 29 [.p (.sl 1 (l.map bF))] (.so 1 (l.map bF)):=by
 cases l with
 |nil=>
  refine aU.ED (pre:=[]) (post:=[]) (sz:=1) ?_ ?_
  ·refine aU.iN av Tryz.func29 rfl (by rfl) (by kernel_rfl) rfl rfl ?_
   (conv=>whnf);exact .inl rfl
  ·refine aU.iN av Tryz.func29 rfl (by rfl) (by kernel_rfl) rfl rfl ?_
   (conv=>whnf);refine ag (by decide) ?_;(conv=>whnf);exact .inl rfl
 |cons a r=>
  refine aU.iN av Tryz.func29 rfl (by rfl) (by kernel_rfl) rfl rfl ?_;(conv=>whnf);refine ag (show(([]:List PV).length+((a::r).map bF).length)*16<=140737488355328 by simp at h ⊢;omega) ?_;(conv=>whnf);exact .inl rfl
theorem EJ (g:Pt->Pt) (f:Nat) (l:List Pt) (hl:l.length<=1048576) (h:∀x∈l,aU Tryz.prog f [.p (eP x)] (.p (eP (g x)))):aU Tryz.prog 77 [.p (.sl 4 (pF l)),.fn f [] []] (.p (.sl 4 (pF (l.map g)))):=by
 refine aU.iN av Tryz.func77 rfl (by rfl) (by kernel_rfl) rfl rfl ?_;(conv=>whnf);refine qf 5 3 rfl ?_;refine bK (aG _) av (by kernel_rfl) l.length [1,5,8,9,10] [] (fun k (s:List Pt)=>[.fn f [] [],.so 4 (pF s),.p (.sl 4 (pF l)),.p (.i .i64 (pF l).length),.p (.i .i64 (ix k))]) (fun _ _=>[]) (fun k s=>s=(l.take k).map g) [] ⟨rfl,rfl,rfl,rfl⟩ (by simp) ?_;intro k s hk hs;have hsl:s.length<=1048576:=by rw[hs];simp;omega
 (conv=>whnf);refine ai ?_ ?_<;>intro h1<;>conv=>whnf
 ·have hk1:=cu h1 (by rw[iq]) hk (by omega)
  obtain⟨b,hb1⟩:∃b,l[k]?=some b:=⟨_,List.getElem?_eq_getElem hk1⟩
  refine bM (tJ hb1) (by omega) ?_;have hc:=h b (List.mem_of_getElem? hb1);have hts:(l.take (k+1)).map g=s++[g b]:=by rw[cF hb1,List.map_append,hs];rfl
  generalize g b=c at hc hts;obtain⟨b1,b2,b3,b4⟩:=b;obtain⟨c1,c2,c3,c4⟩:=c;(conv=>whnf);refine kK hc ?_;(conv=>whnf);refine ag (show((pF s).length+1)*56<=140737488355328 by rw[iq];omega) ?_;(conv=>whnf);refine⟨hk1,_,⟨rfl,?_,rfl,rfl⟩,hts.symm⟩;rw[He];rfl
 ·have hk1:=cv h1 (by rw[iq]) hk (by omega)
  have hs2:s=l.map g:=by rw[hs,hk1,List.take_length]
  subst hs2;exact .inr (.inl rfl)
theorem IF (t:Pt):wP t<=1048576->aU Tryz.prog 47 [.p (eP t)] (.p (eP t)):=by
 induction t using Pt.ind with
 |h k0 n0 t0 as0 ih=>
 intro hw;have h1:=xR k0 n0 t0 as0;have h2:=G6 as0;have hm:=EJ (fun x=>x) 47 as0 (by omega) (fun x hx=>ih x hx (by have:=HA hx;omega));rw[List.map_id']at hm;refine aU.iN av Tryz.func47 rfl (by rfl) (by kernel_rfl) rfl rfl ?_;(conv=>whnf);refine kK hm ?_;(conv=>whnf);exact .inl rfl
end TR
end
section
open Go Go.AM Go.Proofs TK
namespace MN
structure Mw where
 nx:Nat
 m:Nat
 c1:Nat
 c2:Nat
 c3:Nat
 qi:Option (Nat×Nat)
 c4:Nat
 rest:List (Nat×Mk)
def Mw.Qo (w:Mw) (fu:Option (Nat×Nat)):aZ Mk:=(w.nx,(w.m,⟨fu,w.c1,w.c2,w.c3,w.qi,w.c4⟩)::w.rest)
def hN (w:Mw) (z:Ns):Heap:=[(1000000000,iZ z.n),(1000000001,yO z.a),(1000000002,Mb z.b),(1000000003,tq (w.Qo z.fu))]
noncomputable def QU:Nat->Option TI:=hint (hint (hint (ic (iX Tryz.prog) 160 [1,1,1,1,0,0,1,1,1]) 160 [1000022]) 81 [1000071,1000052]) 158 [1000096]
theorem BR:bB Tryz.prog QU:=((((aG Tryz.prog).ic _ _).hint _ _).hint _ _).hint _ _
theorem map_push {α:Type} (g:α->PV) (nx g1 g2:Nat) (l:List α) (x:α) (M:List (Nat×List α)):(nx,(l.map g).take g2++[g x])::mX g1 (cD (fun l=>l.map g) M)=cD (fun l=>l.map g) ((nx,l.take g2++[x])::iE g1 M):=by
 rw[cD,ug];simp[List.map_take]
theorem oX {α:Type} {z:aZ (List α)} {c:α} {R:aZ (List α)×(Nat×Nat)} (h:lU z none c=some R):R=((z.1+1,(z.1,[c])::z.2),(z.1,1)):=by cases h;rfl
theorem oM {α:Type} {z:aZ (List α)} {q:Nat×Nat} {c:α} {R:aZ (List α)×(Nat×Nat)} (h:lU z (some q) c=some R):∃l,aK q.1 z.2=some l/\q.2<=l.length/\q.2<=2000000/\R=((z.1+1,(z.1,l.take q.2++[c])::iE q.1 z.2),(z.1,q.2+1)):=by
 unfold lU at h;dsimp only at h
 cases hl:aK q.1 z.2 with
 |none=>rw[hl]at h;cases h
 |some l=>
  rw[hl]at h;dsimp only at h
  cases hg:Nat.ble q.2 l.length&&Nat.ble q.2 2000000 with
  |false=>rw[hg]at h;cases h
  |true=>
   rw[hg]at h;rw[Bool.and_eq_true]at hg;cases h;exact⟨l,rfl,Nat.le_of_ble_eq_true hg.1,Nat.le_of_ble_eq_true hg.2,rfl⟩
theorem vA:∀(n:Nat) (w:Mw) (e:TR.Ex) (z:Ns) (R:Ns×Nat),hU n e z=some R->
 au Tryz.prog 30 [.p (.bH mS w.m),.p (TR.eE e)] (hN w z) (.p (.bH nS R.2)) (hN w R.1)
 |0,_,_,_,_,hF=>by cases hF
 |n+1,w,e,z,R,hF=>by
  have ih:=vA n w;unfold hU at hF
  cases hg:Nat.ble e.args.length 2000000&&(Nat.ble e.dZ.length 2000000&&Nat.ble e.names.length 2000000) with
  |false=>rw[hg]at hF;cases hF
  |true=>
   rw[hg]at hF;dsimp only at hF;rw[Bool.and_eq_true,Bool.and_eq_true]at hg;have g1:=Nat.le_of_ble_eq_true hg.1;have g2:=Nat.le_of_ble_eq_true hg.2.1;have g3:=Nat.le_of_ble_eq_true hg.2.2
   cases hfu:JA e z.n.1 ⟨(z.n.1+1,(z.n.1,tU e)::z.n.2),z.a,z.b,z.fu⟩ with
   |none=>rw[hfu]at hF;cases hF
   |some z1=>
   rw[hfu]at hF;dsimp only at hF
   cases ha:pH (hU n) z.n.1 e.args z1 with
   |none=>rw[ha]at hF;cases hF
   |some z2=>
    rw[ha]at hF;dsimp only at hF
    cases hm:pz (hU n) z.n.1 e.dZ z2 with
    |none=>rw[hm]at hF;cases hF
    |some z3=>
     rw[hm]at hF;cases hF;have hcl:=TR.p7 e.names (by omega);have hnd:=TR.zK e;have hfr:=TR.free_spec e;have hfe:=fun fn fr=>(rfl:({ tU e with fn:=fn,free:=fr }:Nd)=⟨e.kind,e.num,e.text,e.names,none,none,TR.ei e.kind e.num e.args.length,fn,fr⟩)
     unfold JA at hfu;obtain⟨ek,en,et,ens,ets,exs,ems,ep⟩:=e;obtain⟨nx,m,c1,c2,c3,qi,c4,rest⟩:=w;unfold tU at hfu;simp only[TR.Ex.kind,TR.Ex.num,TR.Ex.text,TR.Ex.names,TR.Ex.args,TR.Ex.dZ]at ha hm hcl hnd hfu g1 g2 g3;rw[TR.eE]at hnd hfr ⊢;unfold hN iZ yO Mb tq Mw.Qo at *;dsimp only at *;have hlx:(TR.eC exs).length=exs.length:=TR.cG exs;have hlm:(TR.jX ems).length=ems.length:=TR.jt ems;have hm0:∀fu,aK m ((m,(⟨fu,c1,c2,c3,qi,c4⟩:Mk))::rest)=some ⟨fu,c1,c2,c3,qi,c4⟩:=fun fu=>aP _ _ _;refine au.qG BR Tryz.func30 rfl (by rfl) (by show 2<=_;decide) rfl ?_;refine jh.cut BR av (by kernel_rfl) 3 [0,3,5] [3,1000000000,1000000001,1000000002,1000000003] (fun _:Unit=>[.p (.bH mS m),.ptr 3 0,.p (.bH nS z.n.1)]) (fun _=>[.cells [.p (.i .i64 ek),.p (.i .i64 en),.p (.s et),.p (.sl 1 (ens.map TR.bF)),.p (.sl 3 (TR.mB ets)),.p (.sl 8 (TR.eC exs)),.p (.sl 12 (TR.jX ems)),.p (.i .i64 ep)],.store 160 true nS z1.n.1 9 (cD dm z1.n.2),.store 110 false aS z1.a.1 1 (cD rK z1.a.2),.store 169 false bS z1.b.1 5 (cD FY z1.b.2),.store 84 true mS nx 6 (cD jr ((m,⟨z1.fu,c1,c2,c3,qi,c4⟩)::rest))]) (fun _=>True) ?_ ?_
     ·conv=>whnf
      refine kK hcl ?_;(conv=>whnf);refine kK hnd ?_;(conv=>whnf);refine ag (.inl (by kernel_rfl)) ?_;(conv=>whnf);refine ai ?_ ?_<;>intro k1<;>conv=>whnf
      rotate_left
      ·rw[show(ek==10)=false from k1,Bool.false_and]at hfu
       cases hfu;exact⟨(),⟨rfl,rfl,rfl,rfl⟩,trivial⟩
      rw[show(ek==10)=true from k1,Bool.true_and]at hfu
      have hkz:decide (((TR.eC exs).length:Int)>0)=!(Nat.beq exs.length 0):=by
       rw[hlx]
       cases exs.length with
       |zero=>rfl
       |succ n=>exact decide_eq_true (by omega)
      refine ai ?_ ?_<;>intro k2<;>conv=>whnf
      rotate_left
      ·rw[<-hkz,show decide (((TR.eC exs).length:Int)>0)=false from k2]at hfu
       cases hfu;exact⟨(),⟨rfl,rfl,rfl,rfl⟩,trivial⟩
      rw[<-hkz,show decide (((TR.eC exs).length:Int)>0)=true from k2]at hfu;dsimp only at hfu
      cases hwe:Nat.ble (TR.wE (.mk ek en et ens ets exs ems ep)) 1048640 with
      |false=>rw[hwe]at hfu;cases hfu
      |true=>
       rw[hwe]at hfu;have hfr:=hfr (Nat.le_of_ble_eq_true hwe);dsimp only at hfu;generalize TR.ny (.mk ek en et ens ets exs ems ep)=fr at hfu hfr
       cases hpb:lU z.a z.fu z.n.1 with
       |none=>rw[hpb]at hfu;cases hfu
       |some B=>
        rw[hpb]at hfu;obtain⟨B1,B2⟩:=B;cases hfu;have hn0:th z.n.1 ((z.n.1,dm ⟨ek,en,et,ens,none,none,TR.ei ek en exs.length,0,[]⟩)::cD dm z.n.2)=some (dm ⟨ek,en,et,ens,none,none,TR.ei ek en exs.length,0,[]⟩):=uV _ _ _;have e1:=qO z.n.1 (dm ⟨ek,en,et,ens,none,none,TR.ei ek en exs.length,0,[]⟩) (dm ⟨ek,en,et,ens,none,none,TR.ei ek en exs.length,(fT z.fu:Int),fr⟩) (cD dm z.n.2);have e3:=qO m (jr ⟨z.fu,c1,c2,c3,qi,c4⟩) (jr ⟨some B2,c1,c2,c3,qi,c4⟩) (cD jr rest);rw[dL];generalize hzf:z.fu=zf at *
        cases zf with
        |none=>
         have hB:=oX hpb;cases hB;refine ag ⟨rfl,by decide,.inl rfl⟩ ?_;refine⟨_,aj (hm0 none),?_⟩;refine aq (i:=0) rfl ?_;(conv=>whnf);refine bh [] 300 hfr ?_;(conv=>whnf);refine ag ⟨rfl,by decide,.inl rfl⟩ ?_;refine⟨_,hn0,?_⟩;refine aq (i:=0) rfl ?_;(conv=>whnf);refine ag ⟨rfl,by decide,.inl rfl⟩ ?_;refine⟨_,(aJ hn0),?_⟩;refine aq (i:=0) rfl ?_;(conv=>whnf);refine ag (.inl (by kernel_rfl)) ?_;(conv=>whnf);refine ag ⟨rfl,by decide,.inl rfl⟩ ?_;refine⟨_,aj (hm0 none),?_⟩;refine aq (i:=0) rfl ?_;(conv=>whnf);refine ag ⟨Nat.succ_pos _,Nat.le_of_ble_eq_true (by kernel_rfl)⟩ ?_;(conv=>whnf);refine ag ⟨rfl,by decide,.inl rfl⟩ ?_;refine⟨_,aj (hm0 none),?_⟩;refine aq (i:=0) rfl ?_;(conv=>whnf);refine⟨(),⟨?_,rfl,rfl,rfl⟩,trivial⟩;show _=List.map some [bu.cells _,.store 160 true nS (z.n.1+1) 9 ((z.n.1,dm ⟨ek,en,et,ens,none,none,TR.ei ek en exs.length,(fT none:Int),fr⟩)::cD dm z.n.2),.store 110 false aS (z.a.1+1) 1 (cD rK ((z.a.1,[z.n.1])::z.a.2)),_,.store 84 true mS nx 6 ((m,jr ⟨some (z.a.1,1),c1,c2,c3,qi,c4⟩)::cD jr rest)];rw[<-e1,<-e3,show(1:Nat)=1 from rfl];rw[<-bV z.n.1 _ _ ((z.n.1,dm _)::cD dm z.n.2)];rfl
        |some p=>
         obtain⟨al,hal,hp1,hp2,hB⟩:=oM hpb;cases hB;have e2:=map_push (PV.bH nS) z.a.1 p.1 p.2 al z.n.1 z.a.2;refine ag ⟨rfl,by decide,.inl rfl⟩ ?_;refine⟨_,aj (hm0 (some p)),?_⟩;refine aq (i:=0) rfl ?_;(conv=>whnf);refine bh [] 300 hfr ?_;(conv=>whnf);refine ag ⟨rfl,by decide,.inl rfl⟩ ?_;refine⟨_,hn0,?_⟩;refine aq (i:=0) rfl ?_;(conv=>whnf);refine ag ⟨rfl,by decide,.inl rfl⟩ ?_;refine⟨_,(aJ hn0),?_⟩;refine aq (i:=0) rfl ?_;(conv=>whnf);refine ag (.inl (by kernel_rfl)) ?_;(conv=>whnf);refine ag ⟨rfl,by decide,.inl rfl⟩ ?_;refine⟨_,aj (hm0 (some p)),?_⟩;refine aq (i:=0) rfl ?_;(conv=>whnf);refine⟨rfl,_,aj hal,?_⟩;refine ag ⟨by unfold rK;rw[List.length_map];exact hp1,Nat.le_trans (Nat.mul_le_mul_right _ (show p.2+1<=2000001 by omega)) (Nat.le_of_ble_eq_true (by kernel_rfl))⟩ ?_;(conv=>whnf);refine ag ⟨rfl,by decide,.inl rfl⟩ ?_;refine⟨_,aj (hm0 (some p)),?_⟩;refine aq (i:=0) rfl ?_;(conv=>whnf);refine⟨(),⟨?_,rfl,rfl,rfl⟩,trivial⟩;show _=List.map some [bu.cells _,.store 160 true nS (z.n.1+1) 9 ((z.n.1,dm ⟨ek,en,et,ens,none,none,TR.ei ek en exs.length,(fT (some p):Int),fr⟩)::cD dm z.n.2),.store 110 false aS (z.a.1+1) 1 (cD rK ((z.a.1,al.take p.2++[z.n.1])::iE p.1 z.a.2)),_,.store 84 true mS nx 6 ((m,jr ⟨some (z.a.1,p.2+1),c1,c2,c3,qi,c4⟩)::cD jr rest)];rw[<-e1,<-e3,show cD rK ((z.a.1,al.take p.2++[z.n.1])::iE p.1 z.a.2)=_ from e2.symm];rw[<-bV z.n.1 _ _ ((z.n.1,dm _)::cD dm z.n.2)];rfl
     rintro _ _;refine jh.fin BR av (by kernel_rfl) ?_;(conv=>whnf);refine bK (aG _) av (by kernel_rfl) exs.length [0,3,5,56,57,58] [3,1000000000,1000000001,1000000002,1000000003] (fun j (_:Ns)=>[.p (.bH mS m),.ptr 3 0,.p (.bH nS z.n.1),.p (.sl 8 (TR.eC exs)),.p (.i .i64 (TR.eC exs).length),.p (.i .i64 (ix j))]) (fun _ q=>[.cells [.p (.i .i64 ek),.p (.i .i64 en),.p (.s et),.p (.sl 1 (ens.map TR.bF)),.p (.sl 3 (TR.mB ets)),.p (.sl 8 (TR.eC exs)),.p (.sl 12 (TR.jX ems)),.p (.i .i64 ep)],iZ q.n,yO q.a,Mb q.b,.store 84 true mS nx 6 (cD jr ((m,⟨q.fu,c1,c2,c3,qi,c4⟩)::rest))]) (fun j q=>pH (hU n) z.n.1 (exs.drop j) q=some z2) z1 ⟨rfl,rfl,rfl,rfl⟩ ha ?_;intro j q hj hQ
     try dsimp only at hQ
     (conv=>whnf);refine ai ?_ ?_<;>intro h1<;>conv=>whnf
     ·have hj1:=cu h1 (by rw[hlx]) hj (by omega)
      obtain⟨x,hx⟩:∃x,exs[j]?=some x:=⟨_,List.getElem?_eq_getElem hj1⟩
      rw[drop_cons hx,pH]at hQ
      cases hn0:aK z.n.1 q.n.2 with
      |none=>rw[hn0]at hQ;cases hQ
      |some n0=>
       rw[hn0]at hQ;dsimp only at hQ
       cases hr:hU n x q with
       |none=>rw[hr]at hQ;cases hQ
       |some P=>
        rw[hr]at hQ;have hi:=ih x q P hr;obtain⟨q3,c⟩:=P;dsimp only at hQ hi
        cases hn1:aK z.n.1 q3.n.2 with
        |none=>rw[hn1]at hQ;cases hQ
        |some n1=>
         rw[hn1]at hQ;dsimp only at hQ
         cases hsb:sC n0.args n1.args with
         |false=>rw[hsb]at hQ;cases hQ
         |true=>
          rw[hsb]at hQ;dsimp only at hQ;have hsb:=Bb hsb;have hxe:=TR.nZ hx;obtain⟨xk,xn,xt,xns,xts,xxs,xms,xp⟩:=x;rw[TR.eE]at hxe hi;obtain⟨a1,a2,a3,a4,a5,a6,a7,a8,a9⟩:=n0;obtain⟨b1,b2,b3,b4,b5,b6,b7,b8,b9⟩:=n1;dsimp only at hsb hQ;subst hsb
          cases hpb:lU q3.a a5 c with
          |none=>rw[hpb]at hQ;cases hQ
          |some B=>
           rw[hpb]at hQ;obtain⟨w,B2⟩:=B;dsimp only at hQ;have e1:=bN dm z.n.1 (⟨b1,b2,b3,b4,some B2,b6,b7,b8,b9⟩:Nd) q3.n.2
           cases a5 with
           |none=>
            have hB:=oX hpb;cases hB;refine bM hxe (by omega) ?_;(conv=>whnf);refine bw dm hn0 rfl ?_;(conv=>whnf);refine bh [1000000000,1000000001,1000000002,1000000003] 400 hi ?_;(conv=>whnf);refine ag ⟨Nat.succ_pos _,Nat.le_of_ble_eq_true (by kernel_rfl)⟩ ?_;(conv=>whnf);refine bw dm hn1 rfl ?_;(conv=>whnf);refine ag (.inr ⟨[(4,7)],by kernel_rfl,⟨?_,trivial⟩⟩) ?_
            ·conv=>whnf
             refine⟨by kernel_rfl,?_⟩;refine bw dm hn1 rfl ?_;(conv=>whnf);rfl
            (conv=>whnf);refine⟨hj1,_,⟨?_,rfl,rfl,rfl⟩,hQ⟩;show _=List.map some [bu.cells _,.store 160 true nS q3.n.1 9 (cD dm (bf z.n.1 (⟨b1,b2,b3,b4,some (q3.a.1,1),b6,b7,b8,b9⟩:Nd) q3.n.2)),_,_,_];rw[<-e1];rfl
           |some p=>
            obtain⟨al,hal,hp1,hp2,hB⟩:=oM hpb;cases hB;have e2:=map_push (PV.bH nS) q3.a.1 p.1 p.2 al c q3.a.2;refine bM hxe (by omega) ?_;(conv=>whnf);refine bw dm hn0 rfl ?_;(conv=>whnf);refine bh [1000000000,1000000001,1000000002,1000000003] 400 hi ?_;(conv=>whnf);refine⟨rfl,_,aj hal,?_⟩;refine ag ⟨by unfold rK;rw[List.length_map];exact hp1,Nat.le_trans (Nat.mul_le_mul_right _ (show p.2+1<=2000001 by omega)) (Nat.le_of_ble_eq_true (by kernel_rfl))⟩ ?_;(conv=>whnf);refine bw dm hn1 rfl ?_;(conv=>whnf);refine ag (.inr ⟨[(4,7)],by kernel_rfl,⟨?_,trivial⟩⟩) ?_
            ·conv=>whnf
             refine⟨by kernel_rfl,?_⟩;refine bw dm hn1 rfl ?_;(conv=>whnf);rfl
            (conv=>whnf);refine⟨hj1,_,⟨?_,rfl,rfl,rfl⟩,hQ⟩;show _=List.map some [bu.cells _,.store 160 true nS q3.n.1 9 (cD dm (bf z.n.1 (⟨b1,b2,b3,b4,some (q3.a.1,p.2+1),b6,b7,b8,b9⟩:Nd) q3.n.2)),.store 110 false aS (q3.a.1+1) 1 (cD rK ((q3.a.1,al.take p.2++[c])::iE p.1 q3.a.2)),_,_];rw[<-e1,show cD rK ((q3.a.1,al.take p.2++[c])::iE p.1 q3.a.2)=_ from e2.symm];rfl
     ·have h1:=cv h1 (by rw[hlx]) hj (by omega)
      subst h1;rw[List.drop_length,pH]at hQ;cases hQ;(conv=>whnf);refine bK (aG _) av (by kernel_rfl) ems.length [0,3,5,76,77,78] [3,1000000000,1000000001,1000000002,1000000003] (fun j (_:Ns)=>[.p (.bH mS m),.ptr 3 0,.p (.bH nS z.n.1),.p (.sl 12 (TR.jX ems)),.p (.i .i64 (TR.jX ems).length),.p (.i .i64 (ix j))]) (fun _ q=>[.cells [.p (.i .i64 ek),.p (.i .i64 en),.p (.s et),.p (.sl 1 (ens.map TR.bF)),.p (.sl 3 (TR.mB ets)),.p (.sl 8 (TR.eC exs)),.p (.sl 12 (TR.jX ems)),.p (.i .i64 ep)],iZ q.n,yO q.a,Mb q.b,.store 84 true mS nx 6 (cD jr ((m,⟨q.fu,c1,c2,c3,qi,c4⟩)::rest))]) (fun j q=>pz (hU n) z.n.1 (ems.drop j) q=some z3) z2 ⟨rfl,rfl,rfl,rfl⟩ hm ?_;intro j q hj hQ
      try dsimp only at hQ
      (conv=>whnf);refine ai ?_ ?_<;>intro h1<;>conv=>whnf
      ·have hj1:=cu h1 (by rw[hlm]) hj (by omega)
       obtain⟨x,hx⟩:∃x,ems[j]?=some x:=⟨_,List.getElem?_eq_getElem hj1⟩
       rw[drop_cons hx,pz]at hQ
       cases hn0:aK z.n.1 q.n.2 with
       |none=>rw[hn0]at hQ;cases hQ
       |some n0=>
        rw[hn0]at hQ;dsimp only at hQ
        cases hr:hU n x.body q with
        |none=>rw[hr]at hQ;cases hQ
        |some P=>
         rw[hr]at hQ;have hi:=ih x.body q P hr;obtain⟨q3,c⟩:=P;dsimp only at hQ hi
         cases hn1:aK z.n.1 q3.n.2 with
         |none=>rw[hn1]at hQ;cases hQ
         |some n1=>
          rw[hn1]at hQ;dsimp only at hQ
          cases hsb:sC n0.dZ n1.dZ&&Nat.ble (TR.wP x.pat) 1048576 with
          |false=>rw[hsb]at hQ;cases hQ
          |true=>
           rw[hsb]at hQ;dsimp only at hQ;rw[Bool.and_eq_true]at hsb;have hwp:=Nat.le_of_ble_eq_true hsb.2;have hse:=Bb hsb.1;clear hsb;have hxe:=TR.tN hx;have hcp:=TR.IF x.pat hwp;obtain⟨xpt,xb⟩:=x;dsimp only[TR.eZ.pat,TR.eZ.body]at hi hcp hQ;rw[TR.eA]at hxe;obtain⟨pk,pn,pt,pa⟩:=xpt;obtain⟨xk,xn,xt,xns,xts,xxs,xms,xp⟩:=xb;rw[TR.eE]at hxe hi;rw[TR.eP]at hxe hcp;obtain⟨a1,a2,a3,a4,a5,a6,a7,a8,a9⟩:=n0;obtain⟨b1,b2,b3,b4,b5,b6,b7,b8,b9⟩:=n1;dsimp only at hse hQ;subst hse
           cases hpb:lU q3.b a6 ⟨.mk pk pn pt pa,c⟩ with
           |none=>rw[hpb]at hQ;cases hQ
           |some B=>
            rw[hpb]at hQ;obtain⟨w,B2⟩:=B;dsimp only at hQ;have e1:=bN dm z.n.1 (⟨b1,b2,b3,b4,b5,some B2,b7,b8,b9⟩:Nd) q3.n.2
            cases a6 with
            |none=>
             have hB:=oX hpb;cases hB;refine bM hxe (by omega) ?_;(conv=>whnf);refine bw dm hn0 rfl ?_;(conv=>whnf);refine kK hcp ?_;(conv=>whnf);refine bh [1000000000,1000000001,1000000002,1000000003] 400 hi ?_;(conv=>whnf);refine ag ⟨Nat.succ_pos _,Nat.le_of_ble_eq_true (by kernel_rfl)⟩ ?_;(conv=>whnf);refine bw dm hn1 rfl ?_;(conv=>whnf);refine ag (.inr ⟨[(4,11)],by kernel_rfl,⟨?_,trivial⟩⟩) ?_
             ·conv=>whnf
              refine⟨by kernel_rfl,?_⟩;refine bw dm hn1 rfl ?_;(conv=>whnf);rfl
             (conv=>whnf);refine⟨hj1,_,⟨?_,rfl,rfl,rfl⟩,hQ⟩;show _=List.map some [bu.cells _,.store 160 true nS q3.n.1 9 (cD dm (bf z.n.1 (⟨b1,b2,b3,b4,b5,some (q3.b.1,1),b7,b8,b9⟩:Nd) q3.n.2)),_,_,_];rw[<-e1];rfl
            |some p=>
             obtain⟨al,hal,hp1,hp2,hB⟩:=oM hpb;cases hB;have e2:=map_push RE q3.b.1 p.1 p.2 al ⟨.mk pk pn pt pa,c⟩ q3.b.2;refine bM hxe (by omega) ?_;(conv=>whnf);refine bw dm hn0 rfl ?_;(conv=>whnf);refine kK hcp ?_;(conv=>whnf);refine bh [1000000000,1000000001,1000000002,1000000003] 400 hi ?_;(conv=>whnf);refine⟨rfl,_,aj hal,?_⟩;refine ag ⟨by unfold FY;rw[List.length_map];exact hp1,Nat.le_trans (Nat.mul_le_mul_right _ (show p.2+1<=2000001 by omega)) (Nat.le_of_ble_eq_true (by kernel_rfl))⟩ ?_;(conv=>whnf);refine bw dm hn1 rfl ?_;(conv=>whnf);refine ag (.inr ⟨[(4,11)],by kernel_rfl,⟨?_,trivial⟩⟩) ?_
             ·conv=>whnf
              refine⟨by kernel_rfl,?_⟩;refine bw dm hn1 rfl ?_;(conv=>whnf);rfl
             (conv=>whnf);refine⟨hj1,_,⟨?_,rfl,rfl,rfl⟩,hQ⟩;show _=List.map some [bu.cells _,.store 160 true nS q3.n.1 9 (cD dm (bf z.n.1 (⟨b1,b2,b3,b4,b5,some (q3.b.1,p.2+1),b7,b8,b9⟩:Nd) q3.n.2)),_,.store 169 false bS (q3.b.1+1) 5 (cD FY ((q3.b.1,al.take p.2++[⟨.mk pk pn pt pa,c⟩])::iE p.1 q3.b.2)),_];rw[<-e1,show cD FY ((q3.b.1,al.take p.2++[⟨.mk pk pn pt pa,c⟩])::iE p.1 q3.b.2)=_ from e2.symm];rfl
      ·have h1:=cv h1 (by rw[hlm]) hj (by omega)
       subst h1;rw[List.drop_length,pz]at hQ;cases hQ;refine⟨.inl rfl,⟨s6,s6,s6,s6,trivial⟩⟩
end MN
end
