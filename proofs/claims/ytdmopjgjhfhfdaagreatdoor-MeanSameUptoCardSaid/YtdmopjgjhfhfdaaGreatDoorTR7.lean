/- Contracts, and the law, for every input. No conditions. -/
import Derived.Test.YtdmopjgjhfhfdaaGreatDoorTR4
import Derived.Test.YtdmopjgjhfhfdaaGreatDoorTK1
import Derived.Test.YtdmopjgjhfhfdaaGreatDoorMN5
set_option linter.all false
section
open Go Go.AM Go.Proofs
set_option maxRecDepth 100000
namespace TR
def dX (k n:Int) (len:Nat):Int:=
 bif k==1||(k==2||(k==3||(k==4||(k==5||k==16)))) then 0 else
 bif k==10||(k==13||(k==19||(k==20||(k==21||(k==22||(k==24||k==25)))))) then 1 else
 bif k==6||(k==15||k==23) then 2 else
 bif k==7 then 3 else
 bif k==18 then (bif decide (n≥0) then 1 else 0) else
 bif k==8||(k==9||(k==12||(k==14||k==17))) then len else
 bif k==11 then (if (len:Int)<1 then 1 else len) else -1
theorem yA (e:Ex):aU Tryz.prog 45 [.p (eE e)] (.p (.i .i64 (dX e.kind e.num e.args.length))):=by
 obtain⟨k0,n0,t0,ns0,ts0,as0,ms0,p0⟩:=e;simp only[Ex.kind,Ex.num,Ex.args];refine aU.intro (ah Tryz.prog) az Tryz.func45 rfl (by rfl) (by kernel_rfl) (by show 1≤_;decide) rfl ?_
 by_cases hr:1≤k0∧k0≤25
 ·obtain rfl|rfl|rfl|rfl|rfl|rfl|rfl|rfl|rfl|rfl|rfl|rfl|rfl|rfl|rfl|rfl|rfl|rfl|rfl|rfl|rfl|rfl|rfl|rfl|rfl:k0=1∨k0=2∨k0=3∨k0=4∨k0=5∨k0=6∨k0=7∨k0=8∨k0=9∨k0=10∨k0=11∨k0=12∨k0=13∨k0=14∨k0=15∨k0=16∨k0=17∨k0=18∨k0=19∨k0=20∨k0=21∨k0=22∨k0=23∨k0=24∨k0=25:=by omega
  ·conv=>whnf
   exact .inl rfl
  ·conv=>whnf
   exact .inl rfl
  ·conv=>whnf
   exact .inl rfl
  ·conv=>whnf
   exact .inl rfl
  ·conv=>whnf
   exact .inl rfl
  ·conv=>whnf
   exact .inl rfl
  ·conv=>whnf
   exact .inl rfl
  ·conv=>whnf
   exact .inl (pi (by rw[cA];rfl))
  ·conv=>whnf
   exact .inl (pi (by rw[cA];rfl))
  ·conv=>whnf
   exact .inl rfl
  ·conv=>whnf
   exact .inl (pi (by rw[cA];rfl))
  ·conv=>whnf
   exact .inl (pi (by rw[cA];rfl))
  ·conv=>whnf
   exact .inl rfl
  ·conv=>whnf
   exact .inl (pi (by rw[cA];rfl))
  ·conv=>whnf
   exact .inl rfl
  ·conv=>whnf
   exact .inl rfl
  ·conv=>whnf
   exact .inl (pi (by rw[cA];rfl))
  ·conv=>whnf
   refine aj ?_ ?_<;>intro h<;>conv=>whnf
   ·exact .inl (pi (by show _=(bif decide (n0≥0) then (1:Int) else 0);rw[h];rfl))
   ·exact .inl (pi (by show _=(bif decide (n0≥0) then (1:Int) else 0);rw[h];rfl))
  ·conv=>whnf
   exact .inl rfl
  ·conv=>whnf
   exact .inl rfl
  ·conv=>whnf
   exact .inl rfl
  ·conv=>whnf
   exact .inl rfl
  ·conv=>whnf
   exact .inl rfl
  ·conv=>whnf
   exact .inl rfl
  ·conv=>whnf
   exact .inl rfl
 ·have hb:∀c:Int,1≤c→c≤25→(k0==c)=false:=fun c h1 h2=>by simp;omega
  conv=>whnf
  iterate 25 (refine bC (hb _ (by decide) (by decide)) ?_;conv=>whnf)
  exact .inl (pi (by rw[dX];simp only[hb 1 (by decide) (by decide),hb 2 (by decide) (by decide),hb 3 (by decide) (by decide),hb 4 (by decide) (by decide),hb 5 (by decide) (by decide),hb 6 (by decide) (by decide),hb 7 (by decide) (by decide),hb 8 (by decide) (by decide),hb 9 (by decide) (by decide),hb 10 (by decide) (by decide),hb 11 (by decide) (by decide),hb 12 (by decide) (by decide),hb 13 (by decide) (by decide),hb 14 (by decide) (by decide),hb 15 (by decide) (by decide),hb 16 (by decide) (by decide),hb 17 (by decide) (by decide),hb 18 (by decide) (by decide),hb 19 (by decide) (by decide),hb 20 (by decide) (by decide),hb 21 (by decide) (by decide),hb 22 (by decide) (by decide),hb 23 (by decide) (by decide),hb 24 (by decide) (by decide),hb 25 (by decide) (by decide),Bool.or_self,cond_false]))
end TR
end
section
open Go Go.AM Go.Proofs
set_option maxRecDepth 100000
namespace TR
open MN (bh jw bX bP s6)
def vJ (n:Int):PV:=.i .i64 n
def EK {α:Type} (k:ByteArray) (v:α):MN.TM α→MN.TM α
 | []=>[(k,v)]
 |(a,x)::r=>match k==a with|true=>(k,v)::r|false=>(a,x)::EK k v r
theorem DG {α:Type} (enc:α→PV) (k:ByteArray) (v:α):∀es:MN.TM α,rL (.s k) (enc v) (jw enc es)=jw enc (EK k v es)
 | []=>rfl
 |(a,x)::r=>by
  show(match sQ (.s k) (.s a) with|true=>_|false=>_)=_;rw[show sQ (.s k) (.s a)=(k==a) from rfl,EK]
  cases k==a with
  |true=>rfl
  |false=>
   show(PV.s a,enc x)::rL (.s k) (enc v) (jw enc r)=_;rw[DG enc k v r];rfl
theorem I1 {α:Type} (enc:α→PV) (k:ByteArray) (v:α) (es:MN.TM α):bX enc (EK k v es)=(rL (.s k) (enc v) (jw enc es)).map HX:=by rw[DG];rfl
theorem ED (k:ByteArray) (m:MN.TM Int):pH (.s k) (.i .i64 0) (jw vJ m)=(.i .i64 ((bh k m).getD 0),(bh k m).isSome):=by
 rw[bP vJ k _ m];cases bh k m<;>rfl
theorem NB (k:ByteArray) (m:MN.TM Bool):pH (.s k) (.b false) (jw PV.b m)=(.b ((bh k m).getD false),(bh k m).isSome):=by
 rw[bP PV.b k _ m];cases bh k m<;>rfl
mutual
def dW:Pt→List ByteArray
 |.mk k _ t xs=>bif k==2 then [t] else bif k==6 then dF xs else []
def dF:List Pt→List ByteArray
 | []=>[]
 |p::r=>dW p++dF r
end
theorem vr (l r:List Pt):dF (l++r)=dF l++dF r:=by
 induction l with
 |nil=>simp[dF]
 |cons a l ih=>simp[dF,ih]
theorem A2 (l:List Pt) (p:Pt):dF (l++[p])=dF l++dW p:=by rw[vr];simp[dF]
mutual
theorem xo:∀(p:Pt),(dW p).length≤wP p
 |.mk k n t xs=>by
  rw[dW,yu];have:=uT xs
  cases k==2<;>cases k==6<;>simp<;>omega
theorem uT:∀(l:List Pt),(dF l).length≤PV.cG (ov l)
 | []=>by simp[dF]
 |p::r=>by have h1:=xo p;have h2:=uT r;unfold wP at h1;simp only[dF,ov,PV.cG,List.length_append];omega
end
theorem BZ (l:List Pt) (k:Nat):(dF (l.take k)).length≤(dF l).length:=by
 have:=vr (l.take k) (l.drop k);rw[List.take_append_drop]at this;rw[this];simp
theorem xX (p:Pt):wP p≤1048640→aU Tryz.prog 118 [.p (eP p)] (.p (.sl 1 ((dW p).map bD))):=by
 induction p using Pt.ind with
 |h k0 n0 t0 as0 ih=>
 intro hw;have hl:=GV k0 n0 t0 as0;have hbl:=uT as0;have hwm:=yu k0 n0 t0 as0;rw[dW];refine aU.intro (ah Tryz.prog) az Tryz.func118 rfl (by rfl) (by kernel_rfl) (by show 1≤_;decide) rfl ?_;(conv=>whnf);refine aj ?_ ?_<;>intro h1<;>conv=>whnf
 ·have h1:(k0==2)=true:=h1
  rw[h1];exact .inr (.inl rfl)
 have h1:(k0==2)=false:=h1;rw[h1];refine aj ?_ ?_<;>intro h2<;>conv=>whnf
 ·have h2:(k0==6)=true:=h2
  rw[h2];refine nM 3 0 rfl ?_;refine bK (ah _) az (by kernel_rfl) as0.length [3,16,17,18] [] (fun k (s:List ByteArray)=>[.so 1 (s.map bD),.p (.sl 4 (ov as0)),.p (.i .i64 (ov as0).length),.p (.i .i64 (ix k))]) (fun _ _=>[]) (fun k s=>s=dF (as0.take k)) [] ⟨rfl,rfl,rfl,rfl⟩ (by simp[dF]) ?_;intro k s hk hs;(conv=>whnf);refine aj ?_ ?_<;>intro h3<;>conv=>whnf
  ·have hk1:=cj h3 (by rw[gP]) hk (by omega)
   obtain⟨b,hb1⟩:∃b,as0[k]?=some b:=⟨as0[k],by simp[hk1]⟩
   refine bM (tN hb1) (by omega) ?_;have hbw:=Bp (k:=k0) (n:=n0) (t:=t0) (List.mem_of_getElem? hb1);have hc:=ih b (List.mem_of_getElem? hb1) (by omega);have hts:dF (as0.take (k+1))=dF (as0.take k)++dW b:=by rw[cJ hb1,A2]
   have htl:=BZ as0 (k+1);rw[hts,←hs,List.length_append]at htl;generalize dW b=sb at hc hts htl;obtain⟨b1,b2,b3,b4⟩:=b;(conv=>whnf);refine iX hc ?_;(conv=>whnf);refine ag (show((s.map bD).length+(sb.map bD).length)*16≤140737488355328 by simp;omega) ?_;(conv=>whnf);refine⟨hk1,s++sb,⟨rfl,?_,rfl,rfl⟩,by rw[hs,hts]⟩;rw[List.map_append];rfl
  ·have hk1:=cm h3 (by rw[gP]) hk (by omega)
   have hs2:s=dF as0:=by rw[hs,hk1,List.take_length]
   subst hs2;exact .inr (.inl rfl)
 ·have h2:(k0==6)=false:=h2
  rw[h2];exact .inr (.inl rfl)
structure St where
 seen:MN.TM Bool
 bound:MN.TM Int
 out:List ByteArray
def Kk (m:MN.TM Int) (s:ByteArray):MN.TM Int:=EK s (IntKind.i64.wrap ((bh s m).getD 0+1)) m
def JE (m:MN.TM Int) (s:ByteArray):MN.TM Int:=EK s (IntKind.i64.wrap ((bh s m).getD 0-1)) m
def St.inc (σ:St) (ns:List ByteArray):St:={ σ with bound:=ns.foldl Kk σ.bound }
def St.dec (σ:St) (ns:List ByteArray):St:={ σ with bound:=ns.foldl JE σ.bound }
def Lb (t:ByteArray) (σ:St):St:=bif ((bh t σ.bound).getD 0==0)&&!((bh t σ.seen).getD false) then ⟨EK t true σ.seen,σ.bound,σ.out++[t]⟩ else σ
mutual
def cW:Ex→St→St
 |.mk k n t ns _ xs ms _,σ=>bif decide (dX k n xs.length<0) then σ else bif decide ((xs.length:Int)<dX k n xs.length) then visitFn xs.length xs σ else
   let σ1:=bif k==5 then Lb t σ else bif k==6 then Dm t xs σ else bif k==10 then GC ns xs σ else visitFn (dX k n xs.length).toNat xs σ
   bif k==13||k==18 then zZ ms σ1 else σ1
def visitFn:Nat→List Ex→St→St
 |_,[],σ=>σ
 |0,_,σ=>σ
 |n+1,e::r,σ=>visitFn n r (cW e σ)
def Dm (t:ByteArray):List Ex→St→St
 |a::b::_,σ=>(cW b ((cW a σ).inc [t])).dec [t]
 |_,σ=>σ
def GC (ns:List ByteArray):List Ex→St→St
 |a::_,σ=>(cW a (σ.inc ns)).dec ns
 |_,σ=>σ
def zZ:List eR→St→St
 | [],σ=>σ
 |.mk p e::r,σ=>zZ r ((cW e (σ.inc (dW p))).dec (dW p))
end
def ic (ns:List ByteArray) (e:Ex) (σ:St):St:=(cW e (σ.inc ns)).dec ns
def Ow (σ:St):Heap:=[(1000000000,.cells [.p (.amp 29 0),.p (.amp 30 0),.so 1 (σ.out.map bD)]),(1000000001,.store 205 true 29 1 0 [(0,bX PV.b σ.seen)]),(1000000002,.store 206 true 30 1 0 [(0,bX vJ σ.bound)])]
def uG (e:Ex):Prop:=∀σ:St,σ.out.length+wE e≤2097152→
 av Tryz.prog 76 [.ptr 1000000000 0,.p (eE e)] (Ow σ) (.cz []) (Ow (cW e σ))
def MF (ns:List ByteArray) (e:Ex):Prop:=∀σ:St,σ.out.length+wE e≤2097152→
 av Tryz.prog 117 [.ptr 1000000000 0,.p (.sl 1 (ns.map bD)),.p (eE e)] (Ow σ) (.cz []) (Ow (ic ns e σ))
theorem tv (ns:List ByteArray) (e:Ex) (hn:ns.length≤1048640) (ih:uG e):MF ns e:=by
 intro σ hσ;have hv:=ih (σ.inc ns) hσ;have hu:ic ns e σ=(cW e (σ.inc ns)).dec ns:=rfl;rw[hu];generalize cW e (σ.inc ns)=σ2 at hv;obtain⟨se,bo,ou⟩:=σ;obtain⟨se2,bo2,ou2⟩:=σ2;obtain⟨k0,n0,t0,ns0,ts0,as0,ms0,p0⟩:=e;simp only[Ow,St.inc,St.dec]at hv ⊢;refine av.intro (ah Tryz.prog) az Tryz.func117 rfl (by rfl) (by kernel_rfl) (by show 3≤_;decide) rfl ?_;(conv=>whnf)
 refine bK (ah _) az (by kernel_rfl) ns.length [0,1,5,10,11,12] [1000000000,1000000001,1000000002,5] (fun k (m:MN.TM Int)=>[.ptr 1000000000 0,.p (.sl 1 (ns.map bD)),.ptr 5 0,.p (.sl 1 (ns.map bD)),.p (.i .i64 (ns.map bD).length),.p (.i .i64 (ix k))])
  (fun k m=>[.cells [.p (.amp 29 0),.p (.amp 30 0),.so 1 (ou.map bD)],.store 205 true 29 1 0 [(0,bX PV.b se)],.store 206 true 30 1 0 [(0,bX vJ m)],.cells [.p (.i .i64 k0),.p (.i .i64 n0),.p (.s t0),.p (.sl 1 (ns0.map bD)),.p (.sl 3 (lG ts0)),.p (.sl 8 (dZ as0)),.p (.sl 12 (jz ms0)),.p (.i .i64 p0)]])
  (fun k m=>m=(ns.take k).foldl Kk bo) bo ⟨rfl,rfl,rfl,rfl⟩ rfl ?_
 intro k m hk hm;(conv=>whnf);refine aj ?_ ?_<;>intro h1<;>conv=>whnf
 ·have hk1:=cj h1 (by simp) hk (by omega)
  obtain⟨b,hb1⟩:∃b,ns[k]?=some b:=⟨ns[k],by simp[hk1]⟩
  refine bM (x:=bD b) (by simp[hb1]) (by omega) ?_;(conv=>whnf);refine ag ⟨rfl,rfl⟩ ?_;refine⟨jw vJ m,rfl,?_⟩;refine⟨_,_,ED b m,?_⟩;(conv=>whnf);refine ag ⟨rfl,rfl⟩ ?_;refine⟨jw vJ m,rfl,?_⟩;(conv=>whnf);refine⟨hk1,Kk m b,⟨by rw[Kk,I1];rfl,rfl,rfl,rfl⟩,?_⟩;rw[cJ hb1,List.foldl_append,←hm];rfl
 ·have hk1:=cm h1 (by simp) hk (by omega)
  have hm2:m=ns.foldl Kk bo:=by rw[hm,hk1,List.take_length]
  subst hm2;refine bg [1000000000,1000000001,1000000002] 10000 hv ?_;(conv=>whnf)
  refine bK (ah _) az (by kernel_rfl) ns.length [0,27,28,29] [1000000000,1000000001,1000000002] (fun k (m:MN.TM Int)=>[.ptr 1000000000 0,.p (.sl 1 (ns.map bD)),.p (.i .i64 (ns.map bD).length),.p (.i .i64 (ix k))])
   (fun k m=>[.cells [.p (.amp 29 0),.p (.amp 30 0),.so 1 (ou2.map bD)],.store 205 true 29 1 0 [(0,bX PV.b se2)],.store 206 true 30 1 0 [(0,bX vJ m)]])
   (fun k m=>m=(ns.take k).foldl JE bo2) bo2 ⟨rfl,rfl,rfl,rfl⟩ rfl ?_
  intro j m3 hj hm3;(conv=>whnf);refine aj ?_ ?_<;>intro h2<;>conv=>whnf
  ·have hj1:=cj h2 (by simp) hj (by omega)
   obtain⟨b,hb1⟩:∃b,ns[j]?=some b:=⟨ns[j],by simp[hj1]⟩
   refine bM (x:=bD b) (by simp[hb1]) (by omega) ?_;(conv=>whnf);refine ag ⟨rfl,rfl⟩ ?_;refine⟨jw vJ m3,rfl,?_⟩;refine⟨_,_,ED b m3,?_⟩;(conv=>whnf);refine ag ⟨rfl,rfl⟩ ?_;refine⟨jw vJ m3,rfl,?_⟩;(conv=>whnf);refine⟨hj1,JE m3 b,⟨by rw[JE,I1];rfl,rfl,rfl,rfl⟩,?_⟩;rw[cJ hb1,List.foldl_append,←hm3];rfl
  ·have hj1:=cm h2 (by simp) hj (by omega)
   have hm4:m3=ns.foldl JE bo2:=by rw[hm3,hj1,List.take_length]
   subst hm4;exact⟨.inl rfl,⟨.inl rfl,.inl rfl,.inl rfl,trivial⟩,s6,s6,trivial⟩
end TR
end
section
open Go Go.AM Go.Proofs
set_option maxRecDepth 100000
namespace TR
open MN (bh jw bX bP s6)
def fz (l:List Ex) (σ:St):St:=l.foldl (fun σ e=>cW e σ) σ
def qy (l:List eR) (σ:St):St:=l.foldl (fun σ a=>ic (dW a.pat) a.body σ) σ
theorem kZ:∀(n:Nat) (xs:List Ex) (σ:St),visitFn n xs σ=fz (xs.take n) σ
 |0,[],σ=>by simp[visitFn,fz]
 |n+1,[],σ=>by simp[visitFn,fz]
 |0,_::_,σ=>by simp[visitFn,fz]
 |n+1,e::r,σ=>by rw[visitFn,kZ n r];simp[fz]
theorem tK:∀(ms:List eR) (σ:St),zZ ms σ=qy ms σ
 | [],σ=>by simp[zZ,qy]
 |.mk p e::r,σ=>by rw[zZ,tK r];simp[qy,ic,eR.pat,eR.body]
theorem uX (l:List Ex) (e:Ex) (σ:St):fz (l++[e]) σ=cW e (fz l σ):=by simp[fz]
theorem Aa (l:List eR) (a:eR) (σ:St):qy (l++[a]) σ=ic (dW a.pat) a.body (qy l σ):=by simp[qy]
theorem AW (σ:St) (ns:List ByteArray):(σ.inc ns).out=σ.out:=rfl
theorem Br (σ:St) (ns:List ByteArray):(σ.dec ns).out=σ.out:=rfl
theorem Ix (t:ByteArray) (σ:St):(Lb t σ).out.length≤σ.out.length+1:=by
 unfold Lb;cases ((bh t σ.bound).getD 0==0)&&!((bh t σ.seen).getD false)<;>simp
theorem yD (l:List Ex) (h:∀e∈l,∀σ,(cW e σ).out.length≤σ.out.length+wE e):∀σ,(fz l σ).out.length≤σ.out.length+PV.cG (dZ l):=by
 induction l with
 |nil=>intro σ;simp[fz]
 |cons e r ih=>
  intro σ;have h1:=h e (by simp) σ;have h2:=ih (fun x hx=>h x (by simp[hx])) (cW e σ);simp only[dZ,PV.cG];rw[show fz (e::r) σ=fz r (cW e σ) from rfl];unfold wE at h1;omega
theorem CN (l:List eR) (h:∀a∈l,∀σ,(cW a.body σ).out.length≤σ.out.length+wE a.body):∀σ,(qy l σ).out.length≤σ.out.length+PV.cG (jz l):=by
 induction l with
 |nil=>intro σ;simp[qy]
 |cons a r ih=>
  intro σ;have h1:=h a (by simp) (σ.inc (dW a.pat));have h2:=ih (fun x hx=>h x (by simp[hx])) (ic (dW a.pat) a.body σ);have h3:=Bf a;simp only[jz,PV.cG];rw[show qy (a::r) σ=qy r (ic (dW a.pat) a.body σ) from rfl];rw[ic,Br]at h2;rw[AW]at h1;unfold wA at h3;rw[ic];omega
theorem tW (l:List PV) (k:Nat):PV.cG (l.take k)≤PV.cG l:=by
 have:=PV.dS (l.take k) (l.drop k);rw[List.take_append_drop]at this;omega
theorem pL (l:List Ex) (k:Nat):dZ (l.take k)=(dZ l).take k:=by simp[iK,List.map_take]
theorem JD (l:List eR) (k:Nat):jz (l.take k)=(jz l).take k:=by simp[ko,List.map_take]
theorem qn (e:Ex):∀σ,(cW e σ).out.length≤σ.out.length+wE e:=by
 induction e using Ex.ind with
 |h k n t ns ts xs ms p ih1 ih2=>
 intro σ;have hA:=fun σ=>CN ms ih2 σ;have hV:=fun j σ=>yD (xs.take j) (fun e he=>ih1 e (List.mem_of_mem_take he)) σ;have hT:=fun j=>tW (dZ xs) j;rw[tG,cW]
 have key:∀σ1:St,σ1.out.length≤σ.out.length+1+PV.cG (dZ xs)→(bif k==13||k==18 then zZ ms σ1 else σ1).out.length≤σ.out.length+(t.size+8+PV.cG (ns.map bD)+PV.cG (lG ts)+PV.cG (dZ xs)+PV.cG (jz ms)):=by
  intro σ1 h1;have:=hA σ1;rw[tK];cases k==13||k==18<;>simp<;>omega
 cases decide (dX k n xs.length<0) with
 |true=>simp<;>omega
 |false=>
 simp only[cond_false]
 cases decide ((xs.length:Int)<dX k n xs.length) with
 |true=>simp only[cond_true];rw[kZ];have:=hV xs.length σ;have:=hT xs.length;rw[pL]at *;omega
 |false=>
 simp only[cond_false];refine key _ ?_
 cases k==5 with
 |true=>have:=Ix t σ;simp;omega
 |false=>
 cases k==6 with
 |true=>
  simp only[cond_false,cond_true]
  match xs,ih1 with
  | [],_=>simp[Dm];omega
  | [a],_=>simp[Dm];omega
  |a::b::r,ih1=>
   have h1:=ih1 a (by simp) σ;have h2:=ih1 b (by simp) ((cW a σ).inc [t]);rw[AW]at h2;rw[Dm,Br];simp only[dZ,PV.cG];unfold wE at h1 h2;omega
 |false=>
 cases k==10 with
 |true=>
  simp only[cond_false,cond_true]
  match xs,ih1 with
  | [],_=>simp[GC];omega
  |a::r,ih1=>
   have h1:=ih1 a (by simp) (σ.inc ns);rw[AW]at h1;rw[GC,Br];simp only[dZ,PV.cG];unfold wE at h1;omega
 |false=>simp only[cond_false];rw[kZ];have:=hV (dX k n xs.length).toNat σ;have:=hT (dX k n xs.length).toNat;rw[pL]at *;omega
theorem Hg (e:Ex) (he:wE e≤1048640) (ih1:∀a∈e.args,uG a) (ih2:∀a∈e.dR,uG a.body):uG e:=by
 intro σ hσ;obtain⟨k0,n0,t0,ns0,ts0,as0,ms0,p0⟩:=e;have hl:=tP k0 n0 t0 ns0 ts0 as0 ms0 p0;have hwm:=tG k0 n0 t0 ns0 ts0 as0 ms0 p0;simp only[Ex.args,Ex.dR]at ih1 ih2;have hnd:=yA (Ex.mk k0 n0 t0 ns0 ts0 as0 ms0 p0);simp only[Ex.kind,Ex.num,Ex.args]at hnd;generalize hR:cW (Ex.mk k0 n0 t0 ns0 ts0 as0 ms0 p0) σ=R;rw[cW]at hR;have hT:=fun j=>tW (dZ as0) j;have hV:=fun j σ=>yD (as0.take j) (fun e _=>qn e) σ
 have hcall:∀(j:Nat) (b:Ex) (σ':St),as0[j]?=some b→σ'.out.length≤σ.out.length+PV.cG (dZ (as0.take j))→σ'.out.length+wE b≤2097152:=by
  intro j b σ' hb h;have h1:=tW (dZ as0) (j+1);rw[←pL,cJ hb,sZ,PV.dS]at h1;simp only[dZ,PV.cG]at h1;unfold wE at hσ hwm ⊢;omega
 generalize hnn:dX k0 n0 as0.length=nd at hnd hR;refine av.intro (ah Tryz.prog) az Tryz.func76 rfl (by rfl) (by kernel_rfl) (by show 2≤_;decide) rfl ?_;(conv=>whnf);refine iX hnd ?_;(conv=>whnf);refine aj ?_ ?_<;>intro h1<;>conv=>whnf
 ·rw[h1,cond_true]at hR
  subst hR;exact⟨.inl rfl,⟨.inl rfl,.inl rfl,.inl rfl,trivial⟩,s6,s6,trivial⟩
 rw[h1]at hR;simp only[cond_false]at hR;refine aj ?_ ?_<;>intro h2<;>conv=>whnf
 ·have h2':decide ((as0.length:Int)<nd)=true:=by rw[←cA as0];exact h2
  rw[h2',cond_true,kZ,List.take_length]at hR
  refine bK (ah _) az (by kernel_rfl) as0.length [0,3,23,24,25] [1000000000,1000000001,1000000002,3] (fun k (s:St)=>[.ptr 1000000000 0,.ptr 3 0,.p (.sl 8 (dZ as0)),.p (.i .i64 (dZ as0).length),.p (.i .i64 (ix k))])
   (fun k s=>[.cells [.p (.amp 29 0),.p (.amp 30 0),.so 1 (s.out.map bD)],.store 205 true 29 1 0 [(0,bX PV.b s.seen)],.store 206 true 30 1 0 [(0,bX vJ s.bound)],.cells [.p (.i .i64 k0),.p (.i .i64 n0),.p (.s t0),.p (.sl 1 (ns0.map bD)),.p (.sl 3 (lG ts0)),.p (.sl 8 (dZ as0)),.p (.sl 12 (jz ms0)),.p (.i .i64 p0)]]) (fun k s=>s=fz (as0.take k) σ) σ ⟨rfl,rfl,rfl,rfl⟩ rfl ?_
  intro k s hk hs;(conv=>whnf);refine aj ?_ ?_<;>intro h3<;>conv=>whnf
  ·have hk1:=cj h3 (by rw[cA]) hk (by omega)
   obtain⟨b,hb1⟩:∃b,as0[k]?=some b:=⟨as0[k],by simp[hk1]⟩
   refine bM (nT hb1) (by omega) ?_;have hc:=ih1 b (List.mem_of_getElem? hb1) s (hcall k b s hb1 (by rw[hs];exact hV k σ));have hts:fz (as0.take (k+1)) σ=cW b s:=by rw[cJ hb1,uX,hs]
   generalize cW b s=s' at hc hts;obtain⟨b1,b2,b3,b4,b5,b6,b7,b8⟩:=b;(conv=>whnf);refine bg [1000000000,1000000001,1000000002] 10000 hc ?_;(conv=>whnf);exact⟨hk1,s',⟨rfl,rfl,rfl,rfl⟩,hts.symm⟩
  ·have hk1:=cm h3 (by rw[cA]) hk (by omega)
   have hs2:fz as0 σ=s:=by rw[hs,hk1,List.take_length]
   rw[hs2]at hR;subst hR;exact⟨.inl rfl,⟨.inl rfl,.inl rfl,.inl rfl,trivial⟩,s6,s6,trivial⟩
 have h2':decide ((as0.length:Int)<nd)=false:=by rw[←cA as0];exact h2
 have hnl:nd≤as0.length:=by have:=of_decide_eq_false h2';omega
 have hn0:0≤nd:=by have:=of_decide_eq_false h1;omega
 rw[h2']at hR;simp only[cond_false]at hR;refine aj ?_ ?_<;>intro h3<;>conv=>whnf
 ·have h3:(k0==5)=true:=h3
  obtain rfl:k0=5:=by simpa using h3
  rw[show((5:Int)==5)=true from rfl,show((5:Int)==13||(5:Int)==18)=false from rfl]at hR;simp only[cond_false,cond_true]at hR;rw[Lb]at hR;refine ag ⟨rfl,rfl⟩ ?_;refine⟨jw vJ σ.bound,rfl,?_⟩;refine⟨_,_,ED t0 σ.bound,?_⟩;(conv=>whnf);refine aj ?_ ?_<;>intro g1<;>conv=>whnf
  ·have g1:((bh t0 σ.bound).getD 0==0)=true:=g1
   refine ag ⟨rfl,rfl⟩ ?_;refine⟨jw PV.b σ.seen,rfl,?_⟩;refine⟨_,_,NB t0 σ.seen,?_⟩;(conv=>whnf)
   first|refine ag (.inl (by kernel_rfl)) ?_|refine ag (by kernel_rfl) ?_
   (conv=>whnf);refine aj ?_ ?_<;>intro g2<;>conv=>whnf
   ·have g2:(!((bh t0 σ.seen).getD false))=true:=g2
    rw[g1,g2,Bool.and_self,cond_true]at hR;subst hR;refine ag ⟨rfl,rfl⟩ ?_;refine⟨jw PV.b σ.seen,rfl,?_⟩;(conv=>whnf)
    first|refine ag (.inl (by kernel_rfl)) ?_|refine ag (by kernel_rfl) ?_
    (conv=>whnf);refine ag (show((σ.out.map bD).length+1)*16≤140737488355328 by simp;omega) ?_;(conv=>whnf)
    first|refine ag (.inl (by kernel_rfl)) ?_|refine ag (by kernel_rfl) ?_
    (conv=>whnf);refine⟨.inl rfl,⟨.inl rfl,.inl rfl,.inl ?_,trivial⟩,⟨rfl,rfl,rfl,rfl,rfl,?_⟩,s6,trivial⟩
    ·simp only[List.map_append];rfl
    ·exact congrArg (fun q=>[(0,q)]) (I1 PV.b t0 true σ.seen).symm
   ·have g2:(!((bh t0 σ.seen).getD false))=false:=g2
    rw[g1,g2,Bool.and_false,cond_false]at hR;subst hR;exact⟨.inl rfl,⟨.inl rfl,.inl rfl,.inl rfl,trivial⟩,s6,s6,trivial⟩
  ·have g1:((bh t0 σ.bound).getD 0==0)=false:=g1
   rw[g1,Bool.false_and,cond_false]at hR;subst hR
   first|refine ag (.inl (by kernel_rfl)) ?_|refine ag (by kernel_rfl) ?_
   (conv=>whnf);exact⟨.inl rfl,⟨.inl rfl,.inl rfl,.inl rfl,trivial⟩,s6,s6,trivial⟩
 have h3:(k0==5)=false:=h3;rw[h3]at hR;simp only[cond_false]at hR;refine aj ?_ ?_<;>intro h4<;>conv=>whnf
 ·have h4:(k0==6)=true:=h4
  obtain rfl:k0=6:=by simpa using h4
  rw[show((6:Int)==6)=true from rfl,show((6:Int)==13||(6:Int)==18)=false from rfl]at hR;simp only[cond_false,cond_true]at hR;obtain rfl:nd=2:=by rw[←hnn];rfl
  match as0,hnl with
  | [],hnl=>simp at hnl
  | [a],hnl=>simp at hnl
  |a::b::r,_=>
   rw[Dm]at hR;refine au (i:=0) (x:=eE a) rfl ?_;have hwa:=lT (k:=6) (n:=n0) (t:=t0) (ns:=ns0) (ts:=ts0) (ms:=ms0) (p:=p0) (show a∈a::b::r by simp);have hwb:=lT (k:=6) (n:=n0) (t:=t0) (ns:=ns0) (ts:=ts0) (ms:=ms0) (p:=p0) (show b∈a::b::r by simp);have g7:=ih1 a (by simp) σ (by omega);have ho:=qn a σ;simp only[dZ,PV.cG]at hwm;have g8:=tv [t0] b (by simp) (ih1 b (by simp)) (cW a σ) (by unfold wE at hwm ho hσ ⊢;omega);rw[ic]at g8;generalize cW a σ=σ1 at g7 g8 hR;rw[hR]at g8;obtain⟨a1,a2,a3,a4,a5,a6,a7,a8⟩:=a;(conv=>whnf);refine bg [1000000000,1000000001,1000000002] 10000 g7 ?_;(conv=>whnf);refine au (i:=1) (x:=eE b) rfl ?_;obtain⟨b1,b2,b3,b4,b5,b6,b7,b8⟩:=b;(conv=>whnf);refine bg [1000000000,1000000001,1000000002] 10000 g8 ?_;(conv=>whnf)
   first|refine ag (.inl (by kernel_rfl)) ?_|refine ag (by kernel_rfl) ?_
   (conv=>whnf);exact⟨.inl rfl,⟨.inl rfl,.inl rfl,.inl rfl,trivial⟩,s6,s6,trivial⟩
 have h4:(k0==6)=false:=h4;rw[h4]at hR;simp only[cond_false]at hR;refine aj ?_ ?_<;>intro h5<;>conv=>whnf
 ·have h5:(k0==10)=true:=h5
  obtain rfl:k0=10:=by simpa using h5
  rw[show((10:Int)==10)=true from rfl,show((10:Int)==13||(10:Int)==18)=false from rfl]at hR;simp only[cond_false,cond_true]at hR;obtain rfl:nd=1:=by rw[←hnn];rfl
  match as0,hnl with
  | [],hnl=>simp at hnl
  |a::r,_=>
   rw[GC]at hR;refine au (i:=0) (x:=eE a) rfl ?_;have hwa:=lT (k:=10) (n:=n0) (t:=t0) (ns:=ns0) (ts:=ts0) (ms:=ms0) (p:=p0) (show a∈a::r by simp);have g7:=tv ns0 a (by omega) (ih1 a (by simp)) σ (by omega);rw[ic,hR]at g7;obtain⟨a1,a2,a3,a4,a5,a6,a7,a8⟩:=a;(conv=>whnf);refine bg [1000000000,1000000001,1000000002] 10000 g7 ?_;(conv=>whnf)
   first|refine ag (.inl (by kernel_rfl)) ?_|refine ag (by kernel_rfl) ?_
   (conv=>whnf);exact⟨.inl rfl,⟨.inl rfl,.inl rfl,.inl rfl,trivial⟩,s6,s6,trivial⟩
 have h5:(k0==10)=false:=h5;rw[h5]at hR;simp only[cond_false]at hR;rw[kZ]at hR;have hnl2:(as0.take nd.toNat).length=nd.toNat:=by simp;omega
 refine ag ⟨by omega,by omega,by rw[cA];omega⟩ ?_;(conv=>whnf)
 refine bK (ah _) az (by kernel_rfl) (as0.take nd.toNat).length [0,3,38,39,40] [1000000000,1000000001,1000000002,3] (fun k (s:St)=>[.ptr 1000000000 0,.ptr 3 0,.p (.sl 8 (dZ (as0.take nd.toNat))),.p (.i .i64 (dZ (as0.take nd.toNat)).length),.p (.i .i64 (ix k))])
  (fun k s=>[.cells [.p (.amp 29 0),.p (.amp 30 0),.so 1 (s.out.map bD)],.store 205 true 29 1 0 [(0,bX PV.b s.seen)],.store 206 true 30 1 0 [(0,bX vJ s.bound)],.cells [.p (.i .i64 k0),.p (.i .i64 n0),.p (.s t0),.p (.sl 1 (ns0.map bD)),.p (.sl 3 (lG ts0)),.p (.sl 8 (dZ as0)),.p (.sl 12 (jz ms0)),.p (.i .i64 p0)]]) (fun k s=>s=fz ((as0.take nd.toNat).take k) σ) σ ⟨rfl,by rw[pL];rfl,rfl,rfl⟩ rfl ?_
 intro k s hk hs;(conv=>whnf);refine aj ?_ ?_<;>intro h6<;>conv=>whnf
 ·have hk1:=cj h6 (by rw[cA]) hk (by omega)
  obtain⟨b,hb1⟩:∃b,(as0.take nd.toNat)[k]?=some b:=⟨_,List.getElem?_eq_getElem hk1⟩
  refine bM (nT hb1) (by omega) ?_;have hb2:as0[k]?=some b:=by rw[List.getElem?_take]at hb1;split at hb1;exact hb1;cases hb1
  have hkt:(as0.take nd.toNat).take k=as0.take k:=by rw[List.take_take,Nat.min_eq_left (by omega)]
  have hc:=ih1 b (List.mem_of_getElem? hb2) s (hcall k b s hb2 (by rw[hs,hkt];exact hV k σ));have hts:fz ((as0.take nd.toNat).take (k+1)) σ=cW b s:=by rw[cJ hb1,uX,hs]
  generalize cW b s=s' at hc hts;obtain⟨b1,b2,b3,b4,b5,b6,b7,b8⟩:=b;(conv=>whnf);refine bg [1000000000,1000000001,1000000002] 10000 hc ?_;(conv=>whnf);exact⟨hk1,s',⟨rfl,rfl,rfl,rfl⟩,hts.symm⟩
 ·have hk1:=cm h6 (by rw[cA]) hk (by omega)
  have hs2:fz (as0.take nd.toNat) σ=s:=by rw[hs,hk1,List.take_length]
  rw[hs2]at hR
  have hsl:s.out.length≤σ.out.length+PV.cG (dZ as0):=by
   have h1:=hV nd.toNat σ;have h2:=hT nd.toNat;rw[hs2,pL]at h1;omega
  have hso:=fun j=>CN (ms0.take j) (fun a _=>qn a.body) s
  have harm:∀(j:Nat) (b:eR) (σ':St),ms0[j]?=some b→σ'.out.length≤s.out.length+PV.cG (jz (ms0.take j))→σ'.out.length+wE b.body≤2097152:=by
   intro j b σ' hb h;have h1:=tW (jz ms0) (j+1);rw[←JD,cJ hb,Le,PV.dS]at h1;simp only[jz,PV.cG]at h1;have h2:=Bf b;unfold wA at h2;omega
  refine aj ?_ ?_<;>intro h7<;>conv=>whnf
  ·have h7:(k0==13)=true:=h7
   rw[h7,Bool.true_or,cond_true,tK]at hR
   refine bK (ah _) az (by kernel_rfl) ms0.length [0,3,121,122,123] [1000000000,1000000001,1000000002,3] (fun k (s:St)=>[.ptr 1000000000 0,.ptr 3 0,.p (.sl 12 (jz ms0)),.p (.i .i64 (jz ms0).length),.p (.i .i64 (ix k))])
    (fun k s=>[.cells [.p (.amp 29 0),.p (.amp 30 0),.so 1 (s.out.map bD)],.store 205 true 29 1 0 [(0,bX PV.b s.seen)],.store 206 true 30 1 0 [(0,bX vJ s.bound)],.cells [.p (.i .i64 k0),.p (.i .i64 n0),.p (.s t0),.p (.sl 1 (ns0.map bD)),.p (.sl 3 (lG ts0)),.p (.sl 8 (dZ as0)),.p (.sl 12 (jz ms0)),.p (.i .i64 p0)]]) (fun k s'=>s'=qy (ms0.take k) s) s ⟨rfl,rfl,rfl,rfl⟩ rfl ?_
   intro j s3 hj hs3;(conv=>whnf);refine aj ?_ ?_<;>intro h9<;>conv=>whnf
   ·have hj1:=cj h9 (by rw[iT]) hj (by omega)
    obtain⟨b,hb1⟩:∃b,ms0[j]?=some b:=⟨ms0[j],by simp[hj1]⟩
    refine bM (su hb1) (by omega) ?_;have hbw:=nI (k:=k0) (n:=n0) (t:=t0) (ns:=ns0) (ts:=ts0) (xs:=as0) (p:=p0) (List.mem_of_getElem? hb1);have hbb:=xo b.pat;have hbs:=xX b.pat (by omega);have hc:=tv (dW b.pat) b.body (by omega) (ih2 b (List.mem_of_getElem? hb1)) s3 (harm j b s3 hb1 (by rw[hs3];exact hso j));have hts:qy (ms0.take (j+1)) s=ic (dW b.pat) b.body s3:=by rw[cJ hb1,Aa,hs3]
    generalize ic (dW b.pat) b.body s3=s' at hc hts;generalize dW b.pat=bp at hbs hc hbb;obtain⟨⟨ck,cn,ct,ca⟩,⟨c1,c2,c3,c4,c5,c6,c7,c8⟩⟩:=b;(conv=>whnf);refine iX hbs ?_;(conv=>whnf);refine bg [1000000000,1000000001,1000000002] 10000 hc ?_;(conv=>whnf)
    first|refine ag (.inl (by kernel_rfl)) ?_|refine ag (by kernel_rfl) ?_
    (conv=>whnf);exact⟨hj1,s',⟨rfl,rfl,rfl,rfl⟩,hts.symm⟩
   ·have hj1:=cm h9 (by rw[iT]) hj (by omega)
    have hs4:qy ms0 s=s3:=by rw[hs3,hj1,List.take_length]
    rw[hs4]at hR;subst hR;exact⟨.inl rfl,⟨.inl rfl,.inl rfl,.inl rfl,trivial⟩,s6,s6,trivial⟩
  ·have h7:(k0==13)=false:=h7
   rw[h7,Bool.false_or]at hR;refine aj ?_ ?_<;>intro h8<;>conv=>whnf
   ·have h8:(k0==18)=true:=h8
    rw[h8,cond_true,tK]at hR
    refine bK (ah _) az (by kernel_rfl) ms0.length [0,3,121,122,123] [1000000000,1000000001,1000000002,3] (fun k (s:St)=>[.ptr 1000000000 0,.ptr 3 0,.p (.sl 12 (jz ms0)),.p (.i .i64 (jz ms0).length),.p (.i .i64 (ix k))])
     (fun k s=>[.cells [.p (.amp 29 0),.p (.amp 30 0),.so 1 (s.out.map bD)],.store 205 true 29 1 0 [(0,bX PV.b s.seen)],.store 206 true 30 1 0 [(0,bX vJ s.bound)],.cells [.p (.i .i64 k0),.p (.i .i64 n0),.p (.s t0),.p (.sl 1 (ns0.map bD)),.p (.sl 3 (lG ts0)),.p (.sl 8 (dZ as0)),.p (.sl 12 (jz ms0)),.p (.i .i64 p0)]]) (fun k s'=>s'=qy (ms0.take k) s) s ⟨rfl,rfl,rfl,rfl⟩ rfl ?_
    intro j s3 hj hs3;(conv=>whnf);refine aj ?_ ?_<;>intro h9<;>conv=>whnf
    ·have hj1:=cj h9 (by rw[iT]) hj (by omega)
     obtain⟨b,hb1⟩:∃b,ms0[j]?=some b:=⟨ms0[j],by simp[hj1]⟩
     refine bM (su hb1) (by omega) ?_;have hbw:=nI (k:=k0) (n:=n0) (t:=t0) (ns:=ns0) (ts:=ts0) (xs:=as0) (p:=p0) (List.mem_of_getElem? hb1);have hbb:=xo b.pat;have hbs:=xX b.pat (by omega);have hc:=tv (dW b.pat) b.body (by omega) (ih2 b (List.mem_of_getElem? hb1)) s3 (harm j b s3 hb1 (by rw[hs3];exact hso j));have hts:qy (ms0.take (j+1)) s=ic (dW b.pat) b.body s3:=by rw[cJ hb1,Aa,hs3]
     generalize ic (dW b.pat) b.body s3=s' at hc hts;generalize dW b.pat=bp at hbs hc hbb;obtain⟨⟨ck,cn,ct,ca⟩,⟨c1,c2,c3,c4,c5,c6,c7,c8⟩⟩:=b;(conv=>whnf);refine iX hbs ?_;(conv=>whnf);refine bg [1000000000,1000000001,1000000002] 10000 hc ?_;(conv=>whnf)
     first|refine ag (.inl (by kernel_rfl)) ?_|refine ag (by kernel_rfl) ?_
     (conv=>whnf);exact⟨hj1,s',⟨rfl,rfl,rfl,rfl⟩,hts.symm⟩
    ·have hj1:=cm h9 (by rw[iT]) hj (by omega)
     have hs4:qy ms0 s=s3:=by rw[hs3,hj1,List.take_length]
     rw[hs4]at hR;subst hR;exact⟨.inl rfl,⟨.inl rfl,.inl rfl,.inl rfl,trivial⟩,s6,s6,trivial⟩
   ·have h8:(k0==18)=false:=h8
    rw[h8,cond_false]at hR;subst hR;exact⟨.inl rfl,⟨.inl rfl,.inl rfl,.inl rfl,trivial⟩,s6,s6,trivial⟩
theorem Fo (e:Ex):wE e≤1048640→uG e:=
 Ex.ind (Q:=fun e=>wE e≤1048640→uG e) (fun k n t ns ts xs ms p h1 h2 h=>Hg (.mk k n t ns ts xs ms p) h (fun a ha=>h1 a ha (by have:=lT (k:=k) (n:=n) (t:=t) (ns:=ns) (ts:=ts) (ms:=ms) (p:=p) (show a∈xs from ha);omega))
  (fun a ha=>h2 a ha (by have:=nI (k:=k) (n:=n) (t:=t) (ns:=ns) (ts:=ts) (xs:=xs) (p:=p) (show a∈ms from ha);omega))) e
end TR
end
section
open Go Go.AM Go.Proofs
set_option maxRecDepth 100000
namespace TR
open MN (bh jw bX bP s6)
theorem O5 {P:Program} {f:Nat} {args:List AV} {h hs0 hs h':Heap} {r:AV} {K:List Nat→Heap→AV→Prop} (R:List Nat) (B:Nat) (s:av P f (AV.pF (fG R 0) args) hs r h') (hk:K R (dO R B h') (r.wq (dV R B))) (hl:BE hs0 hs)
 (h2:oy h (fG R 0) (bA R) R 0=some hs0:=by rfl) (h1:(AV.dz (bA R) args&&nodupB R)=true:=by rfl) (h3:(nodupB (aL h')&&oe h B R.length (aL h')&&ku (aL h') R.length)=true:=by rfl):dh P f args h K:=
 .mem R B hs0 r h' h1 h2 (s.le hl) h3 hk
noncomputable def PU:Nat→Option TI:=hint (hint (jJ Tryz.prog) 205 [1000004]) 206 [1000005]
theorem KO:bw Tryz.prog PU:=((ah Tryz.prog).hint _ _).hint _ _
def mJ (e:Ex):List ByteArray:=(cW e ⟨[],[],[]⟩).out
def Pz (n:Nat) (M:List (Nat×List PV)):bq:=.store 205 true 29 n 0 M
def Ph (n:Nat) (M:List (Nat×List PV)):bq:=.store 206 true 30 n 0 M
theorem rH:∀l:List ByteArray,aT (l.map bD)=true
 | []=>rfl
 |_::r=>rH r
theorem jt {α:Type} (f:α→PV):∀l:List α,(∀a∈l,bz (f a)=true)→aT (l.map f)=true
 | [],_=>rfl
 |a::r,h=>by rw[List.map_cons,aT,h a (by simp),jt f r fun x hx=>h x (by simp[hx])];rfl
theorem J0 (t:Ty):bz (eT t)=true:=by
 induction t using Ty.ind with
 |h k n xs ih=>simp[eT,bz,aT,kz,jt eT xs ih]
theorem Ia (t:Pt):bz (eP t)=true:=by
 induction t using Pt.ind with
 |h k n t xs ih=>simp[eP,bz,aT,lS,jt eP xs ih]
theorem rP (e:Ex):bz (eE e)=true:=by
 induction e using Ex.ind with
 |h k n t ns ts xs ms p ih1 ih2=>
  have h3:=jt eA ms fun a ha=>by
   have h4:=ih2 a ha;have h5:=Ia a.pat;obtain⟨⟨p1,p2,p3,p4⟩,⟨e1,e2,e3,e4,e5,e6,e7,e8⟩⟩:=a;simp only[eP,eE,bz,aT,eR.pat,eR.body]at h4 h5;simp[eA,eP,eE,PV.cells,bz,aT]at h4 h5 ⊢;simp[h4,h5]
  simp[eE,bz,aT,iK,ko,kz,jt eE xs ih1,jt eT ts fun a _=>J0 a,rH,h3]
theorem free_spec (e:Ex) (he:wE e≤1048640):av Tryz.prog 46 [.p (eE e)] [] (.p (.sl 1 ((mJ e).map bD))) []:=by
 have h1:=Fo e he ⟨[],[],[]⟩ (by simp;omega);have hpl:=rP e
 have h2:av Tryz.prog 46 [.p (eE e)] ([]++[(1000000000,Pz 0 []),(1000000001,Ph 0 [])]) (.p (.sl 1 ((mJ e).map bD))) ([]++[(1000000000,Pz 1 [(0,bX PV.b (cW e ⟨[],[],[]⟩).seen)]),(1000000001,Ph 1 [(0,bX vJ (cW e ⟨[],[],[]⟩).bound)])]):=by
  rw[mJ];generalize cW e ⟨[],[],[]⟩=σ at h1;obtain⟨k0,n0,t0,ns0,ts0,as0,ms0,p0⟩:=e;unfold Pz Ph;refine av.intro KO az Tryz.func46 rfl (by rfl) (by kernel_rfl) (by show 1≤_;decide) rfl ?_;(conv=>whnf);refine O5 [3,1000000000,1000000001] 10000 h1 ?_ ?_
  ·conv=>whnf
   exact⟨.inr rfl,s6,s6,trivial⟩
  ·exact⟨rfl,⟨.inl rfl,.inl rfl,.inr (.inr ⟨rfl,0,rfl⟩),trivial⟩,rfl,s6,rfl,s6,trivial⟩
 exact av.Mt h2 (by simp[uE,hpl]) rfl rfl (rH _)
end TR
end
section
open Go Go.AM Go.Proofs
set_option maxRecDepth 100000
end
section
open Go Go.AM
set_option maxRecDepth 100000
namespace TR
structure MQ where
 name:ByteArray
 low:Int
 high:Int
structure N1 where
 name:ByteArray
 ts:List Ty
structure N4 where
 name:ByteArray
 ps:List ByteArray
 makes:List N1
structure zB where
 name:ByteArray
 ps:List ByteArray
 ns:List ByteArray
 ts:List Ty
 out:Ty
 body:Ex
structure OE where
 name:ByteArray
 funcs:List zB
structure x7 where
 tr:ByteArray
 fo:ByteArray
 funcs:List zB
structure JM where
 name:ByteArray
 ns:List ByteArray
 ts:List Ty
 msg:Ty
 body:Ex
structure ql where
 name:ByteArray
 ver:Int
 uses:List MQ
 datas:List N4
 traits:List OE
 impls:List x7
 funcs:List zB
 actors:List JM
def kf (u:MQ):PV:=.agg [.s u.name,.i .i64 u.low,.i .i64 u.high]
def uC (m:N1):PV:=.agg [.s m.name,.sl 3 (lG m.ts)]
def j7 (m:N4):PV:=.agg [.s m.name,.sl 1 (m.ps.map bD),.sl 2 (m.makes.map uC)]
def cU (f:zB):PV:=.agg (.s f.name::.sl 1 (f.ps.map bD)::.sl 1 (f.ns.map bD)::.sl 3 (lG f.ts)::((eT f.out).cells++(eE f.body).cells))
def j9 (m:OE):PV:=.agg [.s m.name,.sl 15 (m.funcs.map cU)]
def gZ (m:x7):PV:=.agg [.s m.tr,.s m.fo,.sl 15 (m.funcs.map cU)]
def gN (f:JM):PV:=.agg (.s f.name::.sl 1 (f.ns.map bD)::.sl 3 (lG f.ts)::((eT f.msg).cells++(eE f.body).cells))
def kP (p:ql):PV:=.agg [.s p.name,.i .i64 p.ver,.sl 3 (p.uses.map kf),.sl 3 (p.datas.map j7),.sl 2 (p.traits.map j9),.sl 3 (p.impls.map gZ),.sl 15 (p.funcs.map cU),.sl 14 (p.actors.map gN)]
def HQ (f:zB):Nat:=PV.wt (cU f)
theorem v8 (f:zB):HQ f=f.name.size+1+(PV.cG (f.ps.map bD)+1)+(PV.cG (f.ns.map bD)+1)+(PV.cG (lG f.ts)+1)+wT f.out+wE f.body:=by
 simp only[HQ,cU,PV.wt,PV.cG,PV.dS,yQ];unfold wT wE;omega
theorem wj (f:JM):PV.wt (gN f)=f.name.size+1+(PV.cG (f.ns.map bD)+1)+(PV.cG (lG f.ts)+1)+wT f.msg+wE f.body:=by
 simp only[gN,PV.wt,PV.cG,PV.dS,yQ];unfold wT wE;omega
theorem Lu (m:N1):PV.wt (uC m)=m.name.size+1+(PV.cG (lG m.ts)+1):=by
 simp only[uC,PV.wt,PV.cG]<;>try omega
theorem Gu (m:N4):PV.wt (j7 m)=m.name.size+1+(PV.cG (m.ps.map bD)+1)+(PV.cG (m.makes.map uC)+1):=by
 simp only[j7,PV.wt,PV.cG]<;>try omega
theorem G2 (m:OE):PV.wt (j9 m)=m.name.size+1+(PV.cG (m.funcs.map cU)+1):=by
 simp only[j9,PV.wt,PV.cG]<;>try omega
theorem vW (m:x7):PV.wt (gZ m)=m.tr.size+1+(m.fo.size+1)+(PV.cG (m.funcs.map cU)+1):=by
 simp only[gZ,PV.wt,PV.cG]<;>try omega
def uo (p:ql):Nat:=PV.wt (kP p)
theorem qf (p:ql):uo p=p.name.size+1+1+(PV.cG (p.uses.map kf)+1)+(PV.cG (p.datas.map j7)+1)+(PV.cG (p.traits.map j9)+1)+(PV.cG (p.impls.map gZ)+1)+(PV.cG (p.funcs.map cU)+1)+(PV.cG (p.actors.map gN)+1):=by
 simp only[uo,kP,PV.wt,PV.cG]<;>try omega
theorem u7 {α:Type} (f:α→PV) (h:∀x,1≤PV.wt (f x)):∀(l:List α),l.length≤PV.cG (l.map f)
 | []=>by simp
 |x::r=>by have:=h x;have:=u7 f h r;simp only[List.map_cons,PV.cG,List.length_cons];omega
theorem tQ {α:Type} (f:α→PV) {x:α} {l:List α} (h:x∈l):PV.wt (f x)≤PV.cG (l.map f):=tA (List.mem_map.2 ⟨x,h,rfl⟩)
end TR
end
section
open Go Go.AM Go.Proofs TK
set_option maxRecDepth 100000
namespace MN
structure Ns where
 n:bf Nd
 a:bf (List Nat)
 b:bf (List Ar)
 fu:Option (Nat×Nat)
def rC:Option (Nat×Nat)→Option (Nat×Nat)→Bool
 |none,none=>true
 |some p,some q=>Nat.beq p.1 q.1&&Nat.beq p.2 q.2
 |_,_=>false
theorem Aq {x y:Option (Nat×Nat)} (h:rC x y=true):x=y:=by
 rcases x with _|⟨a,b⟩<;>rcases y with _|⟨c,d⟩
 ·rfl
 ·cases h
 ·cases h
 ·have h:(Nat.beq a c&&Nat.beq b d)=true:=h
  rw[Bool.and_eq_true]at h;rw[Nat.eq_of_beq_eq_true h.1,Nat.eq_of_beq_eq_true h.2]
def mI {α:Type} (z:bf (List α)) (q:Option (Nat×Nat)) (c:α):Option (bf (List α)×(Nat×Nat)):=match q with
 |none=>some ((z.1+1,(z.1,[c])::z.2),(z.1,1))
 |some q=>match aJ q.1 z.2 with
  |none=>none
  |some l=>match Nat.ble q.2 l.length&&Nat.ble q.2 2000000 with
   |false=>none
   |true=>some ((z.1+1,(z.1,l.take q.2++[c])::hU q.1 z.2),(z.1,q.2+1))
def qC (g:TR.Ex→Ns→Option (Ns×Nat)) (k:Nat):List TR.Ex→Ns→Option Ns
 | [],z=>some z
 |e::r,z=>match aJ k z.n.2 with
  |none=>none
  |some n0=>match g e z with
   |none=>none
   |some (z2,c)=>match aJ k z2.n.2 with
    |none=>none
    |some n1=>match rC n0.args n1.args with
     |false=>none
     |true=>match mI z2.a n0.args c with
      |none=>none
      |some (a3,q)=>qC g k r ⟨(z2.n.1,aV k { n1 with args:=some q } z2.n.2),a3,z2.b,z2.fu⟩
def qU (g:TR.Ex→Ns→Option (Ns×Nat)) (k:Nat):List TR.eR→Ns→Option Ns
 | [],z=>some z
 |x::r,z=>match aJ k z.n.2 with
  |none=>none
  |some n0=>match g x.body z with
   |none=>none
   |some (z2,c)=>match aJ k z2.n.2 with
    |none=>none
    |some n1=>match rC n0.dR n1.dR&&Nat.ble (TR.wP x.pat) 1048576 with
     |false=>none
     |true=>match mI z2.b n0.dR ⟨x.pat,c⟩ with
      |none=>none
      |some (b3,q)=>qU g k r ⟨(z2.n.1,aV k { n1 with dR:=some q } z2.n.2),z2.a,b3,z2.fu⟩
def tw (e:TR.Ex):Nd:=⟨e.kind,e.num,e.text,e.names,none,none,TR.dX e.kind e.num e.args.length,0,[]⟩
def Kz (e:TR.Ex) (k:Nat) (z:Ns):Option Ns:=match (e.kind==10)&&!(Nat.beq e.args.length 0) with
 |false=>some z
 |true=>match Nat.ble (TR.wE e) 1048640 with
  |false=>none
  |true=>match mI z.a z.fu k with
   |none=>none
   |some (a2,q)=>some ⟨(z.n.1,aV k { tw e with fn:=(gx z.fu:Int),free:=TR.mJ e } z.n.2),a2,z.b,some q⟩
def iG:Nat→TR.Ex→Ns→Option (Ns×Nat)
 |0,_,_=>none
 |n+1,e,z=>match Nat.ble e.args.length 2000000&&(Nat.ble e.dR.length 2000000&&Nat.ble e.names.length 2000000) with
  |false=>none
  |true=>match Kz e z.n.1 ⟨(z.n.1+1,(z.n.1,tw e)::z.n.2),z.a,z.b,z.fu⟩ with
   |none=>none
   |some z1=>match qC (iG n) z.n.1 e.args z1 with
    |none=>none
    |some z2=>match qU (iG n) z.n.1 e.dR z2 with
     |none=>none
     |some z3=>some (z3,z.n.1)
def firstT {α:Type} (es:TM α) (k:ByteArray) (v:α):TM α:=match bh k es with
 |some _=>es
 |none=>es++[(k,v)]
def uK (d:ByteArray):List TR.N1→TM Cn→TM Cn
 | [],es=>es
 |x::r,es=>uK d r (firstT es x.name ⟨d,x.ts.length⟩)
def mE:List TR.N4→TM Cn→TM Cn
 | [],es=>es
 |d::r,es=>mE r (uK d.name d.makes es)
def tZ (t:ByteArray):List TR.zB→TM ByteArray→TM ByteArray
 | [],es=>es
 |f::r,es=>tZ t r (firstT es f.name t)
def jy:List TR.OE→TM ByteArray→TM ByteArray
 | [],es=>es
 |t::r,es=>jy r (tZ t.name t.funcs es)
def Hf (f:TR.zB) (z:Ns):Option (Ns×Fn):=match Nat.ble f.ns.length 2000000 with
 |false=>none
 |true=>match iG (TR.wE f.body) f.body z with
  |none=>none
  |some (z2,k)=>some (z2,⟨f.ns,k⟩)
def O0 (f:TR.JM) (z:Ns):Option (Ns×Fn):=match Nat.ble f.ns.length 2000000 with
 |false=>none
 |true=>match iG (TR.wE f.body) f.body z with
  |none=>none
  |some (z2,k)=>some (z2,⟨f.ns,k⟩)
def mH:List TR.zB→Ns→TM Fn→Option (Ns×TM Fn)
 | [],z,es=>some (z,es)
 |f::r,z,es=>match Hf f z with
  |none=>none
  |some (z2,x)=>mH r z2 (firstT es f.name x)
def lP:List TR.JM→Ns→TM Fn→Option (Ns×TM Fn)
 | [],z,es=>some (z,es)
 |f::r,z,es=>match O0 f z with
  |none=>none
  |some (z2,x)=>lP r z2 (firstT es f.name x)
def pJ:List TR.x7→Ns→bf (TM Fn)→bf (List Im)→Option (Nat×Nat)→Option (Ns×bf (TM Fn)×bf (List Im)×Option (Nat×Nat))
 | [],z,m,i,q=>some (z,m,i,q)
 |x::r,z,m,i,q=>match mH x.funcs z [] with
  |none=>none
  |some (z2,es)=>match mI i q ⟨x.tr,x.fo,m.1⟩ with
   |none=>none
   |some (i2,q2)=>pJ r z2 (m.1+1,(m.1,es)::m.2) i2 (some q2)
def Hj (p:TR.ql):Bool:=Nat.ble p.datas.length 2000000&&(p.datas.all (fun d=>Nat.ble d.makes.length 2000000)&&(Nat.ble p.traits.length 2000000&&(p.traits.all (fun t=>Nat.ble t.funcs.length 2000000)&&(Nat.ble p.impls.length 2000000&&(p.impls.all (fun t=>Nat.ble t.funcs.length 2000000)&&(Nat.ble p.funcs.length 2000000&&Nat.ble p.actors.length 2000000))))))
def kS (K:Ks) (z:Ns) (mk:Mk) (cs:TM Cn) (mf:bf (TM Fn)) (ts:TM ByteArray) (im:bf (List Im)) (acs:TM Fn):Ks:=
 ⟨z.n,z.a,z.b,(K.mm.1+1,(K.mm.1,mk)::K.mm.2),(K.mc.1+1,(K.mc.1,cs)::K.mc.2),mf,(K.mt.1+1,(K.mt.1,ts)::K.mt.2),im,(K.ma.1+1,(K.ma.1,acs)::K.ma.2)⟩
def wo (K:Ks) (fu q:Option (Nat×Nat)):Mk:=⟨fu,K.mc.1,K.mf.1,K.mt.1,q,K.ma.1⟩
def newF (p:TR.ql) (K:Ks):Option Ks:=match Hj p with
 |false=>none
 |true=>match pJ p.impls ⟨K.n,K.a,K.b,none⟩ (K.mf.1+1,(K.mf.1,[])::K.mf.2) K.im none with
  |none=>none
  |some (z1,mf1,im1,q)=>match aJ K.mf.1 mf1.2 with
   |none=>none
   |some es0=>match mH p.funcs z1 es0 with
    |none=>none
    |some (z2,fs)=>match lP p.actors z2 [] with
     |none=>none
     |some (z3,acs)=>some (kS K z3 (wo K z3.fu q) (mE p.datas []) (mf1.1,aV K.mf.1 fs mf1.2) (jy p.traits []) im1 acs)
end MN
end
section
open Go Go.AM Go.Proofs
set_option maxRecDepth 100000
end
