/- Contracts, and the law, for every input. No conditions. -/
import Derived.Test.YtdmopjgjhfhfdaaGreatDoorTR4
import Derived.Test.YtdmopjgjhfhfdaaGreatDoorTK1
import Derived.Test.YtdmopjgjhfhfdaaGreatDoorMN5
set_option linter.all false
section
open Go Go.AM Go.Proofs
set_option maxRecDepth 100000
namespace TR
def dZ (k n:Int) (len:Nat):Int:=
 bif k==1||(k==2||(k==3||(k==4||(k==5||k==16)))) then 0 else
 bif k==10||(k==13||(k==19||(k==20||(k==21||(k==22||(k==24||k==25)))))) then 1 else
 bif k==6||(k==15||k==23) then 2 else
 bif k==7 then 3 else
 bif k==18 then (bif decide (n≥0) then 1 else 0) else
 bif k==8||(k==9||(k==12||(k==14||k==17))) then len else
 bif k==11 then (if (len:Int)<1 then 1 else len) else -1
theorem yV (e:Ex):aV Tryz.prog 45 [.p (eE e)] (.p (.i .i64 (dZ e.kind e.num e.args.length))):=by
 obtain⟨k0,n0,t0,ns0,ts0,as0,ms0,p0⟩:=e;simp only[Ex.kind,Ex.num,Ex.args];refine aV.intro (ah Tryz.prog) aC Tryz.func45 rfl (by rfl) (by kernel_rfl) (by show 1≤_;decide) rfl ?_
 by_cases hr:1≤k0∧k0≤25
 ·obtain rfl|rfl|rfl|rfl|rfl|rfl|rfl|rfl|rfl|rfl|rfl|rfl|rfl|rfl|rfl|rfl|rfl|rfl|rfl|rfl|rfl|rfl|rfl|rfl|rfl:k0=1∨k0=2∨k0=3∨k0=4∨k0=5∨k0=6∨k0=7∨k0=8∨k0=9∨k0=10∨k0=11∨k0=12∨k0=13∨k0=14∨k0=15∨k0=16∨k0=17∨k0=18∨k0=19∨k0=20∨k0=21∨k0=22∨k0=23∨k0=24∨k0=25:=by omega
  ·conv=>whnf
   exact .inl rfl
  ·conv=>whnf
   exact .inl rfl
  ·conv=>whnf
   exact .inl rfl
  ·conv=>whnf
   exact .inl rfl
  ·conv=>whnf
   exact .inl rfl
  ·conv=>whnf
   exact .inl rfl
  ·conv=>whnf
   exact .inl rfl
  ·conv=>whnf
   exact .inl (pi (by rw[cz];rfl))
  ·conv=>whnf
   exact .inl (pi (by rw[cz];rfl))
  ·conv=>whnf
   exact .inl rfl
  ·conv=>whnf
   exact .inl (pi (by rw[cz];rfl))
  ·conv=>whnf
   exact .inl (pi (by rw[cz];rfl))
  ·conv=>whnf
   exact .inl rfl
  ·conv=>whnf
   exact .inl (pi (by rw[cz];rfl))
  ·conv=>whnf
   exact .inl rfl
  ·conv=>whnf
   exact .inl rfl
  ·conv=>whnf
   exact .inl (pi (by rw[cz];rfl))
  ·conv=>whnf
   refine aj ?_ ?_<;>intro h<;>conv=>whnf
   ·exact .inl (pi (by show _=(bif decide (n0≥0) then (1:Int) else 0);rw[h];rfl))
   ·exact .inl (pi (by show _=(bif decide (n0≥0) then (1:Int) else 0);rw[h];rfl))
  ·conv=>whnf
   exact .inl rfl
  ·conv=>whnf
   exact .inl rfl
  ·conv=>whnf
   exact .inl rfl
  ·conv=>whnf
   exact .inl rfl
  ·conv=>whnf
   exact .inl rfl
  ·conv=>whnf
   exact .inl rfl
  ·conv=>whnf
   exact .inl rfl
 ·have hb:∀c:Int,1≤c→c≤25→(k0==c)=false:=fun c h1 h2=>by simp;omega
  conv=>whnf
  iterate 25 (refine bD (hb _ (by decide) (by decide)) ?_;conv=>whnf)
  exact .inl (pi (by rw[dZ];simp only[hb 1 (by decide) (by decide),hb 2 (by decide) (by decide),hb 3 (by decide) (by decide),hb 4 (by decide) (by decide),hb 5 (by decide) (by decide),hb 6 (by decide) (by decide),hb 7 (by decide) (by decide),hb 8 (by decide) (by decide),hb 9 (by decide) (by decide),hb 10 (by decide) (by decide),hb 11 (by decide) (by decide),hb 12 (by decide) (by decide),hb 13 (by decide) (by decide),hb 14 (by decide) (by decide),hb 15 (by decide) (by decide),hb 16 (by decide) (by decide),hb 17 (by decide) (by decide),hb 18 (by decide) (by decide),hb 19 (by decide) (by decide),hb 20 (by decide) (by decide),hb 21 (by decide) (by decide),hb 22 (by decide) (by decide),hb 23 (by decide) (by decide),hb 24 (by decide) (by decide),hb 25 (by decide) (by decide),Bool.or_self,cond_false]))
end TR
end
section
open Go Go.AM Go.Proofs
set_option maxRecDepth 100000
namespace TR
open MN (bq jB bX bQ s6)
def vJ (n:Int):PV:=.i .i64 n
def FA {α:Type} (k:ByteArray) (v:α):MN.TM α→MN.TM α
 | []=>[(k,v)]
 |(a,x)::r=>match k==a with|true=>(k,v)::r|false=>(a,x)::FA k v r
theorem Dn {α:Type} (enc:α→PV) (k:ByteArray) (v:α):∀es:MN.TM α,sr (.s k) (enc v) (jB enc es)=jB enc (FA k v es)
 | []=>rfl
 |(a,x)::r=>by
  show(match tc (.s k) (.s a) with|true=>_|false=>_)=_;rw[show tc (.s k) (.s a)=(k==a) from rfl,FA]
  cases k==a with
  |true=>rfl
  |false=>
   show(PV.s a,enc x)::sr (.s k) (enc v) (jB enc r)=_;rw[Dn enc k v r];rfl
theorem Ju {α:Type} (enc:α→PV) (k:ByteArray) (v:α) (es:MN.TM α):bX enc (FA k v es)=(sr (.s k) (enc v) (jB enc es)).map IM:=by rw[Dn];rfl
theorem EM (k:ByteArray) (m:MN.TM Int):pV (.s k) (.i .i64 0) (jB vJ m)=(.i .i64 ((bq k m).getD 0),(bq k m).isSome):=by
 rw[bQ vJ k _ m];cases bq k m<;>rfl
theorem NQ (k:ByteArray) (m:MN.TM Bool):pV (.s k) (.b false) (jB PV.b m)=(.b ((bq k m).getD false),(bq k m).isSome):=by
 rw[bQ PV.b k _ m];cases bq k m<;>rfl
mutual
def dV:Pt→List ByteArray
 |.mk k _ t xs=>bif k==2 then [t] else bif k==6 then dJ xs else []
def dJ:List Pt→List ByteArray
 | []=>[]
 |p::r=>dV p++dJ r
end
theorem vi (l r:List Pt):dJ (l++r)=dJ l++dJ r:=by
 induction l with
 |nil=>simp[dJ]
 |cons a l ih=>simp[dJ,ih]
theorem BD (l:List Pt) (p:Pt):dJ (l++[p])=dJ l++dV p:=by rw[vi];simp[dJ]
mutual
theorem yd:∀(p:Pt),(dV p).length≤wP p
 |.mk k n t xs=>by
  rw[dV,zj];have:=uX xs
  cases k==2<;>cases k==6<;>simp<;>omega
theorem uX:∀(l:List Pt),(dJ l).length≤PV.cH (oA l)
 | []=>by simp[dJ]
 |p::r=>by have h1:=yd p;have h2:=uX r;unfold wP at h1;simp only[dJ,oA,PV.cH,List.length_append];omega
end
theorem Bn (l:List Pt) (k:Nat):(dJ (l.take k)).length≤(dJ l).length:=by
 have:=vi (l.take k) (l.drop k);rw[List.take_append_drop]at this;rw[this];simp
theorem xA (p:Pt):wP p≤1048640→aV Tryz.prog 118 [.p (eP p)] (.p (.sl 1 ((dV p).map bE))):=by
 induction p using Pt.ind with
 |h k0 n0 t0 as0 ih=>
 intro hw;have hl:=Ga k0 n0 t0 as0;have hbl:=uX as0;have hwm:=zj k0 n0 t0 as0;rw[dV];refine aV.intro (ah Tryz.prog) aC Tryz.func118 rfl (by rfl) (by kernel_rfl) (by show 1≤_;decide) rfl ?_;(conv=>whnf);refine aj ?_ ?_<;>intro h1<;>conv=>whnf
 ·have h1:(k0==2)=true:=h1
  rw[h1];exact .inr (.inl rfl)
 have h1:(k0==2)=false:=h1;rw[h1];refine aj ?_ ?_<;>intro h2<;>conv=>whnf
 ·have h2:(k0==6)=true:=h2
  rw[h2];refine nW 3 0 rfl ?_;refine bL (ah _) aC (by kernel_rfl) as0.length [3,16,17,18] [] (fun k (s:List ByteArray)=>[.so 1 (s.map bE),.p (.sl 4 (oA as0)),.p (.i .i64 (oA as0).length),.p (.i .i64 (ix k))]) (fun _ _=>[]) (fun k s=>s=dJ (as0.take k)) [] ⟨rfl,rfl,rfl,rfl⟩ (by simp[dJ]) ?_;intro k s hk hs;(conv=>whnf);refine aj ?_ ?_<;>intro h3<;>conv=>whnf
  ·have hk1:=cm h3 (by rw[gT]) hk (by omega)
   obtain⟨b,hb1⟩:∃b,as0[k]?=some b:=⟨as0[k],by simp[hk1]⟩
   refine bO (tC hb1) (by omega) ?_;have hbw:=Cj (k:=k0) (n:=n0) (t:=t0) (List.mem_of_getElem? hb1);have hc:=ih b (List.mem_of_getElem? hb1) (by omega);have hts:dJ (as0.take (k+1))=dJ (as0.take k)++dV b:=by rw[cK hb1,BD]
   have htl:=Bn as0 (k+1);rw[hts,←hs,List.length_append]at htl;generalize dV b=sb at hc hts htl;obtain⟨b1,b2,b3,b4⟩:=b;(conv=>whnf);refine jA hc ?_;(conv=>whnf);refine ag (show((s.map bE).length+(sb.map bE).length)*16≤140737488355328 by simp;omega) ?_;(conv=>whnf);refine⟨hk1,s++sb,⟨rfl,?_,rfl,rfl⟩,by rw[hs,hts]⟩;rw[List.map_append];rfl
  ·have hk1:=cq h3 (by rw[gT]) hk (by omega)
   have hs2:s=dJ as0:=by rw[hs,hk1,List.take_length]
   subst hs2;exact .inr (.inl rfl)
 ·have h2:(k0==6)=false:=h2
  rw[h2];exact .inr (.inl rfl)
structure St where
 seen:MN.TM Bool
 bound:MN.TM Int
 out:List ByteArray
def I3 (m:MN.TM Int) (s:ByteArray):MN.TM Int:=FA s (IntKind.i64.wrap ((bq s m).getD 0+1)) m
def IY (m:MN.TM Int) (s:ByteArray):MN.TM Int:=FA s (IntKind.i64.wrap ((bq s m).getD 0-1)) m
def St.inc (σ:St) (ns:List ByteArray):St:={ σ with bound:=ns.foldl I3 σ.bound }
def St.dec (σ:St) (ns:List ByteArray):St:={ σ with bound:=ns.foldl IY σ.bound }
def Lz (t:ByteArray) (σ:St):St:=bif ((bq t σ.bound).getD 0==0)&&!((bq t σ.seen).getD false) then ⟨FA t true σ.seen,σ.bound,σ.out++[t]⟩ else σ
mutual
def cX:Ex→St→St
 |.mk k n t ns _ xs ms _,σ=>bif decide (dZ k n xs.length<0) then σ else bif decide ((xs.length:Int)<dZ k n xs.length) then visitFn xs.length xs σ else
   let σ1:=bif k==5 then Lz t σ else bif k==6 then DZ t xs σ else bif k==10 then Gr ns xs σ else visitFn (dZ k n xs.length).toNat xs σ
   bif k==13||k==18 then Ak ms σ1 else σ1
def visitFn:Nat→List Ex→St→St
 |_,[],σ=>σ
 |0,_,σ=>σ
 |n+1,e::r,σ=>visitFn n r (cX e σ)
def DZ (t:ByteArray):List Ex→St→St
 |a::b::_,σ=>(cX b ((cX a σ).inc [t])).dec [t]
 |_,σ=>σ
def Gr (ns:List ByteArray):List Ex→St→St
 |a::_,σ=>(cX a (σ.inc ns)).dec ns
 |_,σ=>σ
def Ak:List eU→St→St
 | [],σ=>σ
 |.mk p e::r,σ=>Ak r ((cX e (σ.inc (dV p))).dec (dV p))
end
def iq (ns:List ByteArray) (e:Ex) (σ:St):St:=(cX e (σ.inc ns)).dec ns
def Ot (σ:St):Heap:=[(1000000000,.cells [.p (.amp 29 0),.p (.amp 30 0),.so 1 (σ.out.map bE)]),(1000000001,.store 205 true 29 1 0 [(0,bX PV.b σ.seen)]),(1000000002,.store 206 true 30 1 0 [(0,bX vJ σ.bound)])]
def uW (e:Ex):Prop:=∀σ:St,σ.out.length+wE e≤2097152→
 av Tryz.prog 76 [.ptr 1000000000 0,.p (eE e)] (Ot σ) (.cA []) (Ot (cX e σ))
def Np (ns:List ByteArray) (e:Ex):Prop:=∀σ:St,σ.out.length+wE e≤2097152→
 av Tryz.prog 117 [.ptr 1000000000 0,.p (.sl 1 (ns.map bE)),.p (eE e)] (Ot σ) (.cA []) (Ot (iq ns e σ))
theorem sY (ns:List ByteArray) (e:Ex) (hn:ns.length≤1048640) (ih:uW e):Np ns e:=by
 intro σ hσ;have hv:=ih (σ.inc ns) hσ;have hu:iq ns e σ=(cX e (σ.inc ns)).dec ns:=rfl;rw[hu];generalize cX e (σ.inc ns)=σ2 at hv;obtain⟨se,bo,ou⟩:=σ;obtain⟨se2,bo2,ou2⟩:=σ2;obtain⟨k0,n0,t0,ns0,ts0,as0,ms0,p0⟩:=e;simp only[Ot,St.inc,St.dec]at hv ⊢;refine av.intro (ah Tryz.prog) aC Tryz.func117 rfl (by rfl) (by kernel_rfl) (by show 3≤_;decide) rfl ?_;(conv=>whnf)
 refine bL (ah _) aC (by kernel_rfl) ns.length [0,1,5,10,11,12] [1000000000,1000000001,1000000002,5] (fun k (m:MN.TM Int)=>[.ptr 1000000000 0,.p (.sl 1 (ns.map bE)),.ptr 5 0,.p (.sl 1 (ns.map bE)),.p (.i .i64 (ns.map bE).length),.p (.i .i64 (ix k))])
  (fun k m=>[.cells [.p (.amp 29 0),.p (.amp 30 0),.so 1 (ou.map bE)],.store 205 true 29 1 0 [(0,bX PV.b se)],.store 206 true 30 1 0 [(0,bX vJ m)],.cells [.p (.i .i64 k0),.p (.i .i64 n0),.p (.s t0),.p (.sl 1 (ns0.map bE)),.p (.sl 3 (lK ts0)),.p (.sl 8 (eg as0)),.p (.sl 12 (jF ms0)),.p (.i .i64 p0)]])
  (fun k m=>m=(ns.take k).foldl I3 bo) bo ⟨rfl,rfl,rfl,rfl⟩ rfl ?_
 intro k m hk hm;(conv=>whnf);refine aj ?_ ?_<;>intro h1<;>conv=>whnf
 ·have hk1:=cm h1 (by simp) hk (by omega)
  obtain⟨b,hb1⟩:∃b,ns[k]?=some b:=⟨ns[k],by simp[hk1]⟩
  refine bO (x:=bE b) (by simp[hb1]) (by omega) ?_;(conv=>whnf);refine ag ⟨rfl,rfl⟩ ?_;refine⟨jB vJ m,rfl,?_⟩;refine⟨_,_,EM b m,?_⟩;(conv=>whnf);refine ag ⟨rfl,rfl⟩ ?_;refine⟨jB vJ m,rfl,?_⟩;(conv=>whnf);refine⟨hk1,I3 m b,⟨by rw[I3,Ju];rfl,rfl,rfl,rfl⟩,?_⟩;rw[cK hb1,List.foldl_append,←hm];rfl
 ·have hk1:=cq h1 (by simp) hk (by omega)
  have hm2:m=ns.foldl I3 bo:=by rw[hm,hk1,List.take_length]
  subst hm2;refine bh [1000000000,1000000001,1000000002] 10000 hv ?_;(conv=>whnf)
  refine bL (ah _) aC (by kernel_rfl) ns.length [0,27,28,29] [1000000000,1000000001,1000000002] (fun k (m:MN.TM Int)=>[.ptr 1000000000 0,.p (.sl 1 (ns.map bE)),.p (.i .i64 (ns.map bE).length),.p (.i .i64 (ix k))])
   (fun k m=>[.cells [.p (.amp 29 0),.p (.amp 30 0),.so 1 (ou2.map bE)],.store 205 true 29 1 0 [(0,bX PV.b se2)],.store 206 true 30 1 0 [(0,bX vJ m)]])
   (fun k m=>m=(ns.take k).foldl IY bo2) bo2 ⟨rfl,rfl,rfl,rfl⟩ rfl ?_
  intro j m3 hj hm3;(conv=>whnf);refine aj ?_ ?_<;>intro h2<;>conv=>whnf
  ·have hj1:=cm h2 (by simp) hj (by omega)
   obtain⟨b,hb1⟩:∃b,ns[j]?=some b:=⟨ns[j],by simp[hj1]⟩
   refine bO (x:=bE b) (by simp[hb1]) (by omega) ?_;(conv=>whnf);refine ag ⟨rfl,rfl⟩ ?_;refine⟨jB vJ m3,rfl,?_⟩;refine⟨_,_,EM b m3,?_⟩;(conv=>whnf);refine ag ⟨rfl,rfl⟩ ?_;refine⟨jB vJ m3,rfl,?_⟩;(conv=>whnf);refine⟨hj1,IY m3 b,⟨by rw[IY,Ju];rfl,rfl,rfl,rfl⟩,?_⟩;rw[cK hb1,List.foldl_append,←hm3];rfl
  ·have hj1:=cq h2 (by simp) hj (by omega)
   have hm4:m3=ns.foldl IY bo2:=by rw[hm3,hj1,List.take_length]
   subst hm4;exact⟨.inl rfl,⟨.inl rfl,.inl rfl,.inl rfl,trivial⟩,s6,s6,trivial⟩
end TR
end
section
open Go Go.AM Go.Proofs
set_option maxRecDepth 100000
namespace TR
open MN (bq jB bX bQ s6)
def fG (l:List Ex) (σ:St):St:=l.foldl (fun σ e=>cX e σ) σ
def qF (l:List eU) (σ:St):St:=l.foldl (fun σ a=>iq (dV a.pat) a.body σ) σ
theorem kO:∀(n:Nat) (xs:List Ex) (σ:St),visitFn n xs σ=fG (xs.take n) σ
 |0,[],σ=>by simp[visitFn,fG]
 |n+1,[],σ=>by simp[visitFn,fG]
 |0,_::_,σ=>by simp[visitFn,fG]
 |n+1,e::r,σ=>by rw[visitFn,kO n r];simp[fG]
theorem tK:∀(ms:List eU) (σ:St),Ak ms σ=qF ms σ
 | [],σ=>by simp[Ak,qF]
 |.mk p e::r,σ=>by rw[Ak,tK r];simp[qF,iq,eU.pat,eU.body]
theorem vA (l:List Ex) (e:Ex) (σ:St):fG (l++[e]) σ=cX e (fG l σ):=by simp[fG]
theorem Av (l:List eU) (a:eU) (σ:St):qF (l++[a]) σ=iq (dV a.pat) a.body (qF l σ):=by simp[qF]
theorem B4 (σ:St) (ns:List ByteArray):(σ.inc ns).out=σ.out:=rfl
theorem BK (σ:St) (ns:List ByteArray):(σ.dec ns).out=σ.out:=rfl
theorem J2 (t:ByteArray) (σ:St):(Lz t σ).out.length≤σ.out.length+1:=by
 unfold Lz;cases ((bq t σ.bound).getD 0==0)&&!((bq t σ.seen).getD false)<;>simp
theorem yR (l:List Ex) (h:∀e∈l,∀σ,(cX e σ).out.length≤σ.out.length+wE e):∀σ,(fG l σ).out.length≤σ.out.length+PV.cH (eg l):=by
 induction l with
 |nil=>intro σ;simp[fG]
 |cons e r ih=>
  intro σ;have h1:=h e (by simp) σ;have h2:=ih (fun x hx=>h x (by simp[hx])) (cX e σ);simp only[eg,PV.cH];rw[show fG (e::r) σ=fG r (cX e σ) from rfl];unfold wE at h1;omega
theorem D3 (l:List eU) (h:∀a∈l,∀σ,(cX a.body σ).out.length≤σ.out.length+wE a.body):∀σ,(qF l σ).out.length≤σ.out.length+PV.cH (jF l):=by
 induction l with
 |nil=>intro σ;simp[qF]
 |cons a r ih=>
  intro σ;have h1:=h a (by simp) (σ.inc (dV a.pat));have h2:=ih (fun x hx=>h x (by simp[hx])) (iq (dV a.pat) a.body σ);have h3:=Bu a;simp only[jF,PV.cH];rw[show qF (a::r) σ=qF r (iq (dV a.pat) a.body σ) from rfl];rw[iq,BK]at h2;rw[B4]at h1;unfold wA at h3;rw[iq];omega
theorem sK (l:List PV) (k:Nat):PV.cH (l.take k)≤PV.cH l:=by
 have:=PV.dY (l.take k) (l.drop k);rw[List.take_append_drop]at this;omega
theorem oN (l:List Ex) (k:Nat):eg (l.take k)=(eg l).take k:=by simp[iI,List.map_take]
theorem KI (l:List eU) (k:Nat):jF (l.take k)=(jF l).take k:=by simp[kq,List.map_take]
theorem qm (e:Ex):∀σ,(cX e σ).out.length≤σ.out.length+wE e:=by
 induction e using Ex.ind with
 |h k n t ns ts xs ms p ih1 ih2=>
 intro σ;have hA:=fun σ=>D3 ms ih2 σ;have hV:=fun j σ=>yR (xs.take j) (fun e he=>ih1 e (List.mem_of_mem_take he)) σ;have hT:=fun j=>sK (eg xs) j;rw[sU,cX]
 have key:∀σ1:St,σ1.out.length≤σ.out.length+1+PV.cH (eg xs)→(bif k==13||k==18 then Ak ms σ1 else σ1).out.length≤σ.out.length+(t.size+8+PV.cH (ns.map bE)+PV.cH (lK ts)+PV.cH (eg xs)+PV.cH (jF ms)):=by
  intro σ1 h1;have:=hA σ1;rw[tK];cases k==13||k==18<;>simp<;>omega
 cases decide (dZ k n xs.length<0) with
 |true=>simp<;>omega
 |false=>
 simp only[cond_false]
 cases decide ((xs.length:Int)<dZ k n xs.length) with
 |true=>simp only[cond_true];rw[kO];have:=hV xs.length σ;have:=hT xs.length;rw[oN]at *;omega
 |false=>
 simp only[cond_false];refine key _ ?_
 cases k==5 with
 |true=>have:=J2 t σ;simp;omega
 |false=>
 cases k==6 with
 |true=>
  simp only[cond_false,cond_true]
  match xs,ih1 with
  | [],_=>simp[DZ];omega
  | [a],_=>simp[DZ];omega
  |a::b::r,ih1=>
   have h1:=ih1 a (by simp) σ;have h2:=ih1 b (by simp) ((cX a σ).inc [t]);rw[B4]at h2;rw[DZ,BK];simp only[eg,PV.cH];unfold wE at h1 h2;omega
 |false=>
 cases k==10 with
 |true=>
  simp only[cond_false,cond_true]
  match xs,ih1 with
  | [],_=>simp[Gr];omega
  |a::r,ih1=>
   have h1:=ih1 a (by simp) (σ.inc ns);rw[B4]at h1;rw[Gr,BK];simp only[eg,PV.cH];unfold wE at h1;omega
 |false=>simp only[cond_false];rw[kO];have:=hV (dZ k n xs.length).toNat σ;have:=hT (dZ k n xs.length).toNat;rw[oN]at *;omega
theorem Ik (e:Ex) (he:wE e≤1048640) (ih1:∀a∈e.args,uW a) (ih2:∀a∈e.dU,uW a.body):uW e:=by
 intro σ hσ;obtain⟨k0,n0,t0,ns0,ts0,as0,ms0,p0⟩:=e;have hl:=ue k0 n0 t0 ns0 ts0 as0 ms0 p0;have hwm:=sU k0 n0 t0 ns0 ts0 as0 ms0 p0;simp only[Ex.args,Ex.dU]at ih1 ih2;have hnd:=yV (Ex.mk k0 n0 t0 ns0 ts0 as0 ms0 p0);simp only[Ex.kind,Ex.num,Ex.args]at hnd;generalize hR:cX (Ex.mk k0 n0 t0 ns0 ts0 as0 ms0 p0) σ=R;rw[cX]at hR;have hT:=fun j=>sK (eg as0) j;have hV:=fun j σ=>yR (as0.take j) (fun e _=>qm e) σ
 have hcall:∀(j:Nat) (b:Ex) (σ':St),as0[j]?=some b→σ'.out.length≤σ.out.length+PV.cH (eg (as0.take j))→σ'.out.length+wE b≤2097152:=by
  intro j b σ' hb h;have h1:=sK (eg as0) (j+1);rw[←oN,cK hb,tS,PV.dY]at h1;simp only[eg,PV.cH]at h1;unfold wE at hσ hwm ⊢;omega
 generalize hnn:dZ k0 n0 as0.length=nd at hnd hR;refine av.intro (ah Tryz.prog) aC Tryz.func76 rfl (by rfl) (by kernel_rfl) (by show 2≤_;decide) rfl ?_;(conv=>whnf);refine jA hnd ?_;(conv=>whnf);refine aj ?_ ?_<;>intro h1<;>conv=>whnf
 ·rw[h1,cond_true]at hR
  subst hR;exact⟨.inl rfl,⟨.inl rfl,.inl rfl,.inl rfl,trivial⟩,s6,s6,trivial⟩
 rw[h1]at hR;simp only[cond_false]at hR;refine aj ?_ ?_<;>intro h2<;>conv=>whnf
 ·have h2':decide ((as0.length:Int)<nd)=true:=by rw[←cz as0];exact h2
  rw[h2',cond_true,kO,List.take_length]at hR
  refine bL (ah _) aC (by kernel_rfl) as0.length [0,3,23,24,25] [1000000000,1000000001,1000000002,3] (fun k (s:St)=>[.ptr 1000000000 0,.ptr 3 0,.p (.sl 8 (eg as0)),.p (.i .i64 (eg as0).length),.p (.i .i64 (ix k))])
   (fun k s=>[.cells [.p (.amp 29 0),.p (.amp 30 0),.so 1 (s.out.map bE)],.store 205 true 29 1 0 [(0,bX PV.b s.seen)],.store 206 true 30 1 0 [(0,bX vJ s.bound)],.cells [.p (.i .i64 k0),.p (.i .i64 n0),.p (.s t0),.p (.sl 1 (ns0.map bE)),.p (.sl 3 (lK ts0)),.p (.sl 8 (eg as0)),.p (.sl 12 (jF ms0)),.p (.i .i64 p0)]]) (fun k s=>s=fG (as0.take k) σ) σ ⟨rfl,rfl,rfl,rfl⟩ rfl ?_
  intro k s hk hs;(conv=>whnf);refine aj ?_ ?_<;>intro h3<;>conv=>whnf
  ·have hk1:=cm h3 (by rw[cz]) hk (by omega)
   obtain⟨b,hb1⟩:∃b,as0[k]?=some b:=⟨as0[k],by simp[hk1]⟩
   refine bO (nQ hb1) (by omega) ?_;have hc:=ih1 b (List.mem_of_getElem? hb1) s (hcall k b s hb1 (by rw[hs];exact hV k σ));have hts:fG (as0.take (k+1)) σ=cX b s:=by rw[cK hb1,vA,hs]
   generalize cX b s=s' at hc hts;obtain⟨b1,b2,b3,b4,b5,b6,b7,b8⟩:=b;(conv=>whnf);refine bh [1000000000,1000000001,1000000002] 10000 hc ?_;(conv=>whnf);exact⟨hk1,s',⟨rfl,rfl,rfl,rfl⟩,hts.symm⟩
  ·have hk1:=cq h3 (by rw[cz]) hk (by omega)
   have hs2:fG as0 σ=s:=by rw[hs,hk1,List.take_length]
   rw[hs2]at hR;subst hR;exact⟨.inl rfl,⟨.inl rfl,.inl rfl,.inl rfl,trivial⟩,s6,s6,trivial⟩
 have h2':decide ((as0.length:Int)<nd)=false:=by rw[←cz as0];exact h2
 have hnl:nd≤as0.length:=by have:=of_decide_eq_false h2';omega
 have hn0:0≤nd:=by have:=of_decide_eq_false h1;omega
 rw[h2']at hR;simp only[cond_false]at hR;refine aj ?_ ?_<;>intro h3<;>conv=>whnf
 ·have h3:(k0==5)=true:=h3
  obtain rfl:k0=5:=by simpa using h3
  rw[show((5:Int)==5)=true from rfl,show((5:Int)==13||(5:Int)==18)=false from rfl]at hR;simp only[cond_false,cond_true]at hR;rw[Lz]at hR;refine ag ⟨rfl,rfl⟩ ?_;refine⟨jB vJ σ.bound,rfl,?_⟩;refine⟨_,_,EM t0 σ.bound,?_⟩;(conv=>whnf);refine aj ?_ ?_<;>intro g1<;>conv=>whnf
  ·have g1:((bq t0 σ.bound).getD 0==0)=true:=g1
   refine ag ⟨rfl,rfl⟩ ?_;refine⟨jB PV.b σ.seen,rfl,?_⟩;refine⟨_,_,NQ t0 σ.seen,?_⟩;(conv=>whnf)
   first|refine ag (.inl (by kernel_rfl)) ?_|refine ag (by kernel_rfl) ?_
   (conv=>whnf);refine aj ?_ ?_<;>intro g2<;>conv=>whnf
   ·have g2:(!((bq t0 σ.seen).getD false))=true:=g2
    rw[g1,g2,Bool.and_self,cond_true]at hR;subst hR;refine ag ⟨rfl,rfl⟩ ?_;refine⟨jB PV.b σ.seen,rfl,?_⟩;(conv=>whnf)
    first|refine ag (.inl (by kernel_rfl)) ?_|refine ag (by kernel_rfl) ?_
    (conv=>whnf);refine ag (show((σ.out.map bE).length+1)*16≤140737488355328 by simp;omega) ?_;(conv=>whnf)
    first|refine ag (.inl (by kernel_rfl)) ?_|refine ag (by kernel_rfl) ?_
    (conv=>whnf);refine⟨.inl rfl,⟨.inl rfl,.inl rfl,.inl ?_,trivial⟩,⟨rfl,rfl,rfl,rfl,rfl,?_⟩,s6,trivial⟩
    ·simp only[List.map_append];rfl
    ·exact congrArg (fun q=>[(0,q)]) (Ju PV.b t0 true σ.seen).symm
   ·have g2:(!((bq t0 σ.seen).getD false))=false:=g2
    rw[g1,g2,Bool.and_false,cond_false]at hR;subst hR;exact⟨.inl rfl,⟨.inl rfl,.inl rfl,.inl rfl,trivial⟩,s6,s6,trivial⟩
  ·have g1:((bq t0 σ.bound).getD 0==0)=false:=g1
   rw[g1,Bool.false_and,cond_false]at hR;subst hR
   first|refine ag (.inl (by kernel_rfl)) ?_|refine ag (by kernel_rfl) ?_
   (conv=>whnf);exact⟨.inl rfl,⟨.inl rfl,.inl rfl,.inl rfl,trivial⟩,s6,s6,trivial⟩
 have h3:(k0==5)=false:=h3;rw[h3]at hR;simp only[cond_false]at hR;refine aj ?_ ?_<;>intro h4<;>conv=>whnf
 ·have h4:(k0==6)=true:=h4
  obtain rfl:k0=6:=by simpa using h4
  rw[show((6:Int)==6)=true from rfl,show((6:Int)==13||(6:Int)==18)=false from rfl]at hR;simp only[cond_false,cond_true]at hR;obtain rfl:nd=2:=by rw[←hnn];rfl
  match as0,hnl with
  | [],hnl=>simp at hnl
  | [a],hnl=>simp at hnl
  |a::b::r,_=>
   rw[DZ]at hR;refine au (i:=0) (x:=eE a) rfl ?_;have hwa:=mg (k:=6) (n:=n0) (t:=t0) (ns:=ns0) (ts:=ts0) (ms:=ms0) (p:=p0) (show a∈a::b::r by simp);have hwb:=mg (k:=6) (n:=n0) (t:=t0) (ns:=ns0) (ts:=ts0) (ms:=ms0) (p:=p0) (show b∈a::b::r by simp);have g7:=ih1 a (by simp) σ (by omega);have ho:=qm a σ;simp only[eg,PV.cH]at hwm;have g8:=sY [t0] b (by simp) (ih1 b (by simp)) (cX a σ) (by unfold wE at hwm ho hσ ⊢;omega);rw[iq]at g8;generalize cX a σ=σ1 at g7 g8 hR;rw[hR]at g8;obtain⟨a1,a2,a3,a4,a5,a6,a7,a8⟩:=a;(conv=>whnf);refine bh [1000000000,1000000001,1000000002] 10000 g7 ?_;(conv=>whnf);refine au (i:=1) (x:=eE b) rfl ?_;obtain⟨b1,b2,b3,b4,b5,b6,b7,b8⟩:=b;(conv=>whnf);refine bh [1000000000,1000000001,1000000002] 10000 g8 ?_;(conv=>whnf)
   first|refine ag (.inl (by kernel_rfl)) ?_|refine ag (by kernel_rfl) ?_
   (conv=>whnf);exact⟨.inl rfl,⟨.inl rfl,.inl rfl,.inl rfl,trivial⟩,s6,s6,trivial⟩
 have h4:(k0==6)=false:=h4;rw[h4]at hR;simp only[cond_false]at hR;refine aj ?_ ?_<;>intro h5<;>conv=>whnf
 ·have h5:(k0==10)=true:=h5
  obtain rfl:k0=10:=by simpa using h5
  rw[show((10:Int)==10)=true from rfl,show((10:Int)==13||(10:Int)==18)=false from rfl]at hR;simp only[cond_false,cond_true]at hR;obtain rfl:nd=1:=by rw[←hnn];rfl
  match as0,hnl with
  | [],hnl=>simp at hnl
  |a::r,_=>
   rw[Gr]at hR;refine au (i:=0) (x:=eE a) rfl ?_;have hwa:=mg (k:=10) (n:=n0) (t:=t0) (ns:=ns0) (ts:=ts0) (ms:=ms0) (p:=p0) (show a∈a::r by simp);have g7:=sY ns0 a (by omega) (ih1 a (by simp)) σ (by omega);rw[iq,hR]at g7;obtain⟨a1,a2,a3,a4,a5,a6,a7,a8⟩:=a;(conv=>whnf);refine bh [1000000000,1000000001,1000000002] 10000 g7 ?_;(conv=>whnf)
   first|refine ag (.inl (by kernel_rfl)) ?_|refine ag (by kernel_rfl) ?_
   (conv=>whnf);exact⟨.inl rfl,⟨.inl rfl,.inl rfl,.inl rfl,trivial⟩,s6,s6,trivial⟩
 have h5:(k0==10)=false:=h5;rw[h5]at hR;simp only[cond_false]at hR;rw[kO]at hR;have hnl2:(as0.take nd.toNat).length=nd.toNat:=by simp;omega
 refine ag ⟨by omega,by omega,by rw[cz];omega⟩ ?_;(conv=>whnf)
 refine bL (ah _) aC (by kernel_rfl) (as0.take nd.toNat).length [0,3,38,39,40] [1000000000,1000000001,1000000002,3] (fun k (s:St)=>[.ptr 1000000000 0,.ptr 3 0,.p (.sl 8 (eg (as0.take nd.toNat))),.p (.i .i64 (eg (as0.take nd.toNat)).length),.p (.i .i64 (ix k))])
  (fun k s=>[.cells [.p (.amp 29 0),.p (.amp 30 0),.so 1 (s.out.map bE)],.store 205 true 29 1 0 [(0,bX PV.b s.seen)],.store 206 true 30 1 0 [(0,bX vJ s.bound)],.cells [.p (.i .i64 k0),.p (.i .i64 n0),.p (.s t0),.p (.sl 1 (ns0.map bE)),.p (.sl 3 (lK ts0)),.p (.sl 8 (eg as0)),.p (.sl 12 (jF ms0)),.p (.i .i64 p0)]]) (fun k s=>s=fG ((as0.take nd.toNat).take k) σ) σ ⟨rfl,by rw[oN];rfl,rfl,rfl⟩ rfl ?_
 intro k s hk hs;(conv=>whnf);refine aj ?_ ?_<;>intro h6<;>conv=>whnf
 ·have hk1:=cm h6 (by rw[cz]) hk (by omega)
  obtain⟨b,hb1⟩:∃b,(as0.take nd.toNat)[k]?=some b:=⟨_,List.getElem?_eq_getElem hk1⟩
  refine bO (nQ hb1) (by omega) ?_;have hb2:as0[k]?=some b:=by rw[List.getElem?_take]at hb1;split at hb1;exact hb1;cases hb1
  have hkt:(as0.take nd.toNat).take k=as0.take k:=by rw[List.take_take,Nat.min_eq_left (by omega)]
  have hc:=ih1 b (List.mem_of_getElem? hb2) s (hcall k b s hb2 (by rw[hs,hkt];exact hV k σ));have hts:fG ((as0.take nd.toNat).take (k+1)) σ=cX b s:=by rw[cK hb1,vA,hs]
  generalize cX b s=s' at hc hts;obtain⟨b1,b2,b3,b4,b5,b6,b7,b8⟩:=b;(conv=>whnf);refine bh [1000000000,1000000001,1000000002] 10000 hc ?_;(conv=>whnf);exact⟨hk1,s',⟨rfl,rfl,rfl,rfl⟩,hts.symm⟩
 ·have hk1:=cq h6 (by rw[cz]) hk (by omega)
  have hs2:fG (as0.take nd.toNat) σ=s:=by rw[hs,hk1,List.take_length]
  rw[hs2]at hR
  have hsl:s.out.length≤σ.out.length+PV.cH (eg as0):=by
   have h1:=hV nd.toNat σ;have h2:=hT nd.toNat;rw[hs2,oN]at h1;omega
  have hso:=fun j=>D3 (ms0.take j) (fun a _=>qm a.body) s
  have harm:∀(j:Nat) (b:eU) (σ':St),ms0[j]?=some b→σ'.out.length≤s.out.length+PV.cH (jF (ms0.take j))→σ'.out.length+wE b.body≤2097152:=by
   intro j b σ' hb h;have h1:=sK (jF ms0) (j+1);rw[←KI,cK hb,Lp,PV.dY]at h1;simp only[jF,PV.cH]at h1;have h2:=Bu b;unfold wA at h2;omega
  refine aj ?_ ?_<;>intro h7<;>conv=>whnf
  ·have h7:(k0==13)=true:=h7
   rw[h7,Bool.true_or,cond_true,tK]at hR
   refine bL (ah _) aC (by kernel_rfl) ms0.length [0,3,121,122,123] [1000000000,1000000001,1000000002,3] (fun k (s:St)=>[.ptr 1000000000 0,.ptr 3 0,.p (.sl 12 (jF ms0)),.p (.i .i64 (jF ms0).length),.p (.i .i64 (ix k))])
    (fun k s=>[.cells [.p (.amp 29 0),.p (.amp 30 0),.so 1 (s.out.map bE)],.store 205 true 29 1 0 [(0,bX PV.b s.seen)],.store 206 true 30 1 0 [(0,bX vJ s.bound)],.cells [.p (.i .i64 k0),.p (.i .i64 n0),.p (.s t0),.p (.sl 1 (ns0.map bE)),.p (.sl 3 (lK ts0)),.p (.sl 8 (eg as0)),.p (.sl 12 (jF ms0)),.p (.i .i64 p0)]]) (fun k s'=>s'=qF (ms0.take k) s) s ⟨rfl,rfl,rfl,rfl⟩ rfl ?_
   intro j s3 hj hs3;(conv=>whnf);refine aj ?_ ?_<;>intro h9<;>conv=>whnf
   ·have hj1:=cm h9 (by rw[iJ]) hj (by omega)
    obtain⟨b,hb1⟩:∃b,ms0[j]?=some b:=⟨ms0[j],by simp[hj1]⟩
    refine bO (s9 hb1) (by omega) ?_;have hbw:=nV (k:=k0) (n:=n0) (t:=t0) (ns:=ns0) (ts:=ts0) (xs:=as0) (p:=p0) (List.mem_of_getElem? hb1);have hbb:=yd b.pat;have hbs:=xA b.pat (by omega);have hc:=sY (dV b.pat) b.body (by omega) (ih2 b (List.mem_of_getElem? hb1)) s3 (harm j b s3 hb1 (by rw[hs3];exact hso j));have hts:qF (ms0.take (j+1)) s=iq (dV b.pat) b.body s3:=by rw[cK hb1,Av,hs3]
    generalize iq (dV b.pat) b.body s3=s' at hc hts;generalize dV b.pat=bp at hbs hc hbb;obtain⟨⟨ck,cn,ct,ca⟩,⟨c1,c2,c3,c4,c5,c6,c7,c8⟩⟩:=b;(conv=>whnf);refine jA hbs ?_;(conv=>whnf);refine bh [1000000000,1000000001,1000000002] 10000 hc ?_;(conv=>whnf)
    first|refine ag (.inl (by kernel_rfl)) ?_|refine ag (by kernel_rfl) ?_
    (conv=>whnf);exact⟨hj1,s',⟨rfl,rfl,rfl,rfl⟩,hts.symm⟩
   ·have hj1:=cq h9 (by rw[iJ]) hj (by omega)
    have hs4:qF ms0 s=s3:=by rw[hs3,hj1,List.take_length]
    rw[hs4]at hR;subst hR;exact⟨.inl rfl,⟨.inl rfl,.inl rfl,.inl rfl,trivial⟩,s6,s6,trivial⟩
  ·have h7:(k0==13)=false:=h7
   rw[h7,Bool.false_or]at hR;refine aj ?_ ?_<;>intro h8<;>conv=>whnf
   ·have h8:(k0==18)=true:=h8
    rw[h8,cond_true,tK]at hR
    refine bL (ah _) aC (by kernel_rfl) ms0.length [0,3,121,122,123] [1000000000,1000000001,1000000002,3] (fun k (s:St)=>[.ptr 1000000000 0,.ptr 3 0,.p (.sl 12 (jF ms0)),.p (.i .i64 (jF ms0).length),.p (.i .i64 (ix k))])
     (fun k s=>[.cells [.p (.amp 29 0),.p (.amp 30 0),.so 1 (s.out.map bE)],.store 205 true 29 1 0 [(0,bX PV.b s.seen)],.store 206 true 30 1 0 [(0,bX vJ s.bound)],.cells [.p (.i .i64 k0),.p (.i .i64 n0),.p (.s t0),.p (.sl 1 (ns0.map bE)),.p (.sl 3 (lK ts0)),.p (.sl 8 (eg as0)),.p (.sl 12 (jF ms0)),.p (.i .i64 p0)]]) (fun k s'=>s'=qF (ms0.take k) s) s ⟨rfl,rfl,rfl,rfl⟩ rfl ?_
    intro j s3 hj hs3;(conv=>whnf);refine aj ?_ ?_<;>intro h9<;>conv=>whnf
    ·have hj1:=cm h9 (by rw[iJ]) hj (by omega)
     obtain⟨b,hb1⟩:∃b,ms0[j]?=some b:=⟨ms0[j],by simp[hj1]⟩
     refine bO (s9 hb1) (by omega) ?_;have hbw:=nV (k:=k0) (n:=n0) (t:=t0) (ns:=ns0) (ts:=ts0) (xs:=as0) (p:=p0) (List.mem_of_getElem? hb1);have hbb:=yd b.pat;have hbs:=xA b.pat (by omega);have hc:=sY (dV b.pat) b.body (by omega) (ih2 b (List.mem_of_getElem? hb1)) s3 (harm j b s3 hb1 (by rw[hs3];exact hso j));have hts:qF (ms0.take (j+1)) s=iq (dV b.pat) b.body s3:=by rw[cK hb1,Av,hs3]
     generalize iq (dV b.pat) b.body s3=s' at hc hts;generalize dV b.pat=bp at hbs hc hbb;obtain⟨⟨ck,cn,ct,ca⟩,⟨c1,c2,c3,c4,c5,c6,c7,c8⟩⟩:=b;(conv=>whnf);refine jA hbs ?_;(conv=>whnf);refine bh [1000000000,1000000001,1000000002] 10000 hc ?_;(conv=>whnf)
     first|refine ag (.inl (by kernel_rfl)) ?_|refine ag (by kernel_rfl) ?_
     (conv=>whnf);exact⟨hj1,s',⟨rfl,rfl,rfl,rfl⟩,hts.symm⟩
    ·have hj1:=cq h9 (by rw[iJ]) hj (by omega)
     have hs4:qF ms0 s=s3:=by rw[hs3,hj1,List.take_length]
     rw[hs4]at hR;subst hR;exact⟨.inl rfl,⟨.inl rfl,.inl rfl,.inl rfl,trivial⟩,s6,s6,trivial⟩
   ·have h8:(k0==18)=false:=h8
    rw[h8,cond_false]at hR;subst hR;exact⟨.inl rfl,⟨.inl rfl,.inl rfl,.inl rfl,trivial⟩,s6,s6,trivial⟩
theorem Et (e:Ex):wE e≤1048640→uW e:=
 Ex.ind (Q:=fun e=>wE e≤1048640→uW e) (fun k n t ns ts xs ms p h1 h2 h=>Ik (.mk k n t ns ts xs ms p) h (fun a ha=>h1 a ha (by have:=mg (k:=k) (n:=n) (t:=t) (ns:=ns) (ts:=ts) (ms:=ms) (p:=p) (show a∈xs from ha);omega))
  (fun a ha=>h2 a ha (by have:=nV (k:=k) (n:=n) (t:=t) (ns:=ns) (ts:=ts) (xs:=xs) (p:=p) (show a∈ms from ha);omega))) e
end TR
end
section
open Go Go.AM Go.Proofs
set_option maxRecDepth 100000
namespace TR
open MN (bq jB bX bQ s6)
theorem PT {P:Program} {f:Nat} {args:List AV} {h hs0 hs h':Heap} {r:AV} {K:List Nat→Heap→AV→Prop} (R:List Nat) (B:Nat) (s:av P f (AV.oQ (fR R 0) args) hs r h') (hk:K R (dR R B h') (r.wv (ef R B))) (hl:BT hs0 hs)
 (h2:oC h (fR R 0) (bB R) R 0=some hs0:=by rfl) (h1:(AV.dB (bB R) args&&nodupB R)=true:=by rfl) (h3:(nodupB (aO h')&&ox h B R.length (aO h')&&kB (aO h') R.length)=true:=by rfl):dj P f args h K:=
 .mem R B hs0 r h' h1 h2 (s.le hl) h3 hk
noncomputable def PS:Nat→Option TI:=hint (hint (jQ Tryz.prog) 205 [1000004]) 206 [1000005]
theorem LF:bz Tryz.prog PS:=((ah Tryz.prog).hint _ _).hint _ _
def ng (e:Ex):List ByteArray:=(cX e ⟨[],[],[]⟩).out
def PR (n:Nat) (M:List (Nat×List PV)):br:=.store 205 true 29 n 0 M
def P6 (n:Nat) (M:List (Nat×List PV)):br:=.store 206 true 30 n 0 M
theorem rU:∀l:List ByteArray,aU (l.map bE)=true
 | []=>rfl
 |_::r=>rU r
theorem jw {α:Type} (f:α→PV):∀l:List α,(∀a∈l,bA (f a)=true)→aU (l.map f)=true
 | [],_=>rfl
 |a::r,h=>by rw[List.map_cons,aU,h a (by simp),jw f r fun x hx=>h x (by simp[hx])];rfl
theorem Kx (t:Ty):bA (eT t)=true:=by
 induction t using Ty.ind with
 |h k n xs ih=>simp[eT,bA,aU,kC,jw eT xs ih]
theorem IG (t:Pt):bA (eP t)=true:=by
 induction t using Pt.ind with
 |h k n t xs ih=>simp[eP,bA,aU,mq,jw eP xs ih]
theorem sn (e:Ex):bA (eE e)=true:=by
 induction e using Ex.ind with
 |h k n t ns ts xs ms p ih1 ih2=>
  have h3:=jw eA ms fun a ha=>by
   have h4:=ih2 a ha;have h5:=IG a.pat;obtain⟨⟨p1,p2,p3,p4⟩,⟨e1,e2,e3,e4,e5,e6,e7,e8⟩⟩:=a;simp only[eP,eE,bA,aU,eU.pat,eU.body]at h4 h5;simp[eA,eP,eE,PV.cells,bA,aU]at h4 h5 ⊢;simp[h4,h5]
  simp[eE,bA,aU,iI,kq,kC,jw eE xs ih1,jw eT ts fun a _=>Kx a,rU,h3]
theorem free_spec (e:Ex) (he:wE e≤1048640):av Tryz.prog 46 [.p (eE e)] [] (.p (.sl 1 ((ng e).map bE))) []:=by
 have h1:=Et e he ⟨[],[],[]⟩ (by simp;omega);have hpl:=sn e
 have h2:av Tryz.prog 46 [.p (eE e)] ([]++[(1000000000,PR 0 []),(1000000001,P6 0 [])]) (.p (.sl 1 ((ng e).map bE))) ([]++[(1000000000,PR 1 [(0,bX PV.b (cX e ⟨[],[],[]⟩).seen)]),(1000000001,P6 1 [(0,bX vJ (cX e ⟨[],[],[]⟩).bound)])]):=by
  rw[ng];generalize cX e ⟨[],[],[]⟩=σ at h1;obtain⟨k0,n0,t0,ns0,ts0,as0,ms0,p0⟩:=e;unfold PR P6;refine av.intro LF aC Tryz.func46 rfl (by rfl) (by kernel_rfl) (by show 1≤_;decide) rfl ?_;(conv=>whnf);refine PT [3,1000000000,1000000001] 10000 h1 ?_ ?_
  ·conv=>whnf
   exact⟨.inr rfl,s6,s6,trivial⟩
  ·exact⟨rfl,⟨.inl rfl,.inl rfl,.inr (.inr ⟨rfl,0,rfl⟩),trivial⟩,rfl,s6,rfl,s6,trivial⟩
 exact av.MK h2 (by simp[uU,hpl]) rfl rfl (rU _)
end TR
end
section
open Go Go.AM Go.Proofs
set_option maxRecDepth 100000
end
section
open Go Go.AM
set_option maxRecDepth 100000
namespace TR
structure NJ where
 name:ByteArray
 low:Int
 high:Int
structure Oa where
 name:ByteArray
 ts:List Ty
structure Oh where
 name:ByteArray
 ps:List ByteArray
 makes:List Oa
structure zU where
 name:ByteArray
 ps:List ByteArray
 ns:List ByteArray
 ts:List Ty
 out:Ty
 body:Ex
structure OC where
 name:ByteArray
 funcs:List zU
structure w6 where
 tr:ByteArray
 fo:ByteArray
 funcs:List zU
structure JS where
 name:ByteArray
 ns:List ByteArray
 ts:List Ty
 msg:Ty
 body:Ex
structure oH where
 name:ByteArray
 ver:Int
 uses:List NJ
 datas:List Oh
 traits:List OC
 impls:List w6
 funcs:List zU
 actors:List JS
def ko (u:NJ):PV:=.agg [.s u.name,.i .i64 u.low,.i .i64 u.high]
def uJ (m:Oa):PV:=.agg [.s m.name,.sl 3 (lK m.ts)]
def kg (m:Oh):PV:=.agg [.s m.name,.sl 1 (m.ps.map bE),.sl 2 (m.makes.map uJ)]
def cY (f:zU):PV:=.agg (.s f.name::.sl 1 (f.ps.map bE)::.sl 1 (f.ns.map bE)::.sl 3 (lK f.ts)::((eT f.out).cells++(eE f.body).cells))
def kj (m:OC):PV:=.agg [.s m.name,.sl 15 (m.funcs.map cY)]
def hY (m:w6):PV:=.agg [.s m.tr,.s m.fo,.sl 15 (m.funcs.map cY)]
def gM (f:JS):PV:=.agg (.s f.name::.sl 1 (f.ns.map bE)::.sl 3 (lK f.ts)::((eT f.msg).cells++(eE f.body).cells))
def kW (p:oH):PV:=.agg [.s p.name,.i .i64 p.ver,.sl 3 (p.uses.map ko),.sl 3 (p.datas.map kg),.sl 2 (p.traits.map kj),.sl 3 (p.impls.map hY),.sl 15 (p.funcs.map cY),.sl 14 (p.actors.map gM)]
def IE (f:zU):Nat:=PV.wt (cY f)
theorem wg (f:zU):IE f=f.name.size+1+(PV.cH (f.ps.map bE)+1)+(PV.cH (f.ns.map bE)+1)+(PV.cH (lK f.ts)+1)+wT f.out+wE f.body:=by
 simp only[IE,cY,PV.wt,PV.cH,PV.dY,x9];unfold wT wE;omega
theorem wM (f:JS):PV.wt (gM f)=f.name.size+1+(PV.cH (f.ns.map bE)+1)+(PV.cH (lK f.ts)+1)+wT f.msg+wE f.body:=by
 simp only[gM,PV.wt,PV.cH,PV.dY,x9];unfold wT wE;omega
theorem LL (m:Oa):PV.wt (uJ m)=m.name.size+1+(PV.cH (lK m.ts)+1):=by
 simp only[uJ,PV.wt,PV.cH]<;>try omega
theorem GK (m:Oh):PV.wt (kg m)=m.name.size+1+(PV.cH (m.ps.map bE)+1)+(PV.cH (m.makes.map uJ)+1):=by
 simp only[kg,PV.wt,PV.cH]<;>try omega
theorem G8 (m:OC):PV.wt (kj m)=m.name.size+1+(PV.cH (m.funcs.map cY)+1):=by
 simp only[kj,PV.wt,PV.cH]<;>try omega
theorem wz (m:w6):PV.wt (hY m)=m.tr.size+1+(m.fo.size+1)+(PV.cH (m.funcs.map cY)+1):=by
 simp only[hY,PV.wt,PV.cH]<;>try omega
def uY (p:oH):Nat:=PV.wt (kW p)
theorem qv (p:oH):uY p=p.name.size+1+1+(PV.cH (p.uses.map ko)+1)+(PV.cH (p.datas.map kg)+1)+(PV.cH (p.traits.map kj)+1)+(PV.cH (p.impls.map hY)+1)+(PV.cH (p.funcs.map cY)+1)+(PV.cH (p.actors.map gM)+1):=by
 simp only[uY,kW,PV.wt,PV.cH]<;>try omega
theorem qN {α:Type} (f:α→PV) (h:∀x,1≤PV.wt (f x)):∀(l:List α),l.length≤PV.cH (l.map f)
 | []=>by simp
 |x::r=>by have:=h x;have:=qN f h r;simp only[List.map_cons,PV.cH,List.length_cons];omega
theorem tv {α:Type} (f:α→PV) {x:α} {l:List α} (h:x∈l):PV.wt (f x)≤PV.cH (l.map f):=tO (List.mem_map.2 ⟨x,h,rfl⟩)
end TR
end
section
open Go Go.AM Go.Proofs TK
set_option maxRecDepth 100000
namespace MN
structure Ns where
 n:bf Nd
 a:bf (List Nat)
 b:bf (List Ar)
 fu:Option (Nat×Nat)
def rM:Option (Nat×Nat)→Option (Nat×Nat)→Bool
 |none,none=>true
 |some p,some q=>Nat.beq p.1 q.1&&Nat.beq p.2 q.2
 |_,_=>false
theorem AB {x y:Option (Nat×Nat)} (h:rM x y=true):x=y:=by
 rcases x with _|⟨a,b⟩<;>rcases y with _|⟨c,d⟩
 ·rfl
 ·cases h
 ·cases h
 ·have h:(Nat.beq a c&&Nat.beq b d)=true:=h
  rw[Bool.and_eq_true]at h;rw[Nat.eq_of_beq_eq_true h.1,Nat.eq_of_beq_eq_true h.2]
def mP {α:Type} (z:bf (List α)) (q:Option (Nat×Nat)) (c:α):Option (bf (List α)×(Nat×Nat)):=match q with
 |none=>some ((z.1+1,(z.1,[c])::z.2),(z.1,1))
 |some q=>match aK q.1 z.2 with
  |none=>none
  |some l=>match Nat.ble q.2 l.length&&Nat.ble q.2 2000000 with
   |false=>none
   |true=>some ((z.1+1,(z.1,l.take q.2++[c])::gW q.1 z.2),(z.1,q.2+1))
def rz (g:TR.Ex→Ns→Option (Ns×Nat)) (k:Nat):List TR.Ex→Ns→Option Ns
 | [],z=>some z
 |e::r,z=>match aK k z.n.2 with
  |none=>none
  |some n0=>match g e z with
   |none=>none
   |some (z2,c)=>match aK k z2.n.2 with
    |none=>none
    |some n1=>match rM n0.args n1.args with
     |false=>none
     |true=>match mP z2.a n0.args c with
      |none=>none
      |some (a3,q)=>rz g k r ⟨(z2.n.1,aW k { n1 with args:=some q } z2.n.2),a3,z2.b,z2.fu⟩
def qS (g:TR.Ex→Ns→Option (Ns×Nat)) (k:Nat):List TR.eU→Ns→Option Ns
 | [],z=>some z
 |x::r,z=>match aK k z.n.2 with
  |none=>none
  |some n0=>match g x.body z with
   |none=>none
   |some (z2,c)=>match aK k z2.n.2 with
    |none=>none
    |some n1=>match rM n0.dU n1.dU&&Nat.ble (TR.wP x.pat) 1048576 with
     |false=>none
     |true=>match mP z2.b n0.dU ⟨x.pat,c⟩ with
      |none=>none
      |some (b3,q)=>qS g k r ⟨(z2.n.1,aW k { n1 with dU:=some q } z2.n.2),z2.a,b3,z2.fu⟩
def tq (e:TR.Ex):Nd:=⟨e.kind,e.num,e.text,e.names,none,none,TR.dZ e.kind e.num e.args.length,0,[]⟩
def KU (e:TR.Ex) (k:Nat) (z:Ns):Option Ns:=match (e.kind==10)&&!(Nat.beq e.args.length 0) with
 |false=>some z
 |true=>match Nat.ble (TR.wE e) 1048640 with
  |false=>none
  |true=>match mP z.a z.fu k with
   |none=>none
   |some (a2,q)=>some ⟨(z.n.1,aW k { tq e with fn:=(gA z.fu:Int),free:=TR.ng e } z.n.2),a2,z.b,some q⟩
def iR:Nat→TR.Ex→Ns→Option (Ns×Nat)
 |0,_,_=>none
 |n+1,e,z=>match Nat.ble e.args.length 2000000&&(Nat.ble e.dU.length 2000000&&Nat.ble e.names.length 2000000) with
  |false=>none
  |true=>match KU e z.n.1 ⟨(z.n.1+1,(z.n.1,tq e)::z.n.2),z.a,z.b,z.fu⟩ with
   |none=>none
   |some z1=>match rz (iR n) z.n.1 e.args z1 with
    |none=>none
    |some z2=>match qS (iR n) z.n.1 e.dU z2 with
     |none=>none
     |some z3=>some (z3,z.n.1)
def firstT {α:Type} (es:TM α) (k:ByteArray) (v:α):TM α:=match bq k es with
 |some _=>es
 |none=>es++[(k,v)]
def ux (d:ByteArray):List TR.Oa→TM Cn→TM Cn
 | [],es=>es
 |x::r,es=>ux d r (firstT es x.name ⟨d,x.ts.length⟩)
def mI:List TR.Oh→TM Cn→TM Cn
 | [],es=>es
 |d::r,es=>mI r (ux d.name d.makes es)
def uC (t:ByteArray):List TR.zU→TM ByteArray→TM ByteArray
 | [],es=>es
 |f::r,es=>uC t r (firstT es f.name t)
def jD:List TR.OC→TM ByteArray→TM ByteArray
 | [],es=>es
 |t::r,es=>jD r (uC t.name t.funcs es)
def HH (f:TR.zU) (z:Ns):Option (Ns×Fn):=match Nat.ble f.ns.length 2000000 with
 |false=>none
 |true=>match iR (TR.wE f.body) f.body z with
  |none=>none
  |some (z2,k)=>some (z2,⟨f.ns,k⟩)
def Pc (f:TR.JS) (z:Ns):Option (Ns×Fn):=match Nat.ble f.ns.length 2000000 with
 |false=>none
 |true=>match iR (TR.wE f.body) f.body z with
  |none=>none
  |some (z2,k)=>some (z2,⟨f.ns,k⟩)
def mX:List TR.zU→Ns→TM Fn→Option (Ns×TM Fn)
 | [],z,es=>some (z,es)
 |f::r,z,es=>match HH f z with
  |none=>none
  |some (z2,x)=>mX r z2 (firstT es f.name x)
def lX:List TR.JS→Ns→TM Fn→Option (Ns×TM Fn)
 | [],z,es=>some (z,es)
 |f::r,z,es=>match Pc f z with
  |none=>none
  |some (z2,x)=>lX r z2 (firstT es f.name x)
def pH:List TR.w6→Ns→bf (TM Fn)→bf (List Im)→Option (Nat×Nat)→Option (Ns×bf (TM Fn)×bf (List Im)×Option (Nat×Nat))
 | [],z,m,i,q=>some (z,m,i,q)
 |x::r,z,m,i,q=>match mX x.funcs z [] with
  |none=>none
  |some (z2,es)=>match mP i q ⟨x.tr,x.fo,m.1⟩ with
   |none=>none
   |some (i2,q2)=>pH r z2 (m.1+1,(m.1,es)::m.2) i2 (some q2)
def Ia (p:TR.oH):Bool:=Nat.ble p.datas.length 2000000&&(p.datas.all (fun d=>Nat.ble d.makes.length 2000000)&&(Nat.ble p.traits.length 2000000&&(p.traits.all (fun t=>Nat.ble t.funcs.length 2000000)&&(Nat.ble p.impls.length 2000000&&(p.impls.all (fun t=>Nat.ble t.funcs.length 2000000)&&(Nat.ble p.funcs.length 2000000&&Nat.ble p.actors.length 2000000))))))
def kS (K:Ks) (z:Ns) (mk:Mk) (cs:TM Cn) (mf:bf (TM Fn)) (ts:TM ByteArray) (im:bf (List Im)) (acs:TM Fn):Ks:=
 ⟨z.n,z.a,z.b,(K.mm.1+1,(K.mm.1,mk)::K.mm.2),(K.mc.1+1,(K.mc.1,cs)::K.mc.2),mf,(K.mt.1+1,(K.mt.1,ts)::K.mt.2),im,(K.ma.1+1,(K.ma.1,acs)::K.ma.2)⟩
def wU (K:Ks) (fu q:Option (Nat×Nat)):Mk:=⟨fu,K.mc.1,K.mf.1,K.mt.1,q,K.ma.1⟩
def newF (p:TR.oH) (K:Ks):Option Ks:=match Ia p with
 |false=>none
 |true=>match pH p.impls ⟨K.n,K.a,K.b,none⟩ (K.mf.1+1,(K.mf.1,[])::K.mf.2) K.im none with
  |none=>none
  |some (z1,mf1,im1,q)=>match aK K.mf.1 mf1.2 with
   |none=>none
   |some es0=>match mX p.funcs z1 es0 with
    |none=>none
    |some (z2,fs)=>match lX p.actors z2 [] with
     |none=>none
     |some (z3,acs)=>some (kS K z3 (wU K z3.fu q) (mI p.datas []) (mf1.1,aW K.mf.1 fs mf1.2) (jD p.traits []) im1 acs)
end MN
end
section
open Go Go.AM Go.Proofs
set_option maxRecDepth 100000
end
