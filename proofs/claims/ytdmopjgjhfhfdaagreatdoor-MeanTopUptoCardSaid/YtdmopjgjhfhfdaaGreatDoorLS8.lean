/- Contracts, and the law, for every input. No conditions. -/
import Derived.Test.YtdmopjgjhfhfdaaGreatDoorSZ1
import Derived.Tactics
import Derived.Tactics2
import Derived.Defers
import Derived.Recover
import Derived.Lib.ParseIntB
import Derived.Shelf.Strconv.Itoa3
import Derived.Lib.ItoaLen
import Derived.Shelf.LaysC
import Derived.Ground.NamesProg
import Derived.Shelf.Strconv.ParseIntPublic10
set_option linter.all false
set_option maxRecDepth 100000
section
open Go Go.AM Go.Proofs
namespace TR
structure Rw where
 nx:Nat
 k:Nat
 l:List Ex
 n:Nat
def Rw.push (s:Rw) (x:Ex):Rw:=⟨s.nx+1,s.nx,s.l.take s.n++[x],s.n+1⟩
def Rw.row (s:Rw):List Ex:=s.l.take s.n
def Rw.ok (s:Rw):Prop:=s.n<=s.l.length
theorem Rw.M1 (s:Rw) (x:Ex) (h:s.ok):(s.push x).ok:=by unfold Rw.ok at *;show s.n+1<=(s.l.take s.n++[x]).length;simp;omega
theorem Rw.KL (s:Rw) (x:Ex) (h:s.ok):(s.push x).row=s.row++[x]:=by
 unfold Rw.ok at h;show(s.l.take s.n++[x]).take (s.n+1)=s.l.take s.n++[x]
 rw[List.take_of_length_le (by simp;omega)]
def jZ (s:Rw) (xs:List Ex):Rw:=xs.foldl Rw.push s
theorem yM:∀(xs:List Ex) (s:Rw),s.ok->(jZ s xs).ok/\(jZ s xs).row=s.row++xs
 | [],s,h=>⟨h,by simp[jZ]⟩
 |x::r,s,h=>by
  have:=yM r (s.push x) (s.M1 x h);rw[s.KL x h]at this;exact⟨this.1,by rw[show jZ s (x::r)=jZ (s.push x) r from rfl,this.2];simp⟩
theorem CF:∀(xs:List Ex) (s:Rw),(jZ s xs).n=s.n+xs.length
 | [],s=>rfl
 |x::r,s=>by
  rw[show jZ s (x::r)=jZ (s.push x) r from rfl,CF r];show s.n+1+r.length=s.n+(r.length+1)
  omega
theorem zJ (s:Rw) (l:List Ex) (x:Ex):jZ s (l++[x])=(jZ s l).push x:=by simp[jZ]
def Fj:Nat->Rw->List Ex->Rw×List Ex
 |0,s,out=>(s,out)
 |k+1,s,out=>match s.n with
  |0=>(s,out)
  |n+1=>match s.l[n]? with
   |none=>(s,out)
   |some x=>Fj k (jZ (jZ { s with n:=n } (x.dZ.map eZ.body).reverse) x.args.reverse) (out++[x])
noncomputable def Rv:Nat->Option TI:=hint (iX Tryz.prog) 98 [1000009]
theorem xx:bB Tryz.prog Rv:=(aG Tryz.prog).hint _ _
def Rx (s:Rw):bu:=.store 101 false 31 s.nx 8 [(s.k,eC s.l)]
theorem Js (l:List Ex) (k:Nat):eC (l.take k)=(eC l).take k:=by simp[jc,List.map_take]
theorem Dr (s:Rw) (x:Ex):(s.nx,(eC s.l).take s.n++[eE x])::mX s.k [(s.k,eC s.l)]=[(s.nx,eC (s.l.take s.n++[x]))]:=by
 rw[mX,Nat.beq_refl,uf,Js];rfl
theorem CB (k:Nat) (xs:List PV):th k [(k,xs)]=some xs:=by rw[th,Nat.beq_refl]
theorem M4 (e:Ex) (he:wE e<=1048640):au Tryz.prog 49 [.p (eE e)] [(1000000000,.store 101 false 31 0 8 [])] (.p (.sl 8 (eC (gq e)))) [(1000000000,Rx (Fj (gq e).length ⟨1,0,[e],1⟩ []).1)]:=by
 have hwl:=xl e;have hsl:=size_le e;have hmem:=fun x (h:x∈gq e)=>uI e h;generalize hW:gq e=W at hwl hmem;generalize hF:Fj W.length ⟨1,0,[e],1⟩ []=F;unfold Rx;obtain⟨k0,n0,t0,ns0,ts0,as0,ms0,p0⟩:=e;refine au.intro xx av Tryz.func49 rfl (by rfl) (by kernel_rfl) (by show 1<=_;decide) rfl ?_;(conv=>whnf);refine qf 4 7 rfl ?_
 refine bK xx av (by kernel_rfl) W.length [3,4] [1000000000] (fun j (s:Rw×List Ex)=>[.p (.kE 31 s.1.k s.1.n),.so 8 (eC s.2)])
  (fun j s=>[.store 101 false 31 s.1.nx 8 [(s.1.k,eC s.1.l)]]) (fun j s=>(s.1.ok/\s.2.length=j)/\s.2++di s.1.row.reverse=W/\Fj (W.length-j) s.1 s.2=F) (⟨1,0,[.mk k0 n0 t0 ns0 ts0 as0 ms0 p0],1⟩,[]) ⟨rfl,rfl,rfl,rfl⟩ ⟨⟨Nat.le_refl _,rfl⟩,by simp[di,Rw.row,hW],hF⟩ ?_
 rintro j ⟨s,out⟩ hj ⟨⟨hok,hol⟩,hinv,hQ⟩;dsimp only at hok hol hinv hQ;(conv=>whnf);refine ai ?_ ?_<;>intro h1<;>conv=>whnf
 ·obtain⟨nx,k,l,n⟩:=s
  have h1:(n:Int)>0:=of_decide_eq_true h1;obtain⟨n,rfl⟩:∃m,n=m+1:=⟨n-1,by omega⟩
  have hok:n+1<=l.length:=hok;obtain⟨x,hx⟩:∃x,l[n]?=some x:=⟨_,List.getElem?_eq_getElem (by omega)⟩
  have hrow:(⟨nx,k,l,n+1⟩:Rw).row=l.take n++[x]:=by show l.take (n+1)=_;exact cF hx
  have hxW:x∈W:=by rw[<-hinv,hrow,List.reverse_append,sj,List.reverse_singleton,di,di,oI];simp
  have hxw:=hmem x hxW
  have hWl:out.length+((gq x).length+(di (l.take n).reverse).length)=W.length:=by
   rw[<-hinv,hrow,List.reverse_append,sj,List.reverse_singleton,di,di];simp
  have hrl:n+1<=(gq x).length+(di (l.take n).reverse).length:=by
   have:=yp (l.take n).reverse;rw[oI];simp at this ⊢;omega
  have e1:IntKind.i64.wrap (((n+1:Nat):Int)-1)=(n:Int):=by rw[wrap64 (by omega) (by omega)];omega
  rw[e1];have hsp:(⟨nx,k,l,n⟩:Rw).ok:=Nat.le_of_succ_le hok;have hxl:=fun k n t ns ts xs ms p (q:x=Ex.mk k n t ns ts xs ms p)=>q ▸ uW k n t ns ts xs ms p;have hout2:eC (out++[x])=eC out++[eE x]:=by rw[uf];rfl
  have hxe:=nZ hx
  have hjW:W.length-j=(W.length-(j+1))+1:=by
   have:0<(gq x).length:=by rw[oI];simp
   omega
  rw[hjW,Fj]at hQ;dsimp only at hQ;rw[hx]at hQ;dsimp only at hQ;obtain⟨k1,n1,t1,ns1,ts1,as1,ms1,p1⟩:=x;have hxl:=hxl _ _ _ _ _ _ _ _ rfl;simp only[Ex.args,Ex.dZ]at hQ;rw[eE]at hxe hout2;refine ag ⟨by omega,by show(n:Int).toNat<n+1;omega⟩ ?_;(conv=>whnf);refine ag ⟨rfl,by decide,.inr rfl⟩ ?_;refine⟨_,CB _ _,?_⟩;refine aq (i:=n) hxe ?_;(conv=>whnf);rw[e1];refine ag ⟨by omega,by show(n:Int)<=((n+1:Nat):Int);omega⟩ ?_;(conv=>whnf);refine ag (show((eC out).length+1)*136<=140737488355328 by rw[cG];omega) ?_;(conv=>whnf);generalize hS0:(⟨nx,k,l,n⟩:Rw)=S0 at hQ hsp;have hS0n:S0.n=n:=by rw[<-hS0]
  refine bK xx av (by kernel_rfl) ms1.length [3,4,5,6] [5,1000000000] (fun j (s:Rw)=>[.p (.kE 31 s.k s.n),.so 8 (eC out++[.agg [.i .i64 k1,.i .i64 n1,.s t1,.sl 1 (ns1.map bF),.sl 3 (mB ts1),.sl 8 (eC as1),.sl 12 (jX ms1),.i .i64 p1]]),.ptr 5 0,.p (.i .i64 (dn (IntKind.i64.wrap (((jX ms1).length:Int)-1)) j))])
   (fun j s=>[.cells [.p (.i .i64 k1),.p (.i .i64 n1),.p (.s t1),.p (.sl 1 (ns1.map bF)),.p (.sl 3 (mB ts1)),.p (.sl 8 (eC as1)),.p (.sl 12 (jX ms1)),.p (.i .i64 p1)],.store 101 false 31 s.nx 8 [(s.k,eC s.l)]])
   (fun j s=>s=jZ S0 ((ms1.map eZ.body).reverse.take j)) S0 ⟨by rw[<-hS0];rfl,by rw[<-hS0];rfl,rfl,rfl⟩ rfl ?_
  intro k2 s hk3 hs;have hs1:=yM ((ms1.map eZ.body).reverse.take k2) S0 hsp;have hs2:=CF ((ms1.map eZ.body).reverse.take k2) S0;rw[<-hs]at hs1 hs2;have hsl2:s.n<=4194304:=by rw[hs2,hS0n];simp;omega
  (conv=>whnf);refine ai ?_ ?_<;>intro h2<;>conv=>whnf
  ·have hk4:=NW h2 (by rw[jt]) (by omega) hk3
   obtain⟨b,hb1,hb2⟩:=Iv hk4;refine NV (tN hb2) (by rw[jt]) (by omega) hk4 ?_;have hts:(ms1.map eZ.body).reverse.take (k2+1)=(ms1.map eZ.body).reverse.take k2++[b.body]:=cF (by rw[<-List.map_reverse,List.getElem?_map,hb1];rfl);obtain⟨⟨bk,bn,bt,ba⟩,⟨b1,b2,b3,b4,b5,b6,b7,b8⟩⟩:=b;have hrp:=Dr s (.mk b1 b2 b3 b4 b5 b6 b7 b8);rw[eE]at hrp;(conv=>whnf);refine⟨rfl,_,CB _ _,?_⟩;refine ag ⟨by rw[cG];exact hs1.1,show(s.n+1)*136<=140737488355328 by omega⟩ ?_;(conv=>whnf);refine⟨hk4,s.push (.mk b1 b2 b3 b4 b5 b6 b7 b8),⟨?_,rfl,rfl,rfl⟩,by rw[hts,zJ,hs];rfl⟩;show _=List.map some [bu.cells _,.store 101 false 31 (s.nx+1) 8 [(s.nx,eC (s.l.take s.n++[.mk b1 b2 b3 b4 b5 b6 b7 b8]))]];rw[<-hrp];rfl
  ·have hk4:=NU h2 (by rw[jt]) (by omega) hk3
   have hs3:s=jZ S0 (ms1.map eZ.body).reverse:=by rw[hs,List.take_of_length_le (by simp[hk4])]
   rw[<-hs3]at hQ
   refine bK xx av (by kernel_rfl) as1.length [3,4,5,7] [5,1000000000] (fun j (s:Rw)=>[.p (.kE 31 s.k s.n),.so 8 (eC out++[.agg [.i .i64 k1,.i .i64 n1,.s t1,.sl 1 (ns1.map bF),.sl 3 (mB ts1),.sl 8 (eC as1),.sl 12 (jX ms1),.i .i64 p1]]),.ptr 5 0,.p (.i .i64 (dn (IntKind.i64.wrap (((eC as1).length:Int)-1)) j))])
    (fun j s=>[.cells [.p (.i .i64 k1),.p (.i .i64 n1),.p (.s t1),.p (.sl 1 (ns1.map bF)),.p (.sl 3 (mB ts1)),.p (.sl 8 (eC as1)),.p (.sl 12 (jX ms1)),.p (.i .i64 p1)],.store 101 false 31 s.nx 8 [(s.k,eC s.l)]])
    (fun j s'=>s'=jZ s (as1.reverse.take j)) s ⟨rfl,rfl,rfl,rfl⟩ rfl ?_
   intro k5 s5 hk5 hs5;have hs6:=yM (as1.reverse.take k5) s hs1.1;have hs7:=CF (as1.reverse.take k5) s;rw[<-hs5]at hs6 hs7;have hsl5:s5.n<=8388608:=by rw[hs7];simp;omega
   (conv=>whnf);refine ai ?_ ?_<;>intro h3<;>conv=>whnf
   ·have hk6:=NW h3 (by rw[cG]) (by omega) hk5
    obtain⟨b,hb1,hb2⟩:=Iv hk6;refine NV (nZ hb2) (by rw[cG]) (by omega) hk6 ?_;have hts:=cF hb1;obtain⟨b1,b2,b3,b4,b5,b6,b7,b8⟩:=b;have hrp:=Dr s5 (.mk b1 b2 b3 b4 b5 b6 b7 b8);rw[eE]at hrp;(conv=>whnf);refine⟨rfl,_,CB _ _,?_⟩;refine ag ⟨by rw[cG];exact hs6.1,show(s5.n+1)*136<=140737488355328 by omega⟩ ?_;(conv=>whnf);refine⟨hk6,s5.push (.mk b1 b2 b3 b4 b5 b6 b7 b8),⟨?_,rfl,rfl,rfl⟩,by rw[hts,zJ,hs5]⟩;show _=List.map some [bu.cells _,.store 101 false 31 (s5.nx+1) 8 [(s5.nx,eC (s5.l.take s5.n++[.mk b1 b2 b3 b4 b5 b6 b7 b8]))]];rw[<-hrp];rfl
   ·have hk6:=NU h3 (by rw[cG]) (by omega) hk5
    have hs8:s5=jZ s as1.reverse:=by rw[hs5,List.take_of_length_le (by simp[hk6])]
    rw[<-hs8]at hQ;refine⟨by omega,(s5,out++[Ex.mk k1 n1 t1 ns1 ts1 as1 ms1 p1]),⟨rfl,?_,rfl,rfl⟩,⟨⟨hs6.1,by simp[hol]⟩,?_,by dsimp only;exact hQ⟩⟩
    ·show _=[_,AV.so 8 (eC (out++[Ex.mk k1 n1 t1 ns1 ts1 as1 ms1 p1]))]
     rw[hout2];rfl
    ·dsimp only
     rw[<-hinv,hrow,hs6.2,hs1.2,hk4,hk6];rw[show S0.row=l.take n by rw[<-hS0];rfl,List.take_of_length_le (show as1.reverse.length<=as1.length by simp),List.take_of_length_le (show(ms1.map eZ.body).reverse.length<=ms1.length by simp)];simp[sj,di,gq,FR]
 ·have hn0:s.n=0:=by have h1:¬((s.n:Int)>0):=of_decide_eq_false h1;omega
  have hr0:s.row=[]:=by unfold Rw.row;rw[hn0];rfl
  rw[hr0]at hinv;have hw:out=W:=by simpa[di] using hinv
  subst hw
  have hFs:F.1=s:=by
   rw[<-hQ];generalize out.length-j=m
   cases m with
   |zero=>rfl
   |succ m=>rw[Fj,hn0]
  rw[hFs];exact⟨.inr rfl,MN.s6,trivial⟩
theorem Lg (e:Ex) (he:wE e<=1048640):au Tryz.prog 49 [.p (eE e)] [] (.p (.sl 8 (eC (gq e)))) []:=by
 have h:=M4 e he;refine au.NL (G:=[]) (st:=[(1000000000,.store 101 false 31 0 8 [])]) (st':=[(1000000000,Rx (Fj (gq e).length ⟨1,0,[e],1⟩ []).1)]) h (by simp[vV,sG e]) rfl rfl ?_;show aY (eC (gq e))=true;rw[jc];exact jN eE _ fun x _=>sG x
theorem sizeOf_spec (e:Ex) (he:wE e<=1048640):au Tryz.prog 33 [.p (eE e)] [] (.p (.i .i64 (qu e))) []:=by
 have hall:=Lg e he;have hmem:=fun x (h:x∈gq e)=>uI e h;have hsl:=size_le e;have hwl:=xl e;have hsum:=zj e;rw[<-hsum]at hsl hwl ⊢;clear hsum;generalize gq e=W at hall hmem hsl hwl ⊢;obtain⟨k0,n0,t0,ns0,ts0,as0,ms0,p0⟩:=e;refine au.iN av Tryz.func33 rfl (by rfl) (by kernel_rfl) rfl rfl ?_;(conv=>whnf);refine bh [] 300 hall ?_;(conv=>whnf);refine bK (aG _) av (by kernel_rfl) W.length [3,9,10,11] [] (fun k (s:Int)=>[.p (.i .i64 s),.p (.sl 8 (eC W)),.p (.i .i64 (eC W).length),.p (.i .i64 (ix k))]) (fun _ _=>[]) (fun k s=>s=qc (W.take k)) 0 ⟨rfl,rfl,rfl,rfl⟩ rfl ?_;intro k s hk hs;(conv=>whnf);refine ai ?_ ?_<;>intro h1<;>conv=>whnf
 ·have hk1:=cu h1 (by rw[cG]) hk (by omega)
  obtain⟨b,hb1⟩:∃b,W[k]?=some b:=⟨W[k],by simp[hk1]⟩
  refine bM (nZ hb1) (by omega) ?_;have hbm:=hmem b (List.mem_of_getElem? hb1);have hts:qc (W.take (k+1))=qc (W.take k)+Nr b:=by rw[cF hb1,pT];simp[qc]
  have htl:=Mr W (k+1);obtain⟨b1,b2,b3,b4,b5,b6,b7,b8⟩:=b;have hbl:=uW b1 b2 b3 b4 b5 b6 b7 b8;rw[Nr]at hts;simp only[Ex.dZ]at hts;(conv=>whnf)
  refine bK (aG _) av (by kernel_rfl) b7.length [3,9,10,11,18,19,20] [] (fun j (s:Int)=>[.p (.i .i64 s),.p (.sl 8 (eC W)),.p (.i .i64 (eC W).length),.p (.i .i64 (ix k)),.p (.sl 12 (jX b7)),.p (.i .i64 (jX b7).length),.p (.i .i64 (ix j))]) (fun _ _=>[])
   (fun j s'=>s'=qc (W.take k)+1+bU ((b7.map eZ.pat).take j)) (IntKind.i64.wrap (s+1)) ⟨rfl,rfl,rfl,rfl⟩ (by rw[hs,wrap64 (by omega) (by omega)];simp[bU]) ?_
  intro j s2 hj hs2;have hpl:=Gi (b7.map eZ.pat) (j+1);(conv=>whnf);refine ai ?_ ?_<;>intro h2<;>conv=>whnf
  ·have hj1:=cu h2 (by rw[jt]) hj (by omega)
   obtain⟨c,hc1⟩:∃c,b7[j]?=some c:=⟨b7[j],by simp[hj1]⟩
   refine bM (tN hc1) (by omega) ?_;have hcw:=oy (k:=b1) (n:=b2) (t:=b3) (ns:=b4) (ts:=b5) (xs:=b6) (p:=b8) (List.mem_of_getElem? hc1);have hps:=I9 c.pat (by omega);have hpn:=IY c.pat
   have hts2:bU ((b7.map eZ.pat).take (j+1))=bU ((b7.map eZ.pat).take j)+fm c.pat:=by
    rw[cF (show(b7.map eZ.pat)[j]?=some c.pat by rw[List.getElem?_map,hc1];rfl),mR];simp[bU]
   generalize iU c.pat (fm c.pat)=ps at hps hpn;obtain⟨⟨ck,cn,ct,ca⟩,⟨c1,c2,c3,c4,c5,c6,c7,c8⟩⟩:=c;simp only[eZ.pat]at hps hpn hts2;(conv=>whnf);refine kK hps ?_;(conv=>whnf);refine⟨hj1,_,⟨rfl,rfl,rfl,rfl⟩,?_⟩;rw[iq,hpn,hs2,wrap64 (by omega) (by omega),hts2];omega
  ·have hj1:=cv h2 (by rw[jt]) hj (by omega)
   refine⟨hk1,s2,⟨rfl,rfl,rfl,rfl⟩,?_⟩;have hjl:bU ((b7.map eZ.pat).take j)=bU (b7.map eZ.pat):=by rw[hj1,List.take_of_length_le (by simp)]
   omega
 ·have hk1:=cv h1 (by rw[cG]) hk (by omega)
  exact⟨.inl (pi (by rw[hs,hk1,List.take_length])),trivial⟩
theorem mh (l:List Ac):l.length<=PV.cH (l.map dj):=uj dj (fun x=>by have:=xL x;unfold I8 at this;omega) l
theorem zT (l:List JN):l.length<=PV.cH (l.map gZ):=uj gZ (fun x=>by rw[xI];omega) l
theorem Ep (l:List xF):l.length<=PV.cH (l.map iI):=uj iI (fun x=>by rw[xM];omega) l
def nB (l:List xF):List Ac:=l.flatMap (·.funcs)
def qv (p:nX):List Ac:=nB p.impls++p.funcs
theorem Aa:∀(l:List xF),PV.cH ((nB l).map dj)<=PV.cH (l.map iI)
 | []=>by simp[nB]
 |m::r=>by
  have:=Aa r;have h2:=xM m;simp only[nB,List.flatMap_cons,List.map_append,List.map_cons,PV.ef,PV.cH]at this ⊢;omega
theorem Jq (l:List xF) (m:xF):nB (l++[m])=nB l++m.funcs:=by simp[nB]
theorem Ji (l:List xF) (k:Nat):(nB (l.take k)).length<=(nB l).length:=by
 have:nB l=nB (l.take k)++nB (l.drop k):=by unfold nB;rw[<-List.flatMap_append,List.take_append_drop]
 rw[this];simp
theorem s8 (p:nX):PV.cH ((qv p).map dj)<=vH p:=by
 rw[qv,List.map_append,PV.ef,qR];have:=Aa p.impls;omega
theorem D2 (p:nX) (hp:vH p<=1048576):aU Tryz.prog 48 [.p (iY p)] (.so 15 ((qv p).map dj)):=by
 have hw:=qR p;have hl1:=Ep p.impls;have hl2:=mh p.funcs;have hl3:=mh (nB p.impls);have hl4:=Aa p.impls;obtain⟨nm,ver,us,ds,ts,is,fs,acs⟩:=p;simp only[qv]at *;refine aU.iN av Tryz.func48 rfl (by rfl) (by kernel_rfl) rfl rfl ?_;(conv=>whnf);refine qf 3 14 rfl ?_
 refine bK (aG _) av (by kernel_rfl) is.length [1,3,7,8,9] [1] (fun k (s:List Ac)=>[.ptr 1 0,.so 15 (s.map dj),.p (.sl 3 (is.map iI)),.p (.i .i64 (is.map iI).length),.p (.i .i64 (ix k))])
  (fun _ _=>[.cells [.p (.s nm),.p (.i .i64 ver),.p (.sl 3 (us.map kT)),.p (.sl 3 (ds.map kM)),.p (.sl 2 (ts.map kN)),.p (.sl 3 (is.map iI)),.p (.sl 15 (fs.map dj)),.p (.sl 14 (acs.map gZ))]]) (fun k s=>s=nB (is.take k)) [] ⟨rfl,rfl,rfl,rfl⟩ (by simp[nB]) ?_
 intro k s hk hs;(conv=>whnf);refine ai ?_ ?_<;>intro h1<;>conv=>whnf
 ·have hk1:=cu h1 (by simp) hk (by omega)
  obtain⟨b,hb1⟩:∃b,is[k]?=some b:=⟨_,List.getElem?_eq_getElem hk1⟩
  refine bM (x:=iI b) (by simp[hb1]) (by omega) ?_;have hts:nB (is.take (k+1))=nB (is.take k)++b.funcs:=by rw[cF hb1,Jq]
  have htl:=Ji is (k+1);rw[hts,<-hs,List.length_append]at htl;obtain⟨b1,b2,b3⟩:=b;(conv=>whnf);refine ag (show((s.map dj).length+(b3.map dj).length)*272<=140737488355328 by simp at htl ⊢;omega) ?_;(conv=>whnf);refine⟨hk1,s++b3,⟨rfl,?_,rfl,rfl⟩,by rw[hs,hts]⟩;rw[List.map_append];rfl
 ·have hk1:=cv h1 (by simp) hk (by omega)
  have hs2:s=nB is:=by rw[hs,hk1,List.take_length]
  subst hs2;refine ag (show(((nB is).map dj).length+(fs.map dj).length)*272<=140737488355328 by simp;omega) ?_;(conv=>whnf);rw[List.map_append];exact .inl rfl
def ja (p:nX):List Ex:=(qv p).map (·.body)++p.actors.map (·.body)
theorem EM {p:nX} {e:Ex} (h:e∈ja p):wE e<=vH p:=by
 rcases List.mem_append.1 h with h|h
 ·obtain⟨f,hf,rfl⟩:=List.mem_map.1 h
  have h1:=tK dj hf;have h2:=s8 p;have h3:=xL f;unfold I8 at h3;omega
 ·obtain⟨f,hf,rfl⟩:=List.mem_map.1 h
  have h1:=tK gZ hf;rw[xI]at h1;rw[qR];omega
theorem Av (p:nX) (hp:vH p<=1048576):aU Tryz.prog 32 [.p (iY p)] (.p (.sl 8 (eC (ja p)))):=by
 have hw:=qR p;have h0:=D2 p hp;have hl1:=s8 p;have hl2:=mh (qv p);have hl3:=zT p.actors;rw[ja];generalize qv p=F at h0 hl1 hl2;generalize vH p=W at *;obtain⟨nm,ver,us,ds,ts,is,fs,acs⟩:=p;simp only at *;refine aU.iN av Tryz.func32 rfl (by rfl) (by kernel_rfl) rfl rfl ?_;(conv=>whnf);refine kK h0 ?_;(conv=>whnf);refine qf 3 7 rfl ?_
 refine bK (aG _) av (by kernel_rfl) F.length [1,3,9,10,11] [1] (fun k (s:List Ex)=>[.ptr 1 0,.so 8 (eC s),.so 15 (F.map dj),.p (.i .i64 (F.map dj).length),.p (.i .i64 (ix k))])
  (fun _ _=>[.cells [.p (.s nm),.p (.i .i64 ver),.p (.sl 3 (us.map kT)),.p (.sl 3 (ds.map kM)),.p (.sl 2 (ts.map kN)),.p (.sl 3 (is.map iI)),.p (.sl 15 (fs.map dj)),.p (.sl 14 (acs.map gZ))]]) (fun k s=>s=(F.take k).map (·.body)) [] ⟨rfl,rfl,rfl,rfl⟩ (by simp) ?_
 intro k s hk hs;have hsl:s.length<=1048576:=by rw[hs];simp;omega
 (conv=>whnf);refine ai ?_ ?_<;>intro h1<;>conv=>whnf
 ·have hk1:=cu h1 (by simp) hk (by omega)
  obtain⟨b,hb1⟩:∃b,F[k]?=some b:=⟨_,List.getElem?_eq_getElem hk1⟩
  refine bM (x:=dj b) (by simp[hb1]) (by omega) ?_;have hts:(F.take (k+1)).map (·.body)=(F.take k).map (·.body)++[b.body]:=by rw[cF hb1,List.map_append];rfl
  obtain⟨b1,b2,b3,b4,⟨b5,b6,b7⟩,⟨c1,c2,c3,c4,c5,c6,c7,c8⟩⟩:=b;(conv=>whnf);refine ag (show((eC s).length+1)*136<=140737488355328 by rw[cG];omega) ?_;(conv=>whnf);refine⟨hk1,s++[.mk c1 c2 c3 c4 c5 c6 c7 c8],⟨rfl,?_,rfl,rfl⟩,by rw[hs,hts]⟩;rw[uf];rfl
 ·have hk1:=cv h1 (by simp) hk (by omega)
  have hs2:s=F.map (·.body):=by rw[hs,hk1,List.take_length]
  subst hs2
  refine bK (aG _) av (by kernel_rfl) acs.length [3,22,23,24] [] (fun k (s:List Ex)=>[.so 8 (eC s),.p (.sl 14 (acs.map gZ)),.p (.i .i64 (acs.map gZ).length),.p (.i .i64 (ix k))]) (fun _ _=>[])
   (fun k s=>s=F.map (·.body)++(acs.take k).map (·.body)) (F.map (·.body)) ⟨rfl,rfl,rfl,rfl⟩ (by simp) ?_
  intro j s hj hs;have hsl:s.length<=2097152:=by rw[hs];simp;omega
  (conv=>whnf);refine ai ?_ ?_<;>intro h2<;>conv=>whnf
  ·have hj1:=cu h2 (by simp) hj (by omega)
   obtain⟨b,hb1⟩:∃b,acs[j]?=some b:=⟨_,List.getElem?_eq_getElem hj1⟩
   refine bM (x:=gZ b) (by simp[hb1]) (by omega) ?_;have hts:(acs.take (j+1)).map (·.body)=(acs.take j).map (·.body)++[b.body]:=by rw[cF hb1,List.map_append];rfl
   obtain⟨b1,b2,b3,⟨b4,b5,b6⟩,⟨c1,c2,c3,c4,c5,c6,c7,c8⟩⟩:=b;(conv=>whnf);refine ag (show((eC s).length+1)*136<=140737488355328 by rw[cG];omega) ?_;(conv=>whnf);refine⟨hj1,s++[.mk c1 c2 c3 c4 c5 c6 c7 c8],⟨rfl,?_,rfl,rfl⟩,by rw[hs,hts];simp⟩;rw[uf];rfl
  ·have hj1:=cv h2 (by simp) hj (by omega)
   have hs2:s=F.map (·.body)++acs.map (·.body):=by rw[hs,hj1,List.take_length]
   subst hs2;exact .inr (.inl rfl)
def FA:List Ex->Int->Int
 | [],n=>n
 |e::r,n=>FA r (IntKind.i64.wrap (n+qu e))
theorem F6 (p:nX) (hp:vH p<=1048576):au Tryz.prog 17 [.p (iY p)] [] (.p (.b (decide (FA (ja p) 0<=400)))) []:=by
 have h0:=Av p hp;have hB:=fun e (h:e∈ja p)=>EM h
 have hl:(ja p).length<=2097152:=by
  have:=mh (qv p);have:=s8 p;have:=zT p.actors;have:=qR p;simp[ja];omega
 generalize ja p=Bs at h0 hB hl;generalize vH p=W at *;obtain⟨nm,ver,us,ds,ts,is,fs,acs⟩:=p;refine au.iN av Tryz.func17 rfl (by rfl) (by kernel_rfl) rfl rfl ?_;(conv=>whnf);refine kK h0 ?_;(conv=>whnf);refine bK (aG _) av (by kernel_rfl) Bs.length [3,7,8,9] [] (fun k (s:Int)=>[.p (.i .i64 s),.p (.sl 8 (eC Bs)),.p (.i .i64 (eC Bs).length),.p (.i .i64 (ix k))]) (fun _ _=>[]) (fun k s=>FA Bs 0=FA (Bs.drop k) s) 0 ⟨rfl,rfl,rfl,rfl⟩ rfl ?_;intro k s hk hs;(conv=>whnf);refine ai ?_ ?_<;>intro h1<;>conv=>whnf
 ·have hk1:=cu h1 (by rw[cG]) hk (by omega)
  obtain⟨b,hb1⟩:∃b,Bs[k]?=some b:=⟨_,List.getElem?_eq_getElem hk1⟩
  refine bM (nZ hb1) (by omega) ?_;have hc:=sizeOf_spec b (by have:=hB b (List.mem_of_getElem? hb1);omega);rw[drop_cons hb1,FA]at hs;generalize qu b=z at hc hs;obtain⟨c1,c2,c3,c4,c5,c6,c7,c8⟩:=b;(conv=>whnf);refine bh [] 300 hc ?_;(conv=>whnf);exact⟨hk1,IntKind.i64.wrap (s+z),⟨rfl,rfl,rfl,rfl⟩,hs⟩
 ·have hk1:=cv h1 (by rw[cG]) hk (by omega)
  rw[hk1,List.drop_length,FA]at hs;exact⟨.inl (pb (by rw[hs])),trivial⟩
end TR
end
section
open Go Go.Proofs
namespace PA
theorem FE (w:World):(Instr.typeAssert .nilIface 20 148 true).run Tryz.prog w=.ok (.tuple #[.agg #[.int .i64 0],.bool false]) w:=by kernel_rfl
theorem Nb (w:World):(binOp .neq 20 .nilIface .nilIface).run Tryz.prog w=.ok (.bool false) w:=by kernel_rfl
set_option maxHeartbeats 1000000 in
theorem GU (p q r:Addr) (w:World):
 CallsD Tryz.prog 42 #[.pointer (some p),.pointer (some q),.pointer (some r)] .returning w fun e u' w'=>e=.returned (.tuple #[])/\u'=.returning/\w'=(w.alloc (.cells #[.int .i64 0] 148)).setCell ⟨w.heap.size,0,none⟩ (.int .i64 0):=by
 refine callsD_of_wpS Tryz.func42 rfl fun c₀ cs hu=>?_
 apply wpS_seq
 apply wpS_region
 simp[wpOpsS,go_sem,recoverD,hu,Tryz.ntmps42,Exit.thenS]
 apply wpS_seq
 apply wpS_region
 simp[wpOpsS,go_sem,Exit.thenS,FE]
 apply wpS_seq
 apply wpS_region
 simp[wpOpsS,go_sem,Exit.thenS];refine wpS_cond (t:=false) (by simp[Act.eval,Array.replicate]) ?_;simp only[Bool.false_eq_true,if_false]
 apply wpS_seq
 apply wpS_region
 simp[wpOpsS,go_sem,Exit.thenS,Nb];refine wpS_cond (t:=false) (by simp[Act.eval,Array.replicate]) ?_;simp only[Bool.false_eq_true,if_false];refine wpS_of_wp (wp_skip ?_);cases c₀
 simp_all [bodyPostS,results,Tryz.results42]
end PA
end
section
open Go Go.AM Go.Proofs TK
namespace PA
theorem av:Tryz.prog.follows .mixedOrders=true:=by kernel_rfl
section
variable {T:List Tk} {en:Int} {a:Nat} {α:Type} {e:α->AV}
end
section
variable {T:List Tk} {en:Int}
end
end PA
end
section
open Go Go.AM Go.Proofs TK TR
namespace PA
section
variable {T:List Tk} {en:Int} {a:Nat} {α:Type} {e:α->AV}
end
section
variable {G:Nat} {tab:List Value} {T:List Tk} {en:Int} {a:Nat} {α:Type} {e:α->AV}
end
def Lt (s:ByteArray):Int×Bool:=match Lib.parseIntB 64 s.data.toList with
 |.ok v=>(v,false)
 |.range=>(Lib.intSat 64 s.data.toList,true)
 |_=>(0,true)
def Rp {α:Type} (x:Lib.NumEnd α):Bool:=match x with
 |.ok _=>true
 |.range=>true
 |_=>false
def R5 (G:Nat) (tab:List Value):Prop:=∀s:ByteArray,s.size<=5000->Rp (Lib.parseIntB 64 s.data.toList)=true->au Tryz.prog 93 [.p (.s s),.p (.i .i64 10),.p (.i .i64 64)] [(1000000000,.bJ G tab)] (.cI [.p (.i .i64 (Lt s).1),.wM (Lt s).2]) [(1000000000,.bJ G tab)]
structure R9 (T:List Tk):Prop where
 len:T.length<=4000
 num:∀t∈T,t.kind=4->∀pre:ByteArray,pre=⟨#[]⟩\/pre=⟨#[45]⟩->(pre++B t.text).size<=5000/\Rp (Lib.parseIntB 64 (pre++B t.text).data.toList)=true
end PA
end
section
open Go Go.AM Go.Proofs
namespace TK
theorem MZ (l:Bs) (c:UInt8) (h:0<l.count c):∃m:Nat,Lib.indexByte l c=m/\m<l.length/\fC c l=l.take m::fC c (l.drop (m+1))/\(l.drop (m+1)).count c+1=l.count c:=by
 induction l with
 |nil=>simp at h
 |cons x r ih=>
  rw[show fC c (x::r)=bif x==c then []::fC c r else match fC c r with|p::ps=>(x::p)::ps | []=>[[x]] from rfl];unfold Lib.indexByte
  cases hx:x==c with
  |true=>
   have e:=eq_of_beq hx;subst e;exact⟨0,by simp,by simp,by simp,by simp⟩
  |false=>
   have hne:x≠c:=by intro e;subst e;simp at hx
   have hc:r.count c=(x::r).count c:=by rw[List.count_cons_of_ne hne]
   obtain⟨m,h1,h2,h3,h4⟩:=ih (by omega);refine⟨m+1,?_,by simp;omega,?_,?_⟩
   ·rw[h1,if_neg (by simp),if_neg (by simp)];omega
   ·rw[h3];rfl
   ·simp only[List.drop_succ_cons];rw[<-hc];exact h4
theorem GD (l:Bs) (c:UInt8) (h:l.count c=0):fC c l=[l]:=by
 induction l with
 |nil=>rfl
 |cons x r ih=>
  have hne:x≠c:=by intro e;subst e;simp at h
  have hx:(x==c)=false:=by simpa using hne
  rw[fC,hx,ih (by rw[List.count_cons_of_ne hne]at h;exact h)];rfl
theorem AQ (l:Bs) (c:UInt8):(fC c l).length=l.count c+1:=by
 induction l with
 |nil=>rfl
 |cons x r ih=>
  rw[fC]
  cases hx:x==c with
  |true=>have e:=eq_of_beq hx;subst e;simp[ih]
  |false=>
   have hne:x≠c:=by intro e;subst e;simp at hx
   rw[List.count_cons_of_ne hne]
   cases hs:fC c r with
   |nil=>rw[hs]at ih;simp at ih
   |cons p ps=>rw[hs]at ih;simpa using ih
theorem AN (l:Bs) (c:UInt8):l.count c<=l.length:=List.count_le_length
theorem Nn {α:Type} (a:List α) (x y:α) (b:List α):(a++x::b).set a.length y=a++y::b:=by
 rw[List.set_append_right _ _ (Nat.le_refl _)];simp
theorem LF {α:Type} (a:List α) (k:Nat) (h:a.length=k) (x y:α) (b:List α):(a++x::b).set k y=a++y::b:=by subst h;exact Nn a x y b
theorem Bw (n:Nat) (h:0<n) (x:PV):List.replicate n x=x::List.replicate (n-1) x:=by
 obtain⟨m,rfl⟩:∃m,n=m+1:=⟨n-1,by omega⟩
 rfl
theorem BG (l:Bs) (c:UInt8) (sep:ByteArray) (hl:l.length<=1048576) (RR:List Bs) (hRR:fC c l=RR) (N:Nat) (hN:l.count c=N)
 (hc:aU Tryz.prog 52 [.p (.s (B l)),.p (.s sep)] (.p (.i .i64 N)))
 (hi:∀r,aU Tryz.prog 80 [.p (.s (B r)),.p (.s sep)] (.p (.i .i64 (Lib.indexByte r c))))
 (hse:(sep.toList==ByteArray.toList ⟨#[]⟩)=false) (hsz:sep.size=1):
 aU Tryz.prog 175 [.p (.s (B l)),.p (.s sep),.p (.i .i64 0),.p (.i .i64 (-1))] (.p (.sl 1 (RR.map bF))):=by
 have hcl:=AN l c;have hR:=AQ l c;rw[hN]at hcl hR;refine aU.iN av Tryz.func175 rfl (by rfl) (by kernel_rfl) rfl rfl ?_;(conv=>whnf);refine bD hse ?_;(conv=>whnf);refine kK hc ?_;(conv=>whnf);have e1:IntKind.i64.wrap ((N:Int)+1)=((N+1:Nat):Int):=by rw[wrap64 (by omega) (by omega)];omega
 have e2:(IntKind.i64.wrap (((B l).size:Int)+1))=((l.length+1:Nat):Int):=by rw[sQ,wrap64 (by omega) (by omega)];omega
 rw[e1,e2,if_neg (by omega)];refine ag (show _/\_/\((N+1:Nat):Int)*((16:Nat):Int)<=140737488355328 from⟨rfl,by omega,by omega⟩) ?_;(conv=>whnf);have e3:IntKind.i64.wrap (((N+1:Nat):Int)-1)=(N:Int):=by rw[wrap64 (by omega) (by omega)];omega
 refine bK (aG _) av (by kernel_rfl) N [0,1,2,3,9,10] [31] (fun k (s:List Bs×Bs)=>[.p (.s (B s.2)),.p (.s sep),.p (.i .i64 0),.p (.i .i64 (IntKind.i64.wrap (((N+1:Nat):Int)-1))),.ar 31,.p (.i .i64 (ix k))])
  (fun k s=>[.arr (s.1.map bF++List.replicate (N+1-k) (bF []))]) (fun k s=>s.1.length=k/\RR=s.1++fC c s.2/\k+s.2.count c=N/\s.2.length<=l.length) ([],l) ⟨rfl,rfl,rfl,rfl⟩ ⟨rfl,by simpa using hRR.symm,by simpa using hN,Nat.le_refl _⟩ ?_
 rintro k s hk ⟨q1,q2,q3,q4⟩;have hkx:ix k=(k:Int):=kR (by omega);(conv=>whnf);refine ai ?_ ?_<;>intro h1
 ·rw[e3,hkx]at h1
  have hk1:k<N:=by simpa using h1
  obtain⟨m,m1,m2,m3,m4⟩:=MZ s.2 c (by omega);have hq:=hi s.2;rw[m1]at hq;have u1:IntKind.i64.wrap ((m:Int)+0)=(m:Int):=by rw[wrap64 (by omega) (by omega)];omega
  have u2:IntKind.i64.wrap ((m:Int)+(sep.size:Int))=((m+1:Nat):Int):=by rw[hsz,wrap64 (by omega) (by omega)];omega
  have x1:(B s.2).extract (0:Int).toNat (IntKind.i64.wrap ((m:Int)+0)).toNat=B (s.2.take m):=by rw[u1,Km];simp
  have x2:(B s.2).extract (IntKind.i64.wrap ((m:Int)+(sep.size:Int))).toNat (((B s.2).size:Nat):Int).toNat=B (s.2.drop (m+1)):=by
   rw[u2,Km,sQ,Int.toNat_natCast,Int.toNat_natCast,List.take_of_length_le (by rw[List.length_drop];exact Nat.le_refl _)]
  (conv=>whnf);refine kK hq ?_;(conv=>whnf);refine ag (by rw[u1,sQ];omega) ?_;rw[x1];(conv=>whnf);refine ag (by rw[hkx];exact⟨by omega,by rw[List.length_append,List.length_map,List.length_replicate];omega⟩) ?_;(conv=>whnf);refine ag (by rw[hkx,List.length_append,List.length_map,List.length_replicate];omega) ?_;(conv=>whnf);refine ag (by rw[u2,sQ];omega) ?_;rw[x2];(conv=>whnf);refine⟨hk1,(s.1++[s.2.take m],s.2.drop (m+1)),⟨?_,rfl,rfl,rfl⟩,by simp[q1],by rw[q2,m3];simp,(by omega:k+1+(s.2.drop (m+1)).count c=N),by rw[List.length_drop];omega⟩;refine congrArg (fun z=>[some (bu.arr z)]) ?_;show(s.1.map bF++List.replicate (N+1-k) (bF [])).set (ix k).toNat (bF (s.2.take m))=(s.1++[s.2.take m]).map bF++List.replicate (N+1-(k+1)) (bF []);rw[hkx,Bw (N+1-k) (by omega),Int.toNat_natCast,LF _ k (by simp[q1]),show N+1-k-1=N+1-(k+1) by omega];simp
 ·rw[e3,hkx]at h1
  have hk1:k=N:=by simp at h1;omega
  have c0:s.2.count c=0:=by omega
  have hkx2:IntKind.i64.wrap (ix k+1)=((k+1:Nat):Int):=by rw[hkx,wrap64 (by omega) (by omega)];omega
  rw[GD s.2 c c0]at q2;(conv=>whnf);refine ag (by rw[hkx];exact⟨by omega,by rw[List.length_append,List.length_map,List.length_replicate];omega⟩) ?_;(conv=>whnf);refine ag (by rw[hkx,List.length_append,List.length_map,List.length_replicate];omega) ?_
  have hx:(s.1.map bF++List.replicate (N+1-k) (bF [])).set (ix k).toNat (bF s.2)=RR.map bF:=by
   rw[hkx,Bw (N+1-k) (by omega),Int.toNat_natCast,LF _ k (by simp[q1]),show N+1-k-1=0 by omega,q2];simp
  conv=>whnf
  refine ag (by
   show IntKind.i64.wrap (ix k+1)=(((s.1.map bF++List.replicate (N+1-k) (bF [])).set (ix k).toNat (bF s.2)).length:Int)
   rw[hx,hkx2,List.length_map,<-hRR,hR,hk1]) ?_
  (conv=>whnf);exact .inr (.inr ⟨_,_,rfl,rfl,congrArg (fun z=>AV.p (PV.sl 1 z)) hx.symm⟩)
theorem Aj (l:Bs) (c:UInt8) (hl:l.length<=1048576):aU Tryz.prog 175 [.p (.s (B l)),.p (.s (B [c])),.p (.i .i64 0),.p (.i .i64 (-1))] (.p (.sl 1 ((fC c l).map bF))):=
 BG l c (B [c]) hl _ rfl _ rfl (tc l c) (fun r=>index_spec r c) (by rw[show(⟨#[]⟩:ByteArray)=B [] from rfl,tR];rfl) rfl
theorem yd (l:Bs) (sep:ByteArray) (hs:sep=B [32]) (hl:l.length<=1048576):aU Tryz.prog 150 [.p (.s (B l)),.p (.s sep)] (.p (.sl 1 ((fC 32 l).map bF))):=by
 have h:=Aj l 32 hl;rw[<-hs]at h;refine aU.iN av Tryz.func150 rfl (by rfl) (by kernel_rfl) rfl rfl ?_;(conv=>whnf);refine kK h ?_;(conv=>whnf);exact .inl rfl
theorem yZ:aU Tryz.prog 123 [] (.p (.sl 1 (sK.map bF))):=by
 have h:=yd Lw (B [32]) rfl (by decide);rw[show fC 32 Lw=sK from rfl]at h;refine aU.iN av Tryz.func123 rfl (by rfl) (by kernel_rfl) rfl rfl ?_;(conv=>whnf);refine kK h ?_;(conv=>whnf);exact .inl rfl
def Ck (x:Bs):List Bs->Nat->Int
 | [],_=>-1
 |a::r,k=>bif x==a then (k:Int) else Ck x r (k+1)
theorem Hf (x:Bs):∀(l:List Bs) (k:Nat),decide (Ck x l k>=0)=l.contains x
 | [],k=>by simp[Ck]
 |a::r,k=>by
  rw[Ck,List.contains_cons]
  cases h:x==a with
  |true=>simp
  |false=>rw[cond_false,Hf x r (k+1),Bool.false_or]
theorem JB (l:List Bs) (x:Bs) (hb:l.length<9223372036854775807):aU Tryz.prog 149 [.p (.sl 1 (l.map bF)),.p (.s (B x))] (.p (.i .i64 (Ck x l 0))):=by
 refine aU.iN av Tryz.func149 rfl (by rfl) (by kernel_rfl) rfl rfl ?_;(conv=>whnf);refine bK (aG _) av (by kernel_rfl) l.length [0,1,6,7,8] [] (fun k _=>[.p (.sl 1 (l.map bF)),.p (.s (B x)),.p (.sl 1 (l.map bF)),.p (.i .i64 (l.map bF).length),.p (.i .i64 (ix k))]) (fun _ _=>[]) (fun k _=>Ck x l 0=Ck x (l.drop k) k) () ⟨rfl,rfl,rfl,rfl⟩ rfl ?_;intro k s hk hn;(conv=>whnf);refine ai ?_ ?_<;>intro h1<;>conv=>whnf
 ·have hk1:=cu h1 (by simp) hk (by omega)
  obtain⟨b,hb1⟩:∃b,l[k]?=some b:=⟨l[k],by simp[hk1]⟩
  rw[drop_cons hb1,Ck]at hn;refine bM (x:=bF b) (by simp[hb1]) (by omega) ?_;(conv=>whnf);refine ai ?_ ?_<;>intro h2<;>conv=>whnf
  ·rw[tR]at h2
   refine .inl (pi ?_);rw[hn,h2,kR (by omega)];rfl
  ·rw[tR]at h2
   exact⟨hk1,(),⟨rfl,rfl,rfl,rfl⟩,by rw[hn,h2];rfl⟩
 ·have hk1:=cv h1 (by simp) hk (by omega)
  rw[hk1,List.drop_length,Ck]at hn;exact .inl (pi hn.symm)
theorem I5 (l:AV) (x:Bs) (i:Int) (h:aU Tryz.prog 149 [l,.p (.s (B x))] (.p (.i .i64 i))) (hl:∃s xs,l=.p (.sl s xs)):aU Tryz.prog 122 [l,.p (.s (B x))] (.p (.b (decide (i>=0)))):=by
 obtain⟨s,xs,rfl⟩:=hl;refine aU.iN av Tryz.func122 rfl (by rfl) (by kernel_rfl) rfl rfl ?_;(conv=>whnf);refine kK h ?_;(conv=>whnf);exact .inl rfl
theorem Fx (l:List Bs) (x:Bs) (hb:l.length<9223372036854775807):aU Tryz.prog 122 [.p (.sl 1 (l.map bF)),.p (.s (B x))] (.p (.b (l.contains x))):=by
 rw[<-Hf x l 0];exact I5 _ x _ (JB l x hb) ⟨_,_,rfl⟩
end TK
end
section
namespace Go.AM
open Go.ChangeShapes Go.WideShapes Go.ChangeAt Go.RowKit
theorem Aq {H:Type} {enc:TypeId×Value->H} {P:Program} {F:Nat} {fn:Func} {s:ChangeSpec} {fresh handsOn again:Bool} {tb:Nat} {l:List Nat} {gh:Heap} (hvars:s.vars=[]) (hl:BZ P l=true) (hpl:∀t∈fn.params.toList,t∈l)
 (hlaid:laidOutB P=true) (hread:∀t∈fn.params.toList,P.readableRec t=true/\t<P.types.size) (hres:fn.resultTypes=#[tb]) (hb:P.underlying tb=some .bool)
 (hspec:∀ds:List (DataW H),ds.length=fn.params.toList.length->(s.fn H ds).results=[.lit (.bool true)]/\(s.fn H ds).args=ds/\(s.fn H ds).vars=[])
 (W:World) (base:Nat) (args:Array Value) (ds gs:List (DataW H)) (before:List MemPlace)
 (hval:∀(j:Nat) t v,fn.params[j]?=some t->args[j]?=some v->Value.okWide P W .any base t v)
 (hW:DataW.Whole enc P fn.params.toList s.vars false W args.toList ds gs before) (hwt:∀x∈DataW.weightsEach P fn.params.toList ds,x<=reachBytes)
 (hgb:gx (s9 W) W gh)
 (hpure:∀xss:List (List PV),OB P fn.params.toList xss->EZ xss<=cZ ds->au P F (ng P fn.params.toList xss) gh (.p (.b true)) gh):
 Calls P F args W fun e W'=>∃v,e=.returned v/\s.post enc P fn false fresh handsOn again W args v W':=by
 have hW':=hW;obtain⟨p,q,hA,hV,hps,hfz,hnd⟩:=hW;rw[hvars]at hV
 have hgs:gs=[]/\q=[]:=by
  cases gs with
  |nil=>exact⟨rfl,hV⟩
  |cons x r=>simp[DataW.TrodVars]at hV
 obtain⟨rfl,rfl⟩:=hgs;simp only[List.append_nil]at hps;subst hps;obtain⟨xss,k1,k2,k3,k4⟩:=DM hl fn.params.toList args.toList ds before hpl hA (fun j t v a b=>hval j t v (by simpa using a) (by simpa using b)) hwt
 have hdl:ds.length=fn.params.toList.length:=by
  clear hval hW' hwt hpure k1 k2 k3 k4 hfz hnd hspec hpl hread;generalize fn.params.toList=ts at hA;generalize args.toList=vs at hA
  induction ts generalizing vs ds before with
  |nil=>
   cases vs<;>cases ds<;>simp[DataW.TrodAll]at hA ⊢
  |cons t ts ih=>
   cases vs with
   |nil=>simp[DataW.TrodAll]at hA
   |cons v vs=>
    cases ds with
    |nil=>simp[DataW.TrodAll]at hA
    |cons d ds=>
     obtain⟨p,q,_,h2,_⟩:=hA;simp[ih ds q vs h2]
 obtain⟨s1,s2,s3⟩:=hspec ds hdl;have hcall:=(hpure xss k1 k4).2 (s9 W) W args.toList hgb (fun _ _ h=>by cases h) k2 (fun j v x h1 h2=>(k3 j v x h1 h2).keep (fun _ _ _ h=>h) (fun _ h=>h.elim) (fun _ _ _ h=>h.elim) (fun _ _ h=>by cases h));simp only[Array.toArray_toList]at hcall;refine hcall.mono ?_;rintro e W' ⟨v,g',rfl,hv,_,_,hE⟩;have hg:=hE.grown (fun _=>rfl);cases hv.bool;refine⟨_,rfl,AG (pa:=before) (pv:=[]) hW' (fun bb sp hd=>?_) (fun sp hsp=>?_) (fun sp _=>?_) (by simp) (World.keptBut_mono (fun _ f=>f.elim) hg.1) hg.2 (ok_one hres rfl (okWide_bool_mk hb true))⟩
 ·rw[List.append_nil,s1,hres]
  exact trodAll_cons_mk (shut_bool hb true) trodAll_mk0
 ·rw[List.append_nil,s2]
  refine rM hlaid _ _ _ _ hread hA (fun x hx=>?_) hsp;have hlt:=hW'.lt x hx
  cases x with
  |cell b off=>
   have:W'.heap[b]?=W.heap[b]?:=(hE.kept b hlt rfl).1;simp only[World.sameAt,World.cell?,this]
  |map b=>exact(hE.kept b hlt rfl).1
 ·rw[List.append_nil,s3,hvars];rfl
theorem IW {H:Type} {enc:TypeId×Value->H} {P:Program} {F:Nat} {fn:Func} {s:ChangeSpec} {fresh handsOn again:Bool} {tb:Nat} {gh:Heap} (B:Nat) (ps:List Nat) (hvars:s.vars=[]) (hp:fn.params.toList=ps) (hck:N9 P ps=true)
 (hres:fn.resultTypes=#[tb]) (hb:P.underlying tb=some .bool)
 (hspec:∀ds:List (DataW H),ds.length=ps.length->(s.fn H ds).results=[.lit (.bool true)]/\(s.fn H ds).args=ds/\(s.fn H ds).vars=[])
 (W:World) (base:Nat) (args:Array Value) (ds gs:List (DataW H)) (before:List MemPlace)
 (hval:∀(j:Nat) t v,fn.params[j]?=some t->args[j]?=some v->Value.okWide P W .any base t v)
 (hW:DataW.Whole enc P fn.params.toList s.vars false W args.toList ds gs before) {vs:List Nat} (hsz:(DataW.weightsEach P (fn.params.toList++vs) (ds++gs)).all (·<=reachBytes)=true) (hvs:vs=[]) (hB:cZ (ds++gs)<=B)
 (hgb:gx (s9 W) W gh)
 (hpure:∀xss:List (List PV),OB P ps xss->EZ xss<=B->au P F (ng P ps xss) gh (.p (.b true)) gh):
 Calls P F args W fun e W'=>∃v,e=.returned v/\s.post enc P fn false fresh handsOn again W args v W':=by
 simp only[N9,Bool.and_eq_true,List.all_eq_true,List.contains_iff_mem]at hck;obtain⟨⟨h1,h2⟩,h3⟩:=hck
 have hg:gs=[]:=by
  obtain⟨p,q,_,hV,_⟩:=hW;rw[hvars]at hV
  cases gs with
  |nil=>rfl
  |cons x r=>simp[DataW.TrodVars]at hV
 subst hg;subst hvs;simp only[List.append_nil]at hsz hB;refine Aq (l:=oE P 1000 ps []) hvars h1 (by rw[hp];exact fun t ht=>(h2 t ht).1.1) h3 (by rw[hp];exact fun t ht=>⟨(h2 t ht).1.2,by have:=(h2 t ht).2;rwa [Nat.blt_eq]at this⟩) hres hb (by rw[hp];exact hspec) W base args ds [] before hval hW ?_ hgb (by rw[hp];exact fun xss h h'=>hpure xss h (by omega));intro x hx;exact of_decide_eq_true (List.all_eq_true.1 hsz x hx)
theorem I6 {g:Gh} {w w':World} (hs:w.heap.size<=w'.heap.size) (hos:w'.os=w.os) (hout:w'.output=w.output) (hblk:∀b,b<w.heap.size->w'.heap[b]?=w.heap[b]?):Ext g w g w':=by
 refine⟨hs,hos,hout,fun b o v hv=>?_,fun b hb ho=>⟨hblk b hb,rfl,ho⟩,sJ.of rfl rfl,fun a ha=>?_,fun _ _=>rfl,fun b cs E hb=>⟨cs,E,?_,rfl⟩⟩
 ·simp only[cO]at hv ⊢
  split at hv
  ·rename_i hp
   rw[if_pos hp]
   have hlt:b<w.heap.size:=by
    unfold World.cell? at hv;split at hv
    ·rename_i hb
     exact(Array.getElem?_eq_some_iff.1 hb).1
    ·cases hv
   unfold World.cell? at hv ⊢;rw[hblk b hlt];exact hv
  ·cases hv
 ·unfold World.frozen?
  rw[hblk _ ha]
 ·rw[hblk b (Array.getElem?_eq_some_iff.1 hb).1];exact hb
end Go.AM
namespace Go.Proofs
open Go.Shelf
def Tryz.wo:Go.Shelf.Ren:=⟨fun|174=>93|247=>128|245=>129|287=>152|279=>153|280=>154|281=>155|282=>156|321=>177|322=>178|316=>179|171=>181|205=>180|243=>191|246=>194|283=>197|284=>198|285=>199|286=>200|129=>203|317=>202|318=>204|319=>205|320=>206|337=>207|338=>208|n=>n,fun|9=>9|3=>3|2=>2|75=>224|85=>225|4=>4|167=>270|5=>5|53=>271|175=>272|46=>266|168=>274|37=>248|0=>0|210=>293|21=>21|127=>300|145=>303|143=>301|171=>309|173=>312|212=>318|51=>286|20=>20|213=>319|232=>322|233=>323|80=>186|n=>n,fun|15=>1|16=>2|17=>5|18=>6|19=>7|n=>n⟩
theorem Tryz.Ir:Go.Proofs.LaysC.n174 Tryz.prog Tryz.wo:={
 mixed:=by kernel_rfl
 f129:=Tryz.func203.trans (congrArg some (by kernel_rfl))
 f171:=Tryz.func181.trans (congrArg some (by kernel_rfl))
 f174:=Tryz.func93.trans (congrArg some (by kernel_rfl))
 f205:=Tryz.func180.trans (congrArg some (by kernel_rfl))
 f243:=Tryz.func191.trans (congrArg some (by kernel_rfl))
 f245:=Tryz.func129.trans (congrArg some (by kernel_rfl))
 f246:=Tryz.func194.trans (congrArg some (by kernel_rfl))
 f247:=Tryz.func128.trans (congrArg some (by kernel_rfl))
 f279:=Tryz.func153.trans (congrArg some (by kernel_rfl))
 f280:=Tryz.func154.trans (congrArg some (by kernel_rfl))
 f281:=Tryz.func155.trans (congrArg some (by kernel_rfl))
 f282:=Tryz.func156.trans (congrArg some (by kernel_rfl))
 f283:=Tryz.func197.trans (congrArg some (by kernel_rfl))
 f284:=Tryz.func198.trans (congrArg some (by kernel_rfl))
 f285:=Tryz.func199.trans (congrArg some (by kernel_rfl))
 f286:=Tryz.func200.trans (congrArg some (by kernel_rfl))
 f287:=Tryz.func152.trans (congrArg some (by kernel_rfl))
 f316:=Tryz.func179.trans (congrArg some (by kernel_rfl))
 f317:=Tryz.func202.trans (congrArg some (by kernel_rfl))
 f318:=Tryz.func204.trans (congrArg some (by kernel_rfl))
 f319:=Tryz.func205.trans (congrArg some (by kernel_rfl))
 f320:=Tryz.func206.trans (congrArg some (by kernel_rfl))
 f321:=Tryz.func177.trans (congrArg some (by kernel_rfl))
 f322:=Tryz.func178.trans (congrArg some (by kernel_rfl))
 f337:=Tryz.func207.trans (congrArg some (by kernel_rfl))
 f338:=Tryz.func208.trans (congrArg some (by kernel_rfl))
 t0:=Tryz.underlying0
 a0:=Tryz.isAgg0
 z0:=Tryz.sizeOf0
 v0:=Tryz.zeroValue0
 t2:=Tryz.underlying2
 a2:=Tryz.isAgg2
 z2:=Tryz.sizeOf2
 v2:=Tryz.zeroValue2
 t3:=Tryz.underlying3
 a3:=Tryz.isAgg3
 z3:=Tryz.sizeOf3
 v3:=Tryz.zeroValue3
 t4:=Tryz.underlying4
 a4:=Tryz.isAgg4
 z4:=Tryz.sizeOf4
 v4:=Tryz.zeroValue4
 t5:=Tryz.underlying5
 a5:=Tryz.isAgg5
 z5:=Tryz.sizeOf5
 v5:=Tryz.zeroValue5
 t9:=Tryz.underlying9
 a9:=Tryz.isAgg9
 z9:=Tryz.sizeOf9
 v9:=Tryz.zeroValue9
 t20:=Tryz.underlying20
 a20:=Tryz.isAgg20
 z20:=Tryz.sizeOf20
 v20:=Tryz.zeroValue20
 t21:=Tryz.underlying21
 a21:=Tryz.isAgg21
 z21:=Tryz.sizeOf21
 v21:=Tryz.zeroValue21
 t37:=Tryz.underlying248
 a37:=Tryz.isAgg248
 z37:=Tryz.sizeOf248
 v37:=Tryz.zeroValue248
 t46:=Tryz.underlying266
 a46:=Tryz.isAgg266
 z46:=Tryz.sizeOf266
 v46:=Tryz.zeroValue266
 t51:=Tryz.underlying286
 a51:=Tryz.isAgg286
 z51:=Tryz.sizeOf286
 v51:=Tryz.zeroValue286
 t53:=Tryz.underlying271
 a53:=Tryz.isAgg271
 z53:=Tryz.sizeOf271
 v53:=Tryz.zeroValue271
 t75:=Tryz.underlying224
 a75:=Tryz.isAgg224
 z75:=Tryz.sizeOf224
 v75:=Tryz.zeroValue224
 t85:=Tryz.underlying225
 a85:=Tryz.isAgg225
 z85:=Tryz.sizeOf225
 v85:=Tryz.zeroValue225
 t127:=Tryz.underlying300
 a127:=Tryz.isAgg300
 z127:=Tryz.sizeOf300
 v127:=Tryz.zeroValue300
 t143:=Tryz.underlying301
 a143:=Tryz.isAgg301
 z143:=Tryz.sizeOf301
 v143:=Tryz.zeroValue301
 t145:=Tryz.underlying303
 a145:=Tryz.isAgg303
 z145:=Tryz.sizeOf303
 v145:=Tryz.zeroValue303
 t167:=Tryz.underlying270
 a167:=Tryz.isAgg270
 z167:=Tryz.sizeOf270
 v167:=Tryz.zeroValue270
 t168:=Tryz.underlying274
 a168:=Tryz.isAgg274
 z168:=Tryz.sizeOf274
 v168:=Tryz.zeroValue274
 t171:=Tryz.underlying309
 a171:=Tryz.isAgg309
 z171:=Tryz.sizeOf309
 v171:=Tryz.zeroValue309
 t173:=Tryz.underlying312
 a173:=Tryz.isAgg312
 z173:=Tryz.sizeOf312
 v173:=Tryz.zeroValue312
 t175:=Tryz.underlying272
 a175:=Tryz.isAgg272
 z175:=Tryz.sizeOf272
 v175:=Tryz.zeroValue272
 t210:=Tryz.underlying293
 a210:=Tryz.isAgg293
 z210:=Tryz.sizeOf293
 v210:=Tryz.zeroValue293
 t212:=Tryz.underlying318
 a212:=Tryz.isAgg318
 z212:=Tryz.sizeOf318
 v212:=Tryz.zeroValue318
 t213:=Tryz.underlying319
 a213:=Tryz.isAgg319
 z213:=Tryz.sizeOf319
 t232:=Tryz.underlying322
 a232:=Tryz.isAgg322
 z232:=Tryz.sizeOf322
 v232:=Tryz.zeroValue322
 t233:=Tryz.underlying323
 a233:=Tryz.isAgg323
 z233:=Tryz.sizeOf323
 v233:=Tryz.zeroValue323
 g15:=by kernel_rfl
 g16:=by kernel_rfl
 g17:=by kernel_rfl
 g18:=by kernel_rfl
 g19:=by kernel_rfl
 t80:=Tryz.underlying186
 a80:=Tryz.isAgg186
 z80:=Tryz.sizeOf186
 v80:=Tryz.zeroValue186
 i0:=by kernel_rfl
 i2:=by kernel_rfl
 i3:=by kernel_rfl
 i4:=by kernel_rfl
 i5:=by kernel_rfl
 i9:=by kernel_rfl
 i20:=by kernel_rfl
 i21:=by kernel_rfl
 i37:=by kernel_rfl
 i46:=by kernel_rfl
 i51:=by kernel_rfl
 i53:=by kernel_rfl
 i75:=by kernel_rfl
 i80:=by kernel_rfl
 i85:=by kernel_rfl
 i127:=by kernel_rfl
 i143:=by kernel_rfl
 i145:=by kernel_rfl
 i167:=by kernel_rfl
 i168:=by kernel_rfl
 i171:=by kernel_rfl
 i173:=by kernel_rfl
 i175:=by kernel_rfl
 i210:=by kernel_rfl
 i212:=by kernel_rfl
 i232:=by kernel_rfl
 i233:=by kernel_rfl
 m15:=by kernel_rfl
 m16:=by kernel_rfl
 m17:=by kernel_rfl
 m18:=by kernel_rfl
 m19:=by kernel_rfl
 c0:=by kernel_rfl
 c2:=by kernel_rfl
 c3:=by kernel_rfl
 c4:=by kernel_rfl
 c5:=by kernel_rfl
 c9:=by kernel_rfl
 c20:=by kernel_rfl
 c21:=by kernel_rfl
 c37:=by kernel_rfl
 c46:=by kernel_rfl
 c51:=by kernel_rfl
 c53:=by kernel_rfl
 c75:=by kernel_rfl
 c80:=by kernel_rfl
 c85:=by kernel_rfl
 c127:=by kernel_rfl
 c143:=by kernel_rfl
 c145:=by kernel_rfl
 c167:=by kernel_rfl
 c168:=by kernel_rfl
 c171:=by kernel_rfl
 c173:=by kernel_rfl
 c175:=by kernel_rfl
 c210:=by kernel_rfl
 c212:=by kernel_rfl
 c213:=by kernel_rfl
 c232:=by kernel_rfl
 c233:=by kernel_rfl }
end Go.Proofs
open Go Go.AM Go.Proofs TK TR
set_option maxRecDepth 100000
namespace PA
theorem wO (w:World) (e:TypeId) (t:ByteArray):w.heap.size<=(Lib.bytesWorld w e t).heap.size/\(Lib.bytesWorld w e t).os=w.os/\(Lib.bytesWorld w e t).output=w.output/\∀b,b<w.heap.size->(Lib.bytesWorld w e t).heap[b]?=w.heap[b]?:=by
 refine⟨by rw[Lib.bytesWorld_size];omega,?_,?_,fun b hb=>Lib.bytesWorld_at_old w e t b hb⟩
 ·unfold Lib.bytesWorld;generalize Lib.bytesCells w e t=cs;unfold World.freeze;repeat' split<;>rfl
 ·unfold Lib.bytesWorld;generalize Lib.bytesCells w e t=cs;unfold World.freeze;repeat' split<;>rfl
theorem KH (ev:Value) (hev:ev=.nilIface\/∃te pe,ev=.iface te pe):R5 2 [ev]:=by
 intro s hs hne;have hbody:mG Tryz.prog 93:=TK.Cf Tryz.func93 rfl (by rfl);refine⟨⟨hbody,rfl⟩,fun g w us hh hbn hlen hrel=>?_⟩
 match us,hlen with
 | [u1,u2,u3],_=>
 have r1:=(hrel 0 u1 _ rfl rfl).pv;have r2:=(hrel 1 u2 _ rfl rfl).pv;have r3:=(hrel 2 u3 _ rfl rfl).pv
 cases r1;cases r2;cases r3
 have hob:=hh.obj 1000000000 (.bJ 2 [ev]) (aQ ..)
 cases hob with
 |bJ _ _ hgl=>
 obtain⟨hown,E,fr,hblk⟩:=hgl
 have fin:∀(w':World) (v:Value) (b:Bool),wz b v->w.heap.size<=w'.heap.size->w'.os=w.os->w'.output=w.output->(∀b,b<w.heap.size->w'.heap[b]?=w.heap[b]?)->∀n:Int,
  ∃v0 g',Ending.returned (.tuple #[.int .i64 n,v])=Ending.returned v0/\aH g' w' (aE [(1000000000,bu.bJ 2 [ev])]) (some .ret) v0 (.cI [.p (.i .i64 n),.wM b])/\gx g' w' [(1000000000,bu.bJ 2 [ev])]/\(∀b ow,g'.own b=some ow->b<w'.heap.size)/\Ext g w g' w':=by
  intro w' v b hv h1 h2 h3 h4 n;refine⟨_,g,rfl,?_,A4 hown ⟨E,fr,?_⟩,fun b ow ho=>Nat.lt_of_lt_of_le (hbn b ow ho) h1,I6 h1 h2 h3 h4⟩
  ·refine .cI _ [.int .i64 n,v] _ rfl ?_
   intro j x c hj hc
   match j with
   |0=>cases hj;cases hc;exact .p _ _ _ (.i _ _)
   |1=>cases hj;cases hc;exact .wM _ _ _ hv
   |j+2=>simp at hj
  ·rw[h4 2 (Array.getElem?_eq_some_iff.1 hblk).1];exact hblk
 unfold Lt;rcases hp:Lib.parseIntB 64 s.data.toList with v|_|_
 ·refine(Any.strconv_ParseInt_10_at64_ok Tryz.Ir s (by omega) v hp w).mono ?_
  rintro e w' ⟨rfl,hw⟩;rcases hw with rfl|⟨t,rfl⟩
  ·exact fin w' .nilIface false rfl (Nat.le_refl _) rfl rfl (fun _ _=>rfl) v
  ·obtain⟨k1,k2,k3,k4⟩:=wO w (Tryz.wo.t 5) t
   exact fin _ .nilIface false rfl k1 k2 k3 k4 v
 ·rw[hp]at hne;cases hne
 ·refine(Any.strconv_ParseInt_10_at64_range Tryz.Ir s (by omega) hp ev w ?_ hev).mono ?_
  ·show w.cell? ⟨2,0,none⟩=some ev
   simp[World.cell?,hblk]
  ·rintro e w' ⟨N,rfl,_,_,hB⟩
   exact fin w' _ true ⟨_,_,rfl⟩ hB.size hB.os hB.output hB.block _
end PA
end
section
open Go Go.AM Go.Proofs TK TR
namespace PA
def Pj:List AV:=[.p (.s ⟨#[]⟩),.p (.i .i64 0),.cx,.cx,.cx,.cx,.cx,.cx]
theorem gx.Om {g:Gh} {w:World} {h:Heap} (hH:gx g w h) (hbn:∀b ow,g.own b=some ow->b<w.heap.size) (ob:Obj) (hglob:∀l b vs,aF h l=some (.bJ b vs)->True):gx (g.new w.heap.size 0 none) (World.push w ob) h:=by
 have hp:∀b,b<w.heap.size->(g.new w.heap.size 0 none).pre b=g.pre b/\(g.new w.heap.size 0 none).own b=g.own b:=fun b hb=>by simp[Gh.new,Nat.ne_of_lt hb]
 have hd:∀l,aE h l->aE h l/\(g.new w.heap.size 0 none).ρ l=g.ρ l:=fun l hl=>⟨hl,rfl⟩
 refine⟨fun l o ho=>?_,fun l o ho hq=>?_,fun l o ho hq=>?_⟩
 ·have hdl:aE h l:=by simp[aE,ho]
  exact(hH.obj l o ho).push hp hd hbn hdl
 ·have this:=hH.own l o ho hq
  show(g.new w.heap.size 0 none).own (g.ρ l)=_;rw[(hp _ (hbn _ _ this)).2];exact this
 ·have this:=hH.own l o ho hq
  show(g.new w.heap.size 0 none).pre (g.ρ l)=_;rw[(hp _ (hbn _ _ this)).1];exact hH.pre l o ho hq
theorem G2 (g:Gh) (w:World) (h:Heap) (p q r:Addr) (hH:gx g w h) (hbn:∀b ow,g.own b=some ow->b<w.heap.size):
 CallsD Tryz.prog 42 #[.pointer (some p),.pointer (some q),.pointer (some r)] .returning w fun e u' w'=>e=.returned (.tuple #[])/\u'=.returning/\∃g',gx g' w' h/\(∀l,g'.ρ l=g.ρ l)/\Ext g w g' w':=by
 refine(GU p q r w).mono ?_;rintro e u' w' ⟨rfl,rfl,rfl⟩
 have hw:(w.alloc (.cells #[.int .i64 0] 148)).setCell ⟨w.heap.size,0,none⟩ (.int .i64 0)=World.push w (.cells #[.int .i64 0] 148 (0,0)):=by
  unfold World.setCell World.alloc World.push
  congr 1
  apply Array.ext_getElem?
  intro i;rw[Array.getElem?_modify]
  by_cases hi:w.heap.size=i
  ·subst hi;simp
  ·rw[if_neg hi]
 rw[hw];exact⟨rfl,rfl,g.new w.heap.size 0 none,gx.Om hH hbn _ (fun _ _ _ _=>trivial),fun _=>rfl,Ext.push (fun b hb=>by simp[Gh.new,Nat.ne_of_lt hb]) (fun a=>gA a) (fun _ _=>rfl)⟩
end PA
end
section
open Go Go.AM Go.Proofs
namespace TK
theorem NO (l:Bs):((B l).toList==ByteArray.toList ⟨#[]⟩)=(l==[]):=tR l []
theorem J2 (l:Bs) (W:List Bs) (b:Bool) (h1:aU Tryz.prog 123 [] (.p (.sl 1 (W.map bF)))) (h2:aU Tryz.prog 122 [.p (.sl 1 (W.map bF)),.p (.s (B l))] (.p (.b b))):
 aU Tryz.prog 84 [.p (.s (B l))] (.p (.b (!(l==[])&&b))):=by
 refine aU.iN av Tryz.func84 rfl (by rfl) (by kernel_rfl) rfl rfl ?_;(conv=>whnf);refine ai ?_ ?_<;>intro h<;>conv=>whnf
 ·rw[NO]at h
  refine kK h1 ?_;(conv=>whnf);refine kK h2 ?_;(conv=>whnf);exact .inl (pb (by rw[h];rfl))
 ·rw[NO]at h
  exact .inl (pb (by rw[h];rfl))
theorem JJ (l:Bs):aU Tryz.prog 84 [.p (.s (B l))] (.p (.b (N5 l))):=
 J2 l sK _ yZ (Fx sK l (by rw[sK,AQ];exact Nat.lt_of_le_of_lt (Nat.succ_le_succ (AN _ _)) (by decide)))
end TK
namespace TR
def w9 (p:nX):List AV:=[.p (.s p.name),.p (.i .i64 p.ver),.p (.sl 3 (p.uses.map kT)),.p (.sl 3 (p.datas.map kM)),.p (.sl 2 (p.traits.map kN)),.p (.sl 3 (p.impls.map iI)),.p (.sl 15 (p.funcs.map dj)),.p (.sl 14 (p.actors.map gZ))]
end TR
end
