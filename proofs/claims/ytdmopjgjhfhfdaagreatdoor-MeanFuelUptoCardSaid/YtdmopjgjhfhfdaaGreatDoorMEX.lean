/- Contracts, and the law, for every input. No conditions. -/
import Derived.Test.YtdmopjgjhfhfdaaGreatDoorRL2
import Derived.Test.YtdmopjgjhfhfdaaGreatDoorXR
import Derived.Test.YtdmopjgjhfhfdaaGreatDoorTR4
set_option linter.all false
open Go Go.AM Go.Proofs TK
set_option maxRecDepth 100000
namespace MN
def K0:Ks:=⟨(0,[]),(0,[]),(0,[]),(0,[]),(0,[]),(0,[]),(0,[]),(0,[]),(0,[])⟩
def S0:Ss:=⟨(0,[]),(0,[]),(0,[]),(0,[]),(0,[]),(0,[])⟩
def wA:ByteArray:=⟨#[65]⟩
def oV (k n:Int):Ov:=.mk k n ⟨#[]⟩ []
def we (p:TR.oH) (st:List Ov) (l:List mK):Option (Ks×Ss×Rn×List Ou×Ss×Rn):=match newF p K0 with
 |none=>none
 |some K=>match lI K S0 0 wA st 7 with
  |none=>none
  |some (_,.error _)=>none
  |some (S,.ok r)=>match eW K [] 60001 0 S r 1000 0 l [] with
   |none=>none
   |some (none,_,_)=>none
   |some (some x,S2,r2)=>some (K,S,r,x,S2,r2)
def EZ (R:Option (Ks×Ss×Rn×List Ou×Ss×Rn)):Option (List (Int×Int)):=match R with
 |none=>none
 |some R=>some (R.2.2.2.1.map fun o=>(o.kind,o.num))
theorem JN {p:TR.oH} {st:List Ov} {l:List mK} {q:List (Int×Int)} (h:EZ (we p st l)=some q):
 ∃K S r x S2 r2,newF p K0=some K∧lI K S0 0 wA st 7=some (S,.ok r)∧eW K [] 60001 0 S r 1000 0 l []=some (some x,S2,r2)∧x.map (fun o=>(o.kind,o.num))=q:=by
 unfold we at h
 cases h1:newF p K0 with
 |none=>rw[h1]at h;cases h
 |some K=>
  rw[h1]at h;dsimp only at h;split at h
  ·cases h
  ·cases h
  ·rename_i S r h2
   split at h
   ·cases h
   ·cases h
   ·rename_i x S2 r2 h3
    exact⟨K,S,r,x,S2,r2,rfl,h2,h3,Option.some.inj h⟩
theorem BC (ev:Value) (hev:ev=.nilIface∨∃te pe,ev=.iface te pe):av Tryz.prog 12 [.p (.s (B XE.ur))] (PA.hE ev) (.p (TR.kW XE.MD)) (PA.hE ev):=by
 have h:av Tryz.prog 23 [.p (.s (B XE.ur))] (PA.hE ev) (PA.xQ (XE.MD,0,0)) (PA.hE ev):=by
  have e:((B XE.ur).size:Int)=205:=by kernel_rfl
  rcases hev with rfl|⟨te,pe,rfl⟩
  ·exact PA.G2 _ _ _ _ _ XE.Qf (by rw[e];exact XE.Pu) XE.Qh
  ·exact PA.G2 _ _ _ _ _ XE.Qf (by rw[e];exact XE.Po te pe) XE.Qh
 generalize XE.MD=x at h ⊢;obtain⟨pn,pv,pu,pd,pt,pi',pf,pa⟩:=x;unfold PA.hE at h ⊢;generalize B XE.ur=t at h ⊢;refine av.intro (ah Tryz.prog) aC Tryz.func12 rfl (by rfl) (by kernel_rfl) (by show 1≤_;decide) rfl ?_;(conv=>whnf);refine bh [1000000000] 500 h ?_;(conv=>whnf);exact⟨.inl rfl,⟨rfl,rfl⟩,trivial⟩
def N3 (K:Ks) (S:Ss) (zr:bf Rn):Heap:=
 [(1000000001,iE zr),(1000000002,CH S.o),(1000000003,iH K.n),(1000000004,xS K.a),(1000000005,K8 K.b),(1000000006,zX sS S.s),(1000000007,oG S.v),(1000000008,J9 S.f),(1000000009,kH S.c),
  (1000000010,sG K.mm),(1000000011,Mt K.mc),(1000000012,K6 K.mf),(1000000013,LX K.mt),(1000000014,MW K.im),(1000000015,Gy K.ma),(1000000016,IQ S.g)]
def Ni:List mK:=[⟨0,oV 2 3⟩]
theorem J1:EZ (we XE.MD [oV 2 4] Ni)=some [(7,-1),(2,7),(7,-1)]:=by kernel_rfl
theorem Iy (ev:Value) (p:TR.oH) (h:av Tryz.prog 12 [.p (.s (B XE.ur))] (PA.hE ev) (.p (TR.kW p)) (PA.hE ev)) (hp:EZ (we p [oV 2 4] Ni)=some [(7,-1),(2,7),(7,-1)]):
 ∃K S zr,av Tryz.prog 11 [] (PA.hE ev++N3 K0 S0 (0,[])) (.p (.b true)) (PA.hE ev++N3 K S zr):=by
 obtain⟨K,S,r,outs,S9,r9,h1,h2,h3,h4⟩:=JN hp;have hn:=ym K0 p K h1;have hpl:=xC K S0 (0,[]) 0 wA [oV 2 4] Ni S r (some outs,S9,r9) h2 h3;refine⟨K,S9,(0+1,[(0,r9)]),?_⟩;clear h1 h2 h3 hp;dsimp only at h4 hpl;rcases outs with _|⟨a,_|⟨b,_|⟨c,_|⟨d,outs⟩⟩⟩⟩<;>simp at h4
 obtain⟨⟨a1,a2⟩,⟨b1,b2⟩,c1,c2⟩:=h4;obtain⟨ak,an,a3,a4,a5,a6,a7,a8⟩:=a;obtain⟨bk,bn,b3,b4,b5,b6,b7,b8⟩:=b;obtain⟨ck,cn,c3,c4,c5,c6,c7,c8⟩:=c;dsimp only at a1 a2 b1 b2 c1 c2;subst a1;subst a2;subst b1;subst b2;subst c1;subst c2;obtain⟨pn,pv,pu,pd,pt,pi',pf,pa⟩:=p;unfold PA.hE at *;unfold N3 TR.kW hK hA at *;refine av.intro (ah Tryz.prog) aC Tryz.func11 rfl (by rfl) (by kernel_rfl) (by show 0≤_;decide) rfl ?_;(conv=>whnf);refine bh [1000000000] 500 h ?_;(conv=>whnf);refine bh [1000000003,1000000004,1000000005,1000000010,1000000011,1000000012,1000000013,1000000014,1000000015] 500 hn ?_;(conv=>whnf);refine bh iD 500 hpl ?_;(conv=>whnf);refine au (i:=0) (x:=.agg [.i .i64 7,.i .i64 (-1),.s a3,.i .i64 a4,.i .i64 a5,.s a6,.sl 4 (gK a7),.sl 4 (gK a8)]) rfl ?_;(conv=>whnf);refine au (i:=1) (x:=.agg [.i .i64 2,.i .i64 7,.s b3,.i .i64 b4,.i .i64 b5,.s b6,.sl 4 (gK b7),.sl 4 (gK b8)]) rfl ?_;(conv=>whnf);refine au (i:=1) (x:=.agg [.i .i64 2,.i .i64 7,.s b3,.i .i64 b4,.i .i64 b5,.s b6,.sl 4 (gK b7),.sl 4 (gK b8)]) rfl ?_;(conv=>whnf);refine au (i:=2) (x:=.agg [.i .i64 7,.i .i64 (-1),.s c3,.i .i64 c4,.i .i64 c5,.s c6,.sl 4 (gK c7),.sl 4 (gK c8)]) rfl ?_;(conv=>whnf);exact⟨.inl rfl,⟨⟨rfl,rfl⟩,s6,s6,s6,s6,s6,s6,s6,s6,s6,s6,s6,s6,s6,s6,s6,s6,trivial⟩⟩
theorem Eo (ev:Value) (hev:ev=.nilIface∨∃te pe,ev=.iface te pe):av Tryz.prog 11 [] (PA.hE ev) (.p (.b true)) (PA.hE ev):=by
 have h:=BC ev hev;have hp:=J1;generalize XE.MD=p at h hp;obtain⟨K,S,zr,h2⟩:=Iy ev p h hp;exact av.O1 h2 rfl rfl rfl rfl
end MN
