/- Contracts, and the law, for every input. No conditions. -/
import Derived.Test.YtdmopjgjhfhfdaaGreatDoorXR
set_option linter.all false
set_option maxRecDepth 100000
open Go Go.AM Go.Proofs TK
namespace MN
def K0:Ks:=⟨(0,[]),(0,[]),(0,[]),(0,[]),(0,[]),(0,[]),(0,[]),(0,[]),(0,[])⟩
def S0:Ss:=⟨(0,[]),(0,[]),(0,[]),(0,[]),(0,[]),(0,[])⟩
def wA:ByteArray:=⟨#[65]⟩
def oV (k n:Int):Ov:=.mk k n ⟨#[]⟩ []
def w8 (p:TR.nX) (st:List Ov) (l:List gV):Option (Ks×Ss×Rn×List Ou×Ss×Rn):=match newF p K0 with
 |none=>none
 |some K=>match fY K S0 0 wA st 7 with
  |none=>none
  |some (_,.error _)=>none
  |some (S,.ok r)=>match gP K [] 60001 0 S r 1000 0 l [] with
   |none=>none
   |some (none,_,_)=>none
   |some (some x,S2,r2)=>some (K,S,r,x,S2,r2)
def Gk (R:Option (Ks×Ss×Rn×List Ou×Ss×Rn)):Option (List (Int×Int)):=match R with
 |none=>none
 |some R=>some (R.2.2.2.1.map fun o=>(o.kind,o.num))
theorem Lo {p:TR.nX} {st:List Ov} {l:List gV} {q:List (Int×Int)} (h:Gk (w8 p st l)=some q):
 ∃K S r x S2 r2,newF p K0=some K/\fY K S0 0 wA st 7=some (S,.ok r)/\gP K [] 60001 0 S r 1000 0 l []=some (some x,S2,r2)/\x.map (fun o=>(o.kind,o.num))=q:=by
 unfold w8 at h
 cases h1:newF p K0 with
 |none=>rw[h1]at h;cases h
 |some K=>
  rw[h1]at h;dsimp only at h;split at h
  ·cases h
  ·cases h
  ·rename_i S r h2
   split at h
   ·cases h
   ·cases h
   ·rename_i x S2 r2 h3
    exact⟨K,S,r,x,S2,r2,rfl,h2,h3,Option.some.inj h⟩
theorem CH (ev:Value) (hev:ev=.nilIface\/∃te pe,ev=.iface te pe):au Tryz.prog 12 [.p (.s (B XE.vL))] (PA.hE ev) (.p (TR.iY XE.NC)) (PA.hE ev):=by
 have h:au Tryz.prog 23 [.p (.s (B XE.vL))] (PA.hE ev) (PA.yw (XE.NC,0,0)) (PA.hE ev):=by
  have e:((B XE.vL).size:Int)=205:=by kernel_rfl
  rcases hev with rfl|⟨te,pe,rfl⟩
  ·exact PA.Hr _ _ _ _ _ XE.RA (by rw[e];exact XE.Rm) XE.RC
  ·exact PA.Hr _ _ _ _ _ XE.RA (by rw[e];exact XE.Rz te pe) XE.RC
 generalize XE.NC=x at h ⊢;obtain⟨pn,pv,pu,pd,pt,pi',pf,pa⟩:=x;unfold PA.hE at h ⊢;generalize B XE.vL=t at h ⊢;refine au.iN av Tryz.func12 rfl (by rfl) (by kernel_rfl) rfl rfl ?_;(conv=>whnf);refine bh [1000000000] 500 h ?_;(conv=>whnf);exact⟨.inl rfl,⟨rfl,rfl⟩,trivial⟩
def NB (K:Ks) (S:Ss) (zr:aZ Rn):Heap:=
 [(1000000001,gW zr),(1000000002,Ef S.o),(1000000003,iZ K.n),(1000000004,yO K.a),(1000000005,Mb K.b),(1000000006,Ay sS S.s),(1000000007,pO S.v),(1000000008,J3 S.f),(1000000009,kQ S.c),
  (1000000010,tq K.mm),(1000000011,NP K.mc),(1000000012,Md K.mf),(1000000013,Mi K.mt),(1000000014,OS K.im),(1000000015,Ik K.ma),(1000000016,GA S.g)]
def Of:List gV:=[⟨0,oV 2 3⟩]
theorem Kv:Gk (w8 XE.NC [oV 2 4] Of)=some [(7,-1),(2,7),(7,-1)]:=by kernel_rfl
theorem Jn (ev:Value) (p:TR.nX) (h:au Tryz.prog 12 [.p (.s (B XE.vL))] (PA.hE ev) (.p (TR.iY p)) (PA.hE ev)) (hp:Gk (w8 p [oV 2 4] Of)=some [(7,-1),(2,7),(7,-1)]):
 ∃K S zr,au Tryz.prog 11 [] (PA.hE ev++NB K0 S0 (0,[])) (.p (.b true)) (PA.hE ev++NB K S zr):=by
 obtain⟨K,S,r,outs,S9,r9,h1,h2,h3,h4⟩:=Lo hp;have hn:=tv K0 p K h1;have hpl:=zX K S0 (0,[]) 0 wA [oV 2 4] Of S r (some outs,S9,r9) h2 h3;refine⟨K,S9,(0+1,[(0,r9)]),?_⟩;clear h1 h2 h3 hp;dsimp only at h4 hpl;rcases outs with _|⟨a,_|⟨b,_|⟨c,_|⟨d,outs⟩⟩⟩⟩<;>simp at h4
 obtain⟨⟨a1,a2⟩,⟨b1,b2⟩,c1,c2⟩:=h4;obtain⟨ak,an,a3,a4,a5,a6,a7,a8⟩:=a;obtain⟨bk,bn,b3,b4,b5,b6,b7,b8⟩:=b;obtain⟨ck,cn,c3,c4,c5,c6,c7,c8⟩:=c;dsimp only at a1 a2 b1 b2 c1 c2;subst a1;subst a2;subst b1;subst b2;subst c1;subst c2;obtain⟨pn,pv,pu,pd,pt,pi',pf,pa⟩:=p;unfold PA.hE at *;unfold NB TR.iY hK hA at *;refine au.iN av Tryz.func11 rfl (by rfl) (by kernel_rfl) rfl rfl ?_;(conv=>whnf);refine bh [1000000000] 500 h ?_;(conv=>whnf);refine bh [1000000003,1000000004,1000000005,1000000010,1000000011,1000000012,1000000013,1000000014,1000000015] 500 hn ?_;(conv=>whnf);refine bh iD 500 hpl ?_;(conv=>whnf);refine aq (i:=0) (x:=.agg [.i .i64 7,.i .i64 (-1),.s a3,.i .i64 a4,.i .i64 a5,.s a6,.sl 4 (gT a7),.sl 4 (gT a8)]) rfl ?_;(conv=>whnf);refine aq (i:=1) (x:=.agg [.i .i64 2,.i .i64 7,.s b3,.i .i64 b4,.i .i64 b5,.s b6,.sl 4 (gT b7),.sl 4 (gT b8)]) rfl ?_;(conv=>whnf);refine aq (i:=1) (x:=.agg [.i .i64 2,.i .i64 7,.s b3,.i .i64 b4,.i .i64 b5,.s b6,.sl 4 (gT b7),.sl 4 (gT b8)]) rfl ?_;(conv=>whnf);refine aq (i:=2) (x:=.agg [.i .i64 7,.i .i64 (-1),.s c3,.i .i64 c4,.i .i64 c5,.s c6,.sl 4 (gT c7),.sl 4 (gT c8)]) rfl ?_;(conv=>whnf);exact⟨.inl rfl,⟨rfl,rfl⟩,by(repeat refine⟨s6,?_⟩);trivial⟩
theorem GX (ev:Value) (hev:ev=.nilIface\/∃te pe,ev=.iface te pe):au Tryz.prog 11 [] (PA.hE ev) (.p (.b true)) (PA.hE ev):=by
 have h:=CH ev hev;have hp:=Kv;generalize XE.NC=p at h hp;obtain⟨K,S,zr,h2⟩:=Jn ev p h hp;exact au.Qt h2 rfl rfl rfl rfl
end MN
