/- Contracts, and the law, for every input. No conditions. -/
import Derived.Test.YtdmopjgjhfhfdaaGreatDoorMOD
import Derived.Test.YtdmopjgjhfhfdaaGreatDoorPAQ
open Go Go.AM Go.Proofs TK
set_option maxRecDepth 100000
namespace MN
def listsL:Bs:=[109,111,100,117,108,101,32,109,32,49,59,32,100,97,116,97,32,76,105,115,116,91,97,93,32,61,32,78,105,108,32,124,32,67,111,110,115,40,97,44,32,76,105,115,116,40,97,41,41,59,32,102,117,110,32,108,101,110,91,97,93,40,108,58,32,76,105,115,116,40,97,41,41,58,32,105,110,116,32,61,32,109,97,116,99,104,32,108,32,123,32,78,105,108,32,61,62,32,48,59,32,67,111,110,115,40,120,44,32,114,41,32,61,62,32,40,49,32,43,32,108,101,110,40,114,41,41,32,125,59,32,97,99,116,111,114,32,65,40,110,58,32,105,110,116,41,58,32,105,110,116,32,61,32,114,101,99,101,105,118,101,32,123,32,120,32,61,62,32,108,101,116,32,121,32,61,32,115,97,121,40,40,120,32,43,32,110,41,41,32,105,110,32,98,101,99,111,109,101,40,120,41,32,125,59]
def K0:Ks:=⟨(0,[]),(0,[]),(0,[]),(0,[]),(0,[]),(0,[]),(0,[]),(0,[]),(0,[])⟩
def S0:Ss:=⟨(0,[]),(0,[]),(0,[]),(0,[]),(0,[]),(0,[])⟩
def wA:ByteArray:=⟨#[65]⟩
def oV (k n:Int):Ov:=.mk k n ⟨#[]⟩ []
def playAll (p:TR.LPg) (st l:List Ov):Option (Ks×List Ou×Ss×Rn):=match newF p K0 with
 |none=>none
 |some K=>match makeF K S0 0 wA st 7 with
  |none=>none
  |some (S,r)=>match playG K 150 S r l [] with
   |none=>none
   |some R=>some (K,R)
def outsOf (R:Option (Ks×List Ou×Ss×Rn)):Option (List (Int×Int)):=match R with
 |none=>none
 |some R=>some (R.2.1.map fun o=>(o.kind,o.num))
theorem outs_inv {p:TR.LPg} {st l:List Ov} {q:List (Int×Int)} (h:outsOf (playAll p st l)=some q):
 ∃K S r R,newF p K0=some K∧makeF K S0 0 wA st 7=some (S,r)∧playG K 150 S r l []=some R∧R.1.map (fun o=>(o.kind,o.num))=q:=by
 unfold playAll at h
 cases h1:newF p K0 with
 |none=>rw[h1]at h;cases h
 |some K=>
  rw[h1]at h;dsimp only at h
  cases h2:makeF K S0 0 wA st 7 with
  |none=>rw[h2]at h;cases h
  |some P=>
   rw[h2]at h;obtain⟨S,r⟩:=P;dsimp only at h
   cases h3:playG K 150 S r l [] with
   |none=>rw[h3]at h;cases h
   |some R=>
    rw[h3]at h;exact⟨K,S,r,R,rfl,h2,h3,Option.some.inj h⟩
theorem program_spec (ev:Value) (hev:ev=.nilIface∨∃te pe,ev=.iface te pe) (l:Bs) (hl:PA.okL l=true):AMem Tryz.prog 12 [.p (.s (B l))] (PA.hE ev) (.p (TR.elPg (PA.parseF l).1)) (PA.hE ev):=by
 have h:=PA.parse_at ev hev l hl;generalize PA.parseF l=x at h;obtain⟨⟨pn,pv,pu,pd,pt,pi',pf,pa⟩,i,j⟩:=x;unfold PA.hE at h ⊢;generalize B l=t at h;refine AMem.intro (tyOf_ok Tryz.prog) hmix Tryz.func12 rfl (by rfl) (by kernel_rfl) (by show 1≤_;decide) rfl ?_;(conv=>whnf);refine amc [1000000000] 500 h ?_;(conv=>whnf);exact⟨.inl rfl,⟨rfl,rfl⟩,trivial⟩
def stL (K:Ks) (S:Ss) (zr:Sto Rn):Heap:=
 [(1000000001,hRn zr),(1000000002,hOu S.o),(1000000003,hNd K.n),(1000000004,hAr K.a),(1000000005,hBr K.b),(1000000006,hSc sS S.s),(1000000007,hVb S.v),(1000000008,hFb S.f),(1000000009,hCl S.c),
  (1000000010,hMk K.mm),(1000000011,hMc K.mc),(1000000012,hMf K.mf),(1000000013,hMt K.mt),(1000000014,hIm K.im),(1000000015,hMa K.ma),(1000000016,hGm S.g)]
theorem means_ok:outsOf (playAll (PA.parseF listsL).1 [oV 2 4] [oV 2 3])=some [(7,-1),(2,7),(7,-1)]:=by kernel_rfl
theorem means_aux (ev:Value) (p:TR.LPg) (h:AMem Tryz.prog 12 [.p (.s (B listsL))] (PA.hE ev) (.p (TR.elPg p)) (PA.hE ev)) (hp:outsOf (playAll p [oV 2 4] [oV 2 3])=some [(7,-1),(2,7),(7,-1)]):
 ∃K S zr,AMem Tryz.prog 11 [] (PA.hE ev++stL K0 S0 (0,[])) (.p (.b true)) (PA.hE ev++stL K S zr):=by
 obtain⟨K,S,r,R,h1,h2,h3,h4⟩:=outs_inv hp;obtain⟨outs,S9,r9⟩:=R;have hn:=new_spec K0 p K h1;have hpl:=played_spec K S0 (0,[]) 0 wA [oV 2 4] [oV 2 3] S r (outs,S9,r9) h2 h3;refine⟨K,S9,(0+1,[(0,r9)]),?_⟩;clear h1 h2 h3 hp;dsimp only at h4 hpl;rcases outs with _|⟨a,_|⟨b,_|⟨c,_|⟨d,outs⟩⟩⟩⟩<;>simp at h4
 obtain⟨⟨a1,a2⟩,⟨b1,b2⟩,c1,c2⟩:=h4;obtain⟨ak,an,a3,a4,a5,a6,a7,a8⟩:=a;obtain⟨bk,bn,b3,b4,b5,b6,b7,b8⟩:=b;obtain⟨ck,cn,c3,c4,c5,c6,c7,c8⟩:=c;dsimp only at a1 a2 b1 b2 c1 c2;subst a1;subst a2;subst b1;subst b2;subst c1;subst c2;obtain⟨pn,pv,pu,pd,pt,pi',pf,pa⟩:=p;unfold PA.hE at *;unfold stL TR.elPg hK hA at *;refine AMem.intro (tyOf_ok Tryz.prog) hmix Tryz.func11 rfl (by rfl) (by kernel_rfl) (by show 0≤_;decide) rfl ?_;(conv=>whnf);refine amc [1000000000] 500 h ?_;(conv=>whnf);refine amc [1000000003,1000000004,1000000005,1000000010,1000000011,1000000012,1000000013,1000000014,1000000015] 500 hn ?_;(conv=>whnf);refine amc iD 500 hpl ?_;(conv=>whnf);refine aidxn (i:=0) (x:=.agg [.i .i64 7,.i .i64 (-1),.s a3,.i .i64 a4,.i .i64 a5,.s a6,.sl 4 (eOs a7),.sl 4 (eOs a8)]) rfl ?_;(conv=>whnf);refine aidxn (i:=1) (x:=.agg [.i .i64 2,.i .i64 7,.s b3,.i .i64 b4,.i .i64 b5,.s b6,.sl 4 (eOs b7),.sl 4 (eOs b8)]) rfl ?_;(conv=>whnf);refine aidxn (i:=1) (x:=.agg [.i .i64 2,.i .i64 7,.s b3,.i .i64 b4,.i .i64 b5,.s b6,.sl 4 (eOs b7),.sl 4 (eOs b8)]) rfl ?_;(conv=>whnf);refine aidxn (i:=2) (x:=.agg [.i .i64 7,.i .i64 (-1),.s c3,.i .i64 c4,.i .i64 c5,.s c6,.sl 4 (eOs c7),.sl 4 (eOs c8)]) rfl ?_;(conv=>whnf);exact⟨.inl rfl,⟨⟨rfl,rfl⟩,s6,s6,s6,s6,s6,s6,s6,s6,s6,s6,s6,s6,s6,s6,s6,s6,trivial⟩⟩
theorem means_spec (ev:Value) (hev:ev=.nilIface∨∃te pe,ev=.iface te pe):AMem Tryz.prog 11 [] (PA.hE ev) (.p (.b true)) (PA.hE ev):=by
 have h:=program_spec ev hev listsL (by kernel_rfl);have hp:=means_ok;generalize (PA.parseF listsL).1=p at h hp;obtain⟨K,S,zr,h2⟩:=means_aux ev p h hp;exact AMem.hide h2 rfl rfl rfl rfl
end MN
