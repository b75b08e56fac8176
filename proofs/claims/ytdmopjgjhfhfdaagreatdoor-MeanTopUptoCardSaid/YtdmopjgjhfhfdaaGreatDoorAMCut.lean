/- Part of a machine over plain values. No conditions. -/
import Derived.Test.YtdmopjgjhfhfdaaGreatDoorMN8
set_option linter.all false
set_option maxRecDepth 100000
section
open Go Go.AM Go.Proofs TK
namespace MN
def Vl.kind:Vl->Int
 |.mk k _ _ _ _=>k
def Vl.num:Vl->Int
 |.mk _ n _ _ _=>n
def Vl.text:Vl->ByteArray
 |.mk _ _ t _ _=>t
def Vl.args:Vl->List Vl
 |.mk _ _ _ l _=>l
mutual
def lu:Vl->Nat
 |.mk _ _ _ l _=>nQ l+1
def nQ:List Vl->Nat
 | []=>0
 |v::r=>max (lu v) (nQ r)
end
def qp (v:Vl):Bool:=(v.kind==7)||(v.kind==8)
def wq (f:Vl->Vl->Option (Bool×ByteArray)):List Vl->List Vl->Option (Bool×ByteArray)
 | [],_=>some (true,⟨#[]⟩)
 |_::_,[]=>none
 |a::r,b::s=>match f a b with
  |none=>none
  |some (false,w)=>some (false,w)
  |some (true,_)=>wq f r s
def rN:Nat->Vl->Vl->Option (Bool×ByteArray)
 |0,_,_=>none
 |n+1,a,b=>match qp a||qp b with
  |true=>some (false,cK)
  |false=>match a.kind==b.kind with
   |false=>some (false,cK)
   |true=>match !(a.num==b.num)||!(a.text.toList==b.text.toList)||!(((bz a.args).length:Int)==((bz b.args).length:Int)) with
    |true=>some (false,⟨#[]⟩)
    |false=>match Nat.ble a.args.length 2000000 with
     |false=>none
     |true=>wq (rN n) a.args b.args
theorem Bi:∀(n:Nat) (a b:Vl) (R:Bool×ByteArray),rN n a b=some R->aU Tryz.prog 268 [.p (eV a),.p (eV b)] (.cI [.p (.b R.1),.p (.s R.2)])
 |0,_,_,_,hF=>by cases hF
 |n+1,a,b,R,hF=>by
  have ih:=Bi n;unfold rN at hF;obtain⟨ak,an,at_,al,ac⟩:=a;obtain⟨bk,bn,bt,bl,bc⟩:=b;rw[eV,eV];have hlen:(bz al).length=al.length:=by rw[aR];simp
  generalize hA:PV.agg [.i .i64 ak,.i .i64 an,.s at_,.sl 5 (bz al),eP cS ac]=pa;generalize hB:PV.agg [.i .i64 bk,.i .i64 bn,.s bt,.sl 5 (bz bl),eP cS bc]=pb;subst hA;subst hB;refine aU.iN av Tryz.func268 rfl (by rfl) (by kernel_rfl) rfl rfl ?_;(conv=>whnf);refine bK (aG _) av (by kernel_rfl) 2 [2,3,13,14,15] [2,3] (fun j (_:Unit)=>[.ptr 2 0,.ptr 3 0,.so 5 ([.agg [.i .i64 ak,.i .i64 an,.s at_,.sl 5 (bz al),eP cS ac],.agg [.i .i64 bk,.i .i64 bn,.s bt,.sl 5 (bz bl),eP cS bc]]),.p (.i .i64 2),.p (.i .i64 (ix j))]) (fun _ _=>[.cells (iK [.i .i64 ak,.i .i64 an,.s at_,.sl 5 (bz al),eP cS ac]),.cells (iK [.i .i64 bk,.i .i64 bn,.s bt,.sl 5 (bz bl),eP cS bc])]) (fun j _=>(1<=j->qp (.mk ak an at_ al ac)=false)/\(2<=j->qp (.mk bk bn bt bl bc)=false)) () ⟨rfl,rfl,rfl,rfl⟩ ⟨by omega,by omega⟩ ?_;rintro j _ hj ⟨q1,q2⟩;(conv=>whnf);refine ai ?_ ?_<;>intro h1<;>conv=>whnf
  ·have hj1:j<2:=cu h1 rfl hj (by omega)
   match j,hj1 with
   |0,_=>
    refine bM (x:=.agg [.i .i64 ak,.i .i64 an,.s at_,.sl 5 (bz al),eP cS ac]) rfl (by omega) ?_;(conv=>whnf);refine ai ?_ ?_<;>intro g1<;>conv=>whnf
    ·rw[show qp (.mk ak an at_ al ac)=true by unfold qp;rw[Vl.kind,show(ak==7)=true from g1];rfl]at hF
     rw[Bool.true_or]at hF;cases hF;exact .inl rfl
    ·refine ai ?_ ?_<;>intro g2<;>conv=>whnf
     ·rw[show qp (.mk ak an at_ al ac)=true by unfold qp;rw[Vl.kind,show(ak==8)=true from g2,Bool.or_true]]at hF
      rw[Bool.true_or]at hF;cases hF;exact .inl rfl
     ·have hn:qp (.mk ak an at_ al ac)=false:=by unfold qp;rw[Vl.kind,show(ak==7)=false from g1,show(ak==8)=false from g2];rfl
      exact⟨by decide,(),⟨rfl,rfl,rfl,rfl⟩,fun _=>hn,by omega⟩
   |1,_=>
    refine bM (x:=.agg [.i .i64 bk,.i .i64 bn,.s bt,.sl 5 (bz bl),eP cS bc]) rfl (by omega) ?_;(conv=>whnf);refine ai ?_ ?_<;>intro g1<;>conv=>whnf
    ·rw[show qp (.mk bk bn bt bl bc)=true by unfold qp;rw[Vl.kind,show(bk==7)=true from g1];rfl]at hF
     rw[Bool.or_true]at hF;cases hF;exact .inl rfl
    ·refine ai ?_ ?_<;>intro g2<;>conv=>whnf
     ·rw[show qp (.mk bk bn bt bl bc)=true by unfold qp;rw[Vl.kind,show(bk==8)=true from g2,Bool.or_true]]at hF
      rw[Bool.or_true]at hF;cases hF;exact .inl rfl
     ·have hn:qp (.mk bk bn bt bl bc)=false:=by unfold qp;rw[Vl.kind,show(bk==7)=false from g1,show(bk==8)=false from g2];rfl
      exact⟨by decide,(),⟨rfl,rfl,rfl,rfl⟩,fun _=>q1 (by omega),fun _=>hn⟩
  ·have h1:j=2:=cv h1 rfl hj (by omega)
   subst h1;rw[q1 (by omega),q2 (by omega)]at hF;clear q1 q2;rw[show(false||false)=false from rfl]at hF;dsimp only[Vl.kind,Vl.num,Vl.text,Vl.args]at hF;refine ai ?_ ?_<;>intro g1<;>conv=>whnf
   ·rw[show(ak==bk)=false by simpa using g1]at hF
    cases hF;exact .inl rfl
   rw[show(ak==bk)=true by simpa using g1]at hF;dsimp only at hF;refine ai ?_ ?_<;>intro g2<;>conv=>whnf
   ·rw[show(!(an==bn))=true from g2,Bool.true_or,Bool.true_or]at hF
    cases hF;exact .inl rfl
   rw[show(!(an==bn))=false from g2,Bool.false_or]at hF;refine ai ?_ ?_<;>intro g3<;>conv=>whnf
   ·rw[show(!(at_.toList==bt.toList))=true from g3,Bool.true_or]at hF
    cases hF;exact .inl rfl
   rw[show(!(at_.toList==bt.toList))=false from g3,Bool.false_or]at hF;refine ai ?_ ?_<;>intro g4<;>conv=>whnf
   ·rw[show(!(((bz al).length:Int)==((bz bl).length:Int)))=true from g4]at hF
    cases hF;exact .inl rfl
   rw[show(!(((bz al).length:Int)==((bz bl).length:Int)))=false from g4]at hF;dsimp only at hF
   cases hll:Nat.ble al.length 2000000 with
   |false=>rw[hll]at hF;cases hF
   |true=>
    rw[hll]at hF;dsimp only at hF;have hll:=Nat.le_of_ble_eq_true hll;refine bK (aG _) av (by kernel_rfl) al.length [2,3,58,59] [2,3] (fun j (_:Unit)=>[.ptr 2 0,.ptr 3 0,.p (.i .i64 (bz al).length),.p (.i .i64 (ix j))]) (fun _ _=>[.cells (iK [.i .i64 ak,.i .i64 an,.s at_,.sl 5 (bz al),eP cS ac]),.cells (iK [.i .i64 bk,.i .i64 bn,.s bt,.sl 5 (bz bl),eP cS bc])]) (fun j _=>wq (rN n) (al.drop j) (bl.drop j)=some R) () ⟨rfl,rfl,rfl,rfl⟩ hF ?_;rintro j _ hj hQ;(conv=>whnf);refine ai ?_ ?_<;>intro h1<;>conv=>whnf
    ·have hj1:=cu h1 (by rw[hlen]) hj (by omega)
     obtain⟨u,hu⟩:∃u,al[j]?=some u:=⟨_,List.getElem?_eq_getElem hj1⟩
     rw[drop_cons hu]at hQ
     cases hv:bl[j]? with
     |none=>
      rw[List.drop_eq_nil_of_le (List.getElem?_eq_none_iff.1 hv)]at hQ;cases hQ
     |some x=>
      rw[drop_cons hv,wq]at hQ
      cases hm:rN n u x with
      |none=>rw[hm]at hQ;cases hQ
      |some q=>
       obtain⟨b1,w1⟩:=q;rw[hm]at hQ;have hi:=ih u x _ hm;obtain⟨uk,un,ut,ua,uc⟩:=u;obtain⟨xk,xn,xt,xa,xc⟩:=x;rw[eV,eV]at hi;refine bM (x:=.agg [.i .i64 uk,.i .i64 un,.s ut,.sl 5 (bz ua),eP cS uc]) (by rw[aR];simp[hu,eV]) (by omega) ?_;(conv=>whnf);refine bM (x:=.agg [.i .i64 xk,.i .i64 xn,.s xt,.sl 5 (bz xa),eP cS xc]) (by rw[aR];simp[hv,eV]) (by omega) ?_;(conv=>whnf);refine kK hi ?_;(conv=>whnf);refine ag (.inl (by kernel_rfl)) ?_;(conv=>whnf)
       cases b1 with
       |false=>
        cases hQ;(conv=>whnf);exact .inl rfl
       |true=>
        (conv=>whnf);exact⟨hj1,(),⟨rfl,rfl,rfl,rfl⟩,hQ⟩
    ·have h1:=cv h1 (by rw[hlen]) hj (by omega)
     subst h1;rw[List.drop_length]at hQ;cases hQ;exact .inl rfl
abbrev nS:Nat:=12
abbrev sS:Nat:=13
abbrev vS:Nat:=14
abbrev rS:Nat:=15
abbrev fS:Nat:=16
abbrev oS:Nat:=17
abbrev mS:Nat:=18
inductive FV where
 |nil
 |blk (k n:Nat)
 |nw (xs:List Vl)
def nq:FV->PV
 |.nil=>.tf
 |.blk k n=>.kE vS k n
 |.nw xs=>.sl 5 (bz xs)
structure Fr where
 n:Option Nat
 sc:Option Nat
 vals:FV
 depth:Int
 inFun:Bool
def ey (f:Fr):List PV:=[eP nS f.n,eP sS f.sc,nq f.vals,.i .i64 f.depth,.b f.inFun]
inductive Ov where
 |mk (kind num:Int) (text:ByteArray) (args:List Ov)
mutual
def eO:Ov->PV
 |.mk k n t l=>.agg [.i .i64 k,.i .i64 n,.s t,.sl 4 (gT l)]
def gT:List Ov->List PV
 | []=>[]
 |v::r=>eO v::gT r
end
structure Ou where
 kind:Int
 num:Int
 text:ByteArray
 vk:Int
 vn:Int
 vt:ByteArray
 va:List Ov
 args:List Ov
def BI (o:Ou):List PV:=[.i .i64 o.kind,.i .i64 o.num,.s o.text,.i .i64 o.vk,.i .i64 o.vn,.s o.vt,.sl 4 (gT o.va),.sl 4 (gT o.args)]
def cV:Vl->List PV
 |.mk k n t l c=>[.i .i64 k,.i .i64 n,.s t,.sl 5 (bz l),eP cS c]
def RW:Option (Nat×Nat)->PV
 |none=>.tf
 |some q=>.kE fS q.1 q.2
structure Rn where
 maker:Nat
 names:List ByteArray
 body:Option Nat
 self:Int
 state:List Vl
 mode:Int
 stack:Option (Nat×Nat)
 cur:Fr
 val:Vl
 last:Ou
 pause:Fr
 out:Option Nat
def cj (r:Rn):List PV:=[.agg (.bH mS r.maker::.sl 1 (r.names.map .s)::eP nS r.body::.i .i64 r.self::.sl 5 (bz r.state)::.i .i64 r.mode::RW r.stack::(ey r.cur++(cV r.val++(BI r.last++(ey r.pause++[eP oS r.out])))))]
def gW (z:aZ Rn):bu:=.store 142 true rS z.1 31 (cD cj z.2)
theorem aJ {k:Nat} {xs ys:List PV}:∀{M:List (Nat×List PV)},th k M=some xs->th k (sset k ys M)=some ys
 | [],h=>by cases h
 |(a,zs)::r,h=>by
  rw[th]at h;rw[sset]
  cases hb:Nat.beq a k with
  |true=>rw[th,hb]
  |false=>rw[hb]at h;rw[th,hb];exact aJ h
theorem bV (k:Nat) (xs ys:List PV):∀(M:List (Nat×List PV)),sset k ys (sset k xs M)=sset k ys M
 | []=>rfl
 |(a,zs)::r=>by
  rw[sset,sset]
  cases hb:Nat.beq a k with
  |true=>rw[sset,hb]
  |false=>rw[sset,hb,bV k xs ys r]
theorem jK (z:aZ Rn) (k:Nat) (v:Vl) (r:Rn) (hr:aK k z.2=some r):
 au Tryz.prog 230 [.p (.bH rS k),.p (eV v)] [(1000000000,gW z)] (.cI []) [(1000000000,gW (z.1,bf k { r with cur:={ r.cur with n:=none },val:=v } z.2))]:=by
 obtain⟨vk,vn,vt,va,vc⟩:=v;obtain⟨r1,r2,r3,r4,r5,r6,r7,⟨c1,c2,c3,c4,c5⟩,⟨wk,wn,wt,wa,wc⟩,⟨o1,o2,o3,o4,o5,o6,o7,o8⟩,⟨p1,p2,p3,p4,p5⟩,r12⟩:=r;rw[eV];unfold gW;refine au.iN av Tryz.func230 rfl (by rfl) (by kernel_rfl) rfl rfl ?_;(conv=>whnf);refine ag ⟨rfl,by decide,.inl rfl⟩ ?_;refine⟨_,aj hr,?_⟩;refine aq (i:=0) rfl ?_;(conv=>whnf);refine ag ⟨rfl,by decide,.inl rfl⟩ ?_;refine⟨_,aJ (aj hr),?_⟩;refine aq (i:=0) rfl ?_;(conv=>whnf);refine ag (.inl (by kernel_rfl)) ?_;(conv=>whnf);refine⟨.inl rfl,⟨⟨rfl,rfl,rfl,rfl,rfl,?_⟩,trivial⟩⟩;rw[bV];exact bN cj k ⟨r1,r2,r3,r4,r5,r6,r7,⟨none,c2,c3,c4,c5⟩,.mk vk vn vt va vc,⟨o1,o2,o3,o4,o5,o6,o7,o8⟩,⟨p1,p2,p3,p4,p5⟩,r12⟩ z.2
noncomputable def RT:Nat->Option TI:=ic (iX Tryz.prog) 136 [1,1,0,1,1]
theorem L7:bB Tryz.prog RT:=(aG Tryz.prog).ic _ _
theorem jL (z:aZ Rn) (k n:Nat) (f:Fr) (s:Option Nat) (r:Rn) (hr:aK k z.2=some r):
 au Tryz.prog 231 [.p (.bH rS k),.p (.bH nS n),.p (.agg (ey f)),.p (eP sS s)] [(1000000000,gW z)] (.cI []) [(1000000000,gW (z.1,bf k { r with cur:=⟨some n,s,.nil,f.depth,f.inFun⟩ } z.2))]:=by
 obtain⟨f1,f2,f3,f4,f5⟩:=f;obtain⟨r1,r2,r3,r4,r5,r6,r7,⟨c1,c2,c3,c4,c5⟩,⟨wk,wn,wt,wa,wc⟩,⟨o1,o2,o3,o4,o5,o6,o7,o8⟩,⟨p1,p2,p3,p4,p5⟩,r12⟩:=r;unfold gW ey;dsimp only
 cases s with
 |none=>
  refine au.intro L7 av Tryz.func231 rfl (by rfl) (by kernel_rfl) (by show 4<=_;decide) rfl ?_;(conv=>whnf);refine ag ⟨rfl,by decide,.inl rfl⟩ ?_;refine⟨_,aj hr,?_⟩;refine aq (i:=0) rfl ?_;(conv=>whnf);refine⟨.inl rfl,⟨⟨rfl,rfl,rfl,rfl,rfl,?_⟩,trivial⟩⟩;exact bN cj k ⟨r1,r2,r3,r4,r5,r6,r7,⟨some n,none,.nil,f4,f5⟩,.mk wk wn wt wa wc,⟨o1,o2,o3,o4,o5,o6,o7,o8⟩,⟨p1,p2,p3,p4,p5⟩,r12⟩ z.2
 |some s=>
  refine au.intro L7 av Tryz.func231 rfl (by rfl) (by kernel_rfl) (by show 4<=_;decide) rfl ?_;(conv=>whnf);refine ag ⟨rfl,by decide,.inl rfl⟩ ?_;refine⟨_,aj hr,?_⟩;refine aq (i:=0) rfl ?_;(conv=>whnf);refine⟨.inl rfl,⟨⟨rfl,rfl,rfl,rfl,rfl,?_⟩,trivial⟩⟩;exact bN cj k ⟨r1,r2,r3,r4,r5,r6,r7,⟨some n,(some s),.nil,f4,f5⟩,.mk wk wn wt wa wc,⟨o1,o2,o3,o4,o5,o6,o7,o8⟩,⟨p1,p2,p3,p4,p5⟩,r12⟩ z.2
def RF (o:Ou):List PV:=[.agg (BI o)]
def Ef (z:aZ Ou):bu:=.store 41 true oS z.1 8 (cD RF z.2)
theorem uV (a:Nat) (xs:List PV) (M:List (Nat×List PV)):th a ((a,xs)::M)=some xs:=by rw[th,Nat.beq_refl]
noncomputable def RY:Nat->Option TI:=hint (ic (iX Tryz.prog) 133 [0]) 41 [1000003]
theorem Ow:bB Tryz.prog RY:=((aG Tryz.prog).ic _ _).hint _ _
def uz (r:Rn) (o:Ou) (a:Nat):Rn:={ r with mode:=3,last:=o,out:=some a,stack:=none }
theorem AP (z:aZ Rn) (zo:aZ Ou) (k:Nat) (o:Ou) (r:Rn) (hr:aK k z.2=some r):
 au Tryz.prog 238 [.p (.bH rS k),.p (.agg (BI o))] [(1000000000,gW z),(1000000001,Ef zo)] (.cI []) [(1000000000,gW (z.1,bf k (uz r o zo.1) z.2)),(1000000001,Ef (zo.1+1,(zo.1,o)::zo.2))]:=by
 obtain⟨r1,r2,r3,r4,r5,r6,r7,⟨c1,c2,c3,c4,c5⟩,⟨wk,wn,wt,wa,wc⟩,⟨o1,o2,o3,o4,o5,o6,o7,o8⟩,⟨p1,p2,p3,p4,p5⟩,r12⟩:=r;obtain⟨q1,q2,q3,q4,q5,q6,q7,q8⟩:=o;unfold gW Ef uz BI;dsimp only;refine au.intro Ow av Tryz.func238 rfl (by rfl) (by kernel_rfl) (by show 2<=_;decide) rfl ?_;(conv=>whnf);refine ag ⟨rfl,by decide,.inl rfl⟩ ?_;refine⟨_,uV _ _ _,?_⟩;refine aq (i:=0) rfl ?_;(conv=>whnf);refine ag ⟨rfl,by decide,.inl rfl⟩ ?_;refine⟨_,aj hr,?_⟩;refine aq (i:=0) rfl ?_;(conv=>whnf);refine ag ⟨rfl,by decide,.inl rfl⟩ ?_;refine⟨_,aJ (aj hr),?_⟩;refine aq (i:=0) rfl ?_;(conv=>whnf);refine ag ⟨rfl,by decide,.inl rfl⟩ ?_;refine⟨_,aJ (aJ (aj hr)),?_⟩;refine aq (i:=0) rfl ?_;(conv=>whnf);refine ag ⟨rfl,by decide,.inl rfl⟩ ?_;refine⟨_,aJ (aJ (aJ (aj hr))),?_⟩;refine aq (i:=0) rfl ?_;(conv=>whnf);refine⟨.inl rfl,⟨⟨rfl,rfl,rfl,rfl,rfl,?_⟩,s6,trivial⟩⟩;rw[bV,bV,bV];exact bN cj k ⟨r1,r2,r3,r4,r5,3,none,⟨c1,c2,c3,c4,c5⟩,.mk wk wn wt wa wc,⟨q1,q2,q3,q4,q5,q6,q7,q8⟩,⟨p1,p2,p3,p4,p5⟩,some zo.1⟩ z.2
def Dj (why:ByteArray):Ou:=⟨9,0,why,0,0,⟨#[]⟩,[],[]⟩
theorem cQ (z:aZ Rn) (zo:aZ Ou) (k:Nat) (why:ByteArray) (r:Rn) (hr:aK k z.2=some r):
 au Tryz.prog 242 [.p (.bH rS k),.p (.s why)] [(1000000000,gW z),(1000000001,Ef zo)] (.cI []) [(1000000000,gW (z.1,bf k (uz r (Dj why) zo.1) z.2)),(1000000001,Ef (zo.1+1,(zo.1,Dj why)::zo.2))]:=by
 have hs:=AP z zo k (Dj why) r hr;unfold gW Ef at *;refine au.iN av Tryz.func242 rfl (by rfl) (by kernel_rfl) rfl rfl ?_;(conv=>whnf);refine bh [1000000000,1000000001] 300 hs ?_;(conv=>whnf);exact⟨.inl rfl,⟨s6,s6,trivial⟩⟩
noncomputable def RQ:Nat->Option TI:=hint (iX Tryz.prog) 41 [1000003]
theorem OU:bB Tryz.prog RQ:=(aG Tryz.prog).hint _ _
def y9 (r:Rn) (a:Nat):Rn:={ r with out:=some a,cur:={ r.cur with n:=none },val:=vI 1 0 }
theorem aP {α:Type} (k:Nat) (x:α) (M:List (Nat×α)):aK k ((k,x)::M)=some x:=by rw[aK,Nat.beq_refl]
theorem dL {α:Type} (k:Nat) (x y:α) (M:List (Nat×α)):bf k y ((k,x)::M)=(k,y)::M:=by rw[bf,Nat.beq_refl]
theorem cA {α:Type} {k:Nat} {x y:α}:∀{M:List (Nat×α)},aK k M=some x->aK k (bf k y M)=some y
 | [],h=>by cases h
 |(a,z)::r,h=>by
  rw[aK]at h;rw[bf]
  cases hb:Nat.beq a k with
  |true=>rw[aK,hb]
  |false=>rw[hb]at h;rw[aK,hb];exact cA h
theorem cY {α:Type} (k:Nat) (x y:α):∀(M:List (Nat×α)),bf k y (bf k x M)=bf k y M
 | []=>rfl
 |(a,z)::r=>by
  rw[bf,bf]
  cases hb:Nat.beq a k with
  |true=>rw[bf,hb]
  |false=>rw[bf,hb,cY k x y r]
theorem lG (z:aZ Rn) (zo:aZ Ou) (k:Nat) (o:Ou) (r:Rn) (hr:aK k z.2=some r):
 au Tryz.prog 259 [.p (.bH rS k),.p (.agg (BI o))] [(1000000000,gW z),(1000000001,Ef zo)] (.cI []) [(1000000000,gW (z.1,bf k (y9 r zo.1) z.2)),(1000000001,Ef (zo.1+1,(zo.1,o)::zo.2))]:=by
 have hg:=jK (z.1,bf k { r with out:=some zo.1 } z.2) k (vI 1 0) { r with out:=some zo.1 } (cA hr);rw[cY]at hg;have hen:∀M,sset k (cj { r with out:=some zo.1 }) (cD cj M)=cD cj (bf k { r with out:=some zo.1 } M):=fun M=>bN cj k _ M;obtain⟨r1,r2,r3,r4,r5,r6,r7,⟨c1,c2,c3,c4,c5⟩,⟨wk,wn,wt,wa,wc⟩,⟨o1,o2,o3,o4,o5,o6,o7,o8⟩,⟨p1,p2,p3,p4,p5⟩,r12⟩:=r;obtain⟨q1,q2,q3,q4,q5,q6,q7,q8⟩:=o;unfold gW Ef BI y9 at *;dsimp only at *;refine au.intro OU av Tryz.func259 rfl (by rfl) (by kernel_rfl) (by show 2<=_;decide) rfl ?_;(conv=>whnf);refine ag ⟨rfl,by decide,.inl rfl⟩ ?_;refine⟨_,aj hr,?_⟩;refine aq (i:=0) rfl ?_;(conv=>whnf);refine kK vo ?_;(conv=>whnf);rw[<-hen]at hg;refine bh [1000000000] 300 hg ?_;(conv=>whnf);exact⟨.inl rfl,⟨s6,s6,trivial⟩⟩
noncomputable def RS:Nat->Option TI:=ic (ic (iX Tryz.prog) 133 [0]) 136 [1,1,0,1,1]
theorem CT:bB Tryz.prog RS:=((aG Tryz.prog).ic _ _).ic _ _
def oc (r:Rn) (l:List Vl) (s:Option Nat):Rn:={ r with state:=l,stack:=none,mode:=0,cur:=⟨r.body,s,.nil,0,false⟩ }
theorem xY (z:aZ Rn) (zs:aZ Sc) (k:Nat) (l:List Vl) (r:Rn) (R:aZ Sc×Option Nat) (hr:aK k z.2=some r) (hn:r.names.length<=2000000) (hF:kU r.names l (zs,none)=some R):
 au Tryz.prog 40 [.p (.bH rS k),.p (.sl 5 (bz l))] [(1000000000,gW z),(1000000001,Ay sS zs)] (.cI []) [(1000000000,gW (z.1,bf k (oc r l R.2) z.2)),(1000000001,Ay sS R.1)]:=by
 have hw:=vw sS r.names l (zs,none) R (by omega) hF;obtain⟨r1,r2,r3,r4,r5,r6,r7,⟨c1,c2,c3,c4,c5⟩,⟨wk,wn,wt,wa,wc⟩,⟨o1,o2,o3,o4,o5,o6,o7,o8⟩,⟨p1,p2,p3,p4,p5⟩,r12⟩:=r;obtain⟨R1,R2⟩:=R;unfold gW Ay oc at *;dsimp only at *
 cases r3 with
 |none=>
  cases R2 with
  |none=>
   refine au.intro CT av Tryz.func40 rfl (by rfl) (by kernel_rfl) (by show 2<=_;decide) rfl ?_;(conv=>whnf);refine ag ⟨rfl,by decide,.inl rfl⟩ ?_;refine⟨_,aj hr,?_⟩;refine aq (i:=0) rfl ?_;(conv=>whnf);refine ag ⟨rfl,by decide,.inl rfl⟩ ?_;refine⟨_,aJ (aj hr),?_⟩;refine aq (i:=0) rfl ?_;(conv=>whnf);refine ag ⟨rfl,by decide,.inl rfl⟩ ?_;refine⟨_,aJ (aJ (aj hr)),?_⟩;refine aq (i:=0) rfl ?_;(conv=>whnf);refine ag ⟨rfl,by decide,.inl rfl⟩ ?_;refine⟨_,aJ (aJ (aJ (aj hr))),?_⟩;refine aq (i:=0) rfl ?_;(conv=>whnf);refine ag ⟨rfl,by decide,.inl rfl⟩ ?_;refine⟨_,aJ (aJ (aJ (aj hr))),?_⟩;refine aq (i:=0) rfl ?_;(conv=>whnf);refine bh [1000000001] 300 hw ?_;(conv=>whnf);refine ag ⟨rfl,by decide,.inl rfl⟩ ?_;refine⟨_,aJ (aJ (aJ (aj hr))),?_⟩;refine aq (i:=0) rfl ?_;(conv=>whnf);refine ag (.inl (by kernel_rfl)) ?_;(conv=>whnf);refine⟨.inl rfl,⟨⟨rfl,rfl,rfl,rfl,rfl,?_⟩,s6,trivial⟩⟩;rw[bV,bV,bV];exact bN cj k ⟨r1,r2,none,r4,l,0,none,⟨none,none,.nil,0,false⟩,.mk wk wn wt wa wc,⟨o1,o2,o3,o4,o5,o6,o7,o8⟩,⟨p1,p2,p3,p4,p5⟩,r12⟩ z.2
  |some s=>
   refine au.intro CT av Tryz.func40 rfl (by rfl) (by kernel_rfl) (by show 2<=_;decide) rfl ?_;(conv=>whnf);refine ag ⟨rfl,by decide,.inl rfl⟩ ?_;refine⟨_,aj hr,?_⟩;refine aq (i:=0) rfl ?_;(conv=>whnf);refine ag ⟨rfl,by decide,.inl rfl⟩ ?_;refine⟨_,aJ (aj hr),?_⟩;refine aq (i:=0) rfl ?_;(conv=>whnf);refine ag ⟨rfl,by decide,.inl rfl⟩ ?_;refine⟨_,aJ (aJ (aj hr)),?_⟩;refine aq (i:=0) rfl ?_;(conv=>whnf);refine ag ⟨rfl,by decide,.inl rfl⟩ ?_;refine⟨_,aJ (aJ (aJ (aj hr))),?_⟩;refine aq (i:=0) rfl ?_;(conv=>whnf);refine ag ⟨rfl,by decide,.inl rfl⟩ ?_;refine⟨_,aJ (aJ (aJ (aj hr))),?_⟩;refine aq (i:=0) rfl ?_;(conv=>whnf);refine bh [1000000001] 300 hw ?_;(conv=>whnf);refine ag ⟨rfl,by decide,.inl rfl⟩ ?_;refine⟨_,aJ (aJ (aJ (aj hr))),?_⟩;refine aq (i:=0) rfl ?_;(conv=>whnf);refine ag (.inl (by kernel_rfl)) ?_;(conv=>whnf);refine⟨.inl rfl,⟨⟨rfl,rfl,rfl,rfl,rfl,?_⟩,s6,trivial⟩⟩;rw[bV,bV,bV];exact bN cj k ⟨r1,r2,none,r4,l,0,none,⟨none,(some s),.nil,0,false⟩,.mk wk wn wt wa wc,⟨o1,o2,o3,o4,o5,o6,o7,o8⟩,⟨p1,p2,p3,p4,p5⟩,r12⟩ z.2
 |some b=>
  cases R2 with
  |none=>
   refine au.intro CT av Tryz.func40 rfl (by rfl) (by kernel_rfl) (by show 2<=_;decide) rfl ?_;(conv=>whnf);refine ag ⟨rfl,by decide,.inl rfl⟩ ?_;refine⟨_,aj hr,?_⟩;refine aq (i:=0) rfl ?_;(conv=>whnf);refine ag ⟨rfl,by decide,.inl rfl⟩ ?_;refine⟨_,aJ (aj hr),?_⟩;refine aq (i:=0) rfl ?_;(conv=>whnf);refine ag ⟨rfl,by decide,.inl rfl⟩ ?_;refine⟨_,aJ (aJ (aj hr)),?_⟩;refine aq (i:=0) rfl ?_;(conv=>whnf);refine ag ⟨rfl,by decide,.inl rfl⟩ ?_;refine⟨_,aJ (aJ (aJ (aj hr))),?_⟩;refine aq (i:=0) rfl ?_;(conv=>whnf);refine ag ⟨rfl,by decide,.inl rfl⟩ ?_;refine⟨_,aJ (aJ (aJ (aj hr))),?_⟩;refine aq (i:=0) rfl ?_;(conv=>whnf);refine bh [1000000001] 300 hw ?_;(conv=>whnf);refine ag ⟨rfl,by decide,.inl rfl⟩ ?_;refine⟨_,aJ (aJ (aJ (aj hr))),?_⟩;refine aq (i:=0) rfl ?_;(conv=>whnf);refine ag (.inl (by kernel_rfl)) ?_;(conv=>whnf);refine⟨.inl rfl,⟨⟨rfl,rfl,rfl,rfl,rfl,?_⟩,s6,trivial⟩⟩;rw[bV,bV,bV];exact bN cj k ⟨r1,r2,(some b),r4,l,0,none,⟨(some b),none,.nil,0,false⟩,.mk wk wn wt wa wc,⟨o1,o2,o3,o4,o5,o6,o7,o8⟩,⟨p1,p2,p3,p4,p5⟩,r12⟩ z.2
  |some s=>
   refine au.intro CT av Tryz.func40 rfl (by rfl) (by kernel_rfl) (by show 2<=_;decide) rfl ?_;(conv=>whnf);refine ag ⟨rfl,by decide,.inl rfl⟩ ?_;refine⟨_,aj hr,?_⟩;refine aq (i:=0) rfl ?_;(conv=>whnf);refine ag ⟨rfl,by decide,.inl rfl⟩ ?_;refine⟨_,aJ (aj hr),?_⟩;refine aq (i:=0) rfl ?_;(conv=>whnf);refine ag ⟨rfl,by decide,.inl rfl⟩ ?_;refine⟨_,aJ (aJ (aj hr)),?_⟩;refine aq (i:=0) rfl ?_;(conv=>whnf);refine ag ⟨rfl,by decide,.inl rfl⟩ ?_;refine⟨_,aJ (aJ (aJ (aj hr))),?_⟩;refine aq (i:=0) rfl ?_;(conv=>whnf);refine ag ⟨rfl,by decide,.inl rfl⟩ ?_;refine⟨_,aJ (aJ (aJ (aj hr))),?_⟩;refine aq (i:=0) rfl ?_;(conv=>whnf);refine bh [1000000001] 300 hw ?_;(conv=>whnf);refine ag ⟨rfl,by decide,.inl rfl⟩ ?_;refine⟨_,aJ (aJ (aJ (aj hr))),?_⟩;refine aq (i:=0) rfl ?_;(conv=>whnf);refine ag (.inl (by kernel_rfl)) ?_;(conv=>whnf);refine⟨.inl rfl,⟨⟨rfl,rfl,rfl,rfl,rfl,?_⟩,s6,trivial⟩⟩;rw[bV,bV,bV];exact bN cj k ⟨r1,r2,(some b),r4,l,0,none,⟨(some b),(some s),.nil,0,false⟩,.mk wk wn wt wa wc,⟨o1,o2,o3,o4,o5,o6,o7,o8⟩,⟨p1,p2,p3,p4,p5⟩,r12⟩ z.2
abbrev aS:Nat:=19
abbrev bS:Nat:=20
def Qx (sp:Nat):Option (Nat×Nat)->PV
 |none=>.tf
 |some q=>.kE sp q.1 q.2
def fT:Option (Nat×Nat)->Nat
 |none=>0
 |some q=>q.2
structure Nd where
 kind:Int
 num:Int
 text:ByteArray
 names:List ByteArray
 args:Option (Nat×Nat)
 dZ:Option (Nat×Nat)
 needs:Int
 fn:Int
 free:List ByteArray
def dm (n:Nd):List PV:=[.agg [.i .i64 n.kind,.i .i64 n.num,.s n.text,.sl 1 (n.names.map .s),Qx aS n.args,Qx bS n.dZ,.i .i64 n.needs,.i .i64 n.fn,.sl 1 (n.free.map .s)]]
def iZ (z:aZ Nd):bu:=.store 160 true nS z.1 9 (cD dm z.2)
def FJ:ByteArray:=⟨#[97,110,100]⟩
def Rb:ByteArray:=⟨#[111,114]⟩
def gQ (n:Nd):Bool:=((n.kind==8)&&((n.text.toList==FJ.toList)||(n.text.toList==Rb.toList)))&&((fT n.args:Int)==2)
theorem qZ (z:aZ Nd) (k:Nat) (n:Nd) (hn:aK k z.2=some n):
 au Tryz.prog 252 [.p (.bH nS k)] [(1000000000,iZ z)] (.p (.b (gQ n))) [(1000000000,iZ z)]:=by
 obtain⟨n1,n2,n3,n4,n5,n6,n7,n8,n9⟩:=n;unfold iZ gQ;dsimp only;refine au.iN av Tryz.func252 rfl (by rfl) (by kernel_rfl) rfl rfl ?_;(conv=>whnf);refine ag ⟨rfl,by decide,.inl rfl⟩ ?_;refine⟨_,aj hn,?_⟩;refine aq (i:=0) rfl ?_;(conv=>whnf);refine ai ?_ ?_<;>intro h1<;>conv=>whnf
 ·rw[show(n1==8)=true from h1,Bool.true_and]
  refine ag ⟨rfl,by decide,.inl rfl⟩ ?_;refine⟨_,aj hn,?_⟩;refine aq (i:=0) rfl ?_;(conv=>whnf);refine ai ?_ ?_<;>intro h2<;>conv=>whnf
  ·rw[show(n3.toList==FJ.toList)=true from h2,Bool.true_or,Bool.true_and]
   cases n5 with
   |none=>
    refine ag ⟨rfl,by decide,.inl rfl⟩ ?_;refine⟨_,aj hn,?_⟩;refine aq (i:=0) rfl ?_;(conv=>whnf);exact⟨.inl rfl,⟨s6,trivial⟩⟩
   |some q=>
    refine ag ⟨rfl,by decide,.inl rfl⟩ ?_;refine⟨_,aj hn,?_⟩;refine aq (i:=0) rfl ?_;(conv=>whnf);exact⟨.inl rfl,⟨s6,trivial⟩⟩
  ·rw[show(n3.toList==FJ.toList)=false from h2,Bool.false_or]
   refine ag ⟨rfl,by decide,.inl rfl⟩ ?_;refine⟨_,aj hn,?_⟩;refine aq (i:=0) rfl ?_;(conv=>whnf);refine ai ?_ ?_<;>intro h3<;>conv=>whnf
   ·rw[show(n3.toList==Rb.toList)=true from h3,Bool.true_and]
    cases n5 with
    |none=>
     refine ag ⟨rfl,by decide,.inl rfl⟩ ?_;refine⟨_,aj hn,?_⟩;refine aq (i:=0) rfl ?_;(conv=>whnf);exact⟨.inl rfl,⟨s6,trivial⟩⟩
    |some q=>
     refine ag ⟨rfl,by decide,.inl rfl⟩ ?_;refine⟨_,aj hn,?_⟩;refine aq (i:=0) rfl ?_;(conv=>whnf);exact⟨.inl rfl,⟨s6,trivial⟩⟩
   ·rw[show(n3.toList==Rb.toList)=false from h3,Bool.false_and]
    exact⟨.inl rfl,⟨s6,trivial⟩⟩
 ·rw[show(n1==8)=false from h1,Bool.false_and,Bool.false_and]
  exact⟨.inl rfl,⟨s6,trivial⟩⟩
def gU (n:Nd):Int:=match decide ((fT n.args:Int)<n.needs) with
 |true=>(fT n.args:Int)
 |false=>match ((n.kind==7)||(n.kind==6))||gQ n with
  |true=>1
  |false=>n.needs
theorem Fy (z:aZ Nd) (k:Nat) (n:Nd) (hn:aK k z.2=some n):
 au Tryz.prog 224 [.p (.bH nS k)] [(1000000000,iZ z)] (.p (.i .i64 (gU n))) [(1000000000,iZ z)]:=by
 have hz:=qZ z k n hn;generalize hL:gQ n=L at hz;obtain⟨n1,n2,n3,n4,n5,n6,n7,n8,n9⟩:=n;unfold iZ at *;unfold gU;rw[hL];clear hL;dsimp only
 cases n5 with
 |none=>
  refine au.iN av Tryz.func224 rfl (by rfl) (by kernel_rfl) rfl rfl ?_;(conv=>whnf);refine ag ⟨rfl,by decide,.inl rfl⟩ ?_;refine⟨_,aj hn,?_⟩;refine aq (i:=0) rfl ?_;(conv=>whnf);refine ag ⟨rfl,by decide,.inl rfl⟩ ?_;refine⟨_,aj hn,?_⟩;refine aq (i:=0) rfl ?_;(conv=>whnf);refine ag (.inl (by kernel_rfl)) ?_;(conv=>whnf);refine ai ?_ ?_<;>intro h1<;>conv=>whnf
  ·rw[show decide ((fT none:Int)<n7)=true from h1]
   refine ag ⟨rfl,by decide,.inl rfl⟩ ?_;refine⟨_,aj hn,?_⟩;refine aq (i:=0) rfl ?_;(conv=>whnf);exact⟨.inl rfl,⟨s6,trivial⟩⟩
  rw[show decide ((fT none:Int)<n7)=false from h1];refine ag ⟨rfl,by decide,.inl rfl⟩ ?_;refine⟨_,aj hn,?_⟩;refine aq (i:=0) rfl ?_;(conv=>whnf);refine ai ?_ ?_<;>intro h2<;>conv=>whnf
  ·rw[show(n1==7)=true from h2,Bool.true_or,Bool.true_or]
   exact⟨.inl rfl,⟨s6,trivial⟩⟩
  rw[show(n1==7)=false from h2,Bool.false_or];refine ag ⟨rfl,by decide,.inl rfl⟩ ?_;refine⟨_,aj hn,?_⟩;refine aq (i:=0) rfl ?_;(conv=>whnf);refine ai ?_ ?_<;>intro h3<;>conv=>whnf
  ·rw[show(n1==6)=true from h3,Bool.true_or]
   exact⟨.inl rfl,⟨s6,trivial⟩⟩
  rw[show(n1==6)=false from h3,Bool.false_or];refine bh [1000000000] 300 hz ?_;(conv=>whnf)
  cases L with
  |true=>
   (conv=>whnf);exact⟨.inl rfl,⟨s6,trivial⟩⟩
  |false=>
   (conv=>whnf);refine ag ⟨rfl,by decide,.inl rfl⟩ ?_;refine⟨_,aj hn,?_⟩;refine aq (i:=0) rfl ?_;(conv=>whnf);exact⟨.inl rfl,⟨s6,trivial⟩⟩
 |some q=>
  refine au.iN av Tryz.func224 rfl (by rfl) (by kernel_rfl) rfl rfl ?_;(conv=>whnf);refine ag ⟨rfl,by decide,.inl rfl⟩ ?_;refine⟨_,aj hn,?_⟩;refine aq (i:=0) rfl ?_;(conv=>whnf);refine ag ⟨rfl,by decide,.inl rfl⟩ ?_;refine⟨_,aj hn,?_⟩;refine aq (i:=0) rfl ?_;(conv=>whnf);refine ag (.inl (by kernel_rfl)) ?_;(conv=>whnf);refine ai ?_ ?_<;>intro h1<;>conv=>whnf
  ·rw[show decide ((fT (some q):Int)<n7)=true from h1]
   refine ag ⟨rfl,by decide,.inl rfl⟩ ?_;refine⟨_,aj hn,?_⟩;refine aq (i:=0) rfl ?_;(conv=>whnf);exact⟨.inl rfl,⟨s6,trivial⟩⟩
  rw[show decide ((fT (some q):Int)<n7)=false from h1];refine ag ⟨rfl,by decide,.inl rfl⟩ ?_;refine⟨_,aj hn,?_⟩;refine aq (i:=0) rfl ?_;(conv=>whnf);refine ai ?_ ?_<;>intro h2<;>conv=>whnf
  ·rw[show(n1==7)=true from h2,Bool.true_or,Bool.true_or]
   exact⟨.inl rfl,⟨s6,trivial⟩⟩
  rw[show(n1==7)=false from h2,Bool.false_or];refine ag ⟨rfl,by decide,.inl rfl⟩ ?_;refine⟨_,aj hn,?_⟩;refine aq (i:=0) rfl ?_;(conv=>whnf);refine ai ?_ ?_<;>intro h3<;>conv=>whnf
  ·rw[show(n1==6)=true from h3,Bool.true_or]
   exact⟨.inl rfl,⟨s6,trivial⟩⟩
  rw[show(n1==6)=false from h3,Bool.false_or];refine bh [1000000000] 300 hz ?_;(conv=>whnf)
  cases L with
  |true=>
   (conv=>whnf);exact⟨.inl rfl,⟨s6,trivial⟩⟩
  |false=>
   (conv=>whnf);refine ag ⟨rfl,by decide,.inl rfl⟩ ?_;refine⟨_,aj hn,?_⟩;refine aq (i:=0) rfl ?_;(conv=>whnf);exact⟨.inl rfl,⟨s6,trivial⟩⟩
def rK (l:List Nat):List PV:=l.map (.bH nS)
def yO (z:aZ (List Nat)):bu:=.store 110 false aS z.1 1 (cD rK z.2)
def jn (za:aZ (List Nat)) (n:Nd) (j:Nat):Option Nat:=match n.args with
 |none=>none
 |some q=>match Nat.blt j q.2 with
  |false=>none
  |true=>match aK q.1 za.2 with
   |none=>none
   |some l=>l[j]?
def kJ (r:Rn) (j:Nat) (f:Fr) (s:Option Nat):Rn:={ r with cur:=⟨some j,s,.nil,f.depth,f.inFun⟩ }
theorem qO (a:Nat) (xs ys:List PV) (M:List (Nat×List PV)):sset a ys ((a,xs)::M)=(a,ys)::M:=by rw[sset,Nat.beq_refl]
noncomputable def RX:Nat->Option TI:=hint (iX Tryz.prog) 41 [1000004]
theorem OW:bB Tryz.prog RX:=(aG Tryz.prog).hint _ _
def iQ (n:Nd):Ou:=⟨7,if n.num < -1 then -1 else n.num,⟨#[]⟩,0,0,⟨#[]⟩,[],[]⟩
def yq (r:Rn) (f:Fr) (o:Ou) (a:Nat):Rn:={ r with mode:=1,pause:=f,last:=o,out:=some a }
theorem JH (zr:aZ Rn) (zo:aZ Ou) (zn:aZ Nd) (k:Nat) (f:Fr) (r:Rn) (n:Nd) (kn:Nat) (hr:aK k zr.2=some r) (hfn:f.n=some kn) (hn:aK kn zn.2=some n):
 au Tryz.prog 244 [.p (.bH rS k),.p (.agg (ey f))] [(1000000000,gW zr),(1000000001,Ef zo),(1000000002,iZ zn)] (.cI [])
  [(1000000000,gW (zr.1,bf k (yq r f (iQ n) zo.1) zr.2)),(1000000001,Ef (zo.1+1,(zo.1,iQ n)::zo.2)),(1000000002,iZ zn)]:=by
 obtain⟨f1,f2,f3,f4,f5⟩:=f;obtain⟨n1,n2,n3,n4,n5,n6,n7,n8,n9⟩:=n;obtain⟨r1,r2,r3,r4,r5,r6,r7,⟨c1,c2,c3,c4,c5⟩,⟨wk,wn,wt,wa,wc⟩,⟨o1,o2,o3,o4,o5,o6,o7,o8⟩,⟨p1,p2,p3,p4,p5⟩,r12⟩:=r;dsimp only at hfn;subst hfn;unfold gW Ef iZ ey yq iQ at *;dsimp only at *;refine au.intro OW av Tryz.func244 rfl (by rfl) (by kernel_rfl) (by show 2<=_;decide) rfl ?_;(conv=>whnf);refine ag ⟨rfl,by decide,.inl rfl⟩ ?_;refine⟨_,aj hn,?_⟩;refine aq (i:=0) rfl ?_;(conv=>whnf);refine ag ⟨rfl,by decide,.inl rfl⟩ ?_;refine⟨_,uV _ _ _,?_⟩;refine aq (i:=0) rfl ?_;(conv=>whnf);refine ag ⟨rfl,by decide,.inl rfl⟩ ?_;refine⟨_,aJ (uV _ _ _),?_⟩;refine aq (i:=0) rfl ?_;(conv=>whnf);refine ag ⟨rfl,by decide,.inl rfl⟩ ?_;refine⟨_,aj hr,?_⟩;refine aq (i:=0) rfl ?_;(conv=>whnf);refine ag ⟨rfl,by decide,.inl rfl⟩ ?_;refine⟨_,aJ (aj hr),?_⟩;refine aq (i:=0) rfl ?_;(conv=>whnf);refine ag ⟨rfl,by decide,.inl rfl⟩ ?_;refine⟨_,aJ (aJ (aj hr)),?_⟩;refine aq (i:=0) rfl ?_;(conv=>whnf);refine ag ⟨rfl,by decide,.inl rfl⟩ ?_;refine⟨_,aJ (aJ (aJ (aj hr))),?_⟩;refine aq (i:=0) rfl ?_;(conv=>whnf);refine ag (.inl (by kernel_rfl)) ?_;(conv=>whnf);refine⟨.inl rfl,⟨⟨rfl,rfl,rfl,rfl,rfl,?_⟩,⟨rfl,rfl,rfl,rfl,rfl,?_⟩,s6,trivial⟩⟩
 ·rw[bV,bV,bV]
  exact bN cj k ⟨r1,r2,r3,r4,r5,1,r7,⟨c1,c2,c3,c4,c5⟩,.mk wk wn wt wa wc,⟨7,if n2 < -1 then -1 else n2,⟨#[]⟩,0,0,⟨#[]⟩,[],[]⟩,⟨some kn,f2,f3,f4,f5⟩,some zo.1⟩ zr.2
 ·exact qO _ _ _ _
end MN
end
section
namespace Go.AM
section
variable {P:Program} {ty:Nat->Option TI} {n:Nat}
theorem jh.seq {x y:Code} {K:Exit->Env->Heap->Prop} {e:Env} {h:Heap} (hk:jh P n x (fun ex e' h'=>match ex with|.normal=>jh P n y K e' h'|ex=>K ex e' h') e h):jh P n (.seq x y) K e h:=by
 intro g0 w0 g w a s hE;refine wp_seq (wp_mono (hk g0 w0 g w a s hE) ?_);rintro ex a' w' ⟨g',e',h',hk',s',hE'⟩
 cases ex with
 |normal=>exact hk' g0 w0 g' w' a' s' hE'
 |_=>exact⟨g',e',h',hk',s',hE'⟩
theorem jh.mask {c:Code} {K:Exit->Env->Heap->Prop} {lv ll:List Nat} {vals:List AV} {objs:List bu} {e:Env} {h:Heap} (h0:KJ lv ll vals objs e h) (hk:jh P n c K (lv.zip vals) (ll.zip objs)):jh P n c K e h:=by
 intro g0 w0 g w a s hE;refine hk g0 w0 g w a ?_ hE;have:=s.mask (lv:=lv) (ll:=ll) h0.1 (by rw[h0.2.1];exact h0.2.2.1) h0.2.2.2;rw[h0.2.1]at this;exact this
noncomputable def Pp (ty:Nat->Option TI) (P:Program) (n:Nat) (T:Env->Heap->Prop) (K:Exit->Env->Heap->Prop) (k:Nat):Code->Env->Heap->Prop:=
 @Nat.rec (fun _=>Code->Env->Heap->Prop) (fun _ e h=>T e h)
  (fun _ ih c=>@Code.rec (fun _=>Env->Heap->Prop) (fun _ _=>False) (fun _ _ _ _ _=>False)
    (fun x y _ _ e h=>D7 ty (cU P) (pK P n) x (fun ex e' h'=>match ex with|.normal=>ih y e' h'|ex=>K ex e' h') e h)
    (fun _ _ _ _ _ _ _=>False) (fun _ _ _ _ _=>False) (fun _ _ _ _=>False) (fun _ _ _ _ _ _ _ _=>False) (fun _ _ _=>False) (fun _ _ _ _=>False) (fun _ _ _=>False) (fun _ _ _=>False) (fun _ _=>False) (fun _ _ _=>False) c) k
noncomputable def N2 (k:Nat):Code->Code:=
 @Nat.rec (fun _=>Code->Code) (fun c=>c)
  (fun _ ih c=>@Code.rec (fun _=>Code) c (fun _ _ _=>c) (fun _ y _ _=>ih y) (fun _ _ _ _ _=>c) (fun _ _ _=>c) (fun _ _=>c) (fun _ _ _ _ _ _=>c) (fun _=>c) (fun _ _=>c) (fun _=>c) (fun _=>c) c (fun _=>c) c) k
theorem zI (hty:bB P ty) (av:P.follows .mixedOrders=true) {T:Env->Heap->Prop} {K:Exit->Env->Heap->Prop}:∀(k:Nat) (c:Code) (e:Env) (h:Heap),bE n c=true->(∀e h,T e h->jh P n (N2 k c) K e h)->Pp ty P n T K k c e h->jh P n c K e h
 |0,c,e,h,_,hT,hk=>hT e h hk
 |k+1,.seq x y,e,h,hok,hT,hk=>by
  have hok:bE n x=true/\bE n y=true:=by simpa[bE] using hok
  refine jh.seq ?_;intro g0 w0 g w a s hE;refine wp_mono (eY hty av x _ e h hok.1 hk g0 w0 g w a s hE) ?_;rintro ex a' w' ⟨g',e',h',hk',s',hE'⟩;refine⟨g',e',h',?_,s',hE'⟩
  cases ex with
  |normal=>exact zI hty av k y e' h' hok.2 hT hk'
  |_=>exact hk'
 |_+1,.skip,_,_,_,_,hk=>hk.elim
 |_+1,.region ..,_,_,_,_,hk=>hk.elim
 |_+1,.cond ..,_,_,_,_,hk=>hk.elim
 |_+1,.block ..,_,_,_,_,hk=>hk.elim
 |_+1,.exit _,_,_,_,_,hk=>hk.elim
 |_+1,.ret,_,_,_,_,hk=>hk.elim
 |_+1,.loop _,_,_,_,_,hk=>hk.elim
 |_+1,.rangeFunc ..,_,_,_,_,hk=>hk.elim
 |_+1,.scope _,_,_,_,_,hk=>hk.elim
 |_+1,.label _,_,_,_,_,hk=>hk.elim
 |_+1,.goto _,_,_,_,_,hk=>hk.elim
 |_+1,.refuse _,_,_,_,_,hk=>hk.elim
theorem jh.cut (hty:bB P ty) (av:P.follows .mixedOrders=true) {c:Code} {K:Exit->Env->Heap->Prop} {e:Env} {h:Heap} (hok:bE n c=true) (k:Nat) (lv ll:List Nat) {σ:Type} (V:σ->List AV) (O:σ->List bu) (Q:σ->Prop)
 (h1:Pp ty P n (fun e h=>∃s,KJ lv ll (V s) (O s) e h/\Q s) K k c e h) (h2:∀s,Q s->jh P n (N2 k c) K (lv.zip (V s)) (ll.zip (O s))):jh P n c K e h:=
 zI hty av k c e h hok (fun e h ⟨s,ha,hq⟩=>jh.mask ha (h2 s hq)) h1
theorem jh.fin (hty:bB P ty) (av:P.follows .mixedOrders=true) {c:Code} {K:Exit->Env->Heap->Prop} {e:Env} {h:Heap} (hok:bE n c=true) (hk:D7 ty (cU P) (pK P n) c K e h):jh P n c K e h:=eY hty av c K e h hok hk
theorem aU.qG (hty:bB P ty) {f:Nat} {fn:Func} {c:Code} {args:List AV} {r:AV} (hf:P.funcs[f]?=some fn) (hb:fn.body=some c) (hname:(fn.name== "runtime.NumGoroutine")=false)
 (hlen:args.length<=fn.ntmps) (hr:Ej r=true)
 (hk:jh P fn.ntmps c (Od ty fn.results.toList fn.resultTypes.toList r) (jz 0 args) []):aU P f args r:=by
 refine⟨⟨fn,c,hf,hb,hname⟩,fun g w vs hno hsw hl hrel=>?_⟩
 have s0:=cw.start (fn:=fn) (hs:=[]) hlen (g:=g) (w:=w) ⟨fun l o q=>by simp[aF]at q,fun l o q=>by simp[aF]at q,fun l o q=>by simp[aF]at q⟩ (fun b o q=>by rw[hno b]at q;cases q) hl
  (fun j v x q1 q2=>(hrel j v x q1 q2).rH (fun _ q=>q.elim))
 refine calls_of_wp hf hb (wp_mono (hk g w g w _ s0 (Ext.refl _ _)) ?_);rintro ex a' w' ⟨g1,e1,h1,hk1,s1,hE1⟩
 have fin:(match mD ty fn.results.toList fn.resultTypes.toList e1 h1 with|some v=>CC h1 v r|none=>False)->a'.defers=[]/\∃v,(results fn a'.tmps).run P w'=.ok v w'/\(∃v1 g',Ending.returned v=.returned v1/\aH g' w' (fun _=>False) (some .ret) v1 r/\Ext g w g' w'):=by
  intro hq;refine⟨s1.defers,?_⟩;split at hq
  ·rename_i x hx
   obtain⟨v,hrun,t,hv⟩:=nR (P:=P) hty s1 hx;refine⟨v,hrun,?_⟩;rcases hq with rfl|rfl|⟨l,xs,rfl,hh,rfl⟩
   ·obtain⟨g',q1,q2⟩:=rj hno hE1 hr hv;exact⟨v,g',rfl,q1,q2⟩
   ·obtain⟨g',q1,q2⟩:=rj hno hE1 hr (t:=t) hv.copy;exact⟨v,g',rfl,q1,q2⟩
   ·refine⟨v,g1.lay w',rfl,(.p _ _ _ (by cases hv with|ar _ _ m hdm hn=>exact EE s1.heap hh hn)),hE1.size,hE1.os,hE1.out,fun b k u hu=>yI (hE1.bT b k u hu),fun b hb hn=>⟨(hE1.kept b hb hn).1,?_,rfl⟩,⟨hE1.uC.1,funext fun q=>(hsw q).symm,hE1.uC.2.2⟩,hE1.frz',hE1.ρk,hE1.siz⟩
    show oA g1 w' b=g.pre b;unfold oA;rw[(hE1.kept b hb hn).2.2];exact(hE1.kept b hb hn).2.1
  ·exact hq.elim
 cases ex with
 |normal=>exact fin hk1
 |ret=>exact fin hk1
 |_=>exact hk1.elim
theorem au.qG (hty:bB P ty) {f:Nat} {fn:Func} {c:Code} {args:List AV} {hs:Heap} {r:AV} {h':Heap} (hf:P.funcs[f]?=some fn) (hb:fn.body=some c) (hname:(fn.name== "runtime.NumGoroutine")=false)
 (hlen:args.length<=fn.ntmps) (hr:(r.within (aW (aO h'))&&lR (aW (aO h')) h'&&fD hs h')=true)
 (hk:jh P fn.ntmps c (KZ ty fn.results.toList fn.resultTypes.toList r h') (jz 0 args) hs):au P f args hs r h':=by
 simp only[Bool.and_eq_true]at hr;obtain⟨⟨hr1,hr2⟩,hr3⟩:=hr;refine⟨⟨⟨fn,c,hf,hb,hname⟩,hr3⟩,fun g w vs hH hbn hl hrel=>?_⟩;have s0:=cw.start (fn:=fn) hlen hH hbn hl hrel;refine calls_of_wp hf hb (wp_mono (hk g w g w _ s0 (Ext.refl _ _)) ?_);rintro ex a' w' ⟨g1,e1,h1,hk1,s1,hE1⟩
 have fin:(match mD ty fn.results.toList fn.resultTypes.toList e1 h1 with|some v=>xX v r/\nc h1 h'|none=>False)->a'.defers=[]/\∃v,(results fn a'.tmps).run P w'=.ok v w'/\
  (∃v1 g',Ending.returned v=.returned v1/\aH g' w' (aE h') (some .ret) v1 r/\gx g' w' h'/\(∀b ow,g'.own b=some ow->b<w'.heap.size)/\Ext g w g' w'):=by
  intro hq;refine⟨s1.defers,?_⟩;split at hq
  ·rename_i x hx
   obtain⟨hq,hheap⟩:=hq;obtain⟨v,hrun,t,hv⟩:=nR (P:=P) hty s1 hx
   have hv:aH g1 w' (aE h1) (some (.slot t)) v r:=by
    rcases hq with rfl|rfl
    ·exact hv
    ·exact hv.copy
   have hdom:∀l,aW (aO h') l=true->aE h' l:=fun l hl=>by
    obtain⟨ob,hob⟩:=dU h' l (jf _ _ hl);unfold aE;rw[hob];rfl
   let g':Gh:={ pre:=g1.pre,own:=fun b=>bR h' t (g1.own b),ρ:=g1.ρ,σ:=g1.σ,sown:=g1.sown }
   have conv:∀{ow:Option bg} {u:Value} {y:AV},(∀q,ow=some q->bR h' t (some q)=some q)->aH g1 w' (aE h1) ow u y->y.within (aW (aO h'))=true->aH g' w' (aE h') ow u y:=by
    intro ow u y hq r0 hin;have r1:=r0.within (dom':=aE h') hdom hin;exact aH.keep (g:=g1) (g':=g') (w:=w') (w':=w') (fun _ _ _ hv=>hv) (fun l hl=>⟨hl,rfl⟩) (fun l cs E _ hb=>⟨cs,E,hb,rfl⟩) (fun q b e1 ho=>⟨by show bR h' t (g1.own b)=some q;rw[ho];exact hq q e1,rfl,rfl⟩) r1
   refine⟨v,hrun,v,g',rfl,?_,⟨fun l ob hl=>?_,fun l ob hl hsl=>?_,fun l ob hl hsl=>?_⟩,fun b q hq=>?_,?_⟩
   ·cases r with
    |so sz xs=>
     cases hv with
     |full _ a _ _ hz hp=>exact .full _ a sz xs hz hp
     |own _ a cap _ _ cs E hz hp ho hpre hb' hs'=>exact .own .ret a cap sz xs cs E hz hp (by show bR h' t (g1.own a.block)=_;rw[ho];simp[bR]) hpre hb' hs'
    |_=>exact(conv (ow:=none) (fun _ q=>by cases q) (hv.bW (fun _ _ q=>by cases q)) hr1).bW (fun _ _ q=>by cases q)
   ·obtain⟨ob0,q1,q2⟩:=eN h' hheap l ob hl
    have hin:=lY h' hr2 l ob hl;have hkl:=eS _ _ _ hl
    cases (s1.heap.obj l ob0 q1).le q2 with
    |cells cs vs' E hb' hlen' hxx h1'=>exact .cells cs vs' E hb' hlen' (fun j u c q3 q4=>conv (fun q e1=>by cases e1;simp[bR,hkl]) (hxx j u c q3 q4) (bZ _ cs (by simpa[bu.within] using hin) j c q4)) h1'
    |arr xs vs' E hb' hlen' hxx h1'=>exact .arr xs vs' E hb' hlen' hxx h1'
    |store T3 o3 sp3 nx3 z3 M3 hst=>exact .store T3 o3 sp3 nx3 z3 M3 (hst.mono (fun _ _ _ q=>q) (fun bb hb2=>⟨by show bR h' t (g1.own bb)=_;rw[hb2];simp[bR,hkl],rfl,rfl⟩) hst.sown)
    |bJ gb gvs hgl=>exact gN.lM hgl (fun h1 _ _=>⟨rfl,by show bR h' t (g1.own gb)=none;rw[h1];rfl⟩)
   ·obtain⟨ob0,q1,q2⟩:=eN h' hheap l ob hl
    show bR h' t (g1.own (g1.ρ l))=_;rw[s1.heap.own l ob0 q1 (q2.dP hsl)];simp[bR,eS _ _ _ hl]
   ·obtain⟨ob0,q1,q2⟩:=eN h' hheap l ob hl
    exact s1.heap.pre l ob0 q1 (q2.dP hsl)
   ·have hq:bR h' t (g1.own b)=some q:=hq
    cases hg:g1.own b with
    |none=>rw[hg]at hq;simp[bR]at hq
    |some q'=>exact s1.bnd b q' hg
   ·exact⟨hE1.size,hE1.os,hE1.out,hE1.bT,fun b hb hn=>⟨(hE1.kept b hb hn).1,(hE1.kept b hb hn).2.1,by show bR h' t (g1.own b)=none;rw[(hE1.kept b hb hn).2.2];rfl⟩,hE1.uC,hE1.frz',hE1.ρk,hE1.siz⟩
  ·exact hq.elim
 cases ex with
 |normal=>exact fin hk1
 |ret=>exact fin hk1
 |_=>exact hk1.elim
end
end Go.AM
end
