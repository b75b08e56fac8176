/- Contracts, and the law, for every input. No conditions. -/
import Derived.Test.YtdmopjgjhfhfdaaGreatDoorRLE
set_option linter.all false
set_option maxRecDepth 100000
section
open Go Go.AM Go.Proofs TK
namespace MN
section
variable {F:List TR.Ex} {g:TR.Ex->Ns->Option (Ns×Nat)}
theorem EI (k:Nat):∀(es:List TR.eZ) (z:Ns) (nd:Nd) (as0:List Ar) (L M:List TR.Ex) (cs:List Nat),(∀x∈es,Q4 F g x.body/\TR.wP x.pat<=1048576)->k<z.n.1->Fb z->aK k z.n.2=some nd->Bk z.b.2 (fun j=>j<z.b.1) nd.dZ as0->as0.length+es.length<=2000000->
 Fu z cs->F=L++pY es++M->cs.length=L.length->
 ∃z' qa as1 ds,pz g k es z=some z'/\Fb z'/\W (·=k) no (own nd.dZ) z z'/\aK k z'.n.2=some { nd with dZ:=qa }/\Bk z'.b.2 (fun j=>j<z'.b.1) qa (as0++as1)/\(∀j,own qa j->own nd.dZ j\/z.b.1<=j)/\
  jM F z' (sN z z') (sA z z') (Pk qa z z') es L.length as1/\Fu z' (cs++ds)/\kO F z' (sN z z') (sA z z') (Pk qa z z') (pY es) L.length ds
 | [],z,nd,as0,L,M,cs,_,hk,ok,hn,hb,_,hf,_,_=>⟨z,nd.dZ,[],[],rfl,ok,W.refl,hn,by rw[List.append_nil];exact hb,fun j h=>.inl h,by rw[jM];trivial,by rw[List.append_nil];exact hf,by rw[pY];trivial⟩
 |.mk pt e::es,z,nd,as0,L,M,cs,hg,hk,ok,hn,hb,hl,hf,hF,hc=>by
  obtain⟨hge,hwp⟩:=hg _ List.mem_cons_self;obtain⟨z2,d1,e1,e2,e3,e4,e5,e6,e7⟩:=hge z L (pY es++M) cs ok hf (by rw[hF,pY];simp[TR.eZ.body]) hc;have hn2:aK k z2.n.2=some nd:=(e4.tn k hk fun h=>h).trans hn;have hb2:Bk z2.b.2 (fun j=>j<z.b.1) nd.dZ as0:=hb.mono (fun j h=>e4.tb j h fun x=>x) fun j h=>h;have hl:as0.length+es.length+1<=2000000:=hl;obtain⟨b3,q,p1,p2,p3,p4,p5,p6⟩:=uT (⟨pt,z.n.1⟩:Ar) e3.b hb2 (by omega)
  have hz3:pz g k (.mk pt e::es) z=pz g k es ⟨(z2.n.1,bf k { nd with dZ:=some q } z2.n.2),z2.a,b3,z2.fu⟩:=by
   rw[pz,hn];dsimp only[TR.eZ.body,TR.eZ.pat]at e1 hwp ⊢;rw[e1];dsimp only;rw[hn2];dsimp only;rw[wG,Nat.ble_eq_true_of_le hwp];rw[Bool.and_self];dsimp only;rw[p1]
  generalize hzz:(⟨(z2.n.1,bf k { nd with dZ:=some q } z2.n.2),z2.a,b3,z2.fu⟩:Ns)=z3 at hz3;have q1:z3.n=(z2.n.1,bf k { nd with dZ:=some q } z2.n.2):=by rw[<-hzz]
  have q2:z3.b=b3:=by rw[<-hzz]
  have q3:z3.a=z2.a:=by rw[<-hzz]
  have q4:z3.fu=z2.fu:=by rw[<-hzz]
  have hnf:∀j,nf z2 j->nf z3 j:=fun j h q hq=>h q (q4 ▸ hq)
  have w3:W (·=k) no (own nd.dZ) z2 z3:=by
   refine⟨by rw[q1];exact Nat.le_refl _,by rw[q3];exact Nat.le_refl _,by rw[q2,p3];omega,fun j _ h=>?_,fun j hj h hn=>⟨by rw[q3],hnf j hn⟩,fun j hj h=>?_⟩
   ·rw[q1];exact fe fun e=>h e.symm
   ·rw[q2];exact p6 j hj fun p hp x=>h ⟨p,hp,x⟩
  have ok3:Fb z3:=⟨by rw[q1];exact kG e3.n gK,by rw[q3];exact e3.a,by rw[q2];exact p2⟩
  have f3:Fu z3 (cs++d1):=by
   unfold Fu at e6 ⊢;rw[q4,q3];exact e6
  have hn3:aK k z3.n.2=some { nd with dZ:=some q }:=by rw[q1];exact cA hn2
  have hb3:Bk z3.b.2 (fun j=>j<z3.b.1) ({ nd with dZ:=some q }:Nd).dZ (as0++[⟨pt,z.n.1⟩]):=⟨by rw[q2,p4];exact p5,by rw[p4];simp,by rw[q2,p3,p4];dsimp only;omega⟩
  obtain⟨z',qa,as1,d2,g1,g2,g3,g4,g5,g6,g7,g8,g9⟩:=EI k es z3 { nd with dZ:=some q } (as0++[⟨pt,z.n.1⟩]) (L++nH e) M (cs++d1) (fun x hx=>hg x (List.mem_cons_of_mem _ hx)) (by rw[q1];dsimp only;omega) ok3 hn3 hb3 (by simp;omega) f3 (by rw[hF,pY];simp) (by
   have:=e7.len;rw[List.length_append,List.length_append,this,hc];rfl)
  rw[List.length_append]at g7 g9
  have w23:W (·=k) no (own nd.dZ) z z3:=⟨Nat.le_trans e4.n w3.n,Nat.le_trans e4.a w3.a,Nat.le_trans e4.b w3.b,fun j hj h=>(w3.tn j (Nat.lt_trans hj e2) h).trans (e4.tn j hj fun x=>x),fun j hj h hn=>by
   have u:=e4.ta j hj (fun x=>x) hn;have v:=w3.ta j (Nat.lt_of_lt_of_le hj e4.a) (fun x=>x) u.2;exact⟨v.1.trans u.1,v.2⟩,fun j hj h=>(w3.tb j (Nat.lt_of_lt_of_le hj e4.b) h).trans (e4.tb j hj fun x=>x)⟩
  have ne:∀j,j<z2.b.1->¬own (some q) j:=by
   rintro j hj ⟨p,hp,x⟩;cases hp;rw[p4]at x;dsimp only at x;omega
  have b23:z3.b.1=z2.b.1+1:=by rw[q2,p3]
  have n23:z3.n.1=z2.n.1:=by rw[q1]
  have a23:z3.a.1=z2.a.1:=by rw[q3]
  have mv:∀{j:Nat},sA z z2 j->aK j z'.a.2=aK j z2.a.2/\sA z z' j:=by
   rintro j ⟨h1,h2,h3⟩;have u:=w3.ta j h2 (fun x=>x) h3;have v:=g3.ta j (by omega) (fun x=>x) u.2;exact⟨v.1.trans u.1,h1,by have:=g3.a;omega,v.2⟩
  have mn:∀{j:Nat},sN z z2 j->aK j z'.n.2=aK j z2.n.2/\sN z z' j:=by
   rintro j ⟨h1,h2⟩;have hne:¬j=k:=by omega
   exact⟨(g3.tn j (by omega) hne).trans (w3.tn j h2 hne),h1,by have:=g3.n;omega⟩
  have mb:∀{j:Nat},sB z z2 j->aK j z'.b.2=aK j z2.b.2/\Pk qa z z' j:=by
   rintro j ⟨h1,h2⟩;have hno:¬own nd.dZ j:=fun x=>by have:=hb.c j x;omega
   refine⟨(g3.tb j (by omega) (ne j h2)).trans (w3.tb j h2 hno),⟨h1,by have:=g3.b;omega⟩,fun x=>?_⟩;rcases g6 j x with x|x
   ·exact ne j h2 x
   ·omega
  have lift:∀j,sN z3 z' j->sN z z' j:=fun j h=>⟨by have:=h.1;omega,h.2⟩
  have lifA:∀j,sA z3 z' j->sA z z' j:=fun j h=>⟨by have:=h.1;have:=e4.a;omega,h.2⟩
  have lifB:∀j,Pk qa z3 z' j->Pk qa z z' j:=fun j h=>⟨⟨by have:=h.1.1;have:=e4.b;omega,h.1.2⟩,h.2⟩
  have id3:∀{α:Type} {M:List (Nat×α)} (C:Nat->Prop) (j:Nat),C j->aK j M=aK j M:=fun _ _ _=>rfl;refine⟨z',qa,⟨pt,z.n.1⟩::as1,d1++d2,hz3.trans g1,g2,w23.trans g3 (fun _ _ x=>x) (fun _ _ x=>x) (fun j hj x=>(ne j (Nat.lt_of_lt_of_le hj e4.b) x).elim),g4,by rw[List.append_cons];exact g5,fun j x=>?_,?_,by rw[<-List.append_assoc];exact g8,?_⟩
  ·rcases g6 j x with⟨p,hp,y⟩|x
   ·cases hp;rw[p4]at y;dsimp only at y;have:=e4.b;exact .inr (by omega)
   ·have:=e4.b;exact .inr (by omega)
  ·rw[jM]
   exact⟨rfl,e5.mono (fun j h=>(mn h).1) (fun j h=>(mv h).1) (fun j h=>(mb h).1) (fun j h=>(mn h).2) (fun j h=>(mv h).2) fun j h=>(mb h).2,g7.mono (id3 _) (id3 _) (id3 _) lift lifA lifB⟩
  ·rw[pY]
   exact(e7.mono (fun j h=>(mn h).1) (fun j h=>(mv h).1) (fun j h=>(mb h).1) (fun j h=>(mn h).2) (fun j h=>(mv h).2) fun j h=>(mb h).2).app (g9.mono (id3 _) (id3 _) (id3 _) lift lifA lifB)
end
theorem zA (F:List TR.Ex) (hFl:F.length<=2000000):∀(n:Nat) (e:TR.Ex),TR.wE e<=n->TR.wE e<=1048576->Q4 F (hU n) e
 |0,e,h,_=>by have:=TR.F8 e;omega
 |n+1,.mk k0 n0 t0 ns0 ts0 as0 ms0 p0,h,hw=>by
  intro z L M cs ok hf hF hc;have hlen:=TR.uW k0 n0 t0 ns0 ts0 as0 ms0 p0;generalize hE:(TR.Ex.mk k0 n0 t0 ns0 ts0 as0 ms0 p0)=E at *;have ea:E.args=as0:=by rw[<-hE];rfl
  have em:E.dZ=ms0:=by rw[<-hE];rfl
  have en:E.names=ns0:=by rw[<-hE];rfl
  have hfE:nH E=one E++(pM as0++pY ms0):=by rw[<-hE];rfl
  rw[hU,ea,em,en,Nat.ble_eq_true_of_le (show as0.length<=2000000 by omega),Nat.ble_eq_true_of_le (show ms0.length<=2000000 by omega),Nat.ble_eq_true_of_le (show ns0.length<=2000000 by omega),Bool.and_self,Bool.and_self];dsimp only
  -- the node itself
  obtain⟨z1,nd1,d0,f1,f2,f3,f4,f5,f6,f7,f8,f9⟩:∃z1 nd1 d0,JA E z.n.1 ⟨(z.n.1+1,(z.n.1,tU E)::z.n.2),z.a,z.b,z.fu⟩=some z1/\Fb z1/\z1.n.1=z.n.1+1/\W no no no z z1/\aK z.n.1 z1.n.2=some nd1/\OO F nd1 E L.length/\(nd1.args=none/\nd1.dZ=none)/\Fu z1 (cs++d0)/\d0=(match qj E with|true=>[z.n.1]|false=>[]):=by
   have okz:Fb ⟨(z.n.1+1,(z.n.1,tU E)::z.n.2),z.a,z.b,z.fu⟩:=⟨ok.n.push _,ok.a,ok.b⟩
   unfold JA;rw[show((E.kind==10)&&!(Nat.beq E.args.length 0))=qj E from rfl]
   cases hi:qj E with
   |false=>exact⟨_,tU E,[],rfl,okz,rfl,⟨Nat.le_succ _,Nat.le_refl _,Nat.le_refl _,fun j hj _=>ig (Nat.ne_of_gt hj),fun j _ _ h=>⟨rfl,h⟩,fun _ _ _=>rfl⟩,aP ..,⟨rfl,rfl,rfl,rfl,rfl,fun e=>(by rw[hi]at e;cases e),fun _=>⟨rfl,rfl⟩⟩,⟨rfl,rfl⟩,by rw[List.append_nil];exact hf,rfl⟩
   |true=>
    have hcl:cs.length<=2000000:=by
     have:=congrArg List.length hF;rw[List.length_append,List.length_append]at this;omega
    obtain⟨a2,q,p1,p2,p3,p4,p5,p6⟩:=uT z.n.1 ok.a hf hcl;rw[Nat.ble_eq_true_of_le (show TR.wE E<=1048640 by omega)];dsimp only;rw[p1];have hfu:∀p,z.fu=some p->p.1<z.a.1:=fun p hp=>hf.c p.1 ⟨p,hp,rfl⟩;refine⟨_,{ tU E with fn:=(fT z.fu:Int),free:=TR.ny E },[z.n.1],rfl,⟨kG okz.n gK,p2,ok.b⟩,rfl,⟨Nat.le_succ _,by rw[p3];exact Nat.le_succ _,Nat.le_refl _,fun j hj _=>?_,fun j hj _ hn=>⟨p6 j hj hn,?_⟩,fun _ _ _=>rfl⟩,cA (aP ..),⟨rfl,rfl,rfl,rfl,rfl,fun _=>⟨rfl,?_,?_⟩,fun e=>(by rw[hi]at e;cases e)⟩,⟨rfl,rfl⟩,⟨by rw[p4];exact p5,by rw[p4];simp,by rw[p3,p4];exact Nat.lt_succ_self _⟩,rfl⟩
    ·exact(fe (Nat.ne_of_gt hj)).trans (ig (Nat.ne_of_gt hj))
    ·rintro p hp x
     cases hp;rw[p4]at x;dsimp only at x;omega
    ·dsimp only;rw[hf.len,hc]
    ·rw[hF,hfE];unfold one;rw[hi];simp
  rw[f1];dsimp only;have hd0:d0.length=(one E).length:=by rw[f9];unfold one;cases qj E<;>rfl
  obtain⟨z2,qa,cs1,d1,a1,a2,a3,a4,a5,a6,a7,a8,a9⟩:=ET (F:=F) (g:=hU n) z.n.1 as0 z1 nd1 [] (L++one E) (pY ms0++M) (cs++d0) (fun x hx=>zA F hFl n x (by have:=TR.mH (k:=k0) (n:=n0) (t:=t0) (ns:=ns0) (ts:=ts0) (ms:=ms0) (p:=p0) hx;rw[hE]at this;omega) (by have:=TR.mH (k:=k0) (n:=n0) (t:=t0) (ns:=ns0) (ts:=ts0) (ms:=ms0) (p:=p0) hx;rw[hE]at this;omega)) (by omega) f2 f5 (by rw[f7.1];rfl) (by simp;omega) f8 (by rw[hF,hfE];simp) (by rw[List.length_append,List.length_append,hc,hd0]);rw[a1];dsimp only
  obtain⟨z3,qb,as1,d2,b1,b2,b3,b4,b5,b6,b7,b8,b9⟩:=EI (F:=F) (g:=hU n) z.n.1 ms0 z2 { nd1 with args:=qa } [] (L++one E++pM as0) M (cs++d0++d1) (fun x hx=>by
   have:=TR.oy (k:=k0) (n:=n0) (t:=t0) (ns:=ns0) (ts:=ts0) (xs:=as0) (p:=p0) hx;rw[hE]at this;exact⟨zA F hFl n x.body (by omega) (by omega),by omega⟩) (by have:=a3.n;omega) a2 a4 (by dsimp only;rw[f7.2];rfl) (by simp;omega) a8 (by rw[hF,hfE];simp) (by rw[List.length_append,List.length_append,hc,hd0,a9.len,List.length_append,List.length_append])
  rw[b1];rw[List.length_append]at a7 a9;rw[List.length_append,List.length_append]at b7 b9;have noA:∀j,¬own nd1.args j:=fun j ⟨p,hp,_⟩=>by rw[f7.1]at hp;cases hp
  have noB:∀j,¬own ({ nd1 with args:=qa }:Nd).dZ j:=fun j ⟨p,hp,_⟩=>by dsimp only at hp;rw[f7.2]at hp;cases hp
  have z12:=a3.n;have z23:=b3.n
  have w13:∀j,sA z1 z2 j->aK j z3.a.2=aK j z2.a.2/\sA z z3 j:=fun j h=>by
   have u:=b3.ta j h.2.1 (fun x=>x) h.2.2;exact⟨u.1,by have:=f4.a;have:=h.1;omega,by have:=b3.a;have:=h.2.1;omega,u.2⟩
  have m13:∀j,sN z1 z2 j->aK j z3.n.2=aK j z2.n.2/\sN z z3 j:=fun j h=>⟨b3.tn j h.2 (by have:=h.1;omega),by have:=h.1;omega,by have:=h.2;omega⟩
  have b13:∀j,sB z1 z2 j->aK j z3.b.2=aK j z2.b.2/\sB z z3 j:=fun j h=>⟨b3.tb j h.2 (noB j),by have:=f4.b;have:=h.1;omega,by have:=b3.b;have:=h.2;omega⟩
  have id3:∀{α:Type} {M:List (Nat×α)} (C:Nat->Prop) (j:Nat),C j->aK j M=aK j M:=fun _ _ _=>rfl;have liN:∀j,sN z2 z3 j->sN z z3 j:=fun j h=>⟨by have:=h.1;omega,h.2⟩
  have liA:∀j,sA z2 z3 j->sA z z3 j:=fun j h=>⟨by have:=h.1;have:=f4.a;have:=a3.a;omega,h.2⟩
  have liB:∀j,Pk qb z2 z3 j->sB z z3 j:=fun j h=>⟨by have:=h.1.1;have:=f4.b;have:=a3.b;omega,h.1.2⟩
  have hRep:Am F z3 (sN z z3) (sA z z3) (sB z z3) E L.length z.n.1:=by
   rw[<-hE,Am,hE];refine⟨{ nd1 with args:=qa,dZ:=qb },cs1,as1,⟨Nat.le_refl _,by omega⟩,b4,?_,?_,?_,?_,?_⟩
   ·exact⟨f6.kind,f6.num,f6.text,f6.names,f6.needs,f6.fn,f6.nf⟩
   ·have:=a5
    rw[List.nil_append]at this;dsimp only
    cases hq:qa with
    |none=>rw[hq]at this;exact this
    |some q=>
     rw[hq]at this;obtain⟨u1,u2,u3⟩:=this
     have hs:sA z1 z2 q.1:=by
      refine⟨?_,u3⟩;rcases a6 q.1 ⟨q,hq,rfl⟩ with x|x
      ·exact(noA _ x).elim
      ·exact x
     exact⟨(w13 _ hs).1.trans u1,u2,(w13 _ hs).2⟩
   ·have:=b5
    rw[List.nil_append]at this;dsimp only
    cases hq:qb with
    |none=>rw[hq]at this;exact this
    |some q=>
     rw[hq]at this;obtain⟨u1,u2,u3⟩:=this;refine⟨u1,u2,?_,u3⟩;rcases b6 q.1 ⟨q,hq,rfl⟩ with x|x
     ·exact(noB _ x).elim
     ·have:=f4.b;have:=a3.b;omega
   ·exact a7.mono (fun j h=>(m13 j h).1) (fun j h=>(w13 j h.1).1) (fun j h=>(b13 j h).1) (fun j h=>(m13 j h).2) (fun j h=>(w13 j h.1).2) fun j h=>(b13 j h).2
   ·exact b7.mono (id3 _) (id3 _) (id3 _) liN liA liB
  refine⟨z3,d0++d1++d2,rfl,by omega,b2,?_,hRep,by rw[show cs++(d0++d1++d2)=cs++d0++d1++d2 by simp];exact b8,?_⟩
  ·refine⟨by omega,Nat.le_trans f4.a (Nat.le_trans a3.a b3.a),Nat.le_trans f4.b (Nat.le_trans a3.b b3.b),fun j hj _=>?_,fun j hj _ hn=>?_,fun j hj _=>?_⟩
   ·exact(b3.tn j (by omega) (by omega)).trans ((a3.tn j (by omega) (by omega)).trans (f4.tn j hj fun x=>x))
   ·have u:=f4.ta j hj (fun x=>x) hn
    have v:=a3.ta j (Nat.lt_of_lt_of_le hj f4.a) (noA j) u.2;have w:=b3.ta j (Nat.lt_of_lt_of_le hj (Nat.le_trans f4.a a3.a)) (fun x=>x) v.2;exact⟨w.1.trans (v.1.trans u.1),w.2⟩
   ·exact(b3.tb j (Nat.lt_of_lt_of_le hj (Nat.le_trans f4.b a3.b)) (noB j)).trans ((a3.tb j (Nat.lt_of_lt_of_le hj f4.b) fun x=>x).trans (f4.tb j hj fun x=>x))
  ·rw[hfE,List.append_assoc]
   refine kO.app ?_ (kO.app (a9.mono (fun j h=>(m13 j h).1) (fun j h=>(w13 j h.1).1) (fun j h=>(b13 j h).1) (fun j h=>(m13 j h).2) (fun j h=>(w13 j h.1).2) fun j h=>(b13 j h).2) (b9.mono (id3 _) (id3 _) (id3 _) liN liA liB));rw[f9];unfold one
   cases qj E with
   |false=>trivial
   |true=>exact⟨hRep,trivial⟩
def aN (z:Ns) (j:Nat):Prop:=j<z.n.1
def aA (z:Ns) (j:Nat):Prop:=j<z.a.1/\nf z j
def aB (z:Ns) (j:Nat):Prop:=j<z.b.1
abbrev PF:=List ByteArray×TR.Ex×Nat
def AL (F:List TR.Ex) (z:Ns) (e:TR.Ex) (o k:Nat):Prop:=Am F z (aN z) (aA z) (aB z) e o k
def Ga (F:List TR.Ex) (z:Ns) (l:List TR.Ex) (o:Nat) (s:List Nat):Prop:=kO F z (aN z) (aA z) (aB z) l o s
def Dp (F:List TR.Ex) (z:Ns) (fs:TM PF) (es:TM Fn):Prop:=F2 (fun p e=>e.1=p.1/\e.2.names=p.2.1/\AL F z p.2.2.1 p.2.2.2 e.2.body) fs es
def Fa (f:List ByteArray×TR.Ex):Prop:=f.1.length<=2000000/\TR.wE f.2<=1048576
abbrev QF:=ByteArray×List ByteArray×TR.Ex
def Lz:List QF->Nat->TM PF->TM PF
 | [],_,es=>es
 |f::l,o,es=>Lz l (o+(nH f.2.2).length) (firstT es f.1 (f.2.1,f.2.2,o))
def iF (l:List QF):List TR.Ex:=l.flatMap fun f=>nH f.2.2
def lF (f:TR.Ac):QF:=(f.name,f.ns,f.body)
def lA (f:TR.JN):QF:=(f.name,f.ns,f.body)
section
variable {F:List TR.Ex} {z z':Ns}
theorem AL.W (w:W no no no z z') {e:TR.Ex} {o k:Nat} (h:AL F z e o k):AL F z' e o k:=
 Am.mono (fun j h=>w.tn j h fun x=>x) (fun j h=>(w.ta j h.1 (fun x=>x) h.2).1) (fun j h=>w.tb j h fun x=>x) (fun _ h=>Nat.lt_of_lt_of_le h w.n) (fun j h=>⟨Nat.lt_of_lt_of_le h.1 w.a,(w.ta j h.1 (fun x=>x) h.2).2⟩) (fun _ h=>Nat.lt_of_lt_of_le h w.b) h
theorem Ga.W (w:W no no no z z') {e:List TR.Ex} {o:Nat} {k:List Nat} (h:Ga F z e o k):Ga F z' e o k:=
 kO.mono (fun j h=>w.tn j h fun x=>x) (fun j h=>(w.ta j h.1 (fun x=>x) h.2).1) (fun j h=>w.tb j h fun x=>x) (fun _ h=>Nat.lt_of_lt_of_le h w.n) (fun j h=>⟨Nat.lt_of_lt_of_le h.1 w.a,(w.ta j h.1 (fun x=>x) h.2).2⟩) (fun _ h=>Nat.lt_of_lt_of_le h w.b) h
theorem Dp.W (w:W no no no z z') {fs:TM PF} {es:TM Fn} (h:Dp F z fs es):Dp F z' fs es:=F2.mono (fun _ _ h=>⟨h.1,h.2.1,h.2.2.W w⟩) h
theorem Dp.find:∀{fs:TM PF} {es:TM Fn} (_:Dp F z fs es) (k:ByteArray),O2 (fun p f=>f.names=p.1/\AL F z p.2.1 p.2.2 f.body) (aV k fs) (aV k es)
 | [],[],_,_=>trivial
 |(a,p)::fs,(b,f)::es,h,k=>by
  obtain⟨⟨h1,h2,h3⟩,h⟩:=h;dsimp only at h1;subst h1;rw[aV,aV]
  cases k==b with
  |true=>exact⟨h2,h3⟩
  |false=>exact Dp.find h k
theorem Dp.first {fs:TM PF} {es:TM Fn} (h:Dp F z fs es) (k:ByteArray) {p:PF} {f:Fn} (h1:f.names=p.1) (h2:AL F z p.2.1 p.2.2 f.body):Dp F z (firstT fs k p) (firstT es k f):=by
 have:=h.find k;unfold firstT
 cases e1:aV k fs with
 |none=>
  cases e2:aV k es with
  |none=>exact F2.app h ⟨⟨rfl,h1,h2⟩,trivial⟩
  |some _=>rw[e1,e2]at this;cases this
 |some _=>
  cases e2:aV k es with
  |none=>rw[e1,e2]at this;cases this
  |some _=>exact h
def RD (F:List TR.Ex) (G:Ns->TM Fn->Option (Ns×TM Fn)) (l:List QF):Prop:=∀(z:Ns) (pes:TM PF) (es:TM Fn) (L M:List TR.Ex) (cs:List Nat),Fb z->Fu z cs->F=L++iF l++M->cs.length=L.length->Dp F z pes es->
 ∃z' es' ds,G z es=some (z',es')/\Fb z'/\W no no no z z'/\Dp F z' (Lz l L.length pes) es'/\Fu z' (cs++ds)/\Ga F z' (iF l) L.length ds
theorem LC (hFl:F.length<=2000000) {f:List ByteArray×TR.Ex} (hf:Fa f) {L M:List TR.Ex} {cs:List Nat} (ok:Fb z) (hu:Fu z cs) (hF:F=L++nH f.2++M) (hc:cs.length=L.length):
 ∃z' ds,hU (TR.wE f.2) f.2 z=some (z',z.n.1)/\Fb z'/\W no no no z z'/\AL F z' f.2 L.length z.n.1/\Fu z' (cs++ds)/\Ga F z' (nH f.2) L.length ds:=by
 obtain⟨z',ds,h1,_,h3,h4,h5,h6,h7⟩:=zA F hFl _ f.2 (Nat.le_refl _) hf.2 z L M cs ok hu hF hc;have id3:∀{α:Type} {M:List (Nat×α)} (C:Nat->Prop) (j:Nat),C j->aK j M=aK j M:=fun _ _ _=>rfl;exact⟨z',ds,h1,h3,h4,h5.mono (id3 _) (id3 _) (id3 _) (fun j h=>h.2) (fun j h=>⟨h.2.1,h.2.2⟩) fun j h=>h.2,h6,h7.mono (id3 _) (id3 _) (id3 _) (fun j h=>h.2) (fun j h=>⟨h.2.1,h.2.2⟩) fun j h=>h.2⟩
theorem yW (hFl:F.length<=2000000):∀(l:List TR.Ac),(∀f∈l,Fa (lF f).2)->RD F (fun z es=>mA l z es) (l.map lF)
 | [],_=>fun z pes es L M cs ok hu hF hc ht=>⟨z,es,[],rfl,ok,W.refl,ht,by rw[List.append_nil];exact hu,trivial⟩
 |f::l,hs=>fun z pes es L M cs ok hu hF hc ht=>by
  have hf:=hs f List.mem_cons_self;obtain⟨z2,d1,e1,e2,e3,e4,e5,e6⟩:=LC (f:=(f.ns,f.body)) (M:=iF (l.map lF)++M) hFl hf ok hu (by rw[hF,iF,List.map_cons,List.flatMap_cons];simp[iF,lF]) hc;obtain⟨z3,es3,d2,g1,g2,g3,g4,g5,g6⟩:=yW hFl l (fun x hx=>hs x (List.mem_cons_of_mem _ hx)) z2 (firstT pes f.name (f.ns,f.body,L.length)) (firstT es f.name ⟨f.ns,z.n.1⟩) (L++nH f.body) M (cs++d1) e2 e5 (by rw[hF,iF,List.map_cons,List.flatMap_cons];simp[iF,lF]) (by have:=e6.len;rw[List.length_append,List.length_append,this,hc]) ((ht.W e3).first f.name rfl e4);dsimp only;rw[mA];unfold GG;rw[Nat.ble_eq_true_of_le (show f.ns.length<=2000000 from hf.1)];dsimp only[lF]at e1 ⊢;rw[e1];dsimp only at g1 ⊢;rw[List.length_append]at g4 g6;exact⟨z3,es3,d1++d2,g1,g2,e3.trans g3 (fun _ _ x=>x) (fun _ _ x=>x) (fun _ _ x=>x),g4,by rw[<-List.append_assoc];exact g5,by unfold Ga iF;rw[List.map_cons,List.flatMap_cons];exact kO.app (Ga.W g3 e6) g6⟩
theorem yT (hFl:F.length<=2000000):∀(l:List TR.JN),(∀f∈l,Fa (lA f).2)->RD F (fun z es=>jV l z es) (l.map lA)
 | [],_=>fun z pes es L M cs ok hu hF hc ht=>⟨z,es,[],rfl,ok,W.refl,ht,by rw[List.append_nil];exact hu,trivial⟩
 |f::l,hs=>fun z pes es L M cs ok hu hF hc ht=>by
  have hf:=hs f List.mem_cons_self;obtain⟨z2,d1,e1,e2,e3,e4,e5,e6⟩:=LC (f:=(f.ns,f.body)) (M:=iF (l.map lA)++M) hFl hf ok hu (by rw[hF,iF,List.map_cons,List.flatMap_cons];simp[iF,lA]) hc;obtain⟨z3,es3,d2,g1,g2,g3,g4,g5,g6⟩:=yT hFl l (fun x hx=>hs x (List.mem_cons_of_mem _ hx)) z2 (firstT pes f.name (f.ns,f.body,L.length)) (firstT es f.name ⟨f.ns,z.n.1⟩) (L++nH f.body) M (cs++d1) e2 e5 (by rw[hF,iF,List.map_cons,List.flatMap_cons];simp[iF,lA]) (by have:=e6.len;rw[List.length_append,List.length_append,this,hc]) ((ht.W e3).first f.name rfl e4);dsimp only;rw[jV];unfold Pz;rw[Nat.ble_eq_true_of_le (show f.ns.length<=2000000 from hf.1)];dsimp only[lA]at e1 ⊢;rw[e1];dsimp only at g1 ⊢;rw[List.length_append]at g4 g6;exact⟨z3,es3,d1++d2,g1,g2,e3.trans g3 (fun _ _ x=>x) (fun _ _ x=>x) (fun _ _ x=>x),g4,by rw[<-List.append_assoc];exact g5,by unfold Ga iF;rw[List.map_cons,List.flatMap_cons];exact kO.app (Ga.W g3 e6) g6⟩
def IR (F:List TR.Ex) (z:Ns) (m0:Nat) (M:List (Nat×TM Fn)) (p:TR.xF×Nat) (x:Im):Prop:=x.trait=p.1.tr/\x.typ=p.1.fo/\m0<=x.funcs/\∃es,aK x.funcs M=some es/\Dp F z (Lz (p.1.funcs.map lF) p.2 []) es
def AH:List TR.xF->Nat->List (TR.xF×Nat)
 | [],_=>[]
 |x::l,o=>(x,o)::AH l (o+(iF (x.funcs.map lF)).length)
def nK (l:List TR.xF):List TR.Ex:=l.flatMap fun x=>iF (x.funcs.map lF)
theorem IR.mono (w:W no no no z z') {m0:Nat} {M N:List (Nat×TM Fn)} (h:∀j es,m0<=j->aK j M=some es->aK j N=some es) {p:TR.xF×Nat} {x:Im} (q:IR F z m0 M p x):IR F z' m0 N p x:=
 ⟨q.1,q.2.1,q.2.2.1,let ⟨es,a,b⟩:=q.2.2.2;⟨es,h _ _ q.2.2.1 a,b.W w⟩⟩
theorem A0 (hFl:F.length<=2000000) (m0:Nat):∀(l:List TR.xF) (z:Ns) (m:aZ (TM Fn)) (i:aZ (List Im)) (q:Option (Nat×Nat)) (ps:List (TR.xF×Nat)) (xs:List Im) (L M:List TR.Ex) (cs:List Nat),(∀x∈l,∀f∈x.funcs,Fa (lF f).2)->Fb z->gp m->gp i->m0<=m.1->Bk i.2 (fun j=>j<i.1) q xs->F2 (IR F z m0 m.2) ps xs->xs.length+l.length<=2000000->Fu z cs->F=L++nK l++M->cs.length=L.length->
 ∃z' m' i' q' xs' ds,mY l z m i q=some (z',m',i',q')/\Fb z'/\gp m'/\gp i'/\m.1<=m'.1/\(∀j es,aK j m.2=some es->aK j m'.2=some es)/\W no no no z z'/\Bk i'.2 (fun j=>j<i'.1) q' xs'/\F2 (IR F z' m0 m'.2) (ps++AH l L.length) xs'/\Fu z' (cs++ds)/\Ga F z' (nK l) L.length ds
 | [],z,m,i,q,ps,xs,L,M,cs,_,ok,bm,bi,_,hq,hx,_,hu,_,_=>⟨z,m,i,q,xs,[],rfl,ok,bm,bi,Nat.le_refl _,fun _ _ h=>h,W.refl,hq,by rw[AH,List.append_nil];exact hx,by rw[List.append_nil];exact hu,trivial⟩
 |x::l,z,m,i,q,ps,xs,L,M,cs,hs,ok,bm,bi,hm,hq,hx,hl,hu,hF,hc=>by
  have hl:xs.length+l.length+1<=2000000:=hl;obtain⟨z2,es,d1,e1,e2,e3,e4,e5,e6⟩:=yW hFl x.funcs (hs x List.mem_cons_self) z [] [] L (nK l++M) cs ok hu (by rw[hF,nK,List.flatMap_cons];simp[nK]) hc trivial;obtain⟨i2,q2,p1,p2,p3,p4,p5,p6⟩:=uT (⟨x.tr,x.fo,m.1⟩:Im) bi hq (by omega)
  have hx2:F2 (IR F z2 m0 ((m.1,es)::m.2)) (ps++[(x,L.length)]) (xs++[⟨x.tr,x.fo,m.1⟩]):=
   F2.app (F2.mono (fun _ _ h=>h.mono e3 fun j es' _ h=>bm.old h) hx) ⟨⟨rfl,rfl,hm,es,aP ..,e4⟩,trivial⟩
  obtain⟨z3,m3,i3,q3,xs3,d2,g1,g2,g3,g4,g5,g6,g7,g8,g9,g10,g11⟩:=A0 hFl m0 l z2 (m.1+1,(m.1,es)::m.2) i2 (some q2) (ps++[(x,L.length)]) (xs++[⟨x.tr,x.fo,m.1⟩]) (L++iF (x.funcs.map lF)) M (cs++d1) (fun y hy=>hs y (List.mem_cons_of_mem _ hy)) e2 (bm.push _) p2 (by dsimp only;omega) ⟨by rw[p4];exact p5,by rw[p4];simp,by rw[p3,p4];exact Nat.lt_succ_self _⟩ hx2 (by simp;omega) e5 (by rw[hF,nK,List.flatMap_cons];simp[nK]) (by have:=e6.len;rw[List.length_append,List.length_append,this,hc]);rw[List.length_append]at g9 g11;rw[mY];dsimp only at e1 ⊢;rw[e1];dsimp only;rw[p1];exact⟨z3,m3,i3,q3,xs3,d1++d2,g1,g2,g3,g4,by dsimp only at g5;omega,fun j es' h=>g6 j es' (bm.old h),e3.trans g7 (fun _ _ x=>x) (fun _ _ x=>x) (fun _ _ x=>x),g8,by rw[AH,List.append_cons];exact g9,by rw[<-List.append_assoc];exact g10,by unfold Ga nK;rw[List.flatMap_cons];exact kO.app (Ga.W g7 e6) g11⟩
end
structure QH (K:Ks):Prop where
 n:gp K.n
 a:gp K.a
 b:gp K.b
 mf:gp K.mf
 im:gp K.im
def hY (p:TR.nX):List TR.Ex:=nK p.impls++iF (p.funcs.map lF)++iF (p.actors.map lA)
structure M6 (p:TR.nX):Prop where
 ok:IC p=true
 im:∀x∈p.impls,∀f∈x.funcs,Fa (lF f).2
 fu:∀f∈p.funcs,Fa (lF f).2
 ac:∀f∈p.actors,Fa (lA f).2
 fn:(hY p).length<=2000000
structure FB (p:TR.nX) (K:Ks) (m:Nat):Prop where
 ex:∃z mk cs es ims fs acs,K.n=z.n/\K.a=z.a/\K.b=z.b/\aK m K.mm.2=some mk/\mk.funs=z.fu/\Fu z cs/\Ga (hY p) z (hY p) 0 cs/\
  aK mk.makes K.mc.2=some es/\es=mZ p.datas []/\aK mk.traits K.mt.2=some (jT p.traits [])/\
  Bk K.im.2 (fun _=>True) mk.impls ims/\ims.length<=2000000/\F2 (IR (hY p) z 0 K.mf.2) (AH p.impls 0) ims/\
  aK mk.funcs K.mf.2=some fs/\Dp (hY p) z (Lz (p.funcs.map lF) (nK p.impls).length []) fs/\
  aK mk.actors K.ma.2=some acs/\Dp (hY p) z (Lz (p.actors.map lA) ((nK p.impls).length+(iF (p.funcs.map lF)).length) []) acs
theorem JW {p:TR.nX} (h:M6 p) {K:Ks} (ok:QH K):∃K',newF p K=some K'/\QH K'/\FB p K' K.mm.1:=by
 have hcnt:p.impls.length<=2000000:=by
  have:=h.ok;unfold IC at this;simp only[Bool.and_eq_true]at this;exact Nat.le_of_ble_eq_true this.2.2.2.2.1
 obtain⟨z1,mf1,im1,q,ims,d1,e1,e2,e3,e4,e5,e6,e7,e8,e9,e10,e11⟩:=A0 h.fn (K.mf.1+1) p.impls ⟨K.n,K.a,K.b,none⟩ (K.mf.1+1,(K.mf.1,[])::K.mf.2) K.im none [] [] [] (iF (p.funcs.map lF)++iF (p.actors.map lA)) [] h.im ⟨ok.n,ok.a,ok.b⟩ (ok.mf.push _) ok.im (Nat.le_refl _) rfl trivial (by simpa using hcnt) rfl (by unfold hY;simp) rfl;have e0:=e6 K.mf.1 [] (aP ..);obtain⟨z2,fs,d2,f1,f2,f3,f4,f5,f6⟩:=yW h.fn p.funcs h.fu z1 [] [] (nK p.impls) (iF (p.actors.map lA)) ([]++d1) e2 e10 (by unfold hY;simp) (by rw[List.nil_append];exact e11.len) trivial;obtain⟨z3,acs,d3,g1,g2,g3,g4,g5,g6⟩:=yT h.fn p.actors h.ac z2 [] [] (nK p.impls++iF (p.funcs.map lF)) [] ([]++d1++d2) f2 f5 (by unfold hY;simp) (by rw[List.nil_append,List.length_append,List.length_append,e11.len,f6.len]) trivial;dsimp only at f1 g1;rw[List.length_append]at g4 g6
 have hN:newF p K=some (kS K z3 (wY K z3.fu q) (mZ p.datas []) (mf1.1,bf K.mf.1 fs mf1.2) (jT p.traits []) im1 acs):=by
  unfold newF;rw[h.ok,e1];dsimp only;rw[e0];dsimp only;rw[f1];dsimp only;rw[g1]
 refine⟨_,hN,⟨g2.n,g2.a,g2.b,kG e3 gK,e4⟩,?_⟩;have w13:W no no no z1 z3:=f3.trans g3 (fun _ _ x=>x) (fun _ _ x=>x) (fun _ _ x=>x);refine⟨z3,wY K z3.fu q,[]++d1++d2++d3,_,ims,fs,acs,rfl,rfl,rfl,aP ..,rfl,g5,?_,aP ..,rfl,aP ..,?_,?_,?_,cA e0,f4.W g3,aP ..,g4⟩
 ·rw[List.nil_append]
  exact((Ga.W w13 e11).app (by rw[List.length_nil,Nat.zero_add];exact Ga.W g3 f6)).app (by rw[List.length_nil,Nat.zero_add,List.length_append];exact g6)
 ·exact e8.mono (fun _ _=>rfl) fun _ _=>trivial
 ·have:=e9.len
  rw[List.nil_append]at this;rw[<-this]
  have:∀(l:List TR.xF) (o:Nat),(AH l o).length=l.length:=by
   intro l
   induction l with
   |nil=>intro o;rfl
   |cons x l ih=>intro o;rw[AH,List.length_cons,List.length_cons,ih]
  rw[this];exact hcnt
 ·refine F2.mono (fun x y hx=>?_) e9
  obtain⟨a1,a2,a3,es,a4,a5⟩:=hx;refine⟨a1,a2,Nat.zero_le _,es,?_,a5.W w13⟩;exact(fe (by omega)).trans a4
def Lf (F:List TR.Ex) (n:Int) (t:ByteArray) (len:Nat):Prop:=∃e,0<=n/\F[n.toNat]?=some e/\t.size=(TR.ny e).length/\yz t len (TR.ny e) 0 0
def NS (F:List TR.Ex) (z w:Ns) (a b:Nat):Prop:=∃e o,TR.wE e<=1048576/\AL F z e o a/\AL F w e o b
section
variable {F:List TR.Ex} {z w:Ns} {K:Ks}
theorem Ko {nd:Nd} {C:Nat->Prop} {cs:List Nat} (h:Bk K.a.2 C nd.args cs) {j:Nat} (hj:j<cs.length):jn K.a nd j=cs[j]?:=by
 unfold jn
 cases hq:nd.args with
 |none=>rw[hq]at h;cases h;simp at hj
 |some q=>
  rw[hq]at h;obtain⟨h1,h2,_⟩:=h;dsimp only;rw[show Nat.blt j q.2=true from Nat.ble_eq_true_of_le (by omega)];dsimp only;rw[h1]
theorem Iw {nd:Nd} {C:Nat->Prop} {ars:List Ar} (h:Bk K.b.2 C nd.dZ ars) (hl:ars.length<=2000000):uS K nd=some ars:=by
 unfold uS
 cases hq:nd.dZ with
 |none=>rw[hq]at h;cases h;rfl
 |some q=>
  rw[hq]at h;obtain⟨h1,h2,_⟩:=h;dsimp only;rw[h1];dsimp only;rw[oU (by omega) (by omega),h2,List.take_length]
theorem jM.two {z w:Ns} {A C D A' C' D':Nat->Prop}:∀{ms:List TR.eZ} {o:Nat} {l m:List Ar},jM F z A C D ms o l->jM F w A' C' D' ms o m->(∀x∈ms,TR.wP x.pat<=2000000)->(∀x∈ms,TR.wE x.body<=1048576)->(∀e o a b,TR.wE e<=1048576->Am F z A C D e o a->Am F w A' C' D' e o b->NS F z w a b)->F2 (fun x y=>y.pat=x.pat/\TR.wP x.pat<=2000000/\NS F z w x.body y.body) l m
 | [],_,[],[],_,_,_,_,_=>trivial
 | [],_,_::_,_,h,_,_,_,_=>by rw[jM]at h;exact h.elim
 | [],_,[],_::_,_,h,_,_,_=>by rw[jM]at h;exact h.elim
 |_::_,_,[],_,h,_,_,_,_=>by rw[jM]at h;exact h.elim
 |_::_,_,_::_,[],_,h,_,_,_=>by rw[jM]at h;exact h.elim
 |.mk p e::r,_,a::l,b::m,h1,h2,hp,he,hk=>by
  rw[jM]at h1 h2;exact⟨⟨h2.1.trans h1.1.symm,by rw[h1.1];exact hp _ List.mem_cons_self,hk e _ _ _ (he _ List.mem_cons_self) h1.2.1 h2.2.1⟩,h1.2.2.two h2.2.2 (fun x hx=>hp x (List.mem_cons_of_mem _ hx)) (fun x hx=>he x (List.mem_cons_of_mem _ hx)) hk⟩
theorem jM.len {z:Ns} {A C D:Nat->Prop}:∀{ms:List TR.eZ} {o:Nat} {l:List Ar},jM F z A C D ms o l->l.length=ms.length
 | [],_,[],_=>rfl
 | [],_,_::_,h=>by rw[jM]at h;exact h.elim
 |_::_,_,[],h=>by rw[jM]at h;exact h.elim
 |.mk p e::r,_,a::l,h=>by rw[jM]at h;rw[List.length_cons,List.length_cons,h.2.2.len]
structure Jr (K:Ks) (m:Nat) (rt:Nat->Prop):Prop where
 a:∀nd j c,jn K.a nd j=some c->¬rt c
 b:∀nd l,uS K nd=some l->∀x∈l,¬rt x.body
 f:∀p name xs f,aK m K.mm.2=some p->pI K p name xs=some (some f)->¬rt f.body
theorem Jr.no (K:Ks) (m:Nat):Jr K m fun _=>False:=⟨fun _ _ _ _ h=>h,fun _ _ _ _ _ h=>h,fun _ _ _ _ _ _ h=>h⟩
theorem E3 {K1 K2:Ks} {m:Nat} {X:List (Nat×Cl)} {rt:Nat->Prop} (hr:Jr K1 m rt) {cn:Option (List ByteArray×Option Nat×Int)} {z w:Ns} (n1:K1.n=z.n) (a1:K1.a=z.a) (b1:K1.b=z.b) (n2:K2.n=w.n) (a2:K2.a=w.a) (b2:K2.b=w.b) {e:TR.Ex} {o:Nat} (he:TR.wE e<=1048576) {a b:Nat} (h1:AL F z e o a) (h2:AL F w e o b):
 ∃p q,aK a K1.n.2=some p/\aK b K2.n.2=some q/\ND K1 K2 ⟨Lf F,X,rt,cn⟩ (NS F z w) p q/\OO F p e o/\fT p.args=e.args.length:=by
 obtain⟨k0,n0,t0,ns0,ts0,as0,ms0,p0⟩:=e;have hlen:=TR.uW k0 n0 t0 ns0 ts0 as0 ms0 p0;unfold AL at h1 h2;rw[Am]at h1 h2;obtain⟨p,cs,ars,_,g1,g2,g3,g4,g5,g6⟩:=h1;obtain⟨q,cs',ars',_,j1,j2,j3,j4,j5,j6⟩:=h2;have lc:cs.length=as0.length:=g5.len;have lc':cs'.length=as0.length:=j5.len;have la:fT p.args=as0.length:=g3.len.trans lc;have la':fT q.args=as0.length:=j3.len.trans lc'
 have hfree:q.free=p.free/\q.fn=p.fn/\p.free.length<=2000000:=by
  cases hi:qj (.mk k0 n0 t0 ns0 ts0 as0 ms0 p0) with
  |false=>
   obtain⟨u1,u2⟩:=g2.nf hi;obtain⟨v1,v2⟩:=j2.nf hi;rw[u1,u2,v1,v2];simp
  |true=>
   obtain⟨u1,u2,_⟩:=g2.fn hi;obtain⟨v1,v2,_⟩:=j2.fn hi;have:=TR.Ly (.mk k0 n0 t0 ns0 ts0 as0 ms0 p0);exact⟨by rw[u1,v1],by rw[u2,v2],by rw[u1];omega⟩
 refine⟨p,q,by rw[n1];exact g1,by rw[n2];exact j1,?_,g2,la⟩;refine⟨by rw[g2.kind,j2.kind],by rw[g2.num,j2.num],by rw[g2.text,j2.text],by rw[g2.names,j2.names],hfree.1,hfree.2.1,?_,by rw[g2.needs,j2.needs],by rw[la,la'],fun j hj=>?_,?_,⟨by omega,hfree.2.2,by rw[g2.names];show ns0.length<=_;omega,by rw[g2.text];show t0.size<=_;omega⟩,fun hk hl t len ht hc=>?_⟩
 ·rw[g2.needs,g2.kind,g2.num,la];rfl
 ·rw[la]at hj
  obtain⟨x,hx⟩:∃x,as0[j]?=some x:=⟨_,List.getElem?_eq_getElem hj⟩
  obtain⟨o',ho'⟩:=jG.get (F:=F) (o:=o+(one (.mk k0 n0 t0 ns0 ts0 as0 ms0 p0)).length) hx;obtain⟨c,c1,c2⟩:=ho' g5;obtain⟨d,d1,d2⟩:=ho' j5;have:=TR.mH (k:=k0) (n:=n0) (t:=t0) (ns:=ns0) (ts:=ts0) (ms:=ms0) (p:=p0) (List.mem_of_getElem? hx);have hc:=(Ko (K:=K1) (cs:=cs) (C:=aA z) (by rw[a1];exact g3) (show j<cs.length by omega)).trans c1;exact⟨c,d,hc,by rw[Ko (K:=K2) (cs:=cs') (C:=aA w) (by rw[a2];exact j3) (by omega)];exact d1,⟨x,o',by omega,c2,d2⟩,hr.a _ _ _ hc⟩
 ·have hb:=fun(x:TR.eZ) (hx:x∈ms0)=>TR.oy (k:=k0) (n:=n0) (t:=t0) (ns:=ns0) (ts:=ts0) (xs:=as0) (p:=p0) hx
  have ha:=Iw (K:=K1) (nd:=p) (C:=aB z) (by rw[b1];exact g4) (by rw[g6.len];omega);exact⟨ars,ars',ha,Iw (K:=K2) (C:=aB w) (by rw[b2];exact j4) (by rw[j6.len];omega),((g6.two j6 (fun x hx=>by have:=hb x hx;omega) (fun x hx=>by have:=hb x hx;omega) fun e o a b he r1 r2=>⟨e,o,he,r1,r2⟩).and (hr.b _ _ ha)).mono fun _ _ h=>⟨h.1.1,h.1.2.1,h.1.2.2,h.2⟩⟩
 ·have hi:qj (.mk k0 n0 t0 ns0 ts0 as0 ms0 p0)=true:=by
   unfold qj;rw[g2.kind]at hk;rw[hk];have:Nat.beq (TR.Ex.mk k0 n0 t0 ns0 ts0 as0 ms0 p0).args.length 0=false:=rY (by show as0.length≠0;omega);rw[this];rfl
  obtain⟨u1,u2,u3⟩:=g2.fn hi;rw[u1]at ht hc;rw[u2];exact⟨_,by omega,u3,ht,hc⟩
end
mutual
theorem MA:∀(e:TR.Ex),∀x∈nH e,qj x=true/\TR.wE x<=TR.wE e
 |.mk k n t ns ts xs ms p=>by
  intro x h;rw[nH,List.mem_append,List.mem_append]at h;rcases h with h|h|h
  ·cases hq:(k==10)&&!(Nat.beq xs.length 0) with
   |false=>rw[hq]at h;cases h
   |true=>
    rw[hq]at h;rcases List.mem_cons.1 h with rfl|h
    ·exact⟨hq,Nat.le_refl _⟩
    ·cases h
  ·obtain⟨h1,y,h2,h3⟩:=P6 xs x h
   have:=TR.mH (k:=k) (n:=n) (t:=t) (ns:=ns) (ts:=ts) (ms:=ms) (p:=p) h2;exact⟨h1,by omega⟩
  ·obtain⟨h1,y,h2,h3⟩:=Qa ms x h
   have:=TR.oy (k:=k) (n:=n) (t:=t) (ns:=ns) (ts:=ts) (xs:=xs) (p:=p) h2;exact⟨h1,by omega⟩
theorem P6:∀(l:List TR.Ex),∀x∈pM l,qj x=true/\∃y∈l,TR.wE x<=TR.wE y
 | []=>by intro x h;rw[pM]at h;cases h
 |e::r=>by
  intro x h;rw[pM,List.mem_append]at h;rcases h with h|h
  ·have:=MA e x h;exact⟨this.1,e,List.mem_cons_self,this.2⟩
  ·obtain⟨h1,y,h2,h3⟩:=P6 r x h;exact⟨h1,y,List.mem_cons_of_mem _ h2,h3⟩
theorem Qa:∀(l:List TR.eZ),∀x∈pY l,qj x=true/\∃y∈l,TR.wE x<=TR.wE y.body
 | []=>by intro x h;rw[pY]at h;cases h
 |.mk p e::r=>by
  intro x h;rw[pY,List.mem_append]at h;rcases h with h|h
  ·have:=MA e x h;exact⟨this.1,_,List.mem_cons_self,this.2⟩
  ·obtain⟨h1,y,h2,h3⟩:=Qa r x h;exact⟨h1,y,List.mem_cons_of_mem _ h2,h3⟩
end
theorem Nw {p:TR.nX} (h:M6 p):∀x∈hY p,qj x=true/\TR.wE x<=1048576:=by
 have key:∀(l:List QF),(∀f∈l,TR.wE f.2.2<=1048576)->∀x∈iF l,qj x=true/\TR.wE x<=1048576:=by
  intro l hl x hx;obtain⟨f,hf,hx⟩:=List.mem_flatMap.1 hx;have:=MA f.2.2 x hx;have:=hl f hf;exact⟨(MA f.2.2 x hx).1,by omega⟩
 intro x hx;unfold hY at hx;rw[List.mem_append,List.mem_append]at hx;rcases hx with(hx|hx)|hx
 ·obtain⟨y,hy,hx⟩:=List.mem_flatMap.1 hx
  exact key _ (fun f hf=>by obtain⟨g,hg,rfl⟩:=List.mem_map.1 hf;exact(h.im y hy g hg).2) x hx
 ·exact key _ (fun f hf=>by obtain⟨g,hg,rfl⟩:=List.mem_map.1 hf;exact(h.fu g hg).2) x hx
 ·exact key _ (fun f hf=>by obtain⟨g,hg,rfl⟩:=List.mem_map.1 hf;exact(h.ac g hg).2) x hx
theorem Dp.two {F:List TR.Ex} {z w:Ns} {fs:TM PF} {es es':TM Fn} (h1:Dp F z fs es) (h2:Dp F w fs es') (hs:∀f∈fs,Fa (f.2.1,f.2.2.1)) (k:ByteArray):O2 (Qj (NS F z w)) (aV k es) (aV k es'):=by
 have a1:=h1.find k;have a2:=h2.find k
 cases e0:aV k fs with
 |none=>
  rw[e0]at a1 a2
  cases e1:aV k es<;>cases e2:aV k es'<;>rw[e1]at a1<;>rw[e2]at a2
  ·trivial
  ·cases a2
  ·cases a1
  ·cases a1
 |some p=>
  rw[e0]at a1 a2
  have hm:∃a,(a,p)∈fs:=by
   clear h1 h2 a1 a2 hs
   induction fs with
   |nil=>cases e0
   |cons x r ih=>
    obtain⟨a,v⟩:=x;rw[aV]at e0
    cases hb:k==a with
    |true=>rw[hb]at e0;cases e0;exact⟨a,List.mem_cons_self⟩
    |false=>rw[hb]at e0;obtain⟨b,hb⟩:=ih e0;exact⟨b,List.mem_cons_of_mem _ hb⟩
  obtain⟨a,hm⟩:=hm;have hs:=hs _ hm
  cases e1:aV k es<;>cases e2:aV k es'<;>rw[e1]at a1<;>rw[e2]at a2
  ·cases a1
  ·cases a1
  ·cases a2
  ·exact⟨a2.1.trans a1.1.symm,by rw[a1.1];exact hs.1,p.2.1,p.2.2,hs.2,a1.2,a2.2⟩
theorem xH:∀(l:List QF) (o:Nat) (es:TM PF),(∀f∈l,Fa f.2)->(∀f∈es,Fa (f.2.1,f.2.2.1))->∀f∈Lz l o es,Fa (f.2.1,f.2.2.1)
 | [],_,_,_,h=>h
 |x::l,o,es,hl,h=>by
  rw[Lz];refine xH l _ _ (fun f hf=>hl f (List.mem_cons_of_mem _ hf)) ?_;unfold firstT;split
  ·exact h
  ·intro f hf
   rcases List.mem_append.1 hf with hf|hf
   ·exact h f hf
   ·simp at hf;subst hf;exact hl x List.mem_cons_self
theorem Ic {K:Ks} {z:Ns} {mk:Mk} {cs:List Nat} (hf:mk.funs=z.fu) (hu:Fu z cs) (ha:K.a=z.a) {i:Nat} (hi:i<cs.length):AA K mk i=cs[i]?:=by
 unfold AA;rw[hf,ha];unfold Fu at hu
 cases hq:z.fu with
 |none=>rw[hq]at hu;cases hu;simp at hi
 |some q=>
  rw[hq]at hu;obtain⟨h1,h2,_⟩:=hu;dsimp only;rw[show Nat.blt i q.2=true from Nat.ble_eq_true_of_le (by omega)];dsimp only;rw[h1]
theorem EW {K:Ks} {mk:Mk} {ims:List Im} (h:Bk K.im.2 (fun _=>True) mk.impls ims) (hl:ims.length<=2000000):vf K mk=some ims:=by
 unfold vf
 cases hq:mk.impls with
 |none=>rw[hq]at h;cases h;rfl
 |some q=>
  rw[hq]at h;obtain⟨h1,h2,_⟩:=h;dsimp only;rw[h1];dsimp only;rw[oU (by omega) (by omega),h2,List.take_length]
section
variable {F:List TR.Ex} {z w:Ns} {K1 K2:Ks}
theorem D3 (tr ty name:ByteArray):∀{ps:List (TR.xF×Nat)} {l m:List Im},F2 (IR F z 0 K1.mf.2) ps l->F2 (IR F w 0 K2.mf.2) ps m->(∀x∈ps,∀f∈x.1.funcs,Fa (lF f).2)->∃o o',pq K1 tr ty name l=some o/\pq K2 tr ty name m=some o'/\O2 (Qj (NS F z w)) o o'
 | [],[],[],_,_,_=>⟨none,none,rfl,rfl,trivial⟩
 |p::ps,x::l,y::m,h1,h2,hs=>by
  obtain⟨⟨x1,x2,_,es,x3,x4⟩,h1⟩:=h1;obtain⟨⟨y1,y2,_,es',y3,y4⟩,h2⟩:=h2;rw[pq,pq,x1,x2,y1,y2]
  cases kB p.1.tr tr&&kB p.1.fo ty with
  |true=>
   dsimp only;rw[x3,y3];refine⟨_,_,rfl,rfl,x4.two y4 (xH _ _ _ (fun f hf=>?_) fun f hf=>by cases hf) name⟩;obtain⟨g,hg,rfl⟩:=List.mem_map.1 hf;exact hs p List.mem_cons_self g hg
  |false=>exact D3 tr ty name h1 h2 fun x hx=>hs x (List.mem_cons_of_mem _ hx)
end
theorem D1:∀{l:List TR.xF} {o:Nat} {x:TR.xF×Nat},x∈AH l o->x.1∈l
 |y::l,o,x,h=>by
  rw[AH]at h;rcases List.mem_cons.1 h with rfl|h
  ·exact List.mem_cons_self
  ·exact List.mem_cons_of_mem _ (D1 h)
theorem DI {p:TR.nX} (h:M6 p) {K1 K2:Ks} {m1 m2:Nat} (h1:FB p K1 m1) (h2:FB p K2 m2) (X:List (Nat×Cl)) {rt:Nat->Prop} (hr:Jr K1 m1 rt) (cn:Option (List ByteArray×Option Nat×Int)):∃NR,KR K1 K2 ⟨Lf (hY p),X,rt,cn⟩ NR m1 m2:=by
 obtain⟨z,mk,cs,es,ims,fs,acs,n1,a1,b1,k1,f1,u1,l1,e1,e1',t1,i1,il1,ir1,g1,g1',c1,c1'⟩:=h1.ex;obtain⟨w,mk',cs',es',ims',fs',acs',n2,a2,b2,k2,f2,u2,l2,e2,e2',t2,i2,il2,ir2,g2,g2',c2,c2'⟩:=h2.ex;subst e1';subst e2';have smf:∀f∈Lz (p.funcs.map lF) (nK p.impls).length [],Fa (f.2.1,f.2.2.1):=xH _ _ _ (fun f hf=>by obtain⟨g,hg,rfl⟩:=List.mem_map.1 hf;exact h.fu g hg) fun f hf=>by cases hf
 have sma:∀f∈Lz (p.actors.map lA) ((nK p.impls).length+(iF (p.funcs.map lF)).length) [],Fa (f.2.1,f.2.2.1):=xH _ _ _ (fun f hf=>by obtain⟨g,hg,rfl⟩:=List.mem_map.1 hf;exact h.ac g hg) fun f hf=>by cases hf
 have smi:∀x∈AH p.impls 0,∀f∈x.1.funcs,Fa (lF f).2:=fun x hx f hf=>h.im x.1 (D1 hx) f hf;have lc1:cs.length=(hY p).length:=l1.len;have lc2:cs'.length=(hY p).length:=l2.len;have lb1:fT mk.funs=(hY p).length:=by rw[f1,<-lc1];exact Bk.len u1
 have lb2:fT mk'.funs=(hY p).length:=by rw[f2,<-lc2];exact Bk.len u2
 have fns:∀(i:Nat) (e:TR.Ex),(hY p)[i]?=some e->∃c d x y,AA K1 mk i=some c/\AA K2 mk' i=some d/\aK c K1.n.2=some x/\aK d K2.n.2=some y/\ND K1 K2 ⟨Lf (hY p),X,rt,cn⟩ (NS (hY p) z w) x y/\0<fT x.args/\x.free=TR.ny e:=by
  intro i e hi;obtain⟨hfn,hw⟩:=Nw h e (List.mem_of_getElem? hi);have hlt:=(List.getElem?_eq_some_iff.1 hi).1;obtain⟨c,q1,q2⟩:=kO.get l1 hi;obtain⟨d,r1,r2⟩:=kO.get l2 hi;obtain⟨x,y,s1,s2,s3,s4,s5⟩:=E3 hr (X:=X) n1 a1 b1 n2 a2 b2 hw q2 r2;refine⟨c,d,x,y,(Ic f1 u1 a1 (by omega)).trans q1,(Ic f2 u2 a2 (by omega)).trans r1,s1,s2,s3,?_,(s4.fn hfn).1⟩;rw[s5];unfold qj at hfn;rw[Bool.and_eq_true,Bool.not_eq_true']at hfn;have:=hfn.2
  cases hl:e.args.length with
  |zero=>rw[hl]at this;cases this
  |succ k=>omega
 refine⟨NS (hY p) z w,⟨fun a b ⟨e,o,he,x,y⟩=>?_,⟨mk,mk',k1,k2,?_,?_,⟨acs,acs',c1,c2,fun name=>c1'.two c2' sma name⟩,⟨_,e1,e2⟩⟩,?_⟩⟩
 ·obtain⟨p',q',s1,s2,s3,_⟩:=E3 hr (X:=X) n1 a1 b1 n2 a2 b2 he x y
  exact⟨p',q',s1,s2,s3⟩
 ·rintro n t len ⟨e,p0,p1,p2,p3⟩
  obtain⟨c,d,x,y,s1,s2,s3,s4,s5,s6,s7⟩:=fns n.toNat e p1;exact⟨p0,c,d,x,y,s1,s2,s3,s4,s5,s6,by rw[s7];exact p3⟩
 ·intro ρ name xs ys hx
  suffices hs:∃o o',pI K1 mk name xs=some o/\pI K2 mk' name ys=some o'/\O2 (Qj (NS (hY p) z w)) o o' by
   obtain⟨o,o',q1,q2,q3⟩:=hs;refine⟨o,o',q1,q2,?_⟩
   cases o<;>cases o'
   ·trivial
   ·cases q3
   ·cases q3
   ·exact⟨q3,hr.f _ _ _ _ k1 q1⟩
  have hfind:=g1'.two g2' smf name;unfold pI;rw[g1,g2];dsimp only
  cases q1:aV name fs<;>cases q2:aV name fs'<;>rw[q1,q2]at hfind
  ·dsimp only
   rw[t1,t2];dsimp only
   cases aV name (jT p.traits []) with
   |none=>exact⟨none,none,rfl,rfl,trivial⟩
   |some tr=>
    dsimp only;rcases xs with _|⟨v,xs⟩<;>rcases ys with _|⟨u,ys⟩
    all_goals first|(cases hx;done)|skip
    ·exact⟨none,none,rfl,rfl,trivial⟩
    ·dsimp only
     have ht:Ey K1 mk v=Ey K2 mk' u/\Ey K1 mk v≠none:=by
      obtain⟨o1,_,o3,_⟩:=hx.1.o;unfold Ey;rw[e1,e2,<-o1,<-o3];refine⟨rfl,?_⟩
      cases v.kind==5 with
      |true=>dsimp only;cases aV v.text (mZ p.datas [])<;>simp
      |false=>dsimp only;cases kB (qB v.kind) ⟨#[]⟩<;>simp
     rw[<-ht.1]
     cases hty:Ey K1 mk v with
     |none=>exact absurd hty ht.2
     |some o=>
      cases o with
      |none=>exact⟨none,none,rfl,rfl,trivial⟩
      |some t=>
       dsimp only;rw[EW i1 il1,EW i2 il2];exact D3 tr t name ir1 ir2 smi
  ·cases hfind
  ·cases hfind
  ·exact⟨_,_,rfl,rfl,hfind⟩
 ·rintro⟨k,num,t,l⟩
  unfold tu;dsimp only;rw[k1,k2];dsimp only;rw[lb1,lb2]
  cases hn:decide (num<0)||decide (num>=((hY p).length:Int)) with
  |true=>exact⟨_,rfl,rfl,fun e=>by cases e⟩
  |false=>
   simp only[Bool.or_eq_false_iff,decide_eq_false_iff_not]at hn;obtain⟨e,he⟩:∃e,(hY p)[num.toNat]?=some e:=⟨_,List.getElem?_eq_getElem (by omega)⟩
   obtain⟨c,d,x,y,s1,s2,s3,s4,s5,s6,s7⟩:=fns _ e he;dsimp only;rw[s1,s2];dsimp only;rw[s3,s4];dsimp only;rw[s5.free]
   cases hs:(t.size:Int)==(x.free.length:Int) with
   |false=>exact⟨_,rfl,rfl,fun e=>by cases e⟩
   |true=>
    refine⟨_,rfl,rfl,fun hb k' n' t' l' hv=>?_⟩;cases hv;have hs:=eq_of_beq hs;have hb:=(Bool.and_eq_true .. |>.mp hb).2;have hb:=eq_of_beq hb;unfold cntF Lib.countByte at hb;have:=s5.bnd.2.1;dsimp only;rw[s7]at hs this;exact⟨⟨e,by omega,he,by omega,uL t l.length (TR.ny e) 0 0 (by rw[<-w7];omega) (by rw[List.drop_zero];omega)⟩,by omega⟩
structure EU (S:Ss):Prop where
 s:gp S.s
 v:gp S.v
 f:gp S.f
 c:gp S.c
 n:gG S.c.2=true
theorem EU.sb {S T:Ss} (h:EU S) (q:EU T) (fo:FO) (hX:∀p∈fo.X,aK p.1 S.c.2=some p.2):SB fo (fun _ _=>False) S T:=
 ⟨⟨fun _ _ x=>x.elim,fun _ _ _ _ x=>x.elim,h.c,q.c,h.n,q.n,fun p hp=>⟨hX p hp,fun _ x=>x⟩⟩,h.s,q.s,h.v,q.v,h.f,q.f⟩
theorem SB.ok {fo:FO} {ρ:Nat->Nat->Prop} {S T:Ss} (h:SB fo ρ S T):EU S/\EU T:=
 ⟨⟨h.s1,h.v1,h.f1,h.cr.b1,h.cr.n1⟩,⟨h.s2,h.v2,h.f2,h.cr.b2,h.cr.n2⟩⟩
structure JO (st:List Ov) (l:List gV):Prop where
 sv:∀v∈st,xK v
 sl:st.length<=2000000
 ls:∀s∈l,xK s.val
theorem Ds {p:TR.nX} (h:M6 p) {K:Ks} {m:Nat} (h1:FB p K m) {S:Ss} (s1:EU S) (name:ByteArray) {st:List Ov} (fuels:List Int) {l:List gV} (hi:JO st l) {x:List Ou} {S':Ss} {r':Option Rn} (hx:ir K S m name st fuels l=some (some x,S',r')):
 ∃S1 r n,fY K S m name st 7=some (S1,.ok r)/\n<=60400/\cc K n S1 r 1000 l []=some x:=by
 obtain⟨NR,kr⟩:=DI h h1 h1 [] (.no _ _) none;obtain⟨S1,T1,ρ,_,⟨e,e1,e2,e3⟩|⟨r,q,e1,e2,e3,e4,e5,e6⟩⟩:=uP kr (s1.sb s1 _ fun _ x=>(by cases x)) name st 7 hi.sv hi.sl (fun _ _ _ _ _ _ _ x=>(by cases x))
 ·unfold ir at hx
  rw[e1]at hx;cases hx
 ·unfold ir at hx
  rw[e1]at hx;dsimp only at hx
  cases hp:gP K fuels 60001 0 S1 r 1000 0 l [] with
  |none=>rw[hp]at hx;cases hx
  |some P=>
   obtain⟨R,S2,r2⟩:=P;rw[hp]at hx;cases hx;obtain⟨n,n1,n2⟩:=Hy kr fuels 60001 0 1000 0 l [] e3 e4 e5 e6 (by omega) (by omega) (by omega) hi.ls x _ _ hp;exact⟨S1,r,n,e1,by omega,n2⟩
end MN
end
section
open Go Go.AM Go.Proofs
namespace TR
def iU (p:Pt):Nat->List Pt
 |0=>[p]
 |k+1=>match (iU p k)[k]? with|some x=>iU p k++x.args|none=>iU p k
theorem kH:∀(l:List Pt),l.length<=bU l
 | []=>by simp
 |e::r=>by have:=kH r;have:=FZ e;rw[bU];simp;omega
theorem I9 (p:Pt) (hp:wP p<=1048640):aU Tryz.prog 50 [.p (eP p)] (.p (.sl 4 (pF (iU p (fm p))))):=by
 have hle:=zC p;generalize hn:fm p=N at hle;generalize hP:iU p=S;have hS0:S 0=[p]:=by rw[<-hP];rfl
 have hS1:∀k x,(S k)[k]?=some x->S (k+1)=S k++x.args:=fun k x h=>by rw[<-hP]at h ⊢;rw[iU];simp only[h]
 have h0:0+bU ([p].drop 0)=N:=by simp[bU,hn]
 clear hP hn;obtain⟨k0,n0,t0,as0⟩:=p;refine aU.iN av Tryz.func50 rfl (by rfl) (by kernel_rfl) rfl rfl ?_;(conv=>whnf);refine bK (aG _) av (by kernel_rfl) N [3,4] [] (fun k (s:List Pt)=>[.so 4 (pF s),.p (.i .i64 (ix k))]) (fun _ _=>[]) (fun k s=>s=S k/\k<=s.length/\k+bU (s.drop k)=N) [.mk k0 n0 t0 as0] ⟨rfl,rfl,rfl,rfl⟩ ⟨hS0.symm,by simp,h0⟩ ?_;rintro k s hk ⟨hs,hkl,hN⟩;have hlen:=kH (s.drop k);simp only[List.length_drop]at hlen;(conv=>whnf);refine ai ?_ ?_<;>intro h1<;>conv=>whnf
 ·have hk1:=cu h1 (by rw[iq]) hkl (by omega)
  obtain⟨b,hb1⟩:∃b,s[k]?=some b:=⟨s[k],by simp[hk1]⟩
  refine bM (tJ hb1) (by omega) ?_;rw[drop_cons hb1,bU]at hN;have hS2:=hS1 k b (by rw[<-hs];exact hb1);obtain⟨bk,bn,bt,ba⟩:=b;rw[fm]at hN;have hal:=kH ba;have hdl:=kH (s.drop (k+1));simp only[List.length_drop]at hdl;(conv=>whnf);refine ag (show((pF s).length+(pF ba).length)*56<=140737488355328 by rw[iq,iq];omega) ?_;(conv=>whnf);refine⟨by omega,s++ba,⟨rfl,?_,rfl,rfl⟩,by rw[hS2,hs];rfl,by simp;omega,?_⟩
  ·rw[He];rfl
  ·rw[List.drop_append_of_le_length (by omega),mR];omega
 ·have hk1:=cv h1 (by rw[iq]) hkl (by omega)
  have:k=N:=by rw[hk1,List.drop_length,bU]at hN;omega
  subst this;subst hs;exact .inr (.inl rfl)
theorem A7 (p:Pt):∀k,k<=fm p->k<=(iU p k).length/\k+bU ((iU p k).drop k)=fm p
 |0,_=>by simp[iU,bU]
 |k+1,h=>by
  obtain⟨h1,h2⟩:=A7 p k (by omega);rcases Nat.lt_or_ge k (iU p k).length with q|q
  ·have hb:(iU p k)[k]?=some (iU p k)[k]:=List.getElem?_eq_getElem q
   have e:iU p (k+1)=iU p k++(iU p k)[k].args:=by rw[iU];simp only[hb]
   rw[drop_cons hb,bU]at h2;rw[e,List.drop_append_of_le_length (by omega),mR];generalize (iU p k)[k]=b at h2;obtain⟨bk,bn,bt,ba⟩:=b;rw[fm]at h2;simp only[Pt.args,List.length_append];omega
  ·rw[List.drop_eq_nil_of_le q,bU]at h2;omega
theorem IY (p:Pt):(iU p (fm p)).length=fm p:=by
 obtain⟨h1,h2⟩:=A7 p (fm p) (Nat.le_refl _);have:=kH ((iU p (fm p)).drop (fm p));simp only[List.length_drop]at this;omega
def Nr (e:Ex):Nat:=1+bU (e.dZ.map eZ.pat)
def qc:List Ex->Nat
 | []=>0
 |e::r=>Nr e+qc r
theorem pT (l r:List Ex):qc (l++r)=qc l+qc r:=by
 induction l with
 |nil=>simp[qc]
 |cons a l ih=>simp[qc,ih];omega
mutual
theorem zj:∀(e:Ex),qc (gq e)=qu e
 |.mk k n t ns ts xs ms p=>by
  rw[gq,qc,pT,Bc xs,qu,Nr];have:=Bv ms;simp only[Ex.dZ];omega
theorem Bc:∀(l:List Ex),qc (di l)=oN l
 | []=>rfl
 |e::r=>by rw[di,pT,zj e,Bc r,oN]
theorem Bv:∀(l:List eZ),bU (l.map eZ.pat)+qc (jE l)=oJ l
 | []=>rfl
 |.mk p e::r=>by
  have:=Bv r;rw[jE,pT,zj e,oJ,List.map_cons,bU];simp only[eZ.pat];omega
end
theorem Mr:∀(l:List Ex) (k:Nat),qc (l.take k)<=qc l:=fun l k=>by
 have:=pT (l.take k) (l.drop k);rw[List.take_append_drop]at this;omega
end TR
end
