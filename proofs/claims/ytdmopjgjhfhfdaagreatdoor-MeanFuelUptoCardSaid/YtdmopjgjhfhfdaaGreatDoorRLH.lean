/- Contracts, and the law, for every input. No conditions. -/
import Derived.Test.YtdmopjgjhfhfdaaGreatDoorRLD
set_option linter.all false
section
open Go Go.AM Go.Proofs TK
set_option maxRecDepth 100000
namespace MN
def own (q:Option (Nat×Nat)) (j:Nat):Prop:=∃p,q=some p∧p.1=j
def sN (z z':Ns) (j:Nat):Prop:=z.n.1≤j∧j<z'.n.1
def sA (z z':Ns) (j:Nat):Prop:=z.a.1≤j∧j<z'.a.1∧nf z' j
def sB (z z':Ns) (j:Nat):Prop:=z.b.1≤j∧j<z'.b.1
def OI (q:Option (Nat×Nat)) (z z':Ns) (j:Nat):Prop:=sA z z' j∧¬own q j
def NZ (q:Option (Nat×Nat)) (z z':Ns) (j:Nat):Prop:=sB z z' j∧¬own q j
def Fu (z:Ns) (cs:List Nat):Prop:=Bk z.a.2 (fun j=>j<z.a.1) z.fu cs
theorem Bk.len {α:Type} {M:List (Nat×List α)} {C:Nat→Prop} {q:Option (Nat×Nat)} {cs:List α} (h:Bk M C q cs):gA q=cs.length:=by
 cases q with
 |none=>cases h;rfl
 |some q=>exact h.2.1
theorem Bk.c {α:Type} {M:List (Nat×List α)} {C:Nat→Prop} {q:Option (Nat×Nat)} {cs:List α} (h:Bk M C q cs):∀j,own q j→C j:=by
 rintro j ⟨p,rfl,rfl⟩;exact h.2.2
def Pp (F:List TR.Ex) (g:TR.Ex→Ns→Option (Ns×Nat)) (e:TR.Ex):Prop:=∀(z:Ns) (L M:List TR.Ex) (cs:List Nat),Ei z→Fu z cs→F=L++nc e++M→cs.length=L.length→
 ∃z' ds,g e z=some (z',z.n.1)∧z.n.1<z'.n.1∧Ei z'∧W no no no z z'∧An F z' (sN z z') (sA z z') (sB z z') e L.length z.n.1∧Fu z' (cs++ds)∧kf F z' (sN z z') (sA z z') (sB z z') (nc e) L.length ds
section
variable {F:List TR.Ex} {g:TR.Ex→Ns→Option (Ns×Nat)}
theorem D9 (k:Nat):∀(es:List TR.Ex) (z:Ns) (nd:Nd) (cs0:List Nat) (L M:List TR.Ex) (cs:List Nat),(∀e∈es,Pp F g e)→k<z.n.1→Ei z→aK k z.n.2=some nd→Bk z.a.2 (fun j=>j<z.a.1∧nf z j) nd.args cs0→cs0.length+es.length≤2000000→
 Fu z cs→F=L++oF es++M→cs.length=L.length→
 ∃z' qa cs1 ds,rz g k es z=some z'∧Ei z'∧W (·=k) (own nd.args) no z z'∧aK k z'.n.2=some { nd with args:=qa }∧Bk z'.a.2 (fun j=>j<z'.a.1∧nf z' j) qa (cs0++cs1)∧(∀j,own qa j→own nd.args j∨z.a.1≤j)∧
  jd F z' (sN z z') (OI qa z z') (sB z z') es L.length cs1∧Fu z' (cs++ds)∧kf F z' (sN z z') (OI qa z z') (sB z z') (oF es) L.length ds
 | [],z,nd,cs0,L,M,cs,_,hk,ok,hn,hb,_,hf,_,_=>⟨z,nd.args,[],[],rfl,ok,W.refl,hn,by rw[List.append_nil];exact hb,fun j h=>.inl h,by rw[jd];trivial,by rw[List.append_nil];exact hf,by rw[oF];trivial⟩
 |e::es,z,nd,cs0,L,M,cs,hg,hk,ok,hn,hb,hl,hf,hF,hc=>by
  obtain⟨z2,d1,e1,e2,e3,e4,e5,e6,e7⟩:=hg e List.mem_cons_self z L (oF es++M) cs ok hf (by rw[hF,oF];simp) hc;have hn2:aK k z2.n.2=some nd:=(e4.tn k hk fun h=>h).trans hn;have hb2:Bk z2.a.2 (fun j=>j<z.a.1∧nf z2 j) nd.args cs0:=hb.mono (fun j h=>(e4.ta j h.1 (fun x=>x) h.2).1) fun j h=>⟨h.1,(e4.ta j h.1 (fun x=>x) h.2).2⟩
  have hl:cs0.length+es.length+1≤2000000:=hl;obtain⟨a3,q,p1,p2,p3,p4,p5,p6⟩:=tT z.n.1 e3.a hb2 (by omega)
  have hz3:rz g k (e::es) z=rz g k es ⟨(z2.n.1,aW k { nd with args:=some q } z2.n.2),a3,z2.b,z2.fu⟩:=by
   rw[rz,hn];dsimp only;rw[e1];dsimp only;rw[hn2];dsimp only;rw[vG];dsimp only;rw[p1]
  generalize hzz:(⟨(z2.n.1,aW k { nd with args:=some q } z2.n.2),a3,z2.b,z2.fu⟩:Ns)=z3 at hz3;have q1:z3.n=(z2.n.1,aW k { nd with args:=some q } z2.n.2):=by rw[←hzz]
  have q2:z3.a=a3:=by rw[←hzz]
  have q3:z3.b=z2.b:=by rw[←hzz]
  have q4:z3.fu=z2.fu:=by rw[←hzz]
  have hnf:∀j,nf z2 j→nf z3 j:=fun j h q hq=>h q (q4 ▸ hq)
  have w3:W (·=k) (own nd.args) no z2 z3:=by
   refine⟨by rw[q1];exact Nat.le_refl _,by rw[q2,p3];omega,by rw[q3];exact Nat.le_refl _,fun j _ h=>?_,fun j hj h hn=>⟨?_,hnf j hn⟩,fun j _ _=>by rw[q3]⟩
   ·rw[q1];exact eZ fun e=>h e.symm
   ·rw[q2];exact p6 j hj fun p hp x=>h ⟨p,hp,x⟩
  have hfu:∀p,z2.fu=some p→p.1<z2.a.1:=fun p hp=>e6.c p.1 ⟨p,hp,rfl⟩;have ok3:Ei z3:=⟨by rw[q1];exact jH e3.n gy,by rw[q2];exact p2,by rw[q3];exact e3.b⟩
  have f3:Fu z3 (cs++d1):=by
   have h:=e6;unfold Fu at h ⊢;rw[q4]
   cases hq:z2.fu with
   |none=>rw[hq]at h;exact h
   |some p=>
    rw[hq]at h;obtain⟨h1,h2,h3⟩:=h;refine⟨?_,h2,by rw[q2,p3];omega⟩;rw[q2,p6 p.1 h3 fun x hx y=>(hb2.c x.1 ⟨x,hx,rfl⟩).2 p hq y.symm];exact h1
  have hn3:aK k z3.n.2=some { nd with args:=some q }:=by rw[q1];exact cx hn2
  have hb3:Bk z3.a.2 (fun j=>j<z3.a.1∧nf z3 j) ({ nd with args:=some q }:Nd).args (cs0++[z.n.1]):=by
   refine⟨by rw[q2,p4];exact p5,by rw[p4];simp,by rw[q2,p3,p4];dsimp only;omega,fun p hp x=>?_⟩;rw[q4]at hp;have:=hfu p hp;rw[p4]at x;dsimp only at x;omega
  obtain⟨z',qa,cs1,d2,g1,g2,g3,g4,g5,g6,g7,g8,g9⟩:=D9 k es z3 { nd with args:=some q } (cs0++[z.n.1]) (L++nc e) M (cs++d1) (fun x hx=>hg x (List.mem_cons_of_mem _ hx)) (by rw[q1];dsimp only;omega) ok3 hn3 hb3 (by simp;omega) f3 (by rw[hF,oF];simp) (by
   have:=e7.len;rw[List.length_append,List.length_append,this,hc])
  rw[List.length_append]at g7 g9
  have w23:W (·=k) (own nd.args) no z z3:=⟨Nat.le_trans e4.n w3.n,Nat.le_trans e4.a w3.a,Nat.le_trans e4.b w3.b,fun j hj h=>(w3.tn j (Nat.lt_trans hj e2) h).trans (e4.tn j hj fun x=>x),fun j hj h hn=>by
   have u:=e4.ta j hj (fun x=>x) hn;have v:=w3.ta j (Nat.lt_of_lt_of_le hj e4.a) h u.2;exact⟨v.1.trans u.1,v.2⟩,fun j hj _=>(w3.tb j (Nat.lt_of_lt_of_le hj e4.b) fun x=>x).trans (e4.tb j hj fun x=>x)⟩
  have ne:∀j,j<z2.a.1→¬own (some q) j:=by
   rintro j hj ⟨p,hp,x⟩;cases hp;rw[p4]at x;dsimp only at x;omega
  have a23:z3.a.1=z2.a.1+1:=by rw[q2,p3]
  have n23:z3.n.1=z2.n.1:=by rw[q1]
  have b23:z3.b.1=z2.b.1:=by rw[q3]
  have mv:∀{j:Nat},sA z z2 j→aK j z'.a.2=aK j z2.a.2∧OI qa z z' j:=by
   rintro j ⟨h1,h2,h3⟩;have hno:¬own nd.args j:=fun x=>by have:=(hb.c j x).1;omega
   have u:=w3.ta j h2 hno h3;have v:=g3.ta j (by omega) (ne j h2) u.2;refine⟨v.1.trans u.1,⟨h1,by have:=g3.a;omega,v.2⟩,fun x=>?_⟩;rcases g6 j x with x|x
   ·exact ne j h2 x
   ·omega
  have mn:∀{j:Nat},sN z z2 j→aK j z'.n.2=aK j z2.n.2∧sN z z' j:=by
   rintro j ⟨h1,h2⟩;have hne:¬j=k:=by omega
   exact⟨(g3.tn j (by omega) hne).trans (w3.tn j h2 hne),h1,by have:=g3.n;omega⟩
  have mb:∀{j:Nat},sB z z2 j→aK j z'.b.2=aK j z2.b.2∧sB z z' j:=by
   rintro j ⟨h1,h2⟩;exact⟨(g3.tb j (by omega) fun x=>x).trans (w3.tb j h2 fun x=>x),h1,by have:=g3.b;omega⟩
  have lift:∀j,sN z3 z' j→sN z z' j:=fun j h=>⟨by have:=h.1;omega,h.2⟩
  have lifA:∀j,OI qa z3 z' j→OI qa z z' j:=fun j h=>⟨⟨by have:=h.1.1;have:=e4.a;omega,h.1.2⟩,h.2⟩
  have lifB:∀j,sB z3 z' j→sB z z' j:=fun j h=>⟨by have:=h.1;have:=e4.b;omega,h.2⟩
  have id3:∀{α:Type} {M:List (Nat×α)} (C:Nat→Prop) (j:Nat),C j→aK j M=aK j M:=fun _ _ _=>rfl;refine⟨z',qa,z.n.1::cs1,d1++d2,hz3.trans g1,g2,w23.trans g3 (fun _ _ x=>x) (fun j hj x=>(ne j (Nat.lt_of_lt_of_le hj e4.a) x).elim) (fun _ _ x=>x),g4,by rw[List.append_cons];exact g5,fun j x=>?_,?_,by rw[←List.append_assoc];exact g8,?_⟩
  ·rcases g6 j x with⟨p,hp,y⟩|x
   ·cases hp;rw[p4]at y;dsimp only at y;have:=e4.a;exact .inr (by omega)
   ·have:=e4.a;exact .inr (by omega)
  ·rw[jd]
   exact⟨e5.mono (fun j h=>(mn h).1) (fun j h=>(mv h).1) (fun j h=>(mb h).1) (fun j h=>(mn h).2) (fun j h=>(mv h).2) fun j h=>(mb h).2,g7.mono (id3 _) (id3 _) (id3 _) lift lifA lifB⟩
  ·rw[oF]
   exact(e7.mono (fun j h=>(mn h).1) (fun j h=>(mv h).1) (fun j h=>(mb h).1) (fun j h=>(mn h).2) (fun j h=>(mv h).2) fun j h=>(mb h).2).app (g9.mono (id3 _) (id3 _) (id3 _) lift lifA lifB)
end
end MN
end
section
open Go Go.AM Go.Proofs TK
set_option maxRecDepth 100000
namespace MN
section
variable {F:List TR.Ex} {g:TR.Ex→Ns→Option (Ns×Nat)}
theorem DQ (k:Nat):∀(es:List TR.eU) (z:Ns) (nd:Nd) (as0:List Ar) (L M:List TR.Ex) (cs:List Nat),(∀x∈es,Pp F g x.body∧TR.wP x.pat≤1048576)→k<z.n.1→Ei z→aK k z.n.2=some nd→Bk z.b.2 (fun j=>j<z.b.1) nd.dU as0→as0.length+es.length≤2000000→
 Fu z cs→F=L++pK es++M→cs.length=L.length→
 ∃z' qa as1 ds,qS g k es z=some z'∧Ei z'∧W (·=k) no (own nd.dU) z z'∧aK k z'.n.2=some { nd with dU:=qa }∧Bk z'.b.2 (fun j=>j<z'.b.1) qa (as0++as1)∧(∀j,own qa j→own nd.dU j∨z.b.1≤j)∧
  jy F z' (sN z z') (sA z z') (NZ qa z z') es L.length as1∧Fu z' (cs++ds)∧kf F z' (sN z z') (sA z z') (NZ qa z z') (pK es) L.length ds
 | [],z,nd,as0,L,M,cs,_,hk,ok,hn,hb,_,hf,_,_=>⟨z,nd.dU,[],[],rfl,ok,W.refl,hn,by rw[List.append_nil];exact hb,fun j h=>.inl h,by rw[jy];trivial,by rw[List.append_nil];exact hf,by rw[pK];trivial⟩
 |.mk pt e::es,z,nd,as0,L,M,cs,hg,hk,ok,hn,hb,hl,hf,hF,hc=>by
  obtain⟨hge,hwp⟩:=hg _ List.mem_cons_self;obtain⟨z2,d1,e1,e2,e3,e4,e5,e6,e7⟩:=hge z L (pK es++M) cs ok hf (by rw[hF,pK];simp[TR.eU.body]) hc;have hn2:aK k z2.n.2=some nd:=(e4.tn k hk fun h=>h).trans hn;have hb2:Bk z2.b.2 (fun j=>j<z.b.1) nd.dU as0:=hb.mono (fun j h=>e4.tb j h fun x=>x) fun j h=>h;have hl:as0.length+es.length+1≤2000000:=hl;obtain⟨b3,q,p1,p2,p3,p4,p5,p6⟩:=tT (⟨pt,z.n.1⟩:Ar) e3.b hb2 (by omega)
  have hz3:qS g k (.mk pt e::es) z=qS g k es ⟨(z2.n.1,aW k { nd with dU:=some q } z2.n.2),z2.a,b3,z2.fu⟩:=by
   rw[qS,hn];dsimp only[TR.eU.body,TR.eU.pat]at e1 hwp ⊢;rw[e1];dsimp only;rw[hn2];dsimp only;rw[vG,Nat.ble_eq_true_of_le hwp];rw[Bool.and_self];dsimp only;rw[p1]
  generalize hzz:(⟨(z2.n.1,aW k { nd with dU:=some q } z2.n.2),z2.a,b3,z2.fu⟩:Ns)=z3 at hz3;have q1:z3.n=(z2.n.1,aW k { nd with dU:=some q } z2.n.2):=by rw[←hzz]
  have q2:z3.b=b3:=by rw[←hzz]
  have q3:z3.a=z2.a:=by rw[←hzz]
  have q4:z3.fu=z2.fu:=by rw[←hzz]
  have hnf:∀j,nf z2 j→nf z3 j:=fun j h q hq=>h q (q4 ▸ hq)
  have w3:W (·=k) no (own nd.dU) z2 z3:=by
   refine⟨by rw[q1];exact Nat.le_refl _,by rw[q3];exact Nat.le_refl _,by rw[q2,p3];omega,fun j _ h=>?_,fun j hj h hn=>⟨by rw[q3],hnf j hn⟩,fun j hj h=>?_⟩
   ·rw[q1];exact eZ fun e=>h e.symm
   ·rw[q2];exact p6 j hj fun p hp x=>h ⟨p,hp,x⟩
  have ok3:Ei z3:=⟨by rw[q1];exact jH e3.n gy,by rw[q3];exact e3.a,by rw[q2];exact p2⟩
  have f3:Fu z3 (cs++d1):=by
   unfold Fu at e6 ⊢;rw[q4,q3];exact e6
  have hn3:aK k z3.n.2=some { nd with dU:=some q }:=by rw[q1];exact cx hn2
  have hb3:Bk z3.b.2 (fun j=>j<z3.b.1) ({ nd with dU:=some q }:Nd).dU (as0++[⟨pt,z.n.1⟩]):=⟨by rw[q2,p4];exact p5,by rw[p4];simp,by rw[q2,p3,p4];dsimp only;omega⟩
  obtain⟨z',qa,as1,d2,g1,g2,g3,g4,g5,g6,g7,g8,g9⟩:=DQ k es z3 { nd with dU:=some q } (as0++[⟨pt,z.n.1⟩]) (L++nc e) M (cs++d1) (fun x hx=>hg x (List.mem_cons_of_mem _ hx)) (by rw[q1];dsimp only;omega) ok3 hn3 hb3 (by simp;omega) f3 (by rw[hF,pK];simp) (by
   have:=e7.len;rw[List.length_append,List.length_append,this,hc];rfl)
  rw[List.length_append]at g7 g9
  have w23:W (·=k) no (own nd.dU) z z3:=⟨Nat.le_trans e4.n w3.n,Nat.le_trans e4.a w3.a,Nat.le_trans e4.b w3.b,fun j hj h=>(w3.tn j (Nat.lt_trans hj e2) h).trans (e4.tn j hj fun x=>x),fun j hj h hn=>by
   have u:=e4.ta j hj (fun x=>x) hn;have v:=w3.ta j (Nat.lt_of_lt_of_le hj e4.a) (fun x=>x) u.2;exact⟨v.1.trans u.1,v.2⟩,fun j hj h=>(w3.tb j (Nat.lt_of_lt_of_le hj e4.b) h).trans (e4.tb j hj fun x=>x)⟩
  have ne:∀j,j<z2.b.1→¬own (some q) j:=by
   rintro j hj ⟨p,hp,x⟩;cases hp;rw[p4]at x;dsimp only at x;omega
  have b23:z3.b.1=z2.b.1+1:=by rw[q2,p3]
  have n23:z3.n.1=z2.n.1:=by rw[q1]
  have a23:z3.a.1=z2.a.1:=by rw[q3]
  have mv:∀{j:Nat},sA z z2 j→aK j z'.a.2=aK j z2.a.2∧sA z z' j:=by
   rintro j ⟨h1,h2,h3⟩;have u:=w3.ta j h2 (fun x=>x) h3;have v:=g3.ta j (by omega) (fun x=>x) u.2;exact⟨v.1.trans u.1,h1,by have:=g3.a;omega,v.2⟩
  have mn:∀{j:Nat},sN z z2 j→aK j z'.n.2=aK j z2.n.2∧sN z z' j:=by
   rintro j ⟨h1,h2⟩;have hne:¬j=k:=by omega
   exact⟨(g3.tn j (by omega) hne).trans (w3.tn j h2 hne),h1,by have:=g3.n;omega⟩
  have mb:∀{j:Nat},sB z z2 j→aK j z'.b.2=aK j z2.b.2∧NZ qa z z' j:=by
   rintro j ⟨h1,h2⟩;have hno:¬own nd.dU j:=fun x=>by have:=hb.c j x;omega
   refine⟨(g3.tb j (by omega) (ne j h2)).trans (w3.tb j h2 hno),⟨h1,by have:=g3.b;omega⟩,fun x=>?_⟩;rcases g6 j x with x|x
   ·exact ne j h2 x
   ·omega
  have lift:∀j,sN z3 z' j→sN z z' j:=fun j h=>⟨by have:=h.1;omega,h.2⟩
  have lifA:∀j,sA z3 z' j→sA z z' j:=fun j h=>⟨by have:=h.1;have:=e4.a;omega,h.2⟩
  have lifB:∀j,NZ qa z3 z' j→NZ qa z z' j:=fun j h=>⟨⟨by have:=h.1.1;have:=e4.b;omega,h.1.2⟩,h.2⟩
  have id3:∀{α:Type} {M:List (Nat×α)} (C:Nat→Prop) (j:Nat),C j→aK j M=aK j M:=fun _ _ _=>rfl;refine⟨z',qa,⟨pt,z.n.1⟩::as1,d1++d2,hz3.trans g1,g2,w23.trans g3 (fun _ _ x=>x) (fun _ _ x=>x) (fun j hj x=>(ne j (Nat.lt_of_lt_of_le hj e4.b) x).elim),g4,by rw[List.append_cons];exact g5,fun j x=>?_,?_,by rw[←List.append_assoc];exact g8,?_⟩
  ·rcases g6 j x with⟨p,hp,y⟩|x
   ·cases hp;rw[p4]at y;dsimp only at y;have:=e4.b;exact .inr (by omega)
   ·have:=e4.b;exact .inr (by omega)
  ·rw[jy]
   exact⟨rfl,e5.mono (fun j h=>(mn h).1) (fun j h=>(mv h).1) (fun j h=>(mb h).1) (fun j h=>(mn h).2) (fun j h=>(mv h).2) fun j h=>(mb h).2,g7.mono (id3 _) (id3 _) (id3 _) lift lifA lifB⟩
  ·rw[pK]
   exact(e7.mono (fun j h=>(mn h).1) (fun j h=>(mv h).1) (fun j h=>(mb h).1) (fun j h=>(mn h).2) (fun j h=>(mv h).2) fun j h=>(mb h).2).app (g9.mono (id3 _) (id3 _) (id3 _) lift lifA lifB)
end
theorem xE (F:List TR.Ex) (hFl:F.length≤2000000):∀(n:Nat) (e:TR.Ex),TR.wE e≤n→TR.wE e≤1048576→Pp F (iR n) e
 |0,e,h,_=>by have:=TR.Fq e;omega
 |n+1,.mk k0 n0 t0 ns0 ts0 as0 ms0 p0,h,hw=>by
  intro z L M cs ok hf hF hc;have hlen:=TR.ue k0 n0 t0 ns0 ts0 as0 ms0 p0;generalize hE:(TR.Ex.mk k0 n0 t0 ns0 ts0 as0 ms0 p0)=E at *;have ea:E.args=as0:=by rw[←hE];rfl
  have em:E.dU=ms0:=by rw[←hE];rfl
  have en:E.names=ns0:=by rw[←hE];rfl
  have hfE:nc E=one E++(oF as0++pK ms0):=by rw[←hE];rfl
  rw[iR,ea,em,en,Nat.ble_eq_true_of_le (show as0.length≤2000000 by omega),Nat.ble_eq_true_of_le (show ms0.length≤2000000 by omega),Nat.ble_eq_true_of_le (show ns0.length≤2000000 by omega),Bool.and_self,Bool.and_self];dsimp only
  -- the node itself
  obtain⟨z1,nd1,d0,f1,f2,f3,f4,f5,f6,f7,f8,f9⟩:∃z1 nd1 d0,KU E z.n.1 ⟨(z.n.1+1,(z.n.1,tq E)::z.n.2),z.a,z.b,z.fu⟩=some z1∧Ei z1∧z1.n.1=z.n.1+1∧W no no no z z1∧aK z.n.1 z1.n.2=some nd1∧NK F nd1 E L.length∧(nd1.args=none∧nd1.dU=none)∧Fu z1 (cs++d0)∧d0=(match oP E with|true=>[z.n.1]|false=>[]):=by
   have okz:Ei ⟨(z.n.1+1,(z.n.1,tq E)::z.n.2),z.a,z.b,z.fu⟩:=⟨ok.n.push _,ok.a,ok.b⟩
   unfold KU;rw[show((E.kind==10)&&!(Nat.beq E.args.length 0))=oP E from rfl]
   cases hi:oP E with
   |false=>exact⟨_,tq E,[],rfl,okz,rfl,⟨Nat.le_succ _,Nat.le_refl _,Nat.le_refl _,fun j hj _=>jN (Nat.ne_of_gt hj),fun j _ _ h=>⟨rfl,h⟩,fun _ _ _=>rfl⟩,aQ ..,⟨rfl,rfl,rfl,rfl,rfl,fun e=>(by rw[hi]at e;cases e),fun _=>⟨rfl,rfl⟩⟩,⟨rfl,rfl⟩,by rw[List.append_nil];exact hf,rfl⟩
   |true=>
    have hcl:cs.length≤2000000:=by
     have:=congrArg List.length hF;rw[List.length_append,List.length_append]at this;omega
    obtain⟨a2,q,p1,p2,p3,p4,p5,p6⟩:=tT z.n.1 ok.a hf hcl;rw[Nat.ble_eq_true_of_le (show TR.wE E≤1048640 by omega)];dsimp only;rw[p1];have hfu:∀p,z.fu=some p→p.1<z.a.1:=fun p hp=>hf.c p.1 ⟨p,hp,rfl⟩;refine⟨_,{ tq E with fn:=(gA z.fu:Int),free:=TR.ng E },[z.n.1],rfl,⟨jH okz.n gy,p2,ok.b⟩,rfl,⟨Nat.le_succ _,by rw[p3];exact Nat.le_succ _,Nat.le_refl _,fun j hj _=>?_,fun j hj _ hn=>⟨p6 j hj hn,?_⟩,fun _ _ _=>rfl⟩,cx (aQ ..),⟨rfl,rfl,rfl,rfl,rfl,fun _=>⟨rfl,?_,?_⟩,fun e=>(by rw[hi]at e;cases e)⟩,⟨rfl,rfl⟩,⟨by rw[p4];exact p5,by rw[p4];simp,by rw[p3,p4];exact Nat.lt_succ_self _⟩,rfl⟩
    ·exact(eZ (Nat.ne_of_gt hj)).trans (jN (Nat.ne_of_gt hj))
    ·rintro p hp x
     cases hp;rw[p4]at x;dsimp only at x;omega
    ·dsimp only;rw[hf.len,hc]
    ·rw[hF,hfE];unfold one;rw[hi];simp
  rw[f1];dsimp only;have hd0:d0.length=(one E).length:=by rw[f9];unfold one;cases oP E<;>rfl
  obtain⟨z2,qa,cs1,d1,a1,a2,a3,a4,a5,a6,a7,a8,a9⟩:=D9 (F:=F) (g:=iR n) z.n.1 as0 z1 nd1 [] (L++one E) (pK ms0++M) (cs++d0) (fun x hx=>xE F hFl n x (by have:=TR.mg (k:=k0) (n:=n0) (t:=t0) (ns:=ns0) (ts:=ts0) (ms:=ms0) (p:=p0) hx;rw[hE]at this;omega) (by have:=TR.mg (k:=k0) (n:=n0) (t:=t0) (ns:=ns0) (ts:=ts0) (ms:=ms0) (p:=p0) hx;rw[hE]at this;omega)) (by omega) f2 f5 (by rw[f7.1];rfl) (by simp;omega) f8 (by rw[hF,hfE];simp) (by rw[List.length_append,List.length_append,hc,hd0]);rw[a1];dsimp only
  obtain⟨z3,qb,as1,d2,b1,b2,b3,b4,b5,b6,b7,b8,b9⟩:=DQ (F:=F) (g:=iR n) z.n.1 ms0 z2 { nd1 with args:=qa } [] (L++one E++oF as0) M (cs++d0++d1) (fun x hx=>by
   have:=TR.nV (k:=k0) (n:=n0) (t:=t0) (ns:=ns0) (ts:=ts0) (xs:=as0) (p:=p0) hx;rw[hE]at this;exact⟨xE F hFl n x.body (by omega) (by omega),by omega⟩) (by have:=a3.n;omega) a2 a4 (by dsimp only;rw[f7.2];rfl) (by simp;omega) a8 (by rw[hF,hfE];simp) (by rw[List.length_append,List.length_append,hc,hd0,a9.len,List.length_append,List.length_append])
  rw[b1];rw[List.length_append]at a7 a9;rw[List.length_append,List.length_append]at b7 b9;have noA:∀j,¬own nd1.args j:=fun j ⟨p,hp,_⟩=>by rw[f7.1]at hp;cases hp
  have noB:∀j,¬own ({ nd1 with args:=qa }:Nd).dU j:=fun j ⟨p,hp,_⟩=>by dsimp only at hp;rw[f7.2]at hp;cases hp
  have z12:=a3.n;have z23:=b3.n
  have w13:∀j,sA z1 z2 j→aK j z3.a.2=aK j z2.a.2∧sA z z3 j:=fun j h=>by
   have u:=b3.ta j h.2.1 (fun x=>x) h.2.2;exact⟨u.1,by have:=f4.a;have:=h.1;omega,by have:=b3.a;have:=h.2.1;omega,u.2⟩
  have m13:∀j,sN z1 z2 j→aK j z3.n.2=aK j z2.n.2∧sN z z3 j:=fun j h=>⟨b3.tn j h.2 (by have:=h.1;omega),by have:=h.1;omega,by have:=h.2;omega⟩
  have b13:∀j,sB z1 z2 j→aK j z3.b.2=aK j z2.b.2∧sB z z3 j:=fun j h=>⟨b3.tb j h.2 (noB j),by have:=f4.b;have:=h.1;omega,by have:=b3.b;have:=h.2;omega⟩
  have id3:∀{α:Type} {M:List (Nat×α)} (C:Nat→Prop) (j:Nat),C j→aK j M=aK j M:=fun _ _ _=>rfl;have liN:∀j,sN z2 z3 j→sN z z3 j:=fun j h=>⟨by have:=h.1;omega,h.2⟩
  have liA:∀j,sA z2 z3 j→sA z z3 j:=fun j h=>⟨by have:=h.1;have:=f4.a;have:=a3.a;omega,h.2⟩
  have liB:∀j,NZ qb z2 z3 j→sB z z3 j:=fun j h=>⟨by have:=h.1.1;have:=f4.b;have:=a3.b;omega,h.1.2⟩
  have hRep:An F z3 (sN z z3) (sA z z3) (sB z z3) E L.length z.n.1:=by
   rw[←hE,An,hE];refine⟨{ nd1 with args:=qa,dU:=qb },cs1,as1,⟨Nat.le_refl _,by omega⟩,b4,?_,?_,?_,?_,?_⟩
   ·exact⟨f6.kind,f6.num,f6.text,f6.names,f6.needs,f6.fn,f6.nf⟩
   ·have:=a5
    rw[List.nil_append]at this;dsimp only
    cases hq:qa with
    |none=>rw[hq]at this;exact this
    |some q=>
     rw[hq]at this;obtain⟨u1,u2,u3⟩:=this
     have hs:sA z1 z2 q.1:=by
      refine⟨?_,u3⟩;rcases a6 q.1 ⟨q,hq,rfl⟩ with x|x
      ·exact(noA _ x).elim
      ·exact x
     exact⟨(w13 _ hs).1.trans u1,u2,(w13 _ hs).2⟩
   ·have:=b5
    rw[List.nil_append]at this;dsimp only
    cases hq:qb with
    |none=>rw[hq]at this;exact this
    |some q=>
     rw[hq]at this;obtain⟨u1,u2,u3⟩:=this;refine⟨u1,u2,?_,u3⟩;rcases b6 q.1 ⟨q,hq,rfl⟩ with x|x
     ·exact(noB _ x).elim
     ·have:=f4.b;have:=a3.b;omega
   ·exact a7.mono (fun j h=>(m13 j h).1) (fun j h=>(w13 j h.1).1) (fun j h=>(b13 j h).1) (fun j h=>(m13 j h).2) (fun j h=>(w13 j h.1).2) fun j h=>(b13 j h).2
   ·exact b7.mono (id3 _) (id3 _) (id3 _) liN liA liB
  refine⟨z3,d0++d1++d2,rfl,by omega,b2,?_,hRep,by rw[show cs++(d0++d1++d2)=cs++d0++d1++d2 by simp];exact b8,?_⟩
  ·refine⟨by omega,Nat.le_trans f4.a (Nat.le_trans a3.a b3.a),Nat.le_trans f4.b (Nat.le_trans a3.b b3.b),fun j hj _=>?_,fun j hj _ hn=>?_,fun j hj _=>?_⟩
   ·exact(b3.tn j (by omega) (by omega)).trans ((a3.tn j (by omega) (by omega)).trans (f4.tn j hj fun x=>x))
   ·have u:=f4.ta j hj (fun x=>x) hn
    have v:=a3.ta j (Nat.lt_of_lt_of_le hj f4.a) (noA j) u.2;have w:=b3.ta j (Nat.lt_of_lt_of_le hj (Nat.le_trans f4.a a3.a)) (fun x=>x) v.2;exact⟨w.1.trans (v.1.trans u.1),w.2⟩
   ·exact(b3.tb j (Nat.lt_of_lt_of_le hj (Nat.le_trans f4.b a3.b)) (noB j)).trans ((a3.tb j (Nat.lt_of_lt_of_le hj f4.b) fun x=>x).trans (f4.tb j hj fun x=>x))
  ·rw[hfE,List.append_assoc]
   refine kf.app ?_ (kf.app (a9.mono (fun j h=>(m13 j h).1) (fun j h=>(w13 j h.1).1) (fun j h=>(b13 j h).1) (fun j h=>(m13 j h).2) (fun j h=>(w13 j h.1).2) fun j h=>(b13 j h).2) (b9.mono (id3 _) (id3 _) (id3 _) liN liA liB));rw[f9];unfold one
   cases oP E with
   |false=>trivial
   |true=>exact⟨hRep,trivial⟩
end MN
end
section
open Go Go.AM Go.Proofs TK
set_option maxRecDepth 100000
namespace MN
def aN (z:Ns) (j:Nat):Prop:=j<z.n.1
def aA (z:Ns) (j:Nat):Prop:=j<z.a.1∧nf z j
def aB (z:Ns) (j:Nat):Prop:=j<z.b.1
abbrev PF:=List ByteArray×TR.Ex×Nat
def AL (F:List TR.Ex) (z:Ns) (e:TR.Ex) (o k:Nat):Prop:=An F z (aN z) (aA z) (aB z) e o k
def Ew (F:List TR.Ex) (z:Ns) (l:List TR.Ex) (o:Nat) (s:List Nat):Prop:=kf F z (aN z) (aA z) (aB z) l o s
def CE (F:List TR.Ex) (z:Ns) (fs:TM PF) (es:TM Fn):Prop:=F2 (fun p e=>e.1=p.1∧e.2.names=p.2.1∧AL F z p.2.2.1 p.2.2.2 e.2.body) fs es
def Eh (f:List ByteArray×TR.Ex):Prop:=f.1.length≤2000000∧TR.wE f.2≤1048576
abbrev QF:=ByteArray×List ByteArray×TR.Ex
def Lt:List QF→Nat→TM PF→TM PF
 | [],_,es=>es
 |f::l,o,es=>Lt l (o+(nc f.2.2).length) (firstT es f.1 (f.2.1,f.2.2,o))
def iV (l:List QF):List TR.Ex:=l.flatMap fun f=>nc f.2.2
def lF (f:TR.zU):QF:=(f.name,f.ns,f.body)
def lA (f:TR.JS):QF:=(f.name,f.ns,f.body)
section
variable {F:List TR.Ex} {z z':Ns}
theorem AL.W (w:W no no no z z') {e:TR.Ex} {o k:Nat} (h:AL F z e o k):AL F z' e o k:=
 An.mono (fun j h=>w.tn j h fun x=>x) (fun j h=>(w.ta j h.1 (fun x=>x) h.2).1) (fun j h=>w.tb j h fun x=>x) (fun _ h=>Nat.lt_of_lt_of_le h w.n) (fun j h=>⟨Nat.lt_of_lt_of_le h.1 w.a,(w.ta j h.1 (fun x=>x) h.2).2⟩) (fun _ h=>Nat.lt_of_lt_of_le h w.b) h
theorem Ew.W (w:W no no no z z') {e:List TR.Ex} {o:Nat} {k:List Nat} (h:Ew F z e o k):Ew F z' e o k:=
 kf.mono (fun j h=>w.tn j h fun x=>x) (fun j h=>(w.ta j h.1 (fun x=>x) h.2).1) (fun j h=>w.tb j h fun x=>x) (fun _ h=>Nat.lt_of_lt_of_le h w.n) (fun j h=>⟨Nat.lt_of_lt_of_le h.1 w.a,(w.ta j h.1 (fun x=>x) h.2).2⟩) (fun _ h=>Nat.lt_of_lt_of_le h w.b) h
theorem CE.W (w:W no no no z z') {fs:TM PF} {es:TM Fn} (h:CE F z fs es):CE F z' fs es:=F2.mono (fun _ _ h=>⟨h.1,h.2.1,h.2.2.W w⟩) h
theorem CE.find:∀{fs:TM PF} {es:TM Fn} (_:CE F z fs es) (k:ByteArray),O2 (fun p f=>f.names=p.1∧AL F z p.2.1 p.2.2 f.body) (bq k fs) (bq k es)
 | [],[],_,_=>trivial
 |(a,p)::fs,(b,f)::es,h,k=>by
  obtain⟨⟨h1,h2,h3⟩,h⟩:=h;dsimp only at h1;subst h1;rw[bq,bq]
  cases k==b with
  |true=>exact⟨h2,h3⟩
  |false=>exact CE.find h k
theorem CE.first {fs:TM PF} {es:TM Fn} (h:CE F z fs es) (k:ByteArray) {p:PF} {f:Fn} (h1:f.names=p.1) (h2:AL F z p.2.1 p.2.2 f.body):CE F z (firstT fs k p) (firstT es k f):=by
 have:=h.find k;unfold firstT
 cases e1:bq k fs with
 |none=>
  cases e2:bq k es with
  |none=>exact F2.app h ⟨⟨rfl,h1,h2⟩,trivial⟩
  |some _=>rw[e1,e2]at this;cases this
 |some _=>
  cases e2:bq k es with
  |none=>rw[e1,e2]at this;cases this
  |some _=>exact h
def Qj (F:List TR.Ex) (G:Ns→TM Fn→Option (Ns×TM Fn)) (l:List QF):Prop:=∀(z:Ns) (pes:TM PF) (es:TM Fn) (L M:List TR.Ex) (cs:List Nat),Ei z→Fu z cs→F=L++iV l++M→cs.length=L.length→CE F z pes es→
 ∃z' es' ds,G z es=some (z',es')∧Ei z'∧W no no no z z'∧CE F z' (Lt l L.length pes) es'∧Fu z' (cs++ds)∧Ew F z' (iV l) L.length ds
theorem Jy (hFl:F.length≤2000000) {f:List ByteArray×TR.Ex} (hf:Eh f) {L M:List TR.Ex} {cs:List Nat} (ok:Ei z) (hu:Fu z cs) (hF:F=L++nc f.2++M) (hc:cs.length=L.length):
 ∃z' ds,iR (TR.wE f.2) f.2 z=some (z',z.n.1)∧Ei z'∧W no no no z z'∧AL F z' f.2 L.length z.n.1∧Fu z' (cs++ds)∧Ew F z' (nc f.2) L.length ds:=by
 obtain⟨z',ds,h1,_,h3,h4,h5,h6,h7⟩:=xE F hFl _ f.2 (Nat.le_refl _) hf.2 z L M cs ok hu hF hc;have id3:∀{α:Type} {M:List (Nat×α)} (C:Nat→Prop) (j:Nat),C j→aK j M=aK j M:=fun _ _ _=>rfl;exact⟨z',ds,h1,h3,h4,h5.mono (id3 _) (id3 _) (id3 _) (fun j h=>h.2) (fun j h=>⟨h.2.1,h.2.2⟩) fun j h=>h.2,h6,h7.mono (id3 _) (id3 _) (id3 _) (fun j h=>h.2) (fun j h=>⟨h.2.1,h.2.2⟩) fun j h=>h.2⟩
theorem yK (hFl:F.length≤2000000):∀(l:List TR.zU),(∀f∈l,Eh (lF f).2)→Qj F (fun z es=>mX l z es) (l.map lF)
 | [],_=>fun z pes es L M cs ok hu hF hc ht=>⟨z,es,[],rfl,ok,W.refl,ht,by rw[List.append_nil];exact hu,trivial⟩
 |f::l,hs=>fun z pes es L M cs ok hu hF hc ht=>by
  have hf:=hs f List.mem_cons_self;obtain⟨z2,d1,e1,e2,e3,e4,e5,e6⟩:=Jy (f:=(f.ns,f.body)) (M:=iV (l.map lF)++M) hFl hf ok hu (by rw[hF,iV,List.map_cons,List.flatMap_cons];simp[iV,lF]) hc;obtain⟨z3,es3,d2,g1,g2,g3,g4,g5,g6⟩:=yK hFl l (fun x hx=>hs x (List.mem_cons_of_mem _ hx)) z2 (firstT pes f.name (f.ns,f.body,L.length)) (firstT es f.name ⟨f.ns,z.n.1⟩) (L++nc f.body) M (cs++d1) e2 e5 (by rw[hF,iV,List.map_cons,List.flatMap_cons];simp[iV,lF]) (by have:=e6.len;rw[List.length_append,List.length_append,this,hc]) ((ht.W e3).first f.name rfl e4);dsimp only;rw[mX];unfold HH;rw[Nat.ble_eq_true_of_le (show f.ns.length≤2000000 from hf.1)];dsimp only[lF]at e1 ⊢;rw[e1];dsimp only at g1 ⊢;rw[List.length_append]at g4 g6;exact⟨z3,es3,d1++d2,g1,g2,e3.trans g3 (fun _ _ x=>x) (fun _ _ x=>x) (fun _ _ x=>x),g4,by rw[←List.append_assoc];exact g5,by unfold Ew iV;rw[List.map_cons,List.flatMap_cons];exact kf.app (Ew.W g3 e6) g6⟩
theorem xJ (hFl:F.length≤2000000):∀(l:List TR.JS),(∀f∈l,Eh (lA f).2)→Qj F (fun z es=>lX l z es) (l.map lA)
 | [],_=>fun z pes es L M cs ok hu hF hc ht=>⟨z,es,[],rfl,ok,W.refl,ht,by rw[List.append_nil];exact hu,trivial⟩
 |f::l,hs=>fun z pes es L M cs ok hu hF hc ht=>by
  have hf:=hs f List.mem_cons_self;obtain⟨z2,d1,e1,e2,e3,e4,e5,e6⟩:=Jy (f:=(f.ns,f.body)) (M:=iV (l.map lA)++M) hFl hf ok hu (by rw[hF,iV,List.map_cons,List.flatMap_cons];simp[iV,lA]) hc;obtain⟨z3,es3,d2,g1,g2,g3,g4,g5,g6⟩:=xJ hFl l (fun x hx=>hs x (List.mem_cons_of_mem _ hx)) z2 (firstT pes f.name (f.ns,f.body,L.length)) (firstT es f.name ⟨f.ns,z.n.1⟩) (L++nc f.body) M (cs++d1) e2 e5 (by rw[hF,iV,List.map_cons,List.flatMap_cons];simp[iV,lA]) (by have:=e6.len;rw[List.length_append,List.length_append,this,hc]) ((ht.W e3).first f.name rfl e4);dsimp only;rw[lX];unfold Pc;rw[Nat.ble_eq_true_of_le (show f.ns.length≤2000000 from hf.1)];dsimp only[lA]at e1 ⊢;rw[e1];dsimp only at g1 ⊢;rw[List.length_append]at g4 g6;exact⟨z3,es3,d1++d2,g1,g2,e3.trans g3 (fun _ _ x=>x) (fun _ _ x=>x) (fun _ _ x=>x),g4,by rw[←List.append_assoc];exact g5,by unfold Ew iV;rw[List.map_cons,List.flatMap_cons];exact kf.app (Ew.W g3 e6) g6⟩
def IR (F:List TR.Ex) (z:Ns) (m0:Nat) (M:List (Nat×TM Fn)) (p:TR.w6×Nat) (x:Im):Prop:=x.trait=p.1.tr∧x.typ=p.1.fo∧m0≤x.funcs∧∃es,aK x.funcs M=some es∧CE F z (Lt (p.1.funcs.map lF) p.2 []) es
def zE:List TR.w6→Nat→List (TR.w6×Nat)
 | [],_=>[]
 |x::l,o=>(x,o)::zE l (o+(iV (x.funcs.map lF)).length)
def oE (l:List TR.w6):List TR.Ex:=l.flatMap fun x=>iV (x.funcs.map lF)
theorem IR.mono (w:W no no no z z') {m0:Nat} {M N:List (Nat×TM Fn)} (h:∀j es,m0≤j→aK j M=some es→aK j N=some es) {p:TR.w6×Nat} {x:Im} (q:IR F z m0 M p x):IR F z' m0 N p x:=
 ⟨q.1,q.2.1,q.2.2.1,let ⟨es,a,b⟩:=q.2.2.2;⟨es,h _ _ q.2.2.1 a,b.W w⟩⟩
theorem AI (hFl:F.length≤2000000) (m0:Nat):∀(l:List TR.w6) (z:Ns) (m:bf (TM Fn)) (i:bf (List Im)) (q:Option (Nat×Nat)) (ps:List (TR.w6×Nat)) (xs:List Im) (L M:List TR.Ex) (cs:List Nat),(∀x∈l,∀f∈x.funcs,Eh (lF f).2)→Ei z→fX m→fX i→m0≤m.1→Bk i.2 (fun j=>j<i.1) q xs→F2 (IR F z m0 m.2) ps xs→xs.length+l.length≤2000000→Fu z cs→F=L++oE l++M→cs.length=L.length→
 ∃z' m' i' q' xs' ds,pH l z m i q=some (z',m',i',q')∧Ei z'∧fX m'∧fX i'∧m.1≤m'.1∧(∀j es,aK j m.2=some es→aK j m'.2=some es)∧W no no no z z'∧Bk i'.2 (fun j=>j<i'.1) q' xs'∧F2 (IR F z' m0 m'.2) (ps++zE l L.length) xs'∧Fu z' (cs++ds)∧Ew F z' (oE l) L.length ds
 | [],z,m,i,q,ps,xs,L,M,cs,_,ok,bm,bi,_,hq,hx,_,hu,_,_=>⟨z,m,i,q,xs,[],rfl,ok,bm,bi,Nat.le_refl _,fun _ _ h=>h,W.refl,hq,by rw[zE,List.append_nil];exact hx,by rw[List.append_nil];exact hu,trivial⟩
 |x::l,z,m,i,q,ps,xs,L,M,cs,hs,ok,bm,bi,hm,hq,hx,hl,hu,hF,hc=>by
  have hl:xs.length+l.length+1≤2000000:=hl;obtain⟨z2,es,d1,e1,e2,e3,e4,e5,e6⟩:=yK hFl x.funcs (hs x List.mem_cons_self) z [] [] L (oE l++M) cs ok hu (by rw[hF,oE,List.flatMap_cons];simp[oE]) hc trivial;obtain⟨i2,q2,p1,p2,p3,p4,p5,p6⟩:=tT (⟨x.tr,x.fo,m.1⟩:Im) bi hq (by omega)
  have hx2:F2 (IR F z2 m0 ((m.1,es)::m.2)) (ps++[(x,L.length)]) (xs++[⟨x.tr,x.fo,m.1⟩]):=
   F2.app (F2.mono (fun _ _ h=>h.mono e3 fun j es' _ h=>bm.old h) hx) ⟨⟨rfl,rfl,hm,es,aQ ..,e4⟩,trivial⟩
  obtain⟨z3,m3,i3,q3,xs3,d2,g1,g2,g3,g4,g5,g6,g7,g8,g9,g10,g11⟩:=AI hFl m0 l z2 (m.1+1,(m.1,es)::m.2) i2 (some q2) (ps++[(x,L.length)]) (xs++[⟨x.tr,x.fo,m.1⟩]) (L++iV (x.funcs.map lF)) M (cs++d1) (fun y hy=>hs y (List.mem_cons_of_mem _ hy)) e2 (bm.push _) p2 (by dsimp only;omega) ⟨by rw[p4];exact p5,by rw[p4];simp,by rw[p3,p4];exact Nat.lt_succ_self _⟩ hx2 (by simp;omega) e5 (by rw[hF,oE,List.flatMap_cons];simp[oE]) (by have:=e6.len;rw[List.length_append,List.length_append,this,hc]);rw[List.length_append]at g9 g11;rw[pH];dsimp only at e1 ⊢;rw[e1];dsimp only;rw[p1];exact⟨z3,m3,i3,q3,xs3,d1++d2,g1,g2,g3,g4,by dsimp only at g5;omega,fun j es' h=>g6 j es' (bm.old h),e3.trans g7 (fun _ _ x=>x) (fun _ _ x=>x) (fun _ _ x=>x),g8,by rw[zE,List.append_cons];exact g9,by rw[←List.append_assoc];exact g10,by unfold Ew oE;rw[List.flatMap_cons];exact kf.app (Ew.W g7 e6) g11⟩
end
end MN
end
section
open Go Go.AM Go.Proofs TK
set_option maxRecDepth 100000
namespace MN
structure Pz (K:Ks):Prop where
 n:fX K.n
 a:fX K.a
 b:fX K.b
 mf:fX K.mf
 im:fX K.im
def kD (p:TR.oH):List TR.Ex:=oE p.impls++iV (p.funcs.map lF)++iV (p.actors.map lA)
structure Nb (p:TR.oH):Prop where
 ok:Ia p=true
 im:∀x∈p.impls,∀f∈x.funcs,Eh (lF f).2
 fu:∀f∈p.funcs,Eh (lF f).2
 ac:∀f∈p.actors,Eh (lA f).2
 fn:(kD p).length≤2000000
structure CB (p:TR.oH) (K:Ks) (m:Nat):Prop where
 ex:∃z mk cs es ims fs acs,K.n=z.n∧K.a=z.a∧K.b=z.b∧aK m K.mm.2=some mk∧mk.funs=z.fu∧Fu z cs∧Ew (kD p) z (kD p) 0 cs∧
  aK mk.makes K.mc.2=some es∧es=mI p.datas []∧aK mk.traits K.mt.2=some (jD p.traits [])∧
  Bk K.im.2 (fun _=>True) mk.impls ims∧ims.length≤2000000∧F2 (IR (kD p) z 0 K.mf.2) (zE p.impls 0) ims∧
  aK mk.funcs K.mf.2=some fs∧CE (kD p) z (Lt (p.funcs.map lF) (oE p.impls).length []) fs∧
  aK mk.actors K.ma.2=some acs∧CE (kD p) z (Lt (p.actors.map lA) ((oE p.impls).length+(iV (p.funcs.map lF)).length) []) acs
theorem Kc {p:TR.oH} (h:Nb p) {K:Ks} (ok:Pz K):∃K',newF p K=some K'∧Pz K'∧CB p K' K.mm.1:=by
 have hcnt:p.impls.length≤2000000:=by
  have:=h.ok;unfold Ia at this;simp only[Bool.and_eq_true]at this;exact Nat.le_of_ble_eq_true this.2.2.2.2.1
 obtain⟨z1,mf1,im1,q,ims,d1,e1,e2,e3,e4,e5,e6,e7,e8,e9,e10,e11⟩:=AI h.fn (K.mf.1+1) p.impls ⟨K.n,K.a,K.b,none⟩ (K.mf.1+1,(K.mf.1,[])::K.mf.2) K.im none [] [] [] (iV (p.funcs.map lF)++iV (p.actors.map lA)) [] h.im ⟨ok.n,ok.a,ok.b⟩ (ok.mf.push _) ok.im (Nat.le_refl _) rfl trivial (by simpa using hcnt) rfl (by unfold kD;simp) rfl;have e0:=e6 K.mf.1 [] (aQ ..);obtain⟨z2,fs,d2,f1,f2,f3,f4,f5,f6⟩:=yK h.fn p.funcs h.fu z1 [] [] (oE p.impls) (iV (p.actors.map lA)) ([]++d1) e2 e10 (by unfold kD;simp) (by rw[List.nil_append];exact e11.len) trivial;obtain⟨z3,acs,d3,g1,g2,g3,g4,g5,g6⟩:=xJ h.fn p.actors h.ac z2 [] [] (oE p.impls++iV (p.funcs.map lF)) [] ([]++d1++d2) f2 f5 (by unfold kD;simp) (by rw[List.nil_append,List.length_append,List.length_append,e11.len,f6.len]) trivial;dsimp only at f1 g1;rw[List.length_append]at g4 g6
 have hN:newF p K=some (kS K z3 (wU K z3.fu q) (mI p.datas []) (mf1.1,aW K.mf.1 fs mf1.2) (jD p.traits []) im1 acs):=by
  unfold newF;rw[h.ok,e1];dsimp only;rw[e0];dsimp only;rw[f1];dsimp only;rw[g1]
 refine⟨_,hN,⟨g2.n,g2.a,g2.b,jH e3 gy,e4⟩,?_⟩;have w13:W no no no z1 z3:=f3.trans g3 (fun _ _ x=>x) (fun _ _ x=>x) (fun _ _ x=>x);refine⟨z3,wU K z3.fu q,[]++d1++d2++d3,_,ims,fs,acs,rfl,rfl,rfl,aQ ..,rfl,g5,?_,aQ ..,rfl,aQ ..,?_,?_,?_,cx e0,f4.W g3,aQ ..,g4⟩
 ·rw[List.nil_append]
  exact((Ew.W w13 e11).app (by rw[List.length_nil,Nat.zero_add];exact Ew.W g3 f6)).app (by rw[List.length_nil,Nat.zero_add,List.length_append];exact g6)
 ·exact e8.mono (fun _ _=>rfl) fun _ _=>trivial
 ·have:=e9.len
  rw[List.nil_append]at this;rw[←this]
  have:∀(l:List TR.w6) (o:Nat),(zE l o).length=l.length:=by
   intro l
   induction l with
   |nil=>intro o;rfl
   |cons x l ih=>intro o;rw[zE,List.length_cons,List.length_cons,ih]
  rw[this];exact hcnt
 ·refine F2.mono (fun x y hx=>?_) e9
  obtain⟨a1,a2,a3,es,a4,a5⟩:=hx;refine⟨a1,a2,Nat.zero_le _,es,?_,a5.W w13⟩;exact(eZ (by omega)).trans a4
def Pn (F:List TR.Ex) (n:Int) (t:ByteArray) (len:Nat):Prop:=∃e,0≤n∧F[n.toNat]?=some e∧t.size=(TR.ng e).length∧xV t len (TR.ng e) 0 0
def Mn (F:List TR.Ex) (z w:Ns) (a b:Nat):Prop:=∃e o,TR.wE e≤1048576∧AL F z e o a∧AL F w e o b
section
variable {F:List TR.Ex} {z w:Ns} {K:Ks}
theorem Jf {nd:Nd} {C:Nat→Prop} {cs:List Nat} (h:Bk K.a.2 C nd.args cs) {j:Nat} (hj:j<cs.length):ja K.a nd j=cs[j]?:=by
 unfold ja
 cases hq:nd.args with
 |none=>rw[hq]at h;cases h;simp at hj
 |some q=>
  rw[hq]at h;obtain⟨h1,h2,_⟩:=h;dsimp only;rw[show Nat.blt j q.2=true from Nat.ble_eq_true_of_le (by omega)];dsimp only;rw[h1]
theorem GB {nd:Nd} {C:Nat→Prop} {ars:List Ar} (h:Bk K.b.2 C nd.dU ars) (hl:ars.length≤2000000):vg K nd=some ars:=by
 unfold vg
 cases hq:nd.dU with
 |none=>rw[hq]at h;cases h;rfl
 |some q=>
  rw[hq]at h;obtain⟨h1,h2,_⟩:=h;dsimp only;rw[h1];dsimp only;rw[nX (by omega) (by omega),h2,List.take_length]
theorem jy.two {z w:Ns} {A C D A' C' D':Nat→Prop}:∀{ms:List TR.eU} {o:Nat} {l m:List Ar},jy F z A C D ms o l→jy F w A' C' D' ms o m→(∀x∈ms,TR.wP x.pat≤2000000)→(∀x∈ms,TR.wE x.body≤1048576)→(∀e o a b,TR.wE e≤1048576→An F z A C D e o a→An F w A' C' D' e o b→Mn F z w a b)→F2 (fun x y=>y.pat=x.pat∧TR.wP x.pat≤2000000∧Mn F z w x.body y.body) l m
 | [],_,[],[],_,_,_,_,_=>trivial
 | [],_,_::_,_,h,_,_,_,_=>by rw[jy]at h;exact h.elim
 | [],_,[],_::_,_,h,_,_,_=>by rw[jy]at h;exact h.elim
 |_::_,_,[],_,h,_,_,_,_=>by rw[jy]at h;exact h.elim
 |_::_,_,_::_,[],_,h,_,_,_=>by rw[jy]at h;exact h.elim
 |.mk p e::r,_,a::l,b::m,h1,h2,hp,he,hk=>by
  rw[jy]at h1 h2;exact⟨⟨h2.1.trans h1.1.symm,by rw[h1.1];exact hp _ List.mem_cons_self,hk e _ _ _ (he _ List.mem_cons_self) h1.2.1 h2.2.1⟩,h1.2.2.two h2.2.2 (fun x hx=>hp x (List.mem_cons_of_mem _ hx)) (fun x hx=>he x (List.mem_cons_of_mem _ hx)) hk⟩
theorem jy.len {z:Ns} {A C D:Nat→Prop}:∀{ms:List TR.eU} {o:Nat} {l:List Ar},jy F z A C D ms o l→l.length=ms.length
 | [],_,[],_=>rfl
 | [],_,_::_,h=>by rw[jy]at h;exact h.elim
 |_::_,_,[],h=>by rw[jy]at h;exact h.elim
 |.mk p e::r,_,a::l,h=>by rw[jy]at h;rw[List.length_cons,List.length_cons,h.2.2.len]
structure LB (K:Ks) (m:Nat) (rt:Nat→Prop):Prop where
 a:∀nd j c,ja K.a nd j=some c→¬rt c
 b:∀nd l,vg K nd=some l→∀x∈l,¬rt x.body
 f:∀p name xs f,aK m K.mm.2=some p→ri K p name xs=some (some f)→¬rt f.body
theorem LB.no (K:Ks) (m:Nat):LB K m fun _=>False:=⟨fun _ _ _ _ h=>h,fun _ _ _ _ _ h=>h,fun _ _ _ _ _ _ h=>h⟩
theorem C7 {K1 K2:Ks} {m:Nat} {X:List (Nat×Cl)} {rt:Nat→Prop} (hr:LB K1 m rt) {z w:Ns} (n1:K1.n=z.n) (a1:K1.a=z.a) (b1:K1.b=z.b) (n2:K2.n=w.n) (a2:K2.a=w.a) (b2:K2.b=w.b) {e:TR.Ex} {o:Nat} (he:TR.wE e≤1048576) {a b:Nat} (h1:AL F z e o a) (h2:AL F w e o b):
 ∃p q,aK a K1.n.2=some p∧aK b K2.n.2=some q∧ND K1 K2 ⟨Pn F,X,rt⟩ (Mn F z w) p q∧NK F p e o∧gA p.args=e.args.length:=by
 obtain⟨k0,n0,t0,ns0,ts0,as0,ms0,p0⟩:=e;have hlen:=TR.ue k0 n0 t0 ns0 ts0 as0 ms0 p0;unfold AL at h1 h2;rw[An]at h1 h2;obtain⟨p,cs,ars,_,g1,g2,g3,g4,g5,g6⟩:=h1;obtain⟨q,cs',ars',_,j1,j2,j3,j4,j5,j6⟩:=h2;have lc:cs.length=as0.length:=g5.len;have lc':cs'.length=as0.length:=j5.len;have la:gA p.args=as0.length:=g3.len.trans lc;have la':gA q.args=as0.length:=j3.len.trans lc'
 have hfree:q.free=p.free∧q.fn=p.fn∧p.free.length≤2000000:=by
  cases hi:oP (.mk k0 n0 t0 ns0 ts0 as0 ms0 p0) with
  |false=>
   obtain⟨u1,u2⟩:=g2.nf hi;obtain⟨v1,v2⟩:=j2.nf hi;rw[u1,u2,v1,v2];simp
  |true=>
   obtain⟨u1,u2,_⟩:=g2.fn hi;obtain⟨v1,v2,_⟩:=j2.fn hi;have:=TR.Kh (.mk k0 n0 t0 ns0 ts0 as0 ms0 p0);exact⟨by rw[u1,v1],by rw[u2,v2],by rw[u1];omega⟩
 refine⟨p,q,by rw[n1];exact g1,by rw[n2];exact j1,?_,g2,la⟩;refine⟨by rw[g2.kind,j2.kind],by rw[g2.num,j2.num],by rw[g2.text,j2.text],by rw[g2.names,j2.names],hfree.1,hfree.2.1,?_,by rw[g2.needs,j2.needs],by rw[la,la'],fun j hj=>?_,?_,⟨by omega,hfree.2.2,by rw[g2.names];show ns0.length≤_;omega,by rw[g2.text];show t0.size≤_;omega⟩,fun hk hl t len ht hc=>?_⟩
 ·rw[g2.needs,g2.kind,g2.num,la];rfl
 ·rw[la]at hj
  obtain⟨x,hx⟩:∃x,as0[j]?=some x:=⟨_,List.getElem?_eq_getElem hj⟩
  obtain⟨o',ho'⟩:=jd.get (F:=F) (o:=o+(one (.mk k0 n0 t0 ns0 ts0 as0 ms0 p0)).length) hx;obtain⟨c,c1,c2⟩:=ho' g5;obtain⟨d,d1,d2⟩:=ho' j5;have:=TR.mg (k:=k0) (n:=n0) (t:=t0) (ns:=ns0) (ts:=ts0) (ms:=ms0) (p:=p0) (List.mem_of_getElem? hx);have hc:=(Jf (K:=K1) (cs:=cs) (C:=aA z) (by rw[a1];exact g3) (show j<cs.length by omega)).trans c1;exact⟨c,d,hc,by rw[Jf (K:=K2) (cs:=cs') (C:=aA w) (by rw[a2];exact j3) (by omega)];exact d1,⟨x,o',by omega,c2,d2⟩,hr.a _ _ _ hc⟩
 ·have hb:=fun(x:TR.eU) (hx:x∈ms0)=>TR.nV (k:=k0) (n:=n0) (t:=t0) (ns:=ns0) (ts:=ts0) (xs:=as0) (p:=p0) hx
  have ha:=GB (K:=K1) (nd:=p) (C:=aB z) (by rw[b1];exact g4) (by rw[g6.len];omega);exact⟨ars,ars',ha,GB (K:=K2) (C:=aB w) (by rw[b2];exact j4) (by rw[j6.len];omega),((g6.two j6 (fun x hx=>by have:=hb x hx;omega) (fun x hx=>by have:=hb x hx;omega) fun e o a b he r1 r2=>⟨e,o,he,r1,r2⟩).and (hr.b _ _ ha)).mono fun _ _ h=>⟨h.1.1,h.1.2.1,h.1.2.2,h.2⟩⟩
 ·have hi:oP (.mk k0 n0 t0 ns0 ts0 as0 ms0 p0)=true:=by
   unfold oP;rw[g2.kind]at hk;rw[hk];have:Nat.beq (TR.Ex.mk k0 n0 t0 ns0 ts0 as0 ms0 p0).args.length 0=false:=sD (by show as0.length≠0;omega);rw[this];rfl
  obtain⟨u1,u2,u3⟩:=g2.fn hi;rw[u1]at ht hc;rw[u2];exact⟨_,by omega,u3,ht,hc⟩
end
mutual
theorem L1:∀(e:TR.Ex),∀x∈nc e,oP x=true∧TR.wE x≤TR.wE e
 |.mk k n t ns ts xs ms p=>by
  intro x h;rw[nc,List.mem_append,List.mem_append]at h;rcases h with h|h|h
  ·cases hq:(k==10)&&!(Nat.beq xs.length 0) with
   |false=>rw[hq]at h;cases h
   |true=>
    rw[hq]at h;rcases List.mem_cons.1 h with rfl|h
    ·exact⟨hq,Nat.le_refl _⟩
    ·cases h
  ·obtain⟨h1,y,h2,h3⟩:=OD xs x h
   have:=TR.mg (k:=k) (n:=n) (t:=t) (ns:=ns) (ts:=ts) (ms:=ms) (p:=p) h2;exact⟨h1,by omega⟩
  ·obtain⟨h1,y,h2,h3⟩:=OJ ms x h
   have:=TR.nV (k:=k) (n:=n) (t:=t) (ns:=ns) (ts:=ts) (xs:=xs) (p:=p) h2;exact⟨h1,by omega⟩
theorem OD:∀(l:List TR.Ex),∀x∈oF l,oP x=true∧∃y∈l,TR.wE x≤TR.wE y
 | []=>by intro x h;rw[oF]at h;cases h
 |e::r=>by
  intro x h;rw[oF,List.mem_append]at h;rcases h with h|h
  ·have:=L1 e x h;exact⟨this.1,e,List.mem_cons_self,this.2⟩
  ·obtain⟨h1,y,h2,h3⟩:=OD r x h;exact⟨h1,y,List.mem_cons_of_mem _ h2,h3⟩
theorem OJ:∀(l:List TR.eU),∀x∈pK l,oP x=true∧∃y∈l,TR.wE x≤TR.wE y.body
 | []=>by intro x h;rw[pK]at h;cases h
 |.mk p e::r=>by
  intro x h;rw[pK,List.mem_append]at h;rcases h with h|h
  ·have:=L1 e x h;exact⟨this.1,_,List.mem_cons_self,this.2⟩
  ·obtain⟨h1,y,h2,h3⟩:=OJ r x h;exact⟨h1,y,List.mem_cons_of_mem _ h2,h3⟩
end
theorem LG {p:TR.oH} (h:Nb p):∀x∈kD p,oP x=true∧TR.wE x≤1048576:=by
 have key:∀(l:List QF),(∀f∈l,TR.wE f.2.2≤1048576)→∀x∈iV l,oP x=true∧TR.wE x≤1048576:=by
  intro l hl x hx;obtain⟨f,hf,hx⟩:=List.mem_flatMap.1 hx;have:=L1 f.2.2 x hx;have:=hl f hf;exact⟨(L1 f.2.2 x hx).1,by omega⟩
 intro x hx;unfold kD at hx;rw[List.mem_append,List.mem_append]at hx;rcases hx with(hx|hx)|hx
 ·obtain⟨y,hy,hx⟩:=List.mem_flatMap.1 hx
  exact key _ (fun f hf=>by obtain⟨g,hg,rfl⟩:=List.mem_map.1 hf;exact(h.im y hy g hg).2) x hx
 ·exact key _ (fun f hf=>by obtain⟨g,hg,rfl⟩:=List.mem_map.1 hf;exact(h.fu g hg).2) x hx
 ·exact key _ (fun f hf=>by obtain⟨g,hg,rfl⟩:=List.mem_map.1 hf;exact(h.ac g hg).2) x hx
theorem CE.two {F:List TR.Ex} {z w:Ns} {fs:TM PF} {es es':TM Fn} (h1:CE F z fs es) (h2:CE F w fs es') (hs:∀f∈fs,Eh (f.2.1,f.2.2.1)) (k:ByteArray):O2 (OQ (Mn F z w)) (bq k es) (bq k es'):=by
 have a1:=h1.find k;have a2:=h2.find k
 cases e0:bq k fs with
 |none=>
  rw[e0]at a1 a2
  cases e1:bq k es<;>cases e2:bq k es'<;>rw[e1]at a1<;>rw[e2]at a2
  ·trivial
  ·cases a2
  ·cases a1
  ·cases a1
 |some p=>
  rw[e0]at a1 a2
  have hm:∃a,(a,p)∈fs:=by
   clear h1 h2 a1 a2 hs
   induction fs with
   |nil=>cases e0
   |cons x r ih=>
    obtain⟨a,v⟩:=x;rw[bq]at e0
    cases hb:k==a with
    |true=>rw[hb]at e0;cases e0;exact⟨a,List.mem_cons_self⟩
    |false=>rw[hb]at e0;obtain⟨b,hb⟩:=ih e0;exact⟨b,List.mem_cons_of_mem _ hb⟩
  obtain⟨a,hm⟩:=hm;have hs:=hs _ hm
  cases e1:bq k es<;>cases e2:bq k es'<;>rw[e1]at a1<;>rw[e2]at a2
  ·cases a1
  ·cases a1
  ·cases a2
  ·exact⟨a2.1.trans a1.1.symm,by rw[a1.1];exact hs.1,p.2.1,p.2.2,hs.2,a1.2,a2.2⟩
theorem wo:∀(l:List QF) (o:Nat) (es:TM PF),(∀f∈l,Eh f.2)→(∀f∈es,Eh (f.2.1,f.2.2.1))→∀f∈Lt l o es,Eh (f.2.1,f.2.2.1)
 | [],_,_,_,h=>h
 |x::l,o,es,hl,h=>by
  rw[Lt];refine wo l _ _ (fun f hf=>hl f (List.mem_cons_of_mem _ hf)) ?_;unfold firstT;split
  ·exact h
  ·intro f hf
   rcases List.mem_append.1 hf with hf|hf
   ·exact h f hf
   ·simp at hf;subst hf;exact hl x List.mem_cons_self
end MN
end
