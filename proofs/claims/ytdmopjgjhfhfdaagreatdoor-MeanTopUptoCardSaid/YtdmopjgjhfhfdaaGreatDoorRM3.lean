/- Contracts, and the law, for every input. No conditions. -/
import Derived.Test.YtdmopjgjhfhfdaaGreatDoorRT3
set_option linter.all false
set_option maxRecDepth 100000
open Go Go.AM Go.Proofs TK
namespace MN
def Ny (L:List gV) (b:Bool):AV:=.cI [.p (.i .i64 (match b with|true=>(L.length:Int)|false=>0)),.p (.b b)]
theorem drop_cons {α:Type} {L l:List α} {n:Nat} {a:α} (h:L.drop n=a::l):n<L.length/\L[n]?=some a/\L.drop (n+1)=l:=by
 have hn:n<L.length:=by
  cases Nat.lt_or_ge n L.length with
  |inl h=>exact h
  |inr g=>rw[List.drop_eq_nil_of_le g]at h;cases h
 have:=List.drop_eq_getElem_cons hn;rw[h]at this;cases this;exact⟨hn,List.getElem?_eq_getElem hn,rfl⟩
theorem drop_nil {α:Type} {L:List α} {n:Nat} (h:L.drop n=[]):L.length<=n:=List.drop_eq_nil_iff.1 h
theorem uh (K:Ks) (S:Ss) (zr:aZ Rn) (r:Rn) (L:List gV) (hL:L.length<=2000000) (R:Bool×Ss×Rn) (hF:pE K 200 S r 1000 L=some R):
 au Tryz.prog 21 [.p (.uY 132 (.bH rS zr.1)),.p (.sl 5 (cP L))] (hA K S (zr.1+1,(zr.1,r)::zr.2)) (Ny L R.1) (hA K R.2.1 (zr.1+1,(zr.1,R.2.2)::zr.2)):=by
 have hlen:(cP L).length=L.length:=by simp[cP]
 unfold hA;refine au.iN av Tryz.func21 rfl (by rfl) (by kernel_rfl) rfl rfl ?_;(conv=>whnf);refine bK (aG _) av (by kernel_rfl) 200 [0,1,6,7,11] iA (fun j (z:Ss×Rn×Int×Nat)=>[.p (.uY 132 (.bH rS zr.1)),.p (.sl 5 (cP L)),.p (.i .i64 z.2.2.1),.p (.i .i64 (ix z.2.2.2)),.p (.i .i64 (ix j))]) (fun j z=>An K z.1 (zr.1+1,(zr.1,z.2.1)::zr.2)) (fun j z=>z.2.2.2<=L.length/\pE K (200-j) z.1 z.2.1 z.2.2.1 (L.drop z.2.2.2)=some R) (S,r,1000,0) ⟨rfl,rfl,rfl,rfl⟩ ⟨by simp,hF⟩ ?_;intro j z hj hz;obtain⟨S2,r2,rf,k⟩:=z;have hk:=And.left hz;have hQ:=And.right hz;clear hz;dsimp only at hk hQ;have hij:ix j=(j:Int):=kR (by omega);(conv=>whnf);refine ai ?_ ?_<;>intro h1<;>conv=>whnf
 rotate_left
 ·have hj2:200-j=0:=by
   have:=of_decide_eq_false h1;omega
  rw[hj2]at hQ;cases hQ;(conv=>whnf);refine⟨.inl rfl,by(repeat refine⟨s6,?_⟩);trivial⟩
 have h1':j<200:=by have:=of_decide_eq_true h1;omega
 obtain⟨n,hn⟩:∃n,200-j=n+1:=⟨199-j,by omega⟩
 have hj1:j<200:=by omega
 have hn1:200-(j+1)=n:=by omega
 rw[hn,pE]at hQ
 cases hrun:uO K 400 S2 r2 with
 |none=>rw[hrun]at hQ;cases hQ
 |some Q=>
  rw[hrun]at hQ;have hrs:=DG K S2 (zr.1+1,(zr.1,r2)::zr.2) zr.1 r2 400 Q (aP _ _ _) (by omega) hrun;dsimp only at hrs;rw[dL]at hrs;obtain⟨⟨q1,q2,q3,q4,q5,q6,q7,q8⟩,S3,r3⟩:=Q;unfold hA BI at hrs;dsimp only at hrs hQ;refine bh iA 300 hrs ?_;(conv=>whnf);refine ai ?_ ?_<;>intro k8<;>conv=>whnf
  ·rw[show(q1==8)=true from k8]at hQ
   cases hQ;refine dy k8 ?_;(conv=>whnf);refine⟨.inl rfl,by(repeat refine⟨s6,?_⟩);trivial⟩
  rw[show(q1==8)=false from k8,Bool.false_or]at hQ;refine ai ?_ ?_<;>intro k9<;>conv=>whnf
  ·rw[show(q1==9)=true from k9]at hQ
   cases hQ;refine⟨.inl rfl,by(repeat refine⟨s6,?_⟩);trivial⟩
  rw[show(q1==9)=false from k9]at hQ;dsimp only at hQ;refine ai ?_ ?_<;>intro k4<;>conv=>whnf
  ·rw[show(q1==4)=true from k4]at hQ
   dsimp only at hQ
   cases hgv:pP K S3 r3 (.mk 6 (IntKind.i64.wrap (rf+1)) ⟨#[]⟩ []) with
   |none=>rw[hgv]at hQ;cases hQ
   |some G=>
    rw[hgv]at hQ;have hgs:=Li K S3 (zr.1+1,(zr.1,r3)::zr.2) zr.1 r3 _ G (aP _ _ _) hgv;rw[eO]at hgs;dsimp only at hgs;rw[dL]at hgs;obtain⟨S4,r4⟩:=G;unfold hA at hgs;refine bh iA 300 hgs ?_;(conv=>whnf);refine⟨hj1,(S4,r4,(IntKind.i64.wrap (rf+1)),k),⟨rfl,rfl,rfl,rfl⟩,⟨by dsimp only;omega,by dsimp only;rw[hn1];exact hQ⟩⟩
  rw[show(q1==4)=false from k4]at hQ;dsimp only at hQ;refine ai ?_ ?_<;>intro k7<;>conv=>whnf
  rotate_left
  ·rw[show(q1==7)=false from k7]at hQ
   refine⟨hj1,(S3,r3,rf,k),⟨rfl,rfl,rfl,rfl⟩,⟨by dsimp only;omega,by dsimp only;rw[hn1];exact hQ⟩⟩
  rw[show(q1==7)=true from k7]at hQ;dsimp only at hQ
  cases hof:cq K q2 S3 r3 (L.drop k) with
  |none=>rw[hof]at hQ;cases hQ
  |some P=>
   rw[hof]at hQ;refine bK (aG _) av (by kernel_rfl) (L.length-k) [0,1,6,7,8,9,11] (8::iA) (fun i (z:Ss×Rn×Bool)=>[.p (.uY 132 (.bH rS zr.1)),.p (.sl 5 (cP L)),.p (.i .i64 rf),.p (.i .i64 (ix (k+i))),.ptr 8 0,.p (.b z.2.2),.p (.i .i64 (ix j))]) (fun i z=>.cells [.p (.i .i64 q1),.p (.i .i64 q2),.p (.s q3),.p (.i .i64 q4),.p (.i .i64 q5),.p (.s q6),.p (.sl 4 (gT q7)),.p (.sl 4 (gT q8))]::An K z.1 (zr.1+1,(zr.1,z.2.1)::zr.2)) (fun i z=>k+i<=L.length/\(match z.2.2 with|true=>P=(true,z.1,z.2.1,L.drop (k+i))|false=>cq K q2 z.1 z.2.1 (L.drop (k+i))=some P)) (S3,r3,false) ⟨rfl,rfl,rfl,rfl⟩ ⟨hk,hof⟩ ?_;intro i z hi hz;obtain⟨S4,r4,b4⟩:=z;have hz1:=And.left hz;have hz2:=And.right hz;clear hz;dsimp only at hz1 hz2;have hik:ix (k+i)=((k+i:Nat):Int):=kR (by omega)
   cases hd:L.drop (k+i) with
   |nil=>
    have hge:=drop_nil hd;have hlt:decide (ix (k+i)<((cP L).length:Int))=false:=decide_eq_false (by rw[hik,hlen];omega);(conv=>whnf);refine bD hlt ?_;(conv=>whnf)
    cases b4 with
    |true=>
     dsimp only at hz2;subst hz2;(conv=>whnf);refine⟨hj1,(S4,r4,rf,(k+i)),⟨rfl,rfl,rfl,rfl⟩,⟨by dsimp only;omega,by dsimp only;rw[hn1];exact hQ⟩⟩
    |false=>
     dsimp only at hz2;rw[hd,cq]at hz2;cases hz2;cases hQ;(conv=>whnf);have hke:k+i=L.length:=by omega
     rw[hik,hke];refine⟨.inl rfl,by(repeat refine⟨s6,?_⟩);trivial⟩
   |cons v l4=>
    obtain⟨hlt',aF,hdr⟩:=drop_cons hd;obtain⟨sk,vk,vn,vt,va⟩:=v;have hlt:decide (ix (k+i)<((cP L).length:Int))=true:=decide_eq_true (by rw[hik,hlen];omega)
    cases b4 with
    |true=>
     dsimp only at hz2;subst hz2;(conv=>whnf);refine dy hlt ?_;(conv=>whnf);refine⟨hj1,(S4,r4,rf,(k+i)),⟨rfl,rfl,rfl,rfl⟩,⟨by dsimp only;omega,by dsimp only;rw[hn1];exact hQ⟩⟩
    |false=>
     dsimp only at hz2;rw[hd,cq]at hz2;dsimp only at hz2;(conv=>whnf);refine dy hlt ?_;(conv=>whnf);refine bM (xs:=cP L) (k:=k+i) (x:=.agg [.i .i64 sk,.i .i64 vk,.i .i64 vn,.s vt,.sl 4 (gT va)]) (by unfold cP;rw[List.getElem?_map,aF];rfl) (by omega) ?_;(conv=>whnf);refine ai ?_ ?_<;>intro s1<;>conv=>whnf
     ·rw[show(sk==1)=true from s1]at hz2
      dsimp only at hz2;refine ai ?_ ?_<;>intro s2<;>conv=>whnf
      ·rw[show decide (q2>=0)=true from s2]at hz2
       dsimp only at hz2
       cases hlt:tH K r4 with
       |none=>rw[hlt]at hz2;cases hz2
       |some r5=>
        rw[hlt]at hz2;have hls:=Kg K S4 (zr.1+1,(zr.1,r4)::zr.2) zr.1 r4 r5 (aP _ _ _) hlt;dsimp only at hls;rw[dL]at hls;unfold hA at hls;refine bh iA 300 hls ?_;(conv=>whnf);cases hz2;refine⟨by omega,(S4,r5,true),⟨rfl,rfl,rfl,rfl⟩,⟨by omega,(by rw[<-Nat.add_assoc,hdr])⟩⟩
      ·rw[show decide (q2>=0)=false from s2]at hz2
       refine bD (show(!(sk==1))=false by rw[show(sk==1)=true from s1];rfl) ?_;(conv=>whnf);refine⟨by omega,(S4,r4,false),⟨rfl,rfl,rfl,rfl⟩,⟨by omega,(by rw[<-Nat.add_assoc,hdr];exact hz2)⟩⟩
     ·rw[show(sk==1)=false from s1]at hz2
      dsimp only at hz2
      cases hv:lW K S4 r4 (.mk vk vn vt va) with
      |none=>rw[hv]at hz2;cases hz2
      |some V=>
       rw[hv]at hz2;have hvs:=HE K S4 (zr.1+1,(zr.1,r4)::zr.2) zr.1 r4 _ V (aP _ _ _) hv;dsimp only at hvs;rw[dL]at hvs;obtain⟨b,S5,r5⟩:=V;rw[eO]at hvs;unfold hA at hvs;dsimp only at hvs;refine dy (show(!(sk==1))=true by rw[show(sk==1)=false from s1];rfl) ?_;(conv=>whnf);refine bh iA 300 hvs ?_;(conv=>whnf);refine⟨by omega,(S5,r5,b),⟨rfl,rfl,rfl,rfl⟩,⟨by omega,(by rw[<-Nat.add_assoc,hdr];cases b with|true=>cases hz2;rfl|false=>exact hz2)⟩⟩
def EA (Q:Nat->Prop) (z:Ns):Prop:=(∀p∈z.a.2,∀x∈p.2,Q x)/\∀p∈z.b.2,∀x∈p.2,Q x.body
theorem BL {α:Type} {P:α->Prop} {z z':aZ (List α)} {q:Option (Nat×Nat)} {q':Nat×Nat} {c:α} (h:lU z q c=some (z',q')) (hz:∀p∈z.2,∀x∈p.2,P x) (hc:P c):∀p∈z'.2,∀x∈p.2,P x:=by
 unfold lU at h;split at h
 ·cases h
  intro p hp x hx;rcases List.mem_cons.1 hp with rfl|hp
  ·simp at hx;subst hx;exact hc
  ·exact hz p hp x hx
 ·split at h
  ·cases h
  ·rename_i l hl
   split at h
   ·cases h
   ·cases h
    intro p hp x hx;rcases List.mem_cons.1 hp with rfl|hp
    ·rcases List.mem_append.1 hx with hx|hx
     ·exact hz _ (fz hl) x (List.mem_of_mem_take hx)
     ·simp at hx;subst hx;exact hc
    ·exact hz p (zW hp) x hx
def NE (g:TR.Ex->Ns->Option (Ns×Nat)):Prop:=∀e z z' c,g e z=some (z',c)->c=z.n.1/\z.n.1<z'.n.1/\∀Q:Nat->Prop,EA Q z->(∀j,z.n.1<j->j<z'.n.1->Q j)->(e.kind=10->Q z.n.1)->EA Q z'
theorem Hj {g:TR.Ex->Ns->Option (Ns×Nat)} (hg:NE g) (k:Nat):∀(es:List TR.Ex) (z z':Ns),pH g k es z=some z'->z.n.1<=z'.n.1/\∀Q:Nat->Prop,EA Q z->(∀j,z.n.1<=j->j<z'.n.1->Q j)->EA Q z'
 | [],z,z',h=>by cases h;exact⟨Nat.le_refl _,fun _ h _=>h⟩
 |e::r,z,z',h=>by
  rw[pH]at h;split at h
  ·cases h
  split at h
  ·cases h
  rename_i z2 c hg2
  split at h
  ·cases h
  split at h
  ·cases h
  split at h
  ·cases h
  rename_i a3 q hp
  obtain⟨h1,h2,h3⟩:=hg _ _ _ _ hg2;obtain⟨i1,i2⟩:=Hj hg k r _ _ h;have i1:z2.n.1<=z'.n.1:=i1;refine⟨by omega,fun Q hz hQ=>i2 Q ?_ fun j a b=>hQ j (by have:z2.n.1<=j:=a;omega) b⟩;have h4:=h3 Q hz (fun j a b=>hQ j (by omega) (by omega)) (fun _=>hQ _ (Nat.le_refl _) (by omega));exact⟨BL hp h4.1 (h1 ▸ hQ _ (Nat.le_refl _) (by omega)),h4.2⟩
theorem HX {g:TR.Ex->Ns->Option (Ns×Nat)} (hg:NE g) (k:Nat):∀(es:List TR.eZ) (z z':Ns),pz g k es z=some z'->z.n.1<=z'.n.1/\∀Q:Nat->Prop,EA Q z->(∀j,z.n.1<=j->j<z'.n.1->Q j)->EA Q z'
 | [],z,z',h=>by cases h;exact⟨Nat.le_refl _,fun _ h _=>h⟩
 |e::r,z,z',h=>by
  rw[pz]at h;split at h
  ·cases h
  split at h
  ·cases h
  rename_i z2 c hg2
  split at h
  ·cases h
  split at h
  ·cases h
  split at h
  ·cases h
  rename_i a3 q hp
  obtain⟨h1,h2,h3⟩:=hg _ _ _ _ hg2;obtain⟨i1,i2⟩:=HX hg k r _ _ h;have i1:z2.n.1<=z'.n.1:=i1;refine⟨by omega,fun Q hz hQ=>i2 Q ?_ fun j a b=>hQ j (by have:z2.n.1<=j:=a;omega) b⟩;have h4:=h3 Q hz (fun j a b=>hQ j (by omega) (by omega)) (fun _=>hQ _ (Nat.le_refl _) (by omega));exact⟨h4.1,BL (P:=fun x:Ar=>Q x.body) hp h4.2 (by show Q c;rw[h1];exact hQ _ (Nat.le_refl _) (by omega))⟩
theorem xy:∀n,NE (hU n)
 |0=>by intro e z z' c h;cases h
 |n+1=>by
  intro e z z' c h;rw[hU]at h;split at h
  ·cases h
  split at h
  ·cases h
  rename_i z1 hf
  split at h
  ·cases h
  rename_i z2 ha
  split at h
  ·cases h
  rename_i z3 hm
  cases h;obtain⟨a1,a2⟩:=Hj (xy n) _ _ _ _ ha;obtain⟨b1,b2⟩:=HX (xy n) _ _ _ _ hm
  have hz1:z1.n.1=z.n.1+1/\∀Q:Nat->Prop,EA Q z->(e.kind=10->Q z.n.1)->EA Q z1:=by
   unfold JA at hf;split at hf
   ·cases hf;exact⟨rfl,fun Q h _=>h⟩
   ·rename_i hk
    split at hf
    ·cases hf
    split at hf
    ·cases hf
    ·rename_i a2 q hp
     cases hf;rw[Bool.and_eq_true]at hk;exact⟨rfl,fun Q h hq=>⟨BL hp h.1 (hq (eq_of_beq hk.1)),h.2⟩⟩
  obtain⟨hz0,hz1⟩:=hz1;refine⟨rfl,by omega,fun Q hz hQ hk=>?_⟩;exact b2 Q (a2 Q (hz1 Q hz hk) fun j x y=>hQ j (by omega) (by omega)) fun j x y=>hQ j (by omega) y
theorem Jz {α:Type} {es:TM α} {k:ByteArray} {v:α} {e:ByteArray×α} (h:e∈firstT es k v):e∈es\/e=(k,v):=by
 unfold firstT at h;split at h
 ·exact .inl h
 ·rcases List.mem_append.1 h with h|h
  ·exact .inl h
  ·exact .inr (by simpa using h)
def Nz (n:Nat) (es:TM Fn):Prop:=∀e∈es,e.2.body<n
theorem CJ:∀(l:List TR.Ac) (z z':Ns) (es es':TM Fn),mA l z es=some (z',es')->z.n.1<=z'.n.1/\(Nz z.n.1 es->Nz z'.n.1 es')/\∀Q:Nat->Prop,EA Q z->(∀j,z.n.1<=j->j<z'.n.1->Q j)->EA Q z'
 | [],z,z',es,es',h=>by cases h;exact⟨Nat.le_refl _,fun h=>h,fun _ h _=>h⟩
 |f::r,z,z',es,es',h=>by
  rw[mA]at h;split at h
  ·cases h
  rename_i z2 x hf
  unfold GG at hf;split at hf
  ·cases hf
  split at hf
  ·cases hf
  rename_i k hg
  cases hf;obtain⟨h1,h2,h3⟩:=xy _ _ _ _ _ hg;obtain⟨i1,i2,i3⟩:=CJ r _ _ _ _ h;refine⟨by omega,fun hb=>i2 fun e he=>?_,fun Q hz hQ=>i3 Q (h3 Q hz (fun j a b=>hQ j (by omega) (by omega)) fun _=>hQ _ (Nat.le_refl _) (by omega)) fun j a b=>hQ j (by omega) b⟩;rcases Jz he with he|rfl
  ·have:=hb e he;omega
  ·show k<_;omega
theorem DY:∀(l:List TR.xF) (z z':Ns) (m m':aZ (TM Fn)) (i i':aZ (List Im)) (q q':Option (Nat×Nat)),mY l z m i q=some (z',m',i',q')->z.n.1<=z'.n.1/\((∀p∈m.2,Nz z.n.1 p.2)->∀p∈m'.2,Nz z'.n.1 p.2)/\∀Q:Nat->Prop,EA Q z->(∀j,z.n.1<=j->j<z'.n.1->Q j)->EA Q z'
 | [],z,z',m,m',i,i',q,q',h=>by cases h;exact⟨Nat.le_refl _,fun h=>h,fun _ h _=>h⟩
 |x::r,z,z',m,m',i,i',q,q',h=>by
  rw[mY]at h;split at h
  ·cases h
  rename_i z2 es hf
  split at h
  ·cases h
  obtain⟨h1,h2,h3⟩:=CJ _ _ _ _ _ hf;obtain⟨i1,i2,i3⟩:=DY r _ _ _ _ _ _ _ _ h;refine⟨by omega,fun hb=>i2 fun p hp=>?_,fun Q hz hQ=>i3 Q (h3 Q hz fun j a b=>hQ j a (by omega)) fun j a b=>hQ j (by omega) b⟩;rcases List.mem_cons.1 hp with rfl|hp
  ·exact h2 fun e he=>by cases he
  ·exact fun e he=>Nat.lt_of_lt_of_le (hb p hp e he) h1
def O6 (N:Nat) (z:Ns) (p:ByteArray×PF) (e:ByteArray×Fn):Prop:=e.1=p.1/\N<=e.2.body/\e.2.body<z.n.1/\(p.2.2.1.kind≠10->EA (·≠e.2.body) z)
theorem zB {N:Nat} {z:Ns}:∀{fs:TM PF} {es:TM Fn},F2 (O6 N z) fs es->∀k,O2 (fun p f=>O6 N z (k,p) (k,f)) (aV k fs) (aV k es)
 | [],[],_,_=>trivial
 |(a,p)::fs,(b,f)::es,h,k=>by
  obtain⟨⟨h1,h2⟩,h⟩:=h;dsimp only at h1;subst h1;rw[aV,aV]
  cases k==b with
  |true=>exact⟨rfl,h2⟩
  |false=>exact zB h k
theorem IK {N:Nat} {z:Ns} {fs:TM PF} {es:TM Fn} (h:F2 (O6 N z) fs es) (k:ByteArray) {p:PF} {f:Fn} (q:O6 N z (k,p) (k,f)):F2 (O6 N z) (firstT fs k p) (firstT es k f):=by
 have:=zB h k;unfold firstT
 cases e1:aV k fs<;>cases e2:aV k es<;>rw[e1,e2]at this
 ·exact h.app ⟨q,trivial⟩
 ·cases this
 ·cases this
 ·exact h
theorem yV (N:Nat):∀(l:List TR.JN) (z z':Ns) (o:Nat) (pes:TM PF) (es es':TM Fn),jV l z es=some (z',es')->N<=z.n.1->EA (· < z.n.1) z->F2 (O6 N z) pes es->F2 (O6 N z') (Lz (l.map lA) o pes) es'
 | [],z,z',o,pes,es,es',h,_,_,q=>by cases h;exact q
 |f::r,z,z',o,pes,es,es',h,hN,hE,q=>by
  rw[jV]at h;split at h
  ·cases h
  rename_i z2 x hf
  unfold Pz at hf;split at hf
  ·cases hf
  split at hf
  ·cases hf
  rename_i k hg
  cases hf;obtain⟨h1,h2,h3⟩:=xy _ _ _ _ _ hg;subst h1;refine yV N r _ _ _ _ _ _ h (by omega) (h3 _ ⟨fun p hp x hx=>by have:=hE.1 p hp x hx;dsimp only at this ⊢;omega,fun p hp x hx=>by have:=hE.2 p hp x hx;dsimp only at this ⊢;omega⟩ (fun j _ a=>a) fun _=>h2) ?_;refine IK (q.mono fun a b hab=>⟨hab.1,hab.2.1,by have:=hab.2.2.1;omega,fun hk=>?_⟩) _ ⟨rfl,hN,h2,fun hk=>?_⟩
  ·exact h3 _ ⟨fun p hp x hx=>by have:=hE.1 p hp x hx;show x≠z.n.1;dsimp only at this;omega,fun p hp x hx=>by have:=hE.2 p hp x hx;show x.body≠z.n.1;dsimp only at this;omega⟩ (fun j _ _=>by show j≠z.n.1;omega) fun e=>absurd e hk
  ·have hb:=hab.2.2.1
   exact h3 _ (hab.2.2.2 hk) (fun j _ _=>by show j≠b.2.body;omega) fun _=>by show z.n.1≠b.2.body;omega
theorem Dx {α:Type} {k:ByteArray} {v:α}:∀{es:TM α},aV k es=some v->∃a,(a,v)∈es
 |(a,w)::r,h=>by
  rw[aV]at h
  cases hb:k==a with
  |true=>rw[hb]at h;cases h;exact⟨a,List.mem_cons_self⟩
  |false=>rw[hb]at h;obtain⟨b,hb⟩:=Dx h;exact⟨b,List.mem_cons_of_mem _ hb⟩
theorem DZ {K:Ks} {t y name:ByteArray} {f:Fn}:∀{l:List Im},pq K t y name l=some (some f)->∃q es,aK q K.mf.2=some es/\aV name es=some f
 |x::r,h=>by
  rw[pq]at h;split at h
  ·split at h
   ·cases h
   ·rename_i es he
    exact⟨_,es,he,Option.some.inj h⟩
  ·exact DZ h
theorem JF {K:Ks} {mk:Mk} {name:ByteArray} {xs:List Vl} {f:Fn} (h:pI K mk name xs=some (some f)):∃q es,aK q K.mf.2=some es/\aV name es=some f:=by
 unfold pI at h;split at h
 ·cases h
 rename_i es he
 split at h
 ·rename_i g hg
  cases h;exact⟨_,es,he,hg⟩
 repeat (split at h<;>first|(cases h;done)|skip)
 exact DZ h
theorem Qk:QH K0:=⟨fun _ h=>(by cases h),fun _ h=>(by cases h),fun _ h=>(by cases h),fun _ h=>(by cases h),fun _ h=>(by cases h)⟩
theorem No {p:TR.nX} (h:M6 p) {K':Ks} (hK:newF p K0=some K') {mk:Mk} {es:TM Fn} {fn:Fn} {nd:Nd} {name:ByteArray} (hm:aK 0 K'.mm.2=some mk) (ha:aK mk.actors K'.ma.2=some es) (hf:aV name es=some fn) (hn:aK fn.body K'.n.2=some nd) (hk:nd.kind≠10):Jr K' 0 (·=fn.body):=by
 obtain⟨K2,n1,_,o1⟩:=JW h Qk;rw[hK]at n1;cases n1;obtain⟨z,mk',cs,es',ims,fs,acs,e1,e2,e3,e4,e5,e6,e7,e8,e9,e10,e11,e12,e13,e14,e15,e16,e17⟩:=o1.ex;have hm':aK 0 K'.mm.2=some mk':=e4;rw[hm]at hm';cases hm';rw[ha]at e16;cases e16;have hd:=e17.find name;unfold newF at hK;split at hK
 ·cases hK
 split at hK
 ·cases hK
 rename_i z1 mf1 im1 q i1
 split at hK
 ·cases hK
 rename_i es0 i2
 split at hK
 ·cases hK
 rename_i z2 fs' i3
 split at hK
 ·cases hK
 rename_i z3 acs' i4
 cases hK;obtain⟨l1,l2,l3⟩:=DY _ _ _ _ _ _ _ _ _ i1;obtain⟨m1,m2,m3⟩:=CJ _ _ _ _ _ i3
 have hb1:∀p∈mf1.2,Nz z1.n.1 p.2:=l2 fun p hp=>by
  rcases List.mem_cons.1 hp with rfl|hp
  ·intro e he;cases he
  ·cases hp
 have hb2:Nz z2.n.1 fs':=m2 fun e he=>hb1 _ (fz i2) e he;have hE:EA (· < z2.n.1) z2:=m3 _ (l3 _ ⟨fun p hp=>(by cases hp),fun p hp=>(by cases hp)⟩ fun j _ b=>Nat.lt_of_lt_of_le b m1) fun j _ b=>b
 have hacs:acs'=es:=by
  have:aK mk.actors ((0,acs')::([]:List (Nat×TM Fn)))=some es:=ha;have hmk:mk.actors=0:=by have:some (wY K0 z3.fu q)=some mk:=hm;cases this;rfl
  rw[hmk]at this;exact Option.some.inj this
 subst hacs;have hen:=zB (yV z2.n.1 _ _ _ ((nK p.impls).length+(iF (p.funcs.map lF)).length) [] [] _ i4 (Nat.le_refl _) hE trivial) name;rw[hf]at hd hen
 cases hp:aV name (Lz (p.actors.map lA) ((nK p.impls).length+(iF (p.funcs.map lF)).length) []) with
 |none=>rw[hp]at hen;cases hen
 |some P=>
  rw[hp]at hd hen;obtain⟨_,hd⟩:=hd;obtain⟨_,g1,g2,g3⟩:=hen;dsimp only at g1 g2 g3
  have hkind:P.2.1.kind≠10:=by
   unfold AL at hd;cases hP:P.2.1;rw[hP,Am]at hd;obtain⟨nd',_,_,_,d2,d3,_⟩:=hd;rw[<-e1,hn]at d2;cases d2;rw[<-d3.kind];exact hk
  have g3:=g3 hkind;refine⟨fun nd j c hc e=>?_,fun nd l hl x hx e=>?_,fun mk2 name xs f hm2 hq e=>?_⟩
  ·subst e
   unfold jn at hc;split at hc
   ·cases hc
   split at hc
   ·cases hc
   split at hc
   ·cases hc
   rename_i l hl
   exact g3.1 _ (fz hl) _ (List.mem_of_getElem? hc) rfl
  ·unfold uS at hl
   split at hl
   ·cases hl;cases hx
   split at hl
   ·cases hl
   rename_i l' hl'
   split at hl
   ·cases hl
    exact g3.2 _ (fz hl') _ (List.mem_of_mem_take hx) e
   ·cases hl
  ·obtain⟨q,es,s1,s2⟩:=JF hq
   obtain⟨a,s3⟩:=Dx s2;have s4:(q,es)∈bf K0.mf.1 fs' mf1.2:=fz s1
   have:Nz z2.n.1 es:=by
    have key:∀(M:List (Nat×TM Fn)),(∀p∈M,Nz z2.n.1 p.2)->∀p∈bf K0.mf.1 fs' M,Nz z2.n.1 p.2:=by
     intro M
     induction M with
     |nil=>intro _ p hp;cases hp
     |cons x M ih=>
      obtain⟨i,y⟩:=x;intro hM p hp;rw[bf]at hp;split at hp
      ·rcases List.mem_cons.1 hp with rfl|hp
       ·exact hb2
       ·exact hM p (List.mem_cons_of_mem _ hp)
      ·rcases List.mem_cons.1 hp with rfl|hp
       ·exact hM _ List.mem_cons_self
       ·exact ih (fun p hp=>hM p (List.mem_cons_of_mem _ hp)) p hp
    exact key _ (fun p hp e he=>Nat.lt_of_lt_of_le (hb1 p hp e he) m1) _ s4
   have:=this _ s3;dsimp only at this;rw[e]at this;omega
def Qw:Option Nat->Option Nat->Bool
 |none,none=>true
 |some a,some b=>Nat.beq a b
 |_,_=>false
theorem Oo:∀{a b:Option Nat},Qw a b=true->a=b
 |none,none,_=>rfl
 |some a,some b,h=>by rw[Nat.eq_of_beq_eq_true h]
def Bn (S:Ss) (s:List Nat):Ss:={ S with g:=(S.g.1+1,(S.g.1,s)::S.g.2) }
def Ff (S:Ss) (r:Rn):Option (Option (List Ov)×Ss):=match r.mode==1 with
 |false=>some (none,S)
 |true=>match Qw r.pause.n r.body with
  |false=>some (none,S)
  |true=>match Nat.beq (fT r.stack) 0 with
   |false=>some (none,S)
   |true=>match Nat.ble r.state.length 2000000 with
    |false=>none
    |true=>match eD (dw S.c.2 (Ad S.c.2 r.state)) r.state [] with
     |none=>none
     |some (false,s)=>some (none,Bn S s)
     |some (true,s)=>match ia (jd S.c.2 (Ad S.c.2 r.state)) r.state with
      |none=>none
      |some os=>some (some os,Bn S s)
section
variable {K:Ks} {fo:FO} {NR ρ:Nat->Nat->Prop} {m B:Nat} {z:aZ Cl}
theorem yg {f:Vl->Option Ov}:∀{l:List Vl} {os:List Ov},ia f l=some os->os.length=l.length/\∀o∈os,∃v∈l,f v=some o
 | [],_,h=>by cases h;exact⟨rfl,fun o h=>by cases h⟩
 |v::l,os,h=>by
  rw[ia]at h;split at h
  ·cases h
  rename_i o ho
  split at h
  ·cases h
  rename_i os' hos
  cases h;obtain⟨i1,i2⟩:=yg hos;refine⟨by rw[List.length_cons,List.length_cons,i1],fun x hx=>?_⟩;rcases List.mem_cons.1 hx with rfl|hx
  ·exact⟨v,List.mem_cons_self,ho⟩
  ·obtain⟨u,a,b⟩:=i2 x hx
   exact⟨u,List.mem_cons_of_mem _ a,b⟩
theorem qN:∀{l:List Ov},(∀v∈l,xK v)->Ed l
 | [],_=>trivial
 |a::l,h=>⟨h a List.mem_cons_self,qN fun v hv=>h v (List.mem_cons_of_mem _ hv)⟩
theorem Kp (hc:CR fo ρ z z):∀(n:Nat) (v:Vl) (o:Ov),VR fo ρ v v->jd z.2 n v=some o->xK o
 |0,_,_,_,h=>by cases h
 |n+1,.mk k kn t l c,o,hv,h=>by
  obtain⟨ps,_,p1,p2,p3,p4,_⟩:=xD hc hv;have ht:=hv.o.2.2.2.2.2.2.2.1;unfold jd at h;rw[p1]at h p2;cases p2;dsimp only at h;split at h
  ·cases h
  split at h
  ·cases h
  rename_i os hos
  cases h;obtain⟨q1,q2⟩:=yg hos
  have hmem:∀(l:List Vl),qX fo ρ l l->∀v∈l,VR fo ρ v v:=by
   intro l
   induction l with
   |nil=>intro _ v h;cases h
   |cons a l ih=>
    intro h v hv;unfold qX at h;rcases List.mem_cons.1 hv with rfl|hv
    ·exact h.1
    ·exact ih h.2 v hv
  rw[xK];refine⟨ht,by omega,qN fun x hx=>?_⟩;obtain⟨v,hv,e⟩:=q2 x hx;exact Kp hc n v x (hmem _ p3 v hv) e
theorem It:∀{l:List Vl},F2 (VR fo ρ) l l->∀v∈l,VR fo ρ v v
 |a::l,h,v,hv=>by
  rcases List.mem_cons.1 hv with rfl|hv
  ·exact h.1
  ·exact It h.2 v hv
theorem O8 {S:Ss} {r:Rn} (hc:CR fo ρ S.c S.c) (hs:F2 (VR fo ρ) r.state r.state) (hl:r.state.length<=2000000):∃t s,(Ff S r=some (t,S)\/Ff S r=some (t,Bn S s))/\∀os,t=some os->r.mode=1/\r.pause.n=r.body/\fT r.stack=0/\os.length<=2000000/\(∀o∈os,xK o)/\eD (dw S.c.2 (Ad S.c.2 r.state)) r.state []=some (true,s)/\ia (jd S.c.2 (Ad S.c.2 r.state)) r.state=some os:=by
 unfold Ff
 cases hm:r.mode==1 with
 |false=>exact⟨none,[],.inl rfl,fun os e=>by cases e⟩
 |true=>
 cases hp:Qw r.pause.n r.body with
 |false=>exact⟨none,[],.inl rfl,fun os e=>by cases e⟩
 |true=>
 cases hk:Nat.beq (fT r.stack) 0 with
 |false=>exact⟨none,[],.inl rfl,fun os e=>by cases e⟩
 |true=>
 rw[Nat.ble_eq_true_of_le hl];dsimp only;have hD:∀p∈S.c.2,lu p.2.val<=max (Af S.c.2) (nQ r.state):=fun p hp=>by have:=w6 hp;omega
 obtain⟨q,s,t,g1,g2,_⟩:=xj (z:=S.c) (w:=S.c) (f:=dw S.c.2 (Ad S.c.2 r.state)) (g:=dw S.c.2 (Ad S.c.2 r.state)) (U:=un S.c.2 []) (V:=un S.c.2 []) (s:=[]) (t:=[]) hs trivial (Nat.le_refl _) (Nat.le_refl _) fun x y s t hx hy hxy hst k1 k2=>Cp hc hD hD _ _ x y s t hxy hst (by have:=CU (M:=S.c.2) (s:=s) (D:=max (Af S.c.2) (nQ r.state)) rfl hx;exact this) (by have:=CU (M:=S.c.2) (s:=t) (D:=max (Af S.c.2) (nQ r.state)) rfl hy;exact this);rw[g1]
 cases q with
 |false=>exact⟨none,s,.inr rfl,fun os e=>by cases e⟩
 |true=>
  have a1:=nr g1
  obtain⟨os,f1,_,f3⟩:=Cr (f:=jd S.c.2 (Ad S.c.2 r.state)) (g:=jd S.c.2 (Ad S.c.2 r.state)) hs fun x y hx hy hxy=>by
   obtain⟨_,_,a3⟩:=a1 x hx;obtain⟨_,_,b3⟩:=a1 y hy;exact LG hc _ _ x y _ _ _ _ hxy a3 b3
  dsimp only;rw[f1];refine⟨some os,s,.inr rfl,fun os' e=>?_⟩;cases e;refine⟨eq_of_beq hm,Oo hp,Nat.eq_of_beq_eq_true hk,by omega,fun o ho=>?_,rfl,rfl⟩;obtain⟨v,hv,e⟩:=(yg f1).2 o ho;exact Kp hc _ v o (It hs v hv) e
end
theorem Da {K:Ks} {S S1:Ss} {m:Nat} {name:ByteArray} {st:List Ov} {self:Int} {r:Rn} (h:fY K S m name st self=some (S1,.ok r)):∃mk es fn l c2 Q,aK m K.mm.2=some mk/\aK mk.actors K.ma.2=some es/\aV name es=some fn/\st.length=fn.names.length/\kD (fh K m (mg st)) st S.c=some (some l,c2)/\kU fn.names l (S.s,none)=some Q/\S1={ S with c:=c2,s:=Q.1 }/\
 r=oc ⟨m,fn.names,some fn.body,self,[],0,none,⟨none,none,.nil,0,false⟩,zV,⟨0,0,⟨#[]⟩,0,0,⟨#[]⟩,[],[]⟩,⟨none,none,.nil,0,false⟩,none⟩ l Q.2:=by
 unfold fY at h;split at h
 ·cases h
 rename_i mk hmk
 split at h
 ·cases h
 rename_i es hes
 split at h
 ·cases h
 rename_i fn hfn
 split at h
 ·cases h
 rename_i hlen
 split at h
 ·cases h
 split at h
 ·cases h
 ·cases h
 rename_i l c2 hfr
 split at h
 ·cases h
 split at h
 ·cases h
 ·cases h
 split at h
 ·cases h
 rename_i Q hQ
 cases h;exact⟨mk,es,fn,l,c2,Q,hmk,hes,hfn,Nat.eq_of_beq_eq_true hlen,hfr,hQ,rfl,rfl⟩
theorem Gs (z:aZ Cl) (y:aZ (List Nat)) (l:List Vl) (b:Bool) (s:List Nat) (N:Nat) (hl:l.length<=2000000) (hF:eD (dw z.2 N) l []=some (b,s)):
 au Tryz.prog 234 [.p (.sl 5 (bz l))] [(1000000000,kQ z),(1000000001,GA y)] (.p (.b b)) [(1000000000,kQ z),(1000000001,GA (y.1+1,(y.1,s)::y.2))]:=by
 have c1:=qK z y l b s N hl hF;unfold kQ GA at *
 cases b with
 |false=>
  dsimp only[Lv]at c1;refine au.iN av Tryz.func234 rfl (by rfl) (by kernel_rfl) rfl rfl ?_;(conv=>whnf);refine bh [1000000000,1000000001] 300 c1 ?_;(conv=>whnf);refine⟨.inl rfl,⟨s6,s6,trivial⟩⟩
 |true=>
  dsimp only[Lv]at c1;refine au.iN av Tryz.func234 rfl (by rfl) (by kernel_rfl) rfl rfl ?_;(conv=>whnf);refine bh [1000000000,1000000001] 300 c1 ?_;(conv=>whnf);refine⟨.inl rfl,⟨s6,s6,trivial⟩⟩
theorem Kj (K:Ks) (S S':Ss) (zr:aZ Rn) (k:Nat) (r:Rn) (t:Option (List Ov)) (hr:aK k zr.2=some r) (hm:r.mode=1) {a b:Nat} {x y:Nd} (ha:r.pause.n=some a) (hx:aK a K.n.2=some x) (hb:r.body=some b) (hy:aK b K.n.2=some y) (hF:Ff S r=some (t,S')):
 au Tryz.prog 229 [.p (.bH rS k)] (hA K S zr) (.cI [.p (.sl 4 (gT (t.getD []))),.p (.b t.isSome)]) (hA K S' zr):=by
 unfold Ff at hF;obtain⟨r1,r2,r3,r4,r5,r6,r7,⟨c1,c2,c3,c4,c5⟩,⟨wk,wn,wt,wa,wc⟩,⟨o1,o2,o3,o4,o5,o6,o7,o8⟩,⟨p1,p2,p3,p4,p5⟩,r12⟩:=r;dsimp only at hF hm ha hb;subst hm;subst ha;subst hb;rw[show((1:Int)==1)=true from rfl]at hF;dsimp only[Qw]at hF
 cases he:Nat.beq a b with
 |false=>
  rw[he]at hF;cases hF;unfold hA gW;refine au.iN av Tryz.func229 rfl (by rfl) (by kernel_rfl) rfl rfl ?_;(conv=>whnf);refine bw cj hr rfl ?_;(conv=>whnf);refine bw cj hr rfl ?_;(conv=>whnf);refine bw cj hr rfl ?_;(conv=>whnf);refine⟨⟨rfl,rfl,by decide,by rw[aj hx];rfl,by rw[aj hy];rfl⟩,?_⟩;(conv=>whnf);refine dy (show(!(Nat.beq a b))=true by rw[he];rfl) ?_;(conv=>whnf);refine ag (.inl (by kernel_rfl)) ?_;(conv=>whnf);refine⟨.inl rfl,by(repeat refine⟨s6,?_⟩);trivial⟩
 |true=>
 rw[he]at hF;have he:=Nat.eq_of_beq_eq_true he;subst he;dsimp only at hF
 cases hk:Nat.beq (fT r7) 0 with
 |false=>
  rw[hk]at hF;cases hF;unfold hA gW;rcases r7 with _|⟨q,_|n⟩
  ·cases hk
  ·cases hk
  refine au.iN av Tryz.func229 rfl (by rfl) (by kernel_rfl) rfl rfl ?_;(conv=>whnf);refine bw cj hr rfl ?_;(conv=>whnf);refine bw cj hr rfl ?_;(conv=>whnf);refine bw cj hr rfl ?_;(conv=>whnf);refine⟨⟨rfl,rfl,by decide,by rw[aj hx];rfl,by rw[aj hy];rfl⟩,?_⟩;(conv=>whnf);refine bD (show(!(Nat.beq a a))=false by rw[Nat.beq_refl];rfl) ?_;(conv=>whnf);refine bw cj hr rfl ?_;(conv=>whnf);refine dy (show decide (((n+1:Nat):Int)>0)=true from decide_eq_true (by omega)) ?_;(conv=>whnf);refine ag (.inl (by kernel_rfl)) ?_;(conv=>whnf);refine⟨.inl rfl,by(repeat refine⟨s6,?_⟩);trivial⟩
 |true=>
 rw[hk]at hF;dsimp only at hF
 cases hb:Nat.ble r5.length 2000000 with
 |false=>rw[hb]at hF;cases hF
 |true=>
 rw[hb]at hF;have hl:=Nat.le_of_ble_eq_true hb;dsimp only at hF
 cases hg:eD (dw S.c.2 (Ad S.c.2 r5)) r5 [] with
 |none=>rw[hg]at hF;cases hF
 |some G=>
 obtain⟨b,s⟩:=G;rw[hg]at hF;have c1:=Gs S.c S.g r5 b s _ hl hg
 have hr7:r7=none\/∃q,r7=some (q,0):=by
  rcases r7 with _|⟨q,_|n⟩
  ·exact .inl rfl
  ·exact .inr ⟨q,rfl⟩
  ·cases hk
 cases b with
 |false=>
  cases hF;unfold hA gW;unfold Bn;rcases hr7 with rfl|⟨q,rfl⟩
  ·refine au.iN av Tryz.func229 rfl (by rfl) (by kernel_rfl) rfl rfl ?_
   (conv=>whnf);refine bw cj hr rfl ?_;(conv=>whnf);refine bw cj hr rfl ?_;(conv=>whnf);refine bw cj hr rfl ?_;(conv=>whnf);refine⟨⟨rfl,rfl,by decide,by rw[aj hx];rfl,by rw[aj hy];rfl⟩,?_⟩;(conv=>whnf);refine bD (show(!(Nat.beq a a))=false by rw[Nat.beq_refl];rfl) ?_;(conv=>whnf);refine bw cj hr rfl ?_;(conv=>whnf);refine bw cj hr rfl ?_;(conv=>whnf);refine bh [1000000008,1000000015] 300 c1 ?_;(conv=>whnf);refine ag (.inl (by kernel_rfl)) ?_;(conv=>whnf);refine⟨.inl rfl,by(repeat refine⟨s6,?_⟩);trivial⟩
  ·refine au.iN av Tryz.func229 rfl (by rfl) (by kernel_rfl) rfl rfl ?_
   (conv=>whnf);refine bw cj hr rfl ?_;(conv=>whnf);refine bw cj hr rfl ?_;(conv=>whnf);refine bw cj hr rfl ?_;(conv=>whnf);refine⟨⟨rfl,rfl,by decide,by rw[aj hx];rfl,by rw[aj hy];rfl⟩,?_⟩;(conv=>whnf);refine bD (show(!(Nat.beq a a))=false by rw[Nat.beq_refl];rfl) ?_;(conv=>whnf);refine bw cj hr rfl ?_;(conv=>whnf);refine bw cj hr rfl ?_;(conv=>whnf);refine bh [1000000008,1000000015] 300 c1 ?_;(conv=>whnf);refine ag (.inl (by kernel_rfl)) ?_;(conv=>whnf);refine⟨.inl rfl,by(repeat refine⟨s6,?_⟩);trivial⟩
 |true=>
 dsimp only at hF
 cases hv:ia (jd S.c.2 (Ad S.c.2 r5)) r5 with
 |none=>rw[hv]at hF;cases hF
 |some os=>
  rw[hv]at hF;cases hF;have c2:=wv S.c (Ad S.c.2 r5) r5 os hl hv;unfold hA gW;unfold Bn;rcases hr7 with rfl|⟨q,rfl⟩
  ·refine au.iN av Tryz.func229 rfl (by rfl) (by kernel_rfl) rfl rfl ?_
   (conv=>whnf);refine bw cj hr rfl ?_;(conv=>whnf);refine bw cj hr rfl ?_;(conv=>whnf);refine bw cj hr rfl ?_;(conv=>whnf);refine⟨⟨rfl,rfl,by decide,by rw[aj hx];rfl,by rw[aj hy];rfl⟩,?_⟩;(conv=>whnf);refine bD (show(!(Nat.beq a a))=false by rw[Nat.beq_refl];rfl) ?_;(conv=>whnf);refine bw cj hr rfl ?_;(conv=>whnf);refine bw cj hr rfl ?_;(conv=>whnf);refine bh [1000000008,1000000015] 300 c1 ?_;(conv=>whnf);refine ag (.inl (by kernel_rfl)) ?_;(conv=>whnf);refine bw cj hr rfl ?_;(conv=>whnf);refine bh [1000000008] 300 c2 ?_;(conv=>whnf);refine⟨.inl rfl,by(repeat refine⟨s6,?_⟩);trivial⟩
  ·refine au.iN av Tryz.func229 rfl (by rfl) (by kernel_rfl) rfl rfl ?_
   (conv=>whnf);refine bw cj hr rfl ?_;(conv=>whnf);refine bw cj hr rfl ?_;(conv=>whnf);refine bw cj hr rfl ?_;(conv=>whnf);refine⟨⟨rfl,rfl,by decide,by rw[aj hx];rfl,by rw[aj hy];rfl⟩,?_⟩;(conv=>whnf);refine bD (show(!(Nat.beq a a))=false by rw[Nat.beq_refl];rfl) ?_;(conv=>whnf);refine bw cj hr rfl ?_;(conv=>whnf);refine bw cj hr rfl ?_;(conv=>whnf);refine bh [1000000008,1000000015] 300 c1 ?_;(conv=>whnf);refine ag (.inl (by kernel_rfl)) ?_;(conv=>whnf);refine bw cj hr rfl ?_;(conv=>whnf);refine bh [1000000008] 300 c2 ?_;(conv=>whnf);refine⟨.inl rfl,by(repeat refine⟨s6,?_⟩);trivial⟩
theorem lC (l:List gV):(cP l).length=l.length:=by simp[cP]
theorem EC (l:List gV) (h:l.length<=2000000):aU Tryz.prog 22 [.p (.sl 5 (cP l))] (.so 5 (cP l)):=by
 cases l with
 |nil=>
  refine aU.ED (pre:=[]) (post:=[]) (sz:=5) ?_ ?_
  ·refine aU.iN av Tryz.func22 rfl (by rfl) (by kernel_rfl) rfl rfl ?_
   (conv=>whnf);exact .inl rfl
  ·refine aU.iN av Tryz.func22 rfl (by rfl) (by kernel_rfl) rfl rfl ?_
   (conv=>whnf);refine ag (by decide) ?_;(conv=>whnf);exact .inl rfl
 |cons a r=>
  refine aU.iN av Tryz.func22 rfl (by rfl) (by kernel_rfl) rfl rfl ?_;(conv=>whnf);refine ag (show(([]:List PV).length+(cP (a::r)).length)*64<=140737488355328 by rw[lC];simp at h ⊢;omega) ?_;(conv=>whnf);exact .inl rfl
def OV (l:List Ou):Nat:=(l.filter fun o=>o.kind==4).length
theorem JQ (l:List Ou) (o:Ou):OV (l++[o])=OV l+(match o.kind==4 with|true=>1|false=>0):=by
 unfold OV;rw[List.filter_append,List.length_append];cases h:o.kind==4<;>simp[List.filter,h]
theorem OC (l:List Ou):OV l<=l.length:=List.length_filter_le _ _
theorem KS {l:List Ou} (h:OV l=0):∀x∈l,x.kind≠4:=fun x hx e=>by
 have:x∈l.filter fun o=>o.kind==4:=List.mem_filter.2 ⟨hx,by rw[e];rfl⟩;unfold OV at h;rw[List.length_eq_zero_iff.1 h]at this;cases this
theorem htk (l:List gV):List.drop (Int.toNat 0) (List.take (l.length:Int).toNat (cP l))=cP l:=by rw[Int.toNat_natCast,<-lC l,List.take_length];rfl
theorem Jh (l m:List gV):cP (l++m)=cP l++cP m:=by simp[cP]
theorem DR {zr:aZ Rn} {r:Rn} (h:aK 0 zr.2=some r) (hz:0<zr.1):∀x:Option Rn,aK 0 (DC zr x).2=some r/\0<(DC zr x).1
 |none=>⟨h,hz⟩
 |some q=>⟨by show aK 0 ((zr.1,q)::zr.2)=_;rw[ig (by omega)];exact h,Nat.succ_pos _⟩
theorem qh (K:Ks) (S:Ss) (zr:aZ Rn) (m:Nat) (name:ByteArray) (st:List Ov) (l:List gV) (R:Option (List Ou)) (S':Ss) (r':Option Rn) (h:ir K S m name st [] l=some (R,S',r')):
 au Tryz.prog 13 [.p (.uY 35 (.bH mS m)),.p (.s name),.p (.sl 4 (gT st)),.p (.sl 1 []),.p (.sl 5 (cP l))] (hA K S zr) (CK R) (hA K S' (DC zr r')):=by
 unfold ir at h
 cases hm:fY K S m name st 7 with
 |none=>rw[hm]at h;cases h
 |some P=>
  obtain⟨S1,e|r⟩:=P
  ·rw[hm]at h
   cases h;exact JK K S zr m name st [] l _ e (D6 hm) hm
  ·rw[hm]at h
   dsimp only at h
   cases hp:gP K [] 60001 0 S1 r 1000 0 l [] with
   |none=>rw[hp]at h;cases h
   |some Q=>
    rw[hp]at h;obtain⟨R0,S2,r2⟩:=Q;cases h;exact zX K S zr m name st l _ r (R,S',r2) hm hp
def MT (ev:Value) (p:TR.nX) (name:ByteArray) (st:List Ov) (l more:List gV) (K:Ks) (S:Ss) (z:aZ Rn):Prop:=au Tryz.prog 10 [.p (TR.iY p),.p (.s name),.p (.sl 4 (gT st)),.p (.sl 5 (cP l)),.p (.sl 5 (cP more))] (PA.hE ev++NB K0 S0 (0,[])) (.p (.b true)) (PA.hE ev++NB K S z)
theorem I7 (ev:Value) (p:TR.nX) (name:ByteArray) (st:List Ov) (l more:List gV)
 (hs:au Tryz.prog 17 [.p (TR.iY p)] [] (.p (.b false)) []):MT ev p name st l more K0 S0 (0,[]):=by
 obtain⟨pn,pv,pu,pd,pt,pi',pf,pa⟩:=p;unfold MT;unfold PA.hE NB TR.iY at *;refine au.iN av Tryz.func10 rfl (by rfl) (by kernel_rfl) rfl rfl ?_;(conv=>whnf);refine bh [] 500 hs ?_;(conv=>whnf);exact⟨.inl rfl,⟨rfl,rfl⟩,by(repeat refine⟨s6,?_⟩);trivial⟩
theorem Mq (ev:Value) (p:TR.nX) (name:ByteArray) (st:List Ov) (l more:List gV) (K1:Ks) (S1:Ss) (e:Int) (he:(e==0)=false)
 (hs:au Tryz.prog 17 [.p (TR.iY p)] [] (.p (.b true)) [])
 (hm:au Tryz.prog 11 [] (PA.hE ev) (.p (.b true)) (PA.hE ev))
 (n1:newF p K0=some K1) (m1:fY K1 S0 0 name st 7=some (S1,.error e)):MT ev p name st l more K1 S1 (0,[]):=by
 have hn1:=tv K0 p K1 n1;have hmk:=mo K1 S0 (0,[]) 0 name st 7 _ m1;clear n1 m1;obtain⟨pn,pv,pu,pd,pt,pi',pf,pa⟩:=p;unfold MT;unfold PA.hE at *;unfold NB TR.iY hK hA at *;dsimp only[Bf,Bl,Ny,CK]at *;refine au.iN av Tryz.func10 rfl (by rfl) (by kernel_rfl) rfl rfl ?_;(conv=>whnf);refine bh [] 500 hs ?_;(conv=>whnf);refine bh [1000000000] 500 hm ?_;(conv=>whnf);refine bh [1000000003,1000000004,1000000005,1000000010,1000000011,1000000012,1000000013,1000000014,1000000015] 500 hn1 ?_;(conv=>whnf);refine bh iD 500 hmk ?_;(conv=>whnf);refine dy (show(!(e==0))=true by rw[he];rfl) ?_;(conv=>whnf);exact⟨.inl rfl,⟨rfl,rfl⟩,by(repeat refine⟨s6,?_⟩);trivial⟩
theorem OK (ev:Value) (p:TR.nX) (name:ByteArray) (st:List Ov) (l more:List gV) (hl:l.length<=2000000) (K1:Ks) (S1 S2:Ss) (r r2:Rn)
 (hs:au Tryz.prog 17 [.p (TR.iY p)] [] (.p (.b true)) [])
 (hm:au Tryz.prog 11 [] (PA.hE ev) (.p (.b true)) (PA.hE ev))
 (n1:newF p K0=some K1) (m1:fY K1 S0 0 name st 7=some (S1,.ok r)) (w1:pE K1 200 S1 r 1000 l=some (false,S2,r2)):MT ev p name st l more K1 S2 (1,[(0,r2)]):=by
 have hn1:=tv K0 p K1 n1;have hmk:=mo K1 S0 (0,[]) 0 name st 7 _ m1;have hw:=uh K1 S1 (0,[]) r l hl _ w1;clear n1 m1 w1;obtain⟨pn,pv,pu,pd,pt,pi',pf,pa⟩:=p;unfold MT;unfold PA.hE at *;unfold NB TR.iY hK hA at *;dsimp only[Bf,Bl,Ny,CK]at *;refine au.iN av Tryz.func10 rfl (by rfl) (by kernel_rfl) rfl rfl ?_;(conv=>whnf);refine bh [] 500 hs ?_;(conv=>whnf);refine bh [1000000000] 500 hm ?_;(conv=>whnf);refine bh [1000000003,1000000004,1000000005,1000000010,1000000011,1000000012,1000000013,1000000014,1000000015] 500 hn1 ?_;(conv=>whnf);refine bh iD 500 hmk ?_;(conv=>whnf);refine bh iD 500 hw ?_;(conv=>whnf);exact⟨.inl rfl,⟨rfl,rfl⟩,by(repeat refine⟨s6,?_⟩);trivial⟩
theorem Hl (ev:Value) (p:TR.nX) (name:ByteArray) (st:List Ov) (l more:List gV) (hl:l.length<=1048576) (hl2:more.length<=1048576) (K1:Ks) (S1 S2 S3 S4 S5:Ss) (r r2:Rn) (Ra Rf:Option (List Ou)) (ra rf:Option Rn) (t:Option (List Ov))
 (hs:au Tryz.prog 17 [.p (TR.iY p)] [] (.p (.b true)) [])
 (hm:au Tryz.prog 11 [] (PA.hE ev) (.p (.b true)) (PA.hE ev))
 (n1:newF p K0=some K1) (m1:fY K1 S0 0 name st 7=some (S1,.ok r)) (w1:pE K1 200 S1 r 1000 l=some (true,S2,r2))
 (p1:ir K1 S2 0 name st [] (l++more)=some (Ra,S3,ra)) (p2:ir K1 S3 0 name st [] l=some (Rf,S4,rf))
 (hmd:r2.mode=1) {a b:Nat} {x y:Nd} (ha:r2.pause.n=some a) (hx:aK a K1.n.2=some x) (hb:r2.body=some b) (hy:aK b K1.n.2=some y) (ht:Ff S4 r2=some (t,S5))
 (S6 S':Ss) (z':aZ Rn) (Rr:Option (List Ou)) (rr:Option Rn)
 (hc:((Ra=none\/Rf=none\/t=none\/Rf=some [])/\S'=S5/\z'=DC (DC (1,[(0,r2)]) ra) rf)\/∃xa xf top,Ra=some xa/\Rf=some xf/\t=some top/\S'=S6/\z'=DC (DC (DC (1,[(0,r2)]) ra) rf) rr/\xf≠[]/\ir K1 S5 0 name top [] more=some (Rr,S6,rr)/\xf.length<=2000000/\xa.length<=2000000/\∀xr,Rr=some xr->rP 0 xr/\((∀x∈xf,x.kind≠4)->xf.length-1<=xa.length/\xa.drop (xf.length-1)=xr)):MT ev p name st l more K1 S' z':=by
 have hn1:=tv K0 p K1 n1;have hmk:=mo K1 S0 (0,[]) 0 name st 7 _ m1;have hw:=uh K1 S1 (0,[]) r l (by omega) _ w1;have q1:=qh K1 S2 (1,[(0,r2)]) 0 name st (l++more) Ra S3 ra p1;have q2:=qh K1 S3 (DC (1,[(0,r2)]) ra) 0 name st l Rf S4 rf p2;have hk1:=DR (zr:=(1,[(0,r2)])) (r:=r2) rfl Nat.zero_lt_one ra;have hk2:=DR hk1.1 hk1.2 rf;have q3:=Kj K1 S4 S5 _ 0 r2 t hk2.1 hmd ha hx hb hy ht;have hcl:=EC l (by omega);have htk:=htk l;rw[Jh]at q1;clear n1 m1 w1 p1 p2 ht hk1 hk2;have hc2:=fun top=>qh K1 S5 (DC (DC (1,[(0,r2)]) ra) rf) 0 name top more Rr S6 rr;generalize DC (DC (DC (1,[(0,r2)]) ra) rf) rr=z5 at *;generalize DC (DC (1,[(0,r2)]) ra) rf=z4 at *;generalize DC (1,[(0,r2)]) ra=z3 at *;obtain⟨pn,pv,pu,pd,pt,pi',pf,pa⟩:=p;unfold MT;unfold PA.hE at *;unfold NB TR.iY hK hA at *;dsimp only[Bf,Bl,Ny,CK]at *;refine au.iN av Tryz.func10 rfl (by rfl) (by kernel_rfl) rfl rfl ?_;(conv=>whnf);refine bh [] 500 hs ?_;(conv=>whnf);refine bh [1000000000] 500 hm ?_;(conv=>whnf);refine bh [1000000003,1000000004,1000000005,1000000010,1000000011,1000000012,1000000013,1000000014,1000000015] 500 hn1 ?_;(conv=>whnf);refine bh iD 500 hmk ?_;(conv=>whnf);refine bh iD 500 hw ?_;(conv=>whnf);refine ag ⟨by decide,by omega,by rw[lC];omega⟩ ?_;(conv=>whnf);rw[htk];refine kK hcl ?_;(conv=>whnf);refine ag (show((cP l).length+(cP more).length)*64<=140737488355328 by rw[lC,lC];omega) ?_;(conv=>whnf);refine bh iD 500 q1 ?_;(conv=>whnf);refine ag ⟨by decide,by omega,by rw[lC];omega⟩ ?_;(conv=>whnf);rw[htk];refine bh iD 500 q2 ?_;(conv=>whnf);refine bh iD 500 q3 ?_;(conv=>whnf);rcases hc with⟨hc,rfl,rfl⟩|⟨xa,xf,top,rfl,rfl,rfl,rfl,rfl,hne,p3,hlf,hla,hfin⟩
 ·rcases Ra with _|xa
  ·conv=>whnf
   exact⟨.inl rfl,⟨rfl,rfl⟩,by(repeat refine⟨s6,?_⟩);trivial⟩
  rcases Rf with _|xf
  ·conv=>whnf
   exact⟨.inl rfl,⟨rfl,rfl⟩,by(repeat refine⟨s6,?_⟩);trivial⟩
  rcases t with _|top
  ·conv=>whnf
   exact⟨.inl rfl,⟨rfl,rfl⟩,by(repeat refine⟨s6,?_⟩);trivial⟩
  have hc:xf=[]:=by
   rcases hc with h|h|h|h
   ·cases h
   ·cases h
   ·cases h
   ·cases h;rfl
  subst hc;(conv=>whnf);exact⟨.inl rfl,⟨rfl,rfl⟩,by(repeat refine⟨s6,?_⟩);trivial⟩
 have q4:=hc2 top p3;have hlen:∀l:List Ou,(nY l).length=l.length:=fun l=>by simp[nY]
 have hfl:1<=xf.length:=by cases xf with|nil=>exact absurd rfl hne|cons _ _=>simp
 (conv=>whnf);refine bD (show(((nY xf).length:Int)==0)=false by rw[hlen,beq_eq_false_iff_ne];omega) ?_;(conv=>whnf);refine bh iD 500 q4 ?_;(conv=>whnf);rcases Rr with _|xr
 ·conv=>whnf
  exact⟨.inl rfl,⟨rfl,rfl⟩,by(repeat refine⟨s6,?_⟩);trivial⟩
 obtain⟨hgo,hfin⟩:=hfin xr rfl;have hso:=IU xr (by have:=hgo.2;omega) hgo.1;(conv=>whnf);refine bK (aG _) av (by kernel_rfl) xf.length [16,18,22,24,113,114,115] iC (fun j (c:Nat)=>[.p (.sl 8 (nY xa)),.p (.sl 8 (nY xf)),.p (.sl 8 (nY xr)),.p (.i .i64 (ix c)),.p (.sl 8 (nY xf)),.p (.i .i64 ((nY xf).length:Int)),.p (.i .i64 (ix j))]) (fun _ _=>.bJ 2 [ev]::An K1 S' z') (fun j c=>j<=xf.length/\c=OV (xf.take j)) 0 ⟨rfl,rfl,rfl,rfl⟩ ⟨by omega,rfl⟩ ?_;intro j c hj hz;obtain⟨hj2,hc⟩:=hz;have hij:ix j=(j:Int):=kR (by omega);have hcl2:c<=xf.length:=by rw[hc];exact Nat.le_trans (OC _) (by simp;omega)
 have hic:ix c=(c:Int):=kR (by omega);(conv=>whnf);refine ai ?_ ?_<;>intro h1<;>conv=>whnf
 ·have hjl:j<xf.length:=by have:=of_decide_eq_true h1;rw[hij,hlen]at this;omega
  obtain⟨o,ho⟩:∃o,xf[j]?=some o:=⟨_,List.getElem?_eq_getElem hjl⟩
  have hsn:=JQ (xf.take j) o;rw[<-cF ho,<-hc]at hsn;obtain⟨o1,o2,o3,o4,o5,o6,o7,o8⟩:=o;refine bM (xs:=nY xf) (k:=j) (x:=.agg [.i .i64 o1,.i .i64 o2,.s o3,.i .i64 o4,.i .i64 o5,.s o6,.sl 4 (gT o7),.sl 4 (gT o8)]) (by unfold nY;rw[List.getElem?_map,ho];rfl) (by omega) ?_;(conv=>whnf);refine ai ?_ ?_<;>intro h2<;>conv=>whnf
  ·rw[show(o1==4)=true from h2]at hsn
   exact⟨hjl,c+1,⟨rfl,rfl,rfl,rfl⟩,⟨hjl,hsn.symm⟩⟩
  ·rw[show(o1==4)=false from h2]at hsn
   exact⟨hjl,c,⟨rfl,rfl,rfl,rfl⟩,⟨hjl,hsn.symm⟩⟩
 have hjl:j=xf.length:=by have:=of_decide_eq_false h1;rw[hij,hlen]at this;omega
 rw[hjl,List.take_length]at hc;refine ai ?_ ?_<;>intro h3<;>conv=>whnf
 ·conv=>whnf
  exact⟨.inl rfl,⟨rfl,rfl⟩,by(repeat refine⟨s6,?_⟩);trivial⟩
 have hc0:c=0:=by have:=of_decide_eq_false h3;rw[hic]at this;omega
 obtain⟨f1,f2⟩:=hfin (KS (hc ▸ hc0));have hw1:IntKind.i64.wrap (((nY xf).length:Int)-1)=((xf.length-1:Nat):Int):=by rw[hlen,wrap64 (by omega) (by omega)];omega
 have hdr:List.drop (IntKind.i64.wrap (((nY xf).length:Int)-1)).toNat (List.take ((nY xa).length:Int).toNat (nY xa))=nY xr:=by
  rw[hw1,Int.toNat_natCast,Int.toNat_natCast,List.take_length,<-f2];unfold nY;rw[List.map_drop]
 refine dy (show decide (((nY xa).length:Int)>=IntKind.i64.wrap (((nY xf).length:Int)-1))=true from decide_eq_true (by rw[hw1,hlen];omega)) ?_;(conv=>whnf);refine ag ⟨by rw[hw1];omega,by rw[hw1,hlen];omega,by omega⟩ ?_;(conv=>whnf);rw[hdr];refine kK hso ?_;(conv=>whnf);exact⟨.inl rfl,⟨rfl,rfl⟩,by(repeat refine⟨s6,?_⟩);trivial⟩
end MN
