/- Contracts, and the law, for every input. No conditions. -/
import Derived.Test.YtdmopjgjhfhfdaaGreatDoorRL6
set_option linter.all false
set_option maxRecDepth 100000
open Go Go.AM Go.Proofs TK
namespace MN
section
variable {K1 K2:Ks} {fo:FO} {NR:Nat->Nat->Prop} {ρ ρ':Nat->Nat->Prop} {S T S' T':Ss} {m1 m2 B:Nat} {A C:List Nat} {r q:Rn} {f g:Fr} {n m:Nd} {xs ys:List Vl}
theorem gY {k:Int} {c:Int} (nd:ND K1 K2 fo NR n m) (hk:n.kind=k) (h:∀l,TR.ei k n.num l=c) (hle:¬(fT n.args:Int)<n.needs):c<=fT n.args/\n.needs=c:=by
 have:=nd.needs;rw[hk,h]at this;omega
theorem I3 (kr:KR K1 K2 fo NR m1 m2) (h:Inv K1 fo NR ρ S T m1 m2 B [] [] r q) (z:Z r q) (hf:mC fo NR ρ S' T' f g) (hs:ER fo ρ S.s.2 T.s.2 f.sc g.sc) (hk:∀n,cW K1 f=some n->n.kind=7/\¬(fT n.args:Int)<n.needs) (hx:F2 (VR fo ρ) xs ys) (hl:1<=xs.length):
 tj K1 K2 fo NR ρ m1 m2 B (mT K1 S r f xs) (mT K2 T q g ys):=by
 obtain⟨n,m,h1,h2,nd⟩:=oH kr hf;obtain⟨hk,hle⟩:=hk n h1
 cases xs with
 |nil=>simp at hl
 |cons v xs=>
 cases ys with
 |nil=>cases hx
 |cons w ys=>
  obtain⟨e1,e2,_⟩:=hx.1.o;unfold mT;rw[h1,h2];dsimp only;rw[<-e1,<-e2]
  cases v.kind==3 with
  |false=>exact dG h _
  |true=>
   have:=gY nd hk (c:=3) (fun _=>rfl) hle;obtain⟨c,d,a1,a2,a3⟩:=nd.args (EL v.num) (by unfold EL;cases v.num==0<;>dsimp only<;>omega);dsimp only;rw[a1,a2];exact xG h z a3 hs hf.dep hf.inF
def N1 (K1:Ks) (fo:FO) (NR:Nat->Nat->Prop) (ρ:Nat->Nat->Prop) (m1 m2 B:Nat) (S T:Ss) (r q:Rn) (f g:Fr) (x y:Option (Bool×Ss×Rn)):Prop:=
 ∃b sS sT rr qq,x=some (b,{ S with s:=sS },rr)/\y=some (b,{ T with s:=sT },qq)/\Inv K1 fo NR ρ { S with s:=sS } { T with s:=sT } m1 m2 B [] [] r q/\SE S.s sS/\SE T.s sT/\
  ((b=false/\rr=r/\qq=q)\/(b=true/\∃c d s t,rr=kJ r c f s/\qq=kJ q d g t/\(NR c d/\¬fo.rt c)/\ER fo ρ sS.2 sT.2 s t))
theorem Kq {v w:Vl} (hv:VR fo ρ v w) (l:List Ar):∀{k:List Ar} {S T:Ss},F2 (fun x y=>y.pat=x.pat/\TR.wP x.pat<=2000000/\NR x.body y.body/\¬fo.rt x.body) l k->Inv K1 fo NR ρ S T m1 m2 B [] [] r q->ER fo ρ S.s.2 T.s.2 f.sc g.sc->
 N1 K1 fo NR ρ m1 m2 B S T r q f g (kV f v l S r) (kV g w k T q):=by
 induction l with
 |nil=>
  intro k S T hl h hs
  cases k with
  |cons=>cases hl
  |nil=>exact⟨false,S.s,T.s,r,q,rfl,rfl,h,.refl h.s1,.refl h.s2,.inl ⟨rfl,rfl,rfl⟩⟩
 |cons a l ih=>
  intro k S T hl h hs
  cases k with
  |nil=>cases hl
  |cons b k=>
   obtain⟨⟨e1,e2,e3⟩,hl⟩:=hl;obtain⟨x,P,Q,g1,g2,g3,g4,g5⟩:=HR (TR.wP a.pat) a.pat v w S.s T.s f.sc g.sc (Nat.le_refl _) e2 hv h.s1 h.s2 hs;rw[kV,kV,e1,g1,g2];have h2:=h.sc g3 g4
   cases x with
   |true=>exact⟨true,P.1,Q.1,_,_,rfl,rfl,h2,g3,g4,.inr ⟨rfl,_,_,_,_,rfl,rfl,e3,g5⟩⟩
   |false=>
    obtain⟨b,sS,sT,rr,qq,k1,k2,k3,k4,k5,k6⟩:=ih hl h2 (hs.mono (fun _ _ x=>x) g3 g4);exact⟨b,sS,sT,rr,qq,k1,k2,k3,g3.trans k4,g4.trans k5,k6⟩
theorem Hz (kr:KR K1 K2 fo NR m1 m2) {v w:Vl} (hv:VR fo ρ v w) (h:Inv K1 fo NR ρ S T m1 m2 B [] [] r q) (hf:mC fo NR ρ S' T' f g) (hs:ER fo ρ S.s.2 T.s.2 f.sc g.sc):
 N1 K1 fo NR ρ m1 m2 B S T r q f g (nL K1 S r f v) (nL K2 T q g w):=by
 obtain⟨n,m,h1,h2,nd⟩:=oH kr hf;obtain⟨l,k,a1,a2,a3⟩:=nd.dZ;unfold nL;rw[h1,h2];dsimp only;rw[a1,a2];exact Kq hv l a3 h hs
theorem IX (kr:KR K1 K2 fo NR m1 m2) (h:Inv K1 fo NR ρ S T m1 m2 B [] [] r q) (z:Z r q) (hf:mC fo NR ρ S' T' f g) (hs:ER fo ρ S.s.2 T.s.2 f.sc g.sc) (hx:F2 (VR fo ρ) xs ys) (hl:1<=xs.length):
 tj K1 K2 fo NR ρ m1 m2 B (kW K1 S r f xs) (kW K2 T q g ys):=by
 cases xs with
 |nil=>simp at hl
 |cons v xs=>
 cases ys with
 |nil=>cases hx
 |cons w ys=>
  obtain⟨b,sS,sT,rr,qq,k1,k2,k3,k4,k5,k6⟩:=Hz kr hx.1 h hf hs;unfold kW;dsimp only;rw[k1,k2];rcases k6 with⟨rfl,rfl,rfl⟩|⟨rfl,c,d,s,t,rfl,rfl,e1,e2⟩
  ·exact dG k3 _
  ·exact xG k3 z e1 e2 hf.dep hf.inF
theorem HB (h:Inv K1 fo NR ρ S T m1 m2 B [] [] r q) (z:Z r q) (hd:g.depth=f.depth) {names:List ByteArray} {b c:Nat} {s t:Option Nat} (hn:names.length<=2000000) (hb:NR b c/\¬fo.rt b) (hs:ER fo ρ S.s.2 T.s.2 s t) (hx:F2 (VR fo ρ) xs ys):
 tj K1 K2 fo NR ρ m1 m2 B (E4 S r f names b s xs) (E4 T q g names c t ys):=by
 unfold E4;rw[Nat.ble_eq_true_of_le hn,<-hx.len,hd];dsimp only
 cases hl:Nat.beq xs.length names.length with
 |false=>exact dG h _
 |true=>
  dsimp only
  cases decide (f.depth>=60) with
  |true=>exact dG h _
  |false=>
   obtain⟨P,Q,w1,w2,w3,w4,w5⟩:=xV names h.s1 h.s2 (Nat.eq_of_beq_eq_true hl).symm hx hs;dsimp only;rw[w1,w2];have h2:=h.sc w3 w4;obtain⟨z1,z2,z3,z4,z5⟩:=z;exact⟨_,_,rfl,rfl,ρ,fun _ _ x=>x,⟨h2.re rfl rfl,z4.trans z3.symm,z5,fun _=>.inr ⟨⟨⟨b,c,rfl,rfl,hb.1⟩,w5,rfl,rfl,⟨[],[],rfl,rfl,trivial⟩,rfl,rfl⟩,rfl,rfl,.no rfl hb.2⟩,fun e=>(by rw[show r.mode=0 from z3]at e;cases e)⟩,.inl ⟨z1,z2,z3⟩⟩
theorem Kf (kr:KR K1 K2 fo NR m1 m2) (h:Inv K1 fo NR ρ S T m1 m2 B [] [] r q) (z:Z r q) (hd:g.depth=f.depth) (hx:F2 (VR fo ρ) xs ys) (hl:1<=xs.length):
 tj K1 K2 fo NR ρ m1 m2 B (vT K1 S r f xs) (vT K2 T q g ys):=by
 cases xs with
 |nil=>simp at hl
 |cons v xs=>
 cases ys with
 |nil=>cases hx
 |cons w ys=>
  obtain⟨e1,e2,e3,_,e5,_,e7,_⟩:=hx.1.o;obtain⟨p,p',k1,k2,k3,_⟩:=kr.mkr;unfold vT;dsimp only;rw[<-e1,<-e2,<-e3,show aK r.maker K1.mm.2=some p from h.mk1 ▸ k1,show aK q.maker K2.mm.2=some p' from h.mk2 ▸ k2]
  cases hk:v.kind==7 with
  |false=>exact dG h _
  |true=>
   obtain⟨p0,c,d,x,y,f1,f2,f3,f4,nd,f5,f6⟩:=k3 _ _ _ (e7 (eq_of_beq hk));dsimp only;rw[show((v.num.toNat:Int)==v.num)=true by rw[Int.toNat_of_nonneg p0];exact beq_self_eq_true _];dsimp only;rw[f1,f2];dsimp only;rw[f3,f4];obtain⟨b,c',a1,a2,a3⟩:=nd.args 0 f5;dsimp only;rw[a1,a2];dsimp only;rw[nd.free,Nat.ble_eq_true_of_le nd.bnd.2.1];dsimp only;obtain⟨P,Q,w1,w2,w3,w4,w5⟩:=Ky v.text (fA.1 e5) x.free 0 0 f6 h.s1 h.s2 .nil;rw[w1,w2,nd.names];exact HB (h.sc w3 w4) z hd nd.bnd.2.2.1 a3 w5 hx.2
theorem Nc (kr:KR K1 K2 fo NR m1 m2) (h:Inv K1 fo NR ρ S T m1 m2 B [] [] r q) (z:Z r q) (hf:mC fo NR ρ S' T' f g) (hx:F2 (VR fo ρ) xs ys) (hl:∀n,cW K1 f=some n->(n.kind==9)=false->1<=xs.length):
 tj K1 K2 fo NR ρ m1 m2 B (uE K1 S r f xs) (uE K2 T q g ys):=by
 obtain⟨n,m,h1,h2,nd⟩:=oH kr hf;obtain⟨p,p',k1,k2,k3,k4,_⟩:=kr.mkr;unfold uE;rw[h1,h2];dsimp only;rw[nd.kind,nd.text]
 cases hk:n.kind==9 with
 |false=>exact Kf kr h z hf.dep hx (hl n h1 hk)
 |true=>
  dsimp only;rw[show aK r.maker K1.mm.2=some p from h.mk1 ▸ k1,show aK q.maker K2.mm.2=some p' from h.mk2 ▸ k2];obtain⟨o,o',g1,g2,g3⟩:=k4 ρ n.text xs ys hx;dsimp only;rw[g1,g2]
  cases o with
  |none=>
   cases o' with
   |none=>exact dG h _
   |some _=>cases g3
  |some fn=>
   cases o' with
   |none=>cases g3
   |some fn'=>
    obtain⟨⟨j1,j2,j3⟩,j4⟩:=g3;dsimp only;rw[j1];exact HB (K1:=K1) (K2:=K2) (names:=fn.names) (b:=fn.body) (c:=fn'.body) (s:=none) (t:=none) h z hf.dep j2 ⟨j3,j4⟩ .nil hx
theorem Jj (h:Inv K1 fo NR ρ S T m1 m2 B [] [] r q) (z:Z r q) (hi:g.inFun=f.inFun) (hx:F2 (VR fo ρ) xs ys) (hl:xs.length<=2000000):
 tj K1 K2 fo NR ρ m1 m2 B (mQ S r f xs) (mQ T q g ys):=by
 unfold mQ;rw[h.nm,<-hx.len,Nat.ble_eq_true_of_le hl,Nat.ble_eq_true_of_le h.nl,hi];rw[Bool.and_self];dsimp only
 cases hq:f.inFun||!(Nat.beq xs.length r.names.length) with
 |true=>exact dG h _
 |false=>
  obtain⟨b,a1,a2,_⟩:=HT h.cr hx;dsimp only;rw[a1,a2]
  cases b with
  |true=>exact dG h _
  |false=>
   rw[Bool.or_eq_false_iff,Bool.not_eq_false']at hq;obtain⟨P,Q,w1,w2,w3,w4,w5⟩:=xV r.names h.s1 h.s2 (Nat.eq_of_beq_eq_true hq.2).symm hx .nil;dsimp only;rw[w1,w2];have h2:=h.sc w3 w4;obtain⟨z1,z2,z3,z4,z5⟩:=z;refine⟨_,_,rfl,rfl,ρ,fun _ _ x=>x,⟨?_,rfl,z5,fun _=>.inr ⟨⟨h.bd,w5,rfl,rfl,⟨[],[],rfl,rfl,trivial⟩,rfl,rfl⟩,rfl,rfl,fun _ _ _=>⟨rfl,rfl,(Nat.eq_of_beq_eq_true hq.2).symm,S.s,P,h.s1,w1,.refl w3.1,rfl⟩⟩,fun e=>(by cases e)⟩,.inl ⟨z1,z2,rfl⟩⟩;exact⟨h2.cr,h2.s1,h2.s2,h2.v1,h2.v2,h2.f1,h2.f2,h2.mk1,h2.mk2,h2.nm,h2.nl,h2.bd,h2.se,⟨hx,hl⟩,[],[],rfl,rfl,trivial,List.nodup_nil,List.nodup_nil,Nat.zero_le _⟩
theorem LO (kr:KR K1 K2 fo NR m1 m2) (h:Inv K1 fo NR ρ S T m1 m2 B [] [] r q) (z:Z r q) (nd:ND K1 K2 fo NR n m) (hx:F2 (VR fo ρ) xs ys) (hl:xs.length<=2000000):
 tj K1 K2 fo NR ρ m1 m2 B (vQ K1 S r n xs) (vQ K2 T q m ys):=by
 obtain⟨p,p',k1,k2,_,_,⟨es,fs,k3,k4,k5⟩,_⟩:=kr.mkr;have k5:=k5 n.text;unfold vQ;rw[show aK r.maker K1.mm.2=some p from h.mk1 ▸ k1,show aK q.maker K2.mm.2=some p' from h.mk2 ▸ k2];dsimp only;rw[k3,k4];dsimp only;rw[nd.text]
 cases e1:aV n.text es with
 |none=>
  cases e2:aV n.text fs with
  |none=>exact dG h _
  |some _=>rw[e1,e2]at k5;cases k5
 |some a=>
  cases e2:aV n.text fs with
  |none=>rw[e1,e2]at k5;cases k5
  |some b=>
   rw[e1,e2]at k5;obtain⟨j1,_⟩:=k5;dsimp only;rw[j1,<-hx.len]
   cases Nat.beq a.names.length xs.length with
   |false=>exact dG h _
   |true=>
    obtain⟨P,Q,l1,l2,l3,l4,l5⟩:=HN h.cr (y:=S.g) (y':=T.g) hx hl;dsimp only;rw[l1,l2];dsimp only;rw[<-l3];have h2:=h.cg (fun _ _ x=>x) l4 P.2.2 Q.2.2
    cases he:kB P.1.2 ⟨#[]⟩ with
    |false=>exact dG h2 _
    |true=>exact OG h2 z _ rfl ⟨rfl,(l5 he).2,by rw[(l5 he).1];exact hl⟩
theorem ux (h:Inv K1 fo NR ρ S T m1 m2 B [] [] r q) {v w:Vl} (hv:VR fo ρ v w) (k:Int) {R R':Option (Ss×Rn)} (hR:tj K1 K2 fo NR ρ m1 m2 B R R'):tj K1 K2 fo NR ρ m1 m2 B (jx S r v k R) (jx T q w k R'):=by
 unfold jx;rw[<-hv.o.1]
 cases v.kind==k with
 |false=>exact dG h _
 |true=>exact hR
theorem MU (h:Inv K1 fo NR ρ S T m1 m2 B [] [] r q) (z:Z r q) {v w:Vl} (hv:VR fo ρ v w) (hx:F2 (VR fo ρ) xs ys) (hl:xs.length<=2000000) (h1:1<=xs.length):
 tj K1 K2 fo NR ρ m1 m2 B (Bq S r v xs) (Bq T q w ys):=by
 obtain⟨P,Q,l1,l2,l3,l4,l5⟩:=HN h.cr (y:=S.g) (y':=T.g) hx hl;unfold Bq;rw[l1,l2];dsimp only;rw[<-l3,<-hv.o.2.1];have h2:=h.cg (fun _ _ x=>x) l4 P.2.2 Q.2.2
 cases he:kB P.1.2 ⟨#[]⟩ with
 |false=>exact dG h2 _
 |true=>
  obtain⟨l5,l6⟩:=l5 he;dsimp only
  cases hp:P.1.1 with
  |nil=>rw[hp]at l5;simp at l5;omega
  |cons o os=>
   rw[hp,BU,Bool.and_eq_true]at l6;obtain⟨ok,on,ot,oa⟩:=o;exact xw h2 z _ (.inr (.inl rfl)) ⟨l6.1,rfl,Nat.zero_le _⟩
theorem IM (kr:KR K1 K2 fo NR m1 m2) (h:Inv K1 fo NR ρ S T m1 m2 B [] [] r q) (z:Z r q) (hf:mC fo NR ρ S' T' f g) (hx:F2 (VR fo ρ) xs ys) (hl:xs.length<=2000000)
 (hk:∀n,cW K1 f=some n->(n.kind=15\/n.kind=14\/n.kind=20\/n.kind=24\/n.kind=25\/n.kind=19)/\((n.kind==14)=false->1<=xs.length)/\(n.kind=15->2<=xs.length)):
 tj K1 K2 fo NR ρ m1 m2 B (qd K1 S r f xs) (qd K2 T q g ys):=by
 obtain⟨n,m,h1,h2,nd⟩:=oH kr hf;obtain⟨hkk,l1,l2⟩:=hk n h1;unfold qd;rw[h1,h2];dsimp only;rw[nd.kind]
 cases e14:n.kind==14 with
 |true=>exact LO kr h z nd hx hl
 |false=>
  have l1:=l1 e14
  cases xs with
  |nil=>simp at l1
  |cons v xs=>
  cases ys with
  |nil=>cases hx
  |cons w ys=>
   dsimp only;rw[<-hx.1.o.2.1]
   cases e20:n.kind==20 with
   |true=>exact ux h hx.1 _ (xw h z _ (.inl rfl) nG)
   |false=>
   dsimp only
   cases e24:n.kind==24 with
   |true=>exact ux h hx.1 _ (xw h z _ (.inr (.inr (.inl rfl))) nG)
   |false=>
   dsimp only
   cases e25:n.kind==25 with
   |true=>exact ux h hx.1 _ (xw h z _ (.inr (.inr (.inr rfl))) nG)
   |false=>
   dsimp only
   cases e19:n.kind==19 with
   |true=>dsimp only;rw[<-hx.1.o.2.2.1];exact ux h hx.1 _ (dG h _)
   |false=>
   dsimp only
   have h15:n.kind=15:=by
    rcases hkk with e|e|e|e|e|e
    ·exact e
    all_goals exfalso;rw[e]at e14 e20 e24 e25 e19;revert e14 e20 e24 e25 e19;decide
   rw[h15];have:=l2 h15;simp at this hl;exact ux h hx.1 _ (MU h z hx.1 hx.2 (by omega) (by omega))
end
section
variable {K1 K2:Ks} {fo:FO} {NR:Nat->Nat->Prop} {ρ ρ':Nat->Nat->Prop} {S T S' T':Ss} {m1 m2 B:Nat} {A C:List Nat} {r q:Rn} {f g:Fr} {n m:Nd} {xs ys:List Vl}
def VT (fo:FO) (ρ:Nat->Nat->Prop) (x y:Option (Vl×ByteArray)):Prop:=∃p q,x=some p/\y=some q/\q.2=p.2/\VR fo ρ p.1 q.1
theorem VT.bad {w:ByteArray}:VT fo ρ (some (zV,w)) (some (zV,w)):=⟨_,_,rfl,rfl,rfl,.zV⟩
theorem VT.num {k n:Int} {w:ByteArray} (h8:(k==8)=false) (h7:k=2\/k=3\/k=6\/(k=1/\n=0)):VT fo ρ (some (vI k n,w)) (some (vI k n,w)):=⟨_,_,rfl,rfl,rfl,VR.vI h8 h7⟩
theorem MP (op:ByteArray) (a b:Int):VR fo ρ (oL op a b).1 (oL op a b).1:=by
 unfold oL
 cases cT op 43 with
 |true=>exact VR.vI rfl (by simp)
 |false=>
 cases cT op 45 with
 |true=>exact VR.vI rfl (by simp)
 |false=>
 cases cT op 42 with
 |true=>exact VR.vI rfl (by simp)
 |false=>
 cases b==0 with
 |true=>exact VR.zV
 |false=>
 cases cT op 47<;>exact VR.vI rfl (by simp)
theorem IG (op:ByteArray) (hx:F2 (VR fo ρ) xs ys):VT fo ρ (er op xs) (er op ys):=by
 unfold er
 cases mV op with
 |true=>
  rcases xs with _|⟨a,_|⟨b,_|⟨c,xs⟩⟩⟩<;>rcases ys with _|⟨a',_|⟨b',_|⟨c',ys⟩⟩⟩
  all_goals first|exact VT.bad|(cases hx;done)|(cases hx.2;done)|(cases hx.2.2;done)|skip
  dsimp only;rw[<-hx.1.o.1,<-hx.2.1.o.1,<-hx.1.o.2.1,<-hx.2.1.o.2.1]
  cases (a.kind==2)&&(b.kind==2) with
  |false=>exact VT.bad
  |true=>
   cases cT op 60 with
   |true=>exact VT.num rfl (by simp)
   |false=>exact⟨_,_,rfl,rfl,rfl,MP ..⟩
 |false=>
 cases cT op 61 with
 |true=>
  rcases xs with _|⟨a,_|⟨b,_|⟨c,xs⟩⟩⟩<;>rcases ys with _|⟨a',_|⟨b',_|⟨c',ys⟩⟩⟩
  all_goals first|exact VT.bad|(cases hx;done)|(cases hx.2;done)|(cases hx.2.2;done)|skip
  dsimp only;obtain⟨R,h1,h2⟩:=LJ (lu a) (lu a') a b a' b' hx.1 hx.2.1 (Nat.le_refl _) (Nat.le_refl _);rw[h1,h2];exact VT.num rfl (by simp)
 |false=>
 dsimp only
 cases op.toList==GK.toList with
 |true=>
  rcases xs with _|⟨a,_|⟨b,_|⟨c,xs⟩⟩⟩<;>rcases ys with _|⟨a',_|⟨b',_|⟨c',ys⟩⟩⟩
  all_goals first|exact VT.bad|(cases hx;done)|(cases hx.2;done)|(cases hx.2.2;done)|skip
  dsimp only;obtain⟨e1,_,e3,_,_,_,_,e8⟩:=hx.1.o;obtain⟨d1,_,d3,_,_,_,_,d8⟩:=hx.2.1.o;rw[<-e1,<-d1,<-e3,<-d3]
  cases (a.kind==4)&&(b.kind==4) with
  |false=>exact VT.bad
  |true=>
   dsimp only;rw[Nat.ble_eq_true_of_le (by omega)];dsimp only
   cases hs:decide (((a.text++b.text).size:Int)>64) with
   |true=>exact VT.bad
   |false=>
    have hs:=of_decide_eq_false hs;exact⟨_,_,rfl,rfl,rfl,VR.RL (by omega)⟩
 |false=>
 dsimp only
 cases op.toList==IE.toList with
 |false=>exact VT.bad
 |true=>
  rcases xs with _|⟨a,_|⟨b,xs⟩⟩<;>rcases ys with _|⟨a',_|⟨b',ys⟩⟩
  all_goals first|exact VT.bad|(cases hx;done)|(cases hx.2;done)|skip
  dsimp only;rw[<-hx.1.o.1,<-hx.1.o.2.1]
  cases a.kind==3 with
  |false=>exact VT.bad
  |true=>exact VT.num rfl (by simp)
theorem Dv (kr:KR K1 K2 fo NR m1 m2) (h:Inv K1 fo NR ρ S T m1 m2 B (bk f.vals) (bk g.vals) r q) (z:Z r q) (hf:mC fo NR ρ S T f g) (hB:B<2000000) (hk:∀n,cW K1 f=some n->¬(fT n.args:Int)<n.needs/\¬(eL f.vals:Int)<gU n/\eL f.vals<=fT n.args):
 tj K1 K2 fo NR ρ m1 m2 (B+1) (jB K1 S r f) (jB K2 T q g):=by
 obtain⟨n,m,h1,h2,nd⟩:=oH kr hf;obtain⟨hle,hea,hlb⟩:=hk n h1;obtain⟨xs,ys,v1,v2,hx⟩:=hf.v;have hlen:=(iJ hf.il v1).1;have hw:=h.weak (Nat.le_succ B);have hz:Inv K1 fo NR ρ (dY S f.vals) (dY T g.vals) m1 m2 (B+1) [] [] r q:=h.uC.weak (Nat.le_succ B);unfold jB;rw[h1,h2];dsimp only;rw[v1,v2];dsimp only;rw[nd.eager.1,nd.text]
 cases hlz:gQ n with
 |false=>
  obtain⟨p,p',o1,o2,o3,o4⟩:=IG n.text hx;dsimp only;rw[o1,o2];dsimp only;rw[o3]
  cases kB p.2 ⟨#[]⟩ with
  |false=>exact dG hz _
  |true=>exact tW hz z o4
 |true=>
  have h2l:fT n.args=2:=by
   unfold gQ at hlz;simp only[Bool.and_eq_true]at hlz;have:=eq_of_beq hlz.2;omega
  have he1:gU n=1:=(xQ nd hle).2.2 (by rw[hlz,Bool.or_true]);rcases xs with _|⟨a,_|⟨b,_|⟨c,xs⟩⟩⟩<;>rcases ys with _|⟨a',_|⟨b',_|⟨c',ys⟩⟩⟩
  all_goals first|(cases hx;done)|(cases hx.2;done)|(cases hx.2.2;done)|skip
  ·simp at hlen;omega
  ·dsimp only
   rw[<-hx.1.o.1,<-hx.1.o.2.1]
   cases a.kind==3 with
   |false=>exact dG hw _
   |true=>
    dsimp only
    cases !((!(a.num==0))==kB n.text FJ) with
    |true=>exact tW hw z hx.1
    |false=>exact wu h z hf hB h1 nd (by simp at hlen;omega) (by omega)
  ·dsimp only
   rw[<-hx.2.1.o.1]
   cases b.kind==3 with
   |false=>exact dG hw _
   |true=>exact tW hw z hx.2.1
  ·simp at hlen;omega
theorem Jf (kr:KR K1 K2 fo NR m1 m2) (h:Inv K1 fo NR ρ S T m1 m2 B [] [] r q) (z:Z r q) (hf:mC fo NR ρ S' T' f g) (hs:ER fo ρ S.s.2 T.s.2 f.sc g.sc) (hx:F2 (VR fo ρ) xs ys) (hl:xs.length<=2000000) (hk:∀n,cW K1 f=some n->(n.kind=21->1<=xs.length)/\(n.kind=22->1<=xs.length)/\(n.kind=23->2<=xs.length)):
 tj K1 K2 fo NR ρ m1 m2 B (qQ K1 S r f xs) (qQ K2 T q g ys):=by
 suffices H:∃p p' ρ',mK K1 S r f xs=some p/\mK K2 T q g ys=some p'/\p'.1.2=p.1.2/\(∀a b,ρ a b->ρ' a b)/\VR fo ρ' p.1.1 p'.1.1/\Inv K1 fo NR ρ' p.2 p'.2 m1 m2 B [] [] r q by
  obtain⟨⟨⟨u,w⟩,S2⟩,⟨⟨u',w'⟩,T2⟩,ρ',e1,e2,e3,e4,e5,e6⟩:=H;unfold qQ;rw[e1,e2];dsimp only at e3 e5 e6 ⊢;rw[e3];refine tj.le e4 ?_
  cases kB w ⟨#[]⟩ with
  |false=>exact dG e6 _
  |true=>exact tW e6 z e5
 obtain⟨n,m,h1,h2,nd⟩:=oH kr hf;obtain⟨k1,k2,k3⟩:=hk n h1;have le:∀a b,ρ a b->ρ a b:=fun _ _ x=>x;unfold mK;rw[h1,h2];dsimp only;rw[nd.kind,nd.num,nd.text,h.se.1]
 cases e1:n.kind==1 with
 |true=>exact⟨_,_,ρ,rfl,rfl,rfl,le,VR.vI rfl (by simp),h⟩
 |false=>
 dsimp only
 cases e2:n.kind==2 with
 |true=>exact⟨_,_,ρ,rfl,rfl,rfl,le,VR.vI rfl (by simp),h⟩
 |false=>
 dsimp only
 cases e3:n.kind==3 with
 |true=>exact⟨_,_,ρ,rfl,rfl,rfl,le,VR.vI rfl (by simp),h⟩
 |false=>
 dsimp only
 cases e4:n.kind==4 with
 |true=>exact⟨_,_,ρ,rfl,rfl,rfl,le,VR.RL nd.bnd.2.2.2,h⟩
 |false=>
 dsimp only
 cases e16:n.kind==16 with
 |true=>exact⟨_,_,ρ,rfl,rfl,rfl,le,VR.vI rfl (by simp),h⟩
 |false=>
 dsimp only
 cases e5:n.kind==5 with
 |true=>
  obtain⟨o,o',f1,f2,f3⟩:=JP n.text hs (S.s.1+1) (T.s.1+1) (fun a ha=>Nat.lt_succ_of_lt (hs.Rl h.s1 a ha)) (fun a ha=>Nat.lt_succ_of_lt (hs.QS h.s2 a ha));dsimp only;rw[f1,f2]
  cases o with
  |none=>
   cases o' with
   |none=>exact⟨_,_,ρ,rfl,rfl,rfl,le,.zV,h⟩
   |some _=>cases f3
  |some v=>
   cases o' with
   |none=>cases f3
   |some w=>exact⟨_,_,ρ,rfl,rfl,rfl,le,f3,h⟩
 |false=>
 dsimp only
 cases e12:n.kind==12 with
 |true=>
  obtain⟨p,p',j1,j2,_,_,_,es,j3,j4⟩:=kr.mkr;dsimp only;rw[show aK r.maker K1.mm.2=some p from h.mk1 ▸ j1,show aK q.maker K2.mm.2=some p' from h.mk2 ▸ j2];dsimp only;rw[j3,j4];dsimp only
  cases aV n.text es with
  |none=>exact⟨_,_,ρ,rfl,rfl,rfl,le,.zV,h⟩
  |some c=>
   dsimp only;rw[<-hx.len]
   cases c.args==(xs.length:Int) with
   |false=>exact⟨_,_,ρ,rfl,rfl,rfl,le,.zV,h⟩
   |true=>
    obtain⟨a,b,f1,f2,f3,f4⟩:=N3 h.cr (VR.mk' (k:=5) (n:=0) (t:=n.text) rfl (fun e=>by cases e) hl nd.bnd.2.2.2 (by simp[Cj]) (fA.2 hx));dsimp only;rw[f1,f2];exact⟨_,_,ρ,rfl,rfl,f3.symm,le,f4,h⟩
 |false=>
 dsimp only
 cases e21:n.kind==21 with
 |true=>
  have:=k1 (eq_of_beq e21);rcases xs with _|⟨v,xs⟩<;>rcases ys with _|⟨w,ys⟩
  all_goals first|(cases hx;done)|(simp at this;done)|skip
  have hc:=h.cr.new (x:=⟨false,v⟩) (y:=⟨false,w⟩) rfl (hx.1.mono lX);obtain⟨a,b,f1,f2,f3,f4⟩:=N3 hc (VR.Ev (fo:=fo) (ρ:=Me ρ S.c.1 T.c.1) (.inr ⟨rfl,rfl⟩));dsimp only at f1 f2 ⊢;rw[f1,f2];exact⟨_,_,Me ρ S.c.1 T.c.1,rfl,rfl,f3.symm,lX,f4,h.cg lX hc S.g T.g⟩
 |false=>
 dsimp only
 cases e22:n.kind==22 with
 |true=>
  have:=k2 (eq_of_beq e22);rcases xs with _|⟨v,xs⟩<;>rcases ys with _|⟨w,ys⟩
  all_goals first|(cases hx;done)|(simp at this;done)|skip
  obtain⟨a,b,f1,f2,f3,f4⟩:=P5 h.cr hx.1;dsimp only;rw[f1,f2];exact⟨_,_,ρ,rfl,rfl,f3.symm,le,f4,h⟩
 |false=>
 dsimp only
 cases e23:n.kind==23 with
 |true=>
  have:=k3 (eq_of_beq e23);rcases xs with _|⟨v,_|⟨v2,xs⟩⟩<;>rcases ys with _|⟨w,_|⟨w2,ys⟩⟩
  all_goals first|(cases hx;done)|(cases hx.2;done)|(simp at this;done)|skip
  obtain⟨a,b,ρ',f1,f2,f3,f4,f5⟩:=PZ h.cr hx.1 hx.2.1;dsimp only;rw[f1,f2];exact⟨_,_,ρ',rfl,rfl,f3.symm,f4,VR.vI rfl (by simp),h.cg f4 f5 S.g T.g⟩
 |false=>exact⟨_,_,ρ,rfl,rfl,rfl,le,.zV,h⟩
theorem O4 (h:Inv K1 fo NR ρ S T m1 m2 B [] [] r q) (z:Z r q) (hf:mC fo NR ρ S T f g) (nd:ND K1 K2 fo NR n m) (hj:1<fT n.args) (hx:F2 (VR fo ρ) xs ys) (hl:1<=xs.length):
 tj K1 K2 fo NR ρ m1 m2 B (BW K1 S r f n xs) (BW K2 T q g m ys):=by
 rcases xs with _|⟨v,xs⟩<;>rcases ys with _|⟨w,ys⟩
 all_goals first|(cases hx;done)|(simp at hl;done)|skip
 obtain⟨c,d,a1,a2,a3⟩:=nd.args 1 hj;unfold BW;rw[a1,a2];dsimp only;rw[nd.text];exact xG (h.sc (.push h.s1 _) (.push h.s2 _)) z a3 (hf.sc.push h.s1 h.s2 _ hx.1) hf.dep hf.inF
theorem Nj (kr:KR K1 K2 fo NR m1 m2) (h:Inv K1 fo NR ρ S T m1 m2 B (bk f.vals) (bk g.vals) r q) (z:Z r q) (hf:mC fo NR ρ S T f g) (hB:B<2000000) (h1:cW K1 f=some n) (nd:ND K1 K2 fo NR n m) (hle:¬(fT n.args:Int)<n.needs) (hea:¬(eL f.vals:Int)<gU n) (hlb:eL f.vals<=fT n.args):
 tj K1 K2 fo NR ρ m1 m2 (B+1) (eI K1 S r f n) (eI K2 T q g m):=by
 have hn:∀k,cW K1 f=some k->k=n:=fun k e=>by rw[h1]at e;cases e;rfl
 obtain⟨xs,ys,v1,v2,hx⟩:=hf.v;obtain⟨hlen,hl⟩:=iJ hf.il v1;have hw:=h.weak (Nat.le_succ B);have hz:Inv K1 fo NR ρ (dY S f.vals) (dY T g.vals) m1 m2 (B+1) [] [] r q:=h.uC.weak (Nat.le_succ B)
 have hs:ER fo ρ (dY S f.vals).s.2 (dY T g.vals).s.2 f.sc g.sc:=by
  have:∀(S:Ss) (v:FV),(dY S v).s=S.s:=fun S v=>by cases v<;>rfl
  rw[this,this];exact hf.sc
 obtain⟨ea1,ea2,ea3⟩:=xQ nd hle;unfold eI;rw[nd.kind]
 cases e6:n.kind==6 with
 |true=>
  have:=gY nd (eq_of_beq e6) (c:=2) (fun _=>rfl) hle;have:=ea3 (by rw[e6];simp);dsimp only;rw[v1,v2];exact O4 hw z hf nd (by omega) hx (by omega)
 |false=>
 dsimp only
 cases e8:n.kind==8 with
 |true=>exact Dv kr h z hf hB fun k hk=>by rw[hn k hk];exact⟨hle,hea,hlb⟩
 |false=>
 dsimp only;rw[v1,v2];dsimp only
 cases e7:n.kind==7 with
 |true=>
  have:=ea3 (by rw[e7];simp);exact I3 kr hz z hf hs (fun k hk=>by rw[hn k hk];exact⟨eq_of_beq e7,hle⟩) hx (by omega)
 |false=>
 have hee:=ea2 (by rw[e7,e6];unfold gQ;rw[e8];rfl);rw[hee,hlen]at hea;dsimp only
 cases e13:n.kind==13 with
 |true=>
  have:=gY nd (eq_of_beq e13) (c:=1) (fun _=>rfl) hle;exact IX kr hz z hf hs hx (by omega)
 |false=>
 dsimp only
 cases ec:(n.kind==9)||(n.kind==11) with
 |true=>
  refine Nc kr hz z hf hx fun k hk h9=>?_;rw[hn k hk]at h9;rw[h9,Bool.false_or]at ec;have:=nd.needs;rw[eq_of_beq ec,show TR.ei 11 n.num (fT n.args)=if (fT n.args:Int)<1 then 1 else (fT n.args:Int) from rfl]at this;split at this<;>omega
 |false=>
 dsimp only
 cases e17:n.kind==17 with
 |true=>exact Jj hz z hf.inF hx hl
 |false=>
 dsimp only
 cases el:(n.kind==15)||(n.kind==14)||(n.kind==20)||(n.kind==24)||(n.kind==25)||(n.kind==19) with
 |true=>
  refine IM kr hz z hf hx hl fun k hk=>?_;rw[hn k hk];simp only[Bool.or_eq_true,beq_iff_eq]at el;have el:n.kind=15\/n.kind=14\/n.kind=20\/n.kind=24\/n.kind=25\/n.kind=19:=by omega
  refine⟨el,fun e14=>?_,fun e15=>?_⟩
  ·have h14:n.kind≠14:=by simpa using e14
   have:n.needs=1\/n.needs=2:=by
    rcases el with e|e|e|e|e|e
    ·exact .inr (gY nd e (c:=2) (fun _=>rfl) hle).2
    ·exact absurd e h14
    all_goals exact .inl (gY nd e (c:=1) (fun _=>rfl) hle).2
   omega
  ·have:=(gY nd e15 (c:=2) (fun _=>rfl) hle).2
   omega
 |false=>
  refine Jf kr hz z hf hs hx hl fun k hk=>?_;rw[hn k hk];refine⟨fun e=>?_,fun e=>?_,fun e=>?_⟩
  ·have:=(gY nd e (c:=1) (fun _=>rfl) hle).2;omega
  ·have:=(gY nd e (c:=1) (fun _=>rfl) hle).2;omega
  ·have:=(gY nd e (c:=2) (fun _=>rfl) hle).2;omega
theorem AU (kr:KR K1 K2 fo NR m1 m2) (h:Inv K1 fo NR ρ S T m1 m2 B (bk f.vals) (bk g.vals) r q) (z:Z r q) (hf:mC fo NR ρ S T f g) (hB:B<2000000) (hlb:∀n,cW K1 f=some n->eL f.vals<=fT n.args):
 tj K1 K2 fo NR ρ m1 m2 (B+1) (iu K1 S r f) (iu K2 T q g):=by
 obtain⟨n,m,h1,h2,nd⟩:=oH kr hf;have hlb:=hlb n h1;unfold iu;rw[h1,h2];dsimp only;rw[hf.il,hf.jl,hf.len,nd.eager.2,nd.la,nd.needs2];dsimp only
 cases he:decide ((eL f.vals:Int)<gU n) with
 |true=>
  have he:=of_decide_eq_true he
  have hlt:eL f.vals<fT n.args:=by
   by_cases hle:(fT n.args:Int)<n.needs
   ·unfold gU at he;rw[decide_eq_true hle]at he;dsimp only at he;omega
   ·have:=(xQ nd hle).1;omega
  exact wu h z hf hB h1 nd hlt hlt
 |false=>
  dsimp only
  cases hd:decide ((fT n.args:Int)<n.needs) with
  |true=>exact dG (h.weak (Nat.le_succ B)) _
  |false=>exact Nj kr h z hf hB h1 nd (of_decide_eq_false hd) (of_decide_eq_false he) hlb
theorem L9 {M N:List (Nat×Sc)} {s t:Option Nat} (e:ER fo ρ M N s t) {n m:Nat} (hn:∀a,s=some a->a<n) (hm:∀a,t=some a->a<m):∀(free:List ByteArray) (b:List Int) {l k:List Vl},F2 (VR fo ρ) l k->
 ∃b' l' k',wL M n s free (b,l)=some (b++b',l++l')/\wL N m t free (b,k)=some (b++b',k++k')/\F2 (VR fo ρ) (l++l') (k++k')/\b'.length=free.length/\l'.length<=free.length/\b'.count 49=l'.length/\(∀x∈b',x=48\/x=49)
 | [],b,l,k,h=>⟨[],[],[],by simp[wL],by simp[wL],by simpa using h,rfl,Nat.le_refl _,rfl,fun x hx=>by cases hx⟩
 |x::free,b,l,k,h=>by
  obtain⟨o,o',h1,h2,h3⟩:=JP x e n m hn hm;rw[wL,wL,h1,h2]
  cases o with
  |none=>
   cases o' with
   |some _=>cases h3
   |none=>
    dsimp only;obtain⟨b',l',k',g1,g2,g3,g4,g5,g6,g7⟩:=L9 e hn hm free (b++[48]) h;refine⟨48::b',l',k',by simpa using g1,by simpa using g2,g3,by simp[g4],by simp;omega,by rw[List.count_cons];simp[g6],fun y hy=>?_⟩;rcases List.mem_cons.1 hy with rfl|hy
    ·exact .inl rfl
    ·exact g7 y hy
  |some v=>
   cases o' with
   |none=>cases h3
   |some w=>
    dsimp only;obtain⟨b',l',k',g1,g2,g3,g4,g5,g6,g7⟩:=L9 e hn hm free (b++[49]) (h.app (l':=[v]) (m':=[w]) ⟨h3,trivial⟩);refine⟨49::b',v::l',w::k',by simpa using g1,by simpa using g2,by simpa using g3,by simp[g4],by simp;omega,by rw[List.count_cons];simp[g6],fun y hy=>?_⟩;rcases List.mem_cons.1 hy with rfl|hy
    ·exact .inr rfl
    ·exact g7 y hy
end
theorem Oc (t:ByteArray) (i:Nat):t[i]?=t.data.toList[i]?:=by
 by_cases h:i<t.size
 ·rw[getElem?_pos t i h,List.getElem?_eq_getElem (by simpa using h)];rfl
 ·rw[getElem?_neg t i h,List.getElem?_eq_none (by simpa using h)]
theorem Ba (ns:List Int):(ju ns).data.toList=ns.map fun n=>UInt8.ofNat n.toNat:=by
 have:∀(ns:List Int) (r:ByteArray),(ns.foldl (fun r n=>r.push (UInt8.ofNat n.toNat)) r).data.toList=r.data.toList++ns.map fun n=>UInt8.ofNat n.toNat:=by
  intro ns
  induction ns with
  |nil=>intro r;simp
  |cons a ns ih=>intro r;rw[List.foldl_cons,ih];simp[ByteArray.push]
 exact this ns _
theorem w7 (t:ByteArray):t.size=t.data.toList.length:=by rw[Array.length_toList];rfl
theorem uL (t:ByteArray) (len:Nat):∀(free:List ByteArray) (i k:Nat),i+free.length<=t.data.toList.length->k+(t.data.toList.drop i).count 49<=len->yz t len free i k
 | [],_,_,_,_=>trivial
 |x::r,i,k,h1,h2=>by
  simp only[List.length_cons]at h1;have hi:i<t.data.toList.length:=by omega
  have e:=List.drop_eq_getElem_cons hi;rw[e,List.count_cons]at h2;have hg:(t[i]?).getD 0=t.data.toList[i]:=by rw[Oc,List.getElem?_eq_getElem hi];rfl
  refine⟨by rw[w7];exact hi,fun h=>?_,fun h=>?_⟩
  ·rw[hg]at h
   have:t.data.toList[i]=49:=UInt8.toNat_inj.1 (by show _=49;omega);rw[this]at h2;simp only[beq_self_eq_true,if_true]at h2;exact⟨by omega,uL t len r (i+1) (k+1) (by omega) (by omega)⟩
  ·exact uL t len r (i+1) k (by omega) (by omega)
theorem ID {b:List Int} (hb:∀x∈b,x=48\/x=49):((ju b).data.toList).count 49=b.count 49:=by
 rw[Ba]
 induction b with
 |nil=>rfl
 |cons x b ih=>
  rw[List.map_cons,List.count_cons,List.count_cons,ih fun y hy=>hb y (List.mem_cons_of_mem _ hy)];rcases hb x List.mem_cons_self with rfl|rfl<;>rfl
section
variable {K1 K2:Ks} {fo:FO} {NR:Nat->Nat->Prop} {ρ ρ':Nat->Nat->Prop} {S T S' T':Ss} {m1 m2 B:Nat} {A C:List Nat} {r q:Rn} {f g:Fr} {n m:Nd} {xs ys:List Vl}
theorem KO (h:Inv K1 fo NR ρ S T m1 m2 B [] [] r q) (z:Z r q) (hf:mC fo NR ρ S T f g) (nd:ND K1 K2 fo NR n m) (hk:n.kind=10) (hl:0<fT n.args):tj K1 K2 fo NR ρ m1 m2 B (vr K1 S r f n) (vr K2 T q g m):=by
 unfold vr;rw[nd.free,Nat.ble_eq_true_of_le nd.bnd.2.1];dsimp only;obtain⟨b,l,k,g1,g2,g3,g4,g5,g6,g7⟩:=L9 hf.sc (fun a ha=>Nat.lt_succ_of_lt (hf.sc.Rl h.s1 a ha)) (fun a ha=>Nat.lt_succ_of_lt (hf.sc.QS h.s2 a ha)) n.free [] (l:=[]) (k:=[]) trivial;rw[g1,g2];dsimp only;simp only[List.nil_append]at g3 ⊢;have hb:=nd.bnd.2.1;have hs:(ju b).size=n.free.length:=by rw[w7,Ba,List.length_map,g4]
 have hv:VR fo ρ (.mk 7 n.fn (ju b) l none) (.mk 7 n.fn (ju b) k none):=VR.mk' rfl (fun _=>nd.clo hk hl _ _ hs (uL _ _ _ 0 0 (by rw[<-w7,hs];omega) (by rw[List.drop_zero,ID g7,g6];omega))) (by omega) (by omega) (by simp[Cj]) (fA.2 g3);obtain⟨x,l1,l2,_⟩:=xh h.cr hv;rw[nd.fn,l1,l2]
 cases x with
 |true=>exact dG h _
 |false=>exact tW h z hv
theorem K6 (kr:KR K1 K2 fo NR m1 m2) (h:Inv K1 fo NR ρ S T m1 m2 B [] [] r q) (z:Z r q) (hf:mC fo NR ρ S T f g) (hB:B<2000000) (hv:f.vals=.nil) (hw:g.vals=.nil) (hb:NJ fo S r f):
 tj K1 K2 fo NR ρ m1 m2 (B+1) (sw K1 S r f) (sw K2 T q g):=by
 obtain⟨n,m,h1,h2,nd⟩:=oH kr hf;have hi:=h.weak (Nat.le_succ B);have hr:tj K1 K2 fo NR ρ m1 m2 (B+1) (iu K1 S r f) (iu K2 T q g):=AU kr (by rw[hv,hw];exact h) z hf hB fun k _=>by rw[hv];exact Nat.zero_le _
 unfold sw;rw[h1,h2];dsimp only;rw[nd.needs2,nd.la,nd.kind]
 cases hd0:decide (n.needs<0) with
 |true=>exact dG hi _
 |false=>
 dsimp only
 cases hd:decide ((fT n.args:Int)<n.needs) with
 |true=>exact hr
 |false=>
 have hd:=of_decide_eq_false hd;dsimp only
 cases e10:n.kind==10 with
 |true=>
  have:=gY nd (eq_of_beq e10) (c:=1) (fun _=>rfl) hd;exact KO hi z hf nd (eq_of_beq e10) (by omega)
 |false=>
 dsimp only
 cases e18:n.kind==18 with
 |false=>exact hr
 |true=>
  obtain⟨z1,z2,z3,z4,z5⟩:=z;have ho:iQ m=iQ n:=by unfold iQ;rw[nd.num]
  dsimp only;rw[ho];refine⟨_,_,rfl,rfl,ρ,fun _ _ x=>x,⟨(hi.o _ _).re rfl rfl,rfl,rfl,fun e=>(by cases e),fun _=>⟨⟨hf.n,hf.sc,hf.il,hf.jl,hf.v,hf.dep,hf.inF⟩,hv,hw,fun hn=>?_,fun a x y=>hb a x y,n,h1,of_decide_eq_false hd0,hd,eq_of_beq e18,rfl⟩⟩,.inr ⟨_,_,iQ n,rfl,rfl,aP ..,aP ..,.inr (.inl ⟨rfl,rfl,rfl⟩),nG⟩⟩
  have hn:0<=n.num:=by
   have hn:0<=(if n.num < -1 then (-1:Int) else n.num):=hn;split at hn<;>omega
  have hnn:=nd.needs;rw[eq_of_beq e18,show TR.ei 18 n.num (fT n.args)=(bif decide (n.num>=0) then 1 else 0) from rfl,decide_eq_true hn]at hnn;have hnn:n.needs=1:=hnn;obtain⟨c,d,a1,a2,a3⟩:=nd.args 0 (by omega);exact⟨n,m,c,d,h1,h2,a1,a2,a3⟩
theorem JV:∀{fs gs:List Fr},F2 (PI K1 fo NR ρ S T) fs gs->gp S.v->gp T.v->(∀k∈JM fs,k<S.v.1)/\(∀k∈JM gs,k<T.v.1)
 | [],[],_,_,_=>⟨fun k hk=>(by cases hk),fun k hk=>(by cases hk)⟩
 |f::fs,g::gs,h,hb,hc=>by
  obtain⟨i1,i2⟩:=JV h.2 hb hc;obtain⟨xs,ys,v1,v2,_⟩:=h.1.1.v
  have one:∀{S:Ss} {v:FV} {xs:List Vl},gp S.v->bL S v=some xs->∀k∈bk v,k<S.v.1:=by
   intro S v xs hb hv k hk
   cases v with
   |nil=>cases hk
   |nw l=>cases hk
   |blk j n=>
    simp only[bk,List.mem_singleton]at hk;subst hk;unfold bL at hv;dsimp only at hv;split at hv
    ·cases hv
    ·rename_i hq;exact hb.lt hq
  refine⟨fun k hk=>?_,fun k hk=>?_⟩
  all_goals rw[JM,List.flatMap_cons,List.mem_append]at hk
  ·rcases hk with hk|hk
   ·exact one hb v1 k hk
   ·exact i1 k hk
  ·rcases hk with hk|hk
   ·exact one hc v2 k hk
   ·exact i2 k hk
theorem C8 (kr:KR K1 K2 fo NR m1 m2) (h:FI K1 K2 fo NR ρ S T m1 m2 B r q) (hm:r.mode=0) (ho:r.out=none) (ho2:q.out=none) (hB:B<2000000):tj K1 K2 fo NR ρ m1 m2 (B+1) (nJ K1 S r) (nJ K2 T q):=by
 have z:Z r q:=⟨ho,ho2,hm,h.mode.trans hm,h.last⟩
 unfold nJ;rcases h.go hm with⟨n1,n2,hv⟩|⟨hf,e1,e2,e3⟩
 ·rw[n1,n2]
  dsimp only;obtain⟨fs,gs,x1,x2,x3,x4,x5,x6⟩:=h.inv.stk;have hend:=fun r' q' (e:Inv K1 fo NR ρ S T m1 m2 (B+1) [] [] r' q')=>HD (K2:=K2) e E8 (.inl rfl) nG;rcases fs with _|⟨f,fs⟩<;>rcases gs with _|⟨g,gs⟩
  all_goals first|(cases x3;done)|skip
  ·have:=hend r q (h.inv.weak (Nat.le_succ B))
   rcases HF x1 with s1|⟨a,s1⟩<;>rcases HF x2 with s2|⟨b,s2⟩<;>rw[s1,s2]<;>exact⟨_,_,rfl,rfl,this⟩
  ·obtain⟨a,j,l,s1,s2,s3,s4,s5⟩:=Ih x1
   obtain⟨b,k,l',t1,t2,t3,t4,t5⟩:=Ih x2;rw[s1,t1];dsimp only;rw[s2,t2];dsimp only;rw[s3,t3];dsimp only;rw[Nat.ble_eq_true_of_le s4,Nat.ble_eq_true_of_le t4];dsimp only;obtain⟨⟨hf,p,hp,hlt⟩,x3⟩:=x3;obtain⟨n,m,h1,h2,nd⟩:=oH kr hf;have hpn:p=n:=by rw[hp]at h1;cases h1;rfl
   subst hpn;obtain⟨xs,ys,v1,v2,hx⟩:=hf.v;obtain⟨hlen,_⟩:=iJ hf.il v1;have hb:=nd.bnd.1;obtain⟨S',w,p1,p2,p3,p4,p5,p6⟩:=E6 r.val hf.il v1 (by omega) h.inv.v1;obtain⟨T',w',q1,q2,q3,q4,q5,q6⟩:=E6 q.val hf.jl v2 (by rw[<-hx.len];omega) h.inv.v2;rw[p1,q1];dsimp only;rw[List.nil_append,JM,List.flatMap_cons]at x4 x5;have y4:=List.nodup_append.1 x4;have y5:=List.nodup_append.1 x5;obtain⟨b1,b2⟩:=JV x3 h.inv.v1 h.inv.v2;have hm3:F2 (PI K1 fo NR ρ { S with v:=S' } { T with v:=T' }) fs gs:=qD (S:=S) (T:=T) x3 (fun _ _ x=>x) (.refl h.inv.s1) (.refl h.inv.s2) (fun k l hk=>p6 k l fun hn=>y4.2.2 _ hn _ hk rfl) (fun k l hk=>q6 k l fun hn=>y5.2.2 _ hn _ hk rfl)
   have hi:Inv K1 fo NR ρ { S with v:=S' } { T with v:=T' } m1 m2 B (bk { f with vals:=w }.vals) (bk { g with vals:=w' }.vals) { r with stack:=some (a,j) } { q with stack:=some (b,k) }:=
    ⟨h.inv.cr,h.inv.s1,h.inv.s2,p4,q4,h.inv.f1,h.inv.f2,h.inv.mk1,h.inv.mk2,h.inv.nm,h.inv.nl,h.inv.bd,h.inv.se,h.inv.st,fs,gs,s5,t5,hm3,
      by
       show(bk w++JM fs).Nodup;rw[p5,List.singleton_append,List.nodup_cons];exact⟨fun hn=>Nat.lt_irrefl _ (b1 _ hn),y4.2.1⟩,
      by
       show(bk w'++JM gs).Nodup;rw[q5,List.singleton_append,List.nodup_cons];exact⟨fun hn=>Nat.lt_irrefl _ (b2 _ hn),y5.2.1⟩,
      by simp at x6;omega⟩
   refine AU kr hi z ⟨hf.n,hf.sc,p2,q2,⟨_,_,p3 _ rfl,q3 _ rfl,hx.app ⟨hv,trivial⟩⟩,hf.dep,hf.inF⟩ hB fun n hn=>?_;have hn:cW K1 f=some n:=hn;rw[hp]at hn;cases hn;have:=(iJ p2 (p3 { S with v:=S' } rfl)).1;dsimp only;rw[this];simp;omega
 ·obtain⟨a,b,c1,c2,_⟩:=hf.n
  rw[c1,c2];exact K6 kr h.inv z hf hB e1 e2 e3
end
mutual
def xK:Ov->Prop
 |.mk _ _ t l=>t.size<=2000000/\l.length<=2000000/\Ed l
def Ed:List Ov->Prop
 | []=>True
 |v::r=>xK v/\Ed r
end
theorem vG {a:Ov}:∀{l:List Ov},a∈l->sY a<=mg l
 |x::l,h=>by
  rw[mg];rcases List.mem_cons.1 h with rfl|h
  ·omega
  ·have:=vG h;omega
theorem xP:∀{l:List Ov},Ed l->∀v∈l,xK v
 | [],_,v,h=>by cases h
 |a::l,q,v,h=>by
  rw[Ed]at q;rcases List.mem_cons.1 h with rfl|h
  ·exact q.1
  ·exact xP q.2 v h
section
variable {K1 K2:Ks} {fo:FO} {NR:Nat->Nat->Prop} {ρ ρ':Nat->Nat->Prop} {S T S' T':Ss} {m1 m2 B:Nat} {A C:List Nat} {r q:Rn} {f g:Fr} {n m:Nd} {xs ys:List Vl}
theorem FI.weak (h:FI K1 K2 fo NR ρ S T m1 m2 B r q) {B':Nat} (hB:B<=B'):FI K1 K2 fo NR ρ S T m1 m2 B' r q:=⟨h.inv.weak hB,h.mode,h.last,h.go,h.pa⟩
theorem FI.out (h:FI K1 K2 fo NR ρ S T m1 m2 B r q) (x y:Option Nat):FI K1 K2 fo NR ρ S T m1 m2 B { r with out:=x } { q with out:=y }:=⟨h.inv.re rfl rfl,h.mode,h.last,h.go,h.pa⟩
theorem Ch (kr:KR K1 K2 fo NR m1 m2):∀(n:Nat) {ρ:Nat->Nat->Prop} {S T:Ss} {r q:Rn} {B:Nat},FI K1 K2 fo NR ρ S T m1 m2 B r q->r.mode=0->r.out=none->q.out=none->B+n<=2000000->
 ∃o S' r' T' q' ρ',uO K1 n S r=some (o,S',r')/\uO K2 n T q=some (o,T',q')/\FI K1 K2 fo NR ρ' S' T' m1 m2 (B+n) r' q'/\(∀a b,ρ a b->ρ' a b)/\r'.out=none/\q'.out=none/\((o=Iu/\r'.mode=0)\/(MO o r'/\tY o))
 |0,ρ,S,T,r,q,B,h,hm,h1,h2,_=>⟨_,_,_,_,_,ρ,rfl,rfl,h,fun _ _ x=>x,h1,h2,.inl ⟨rfl,hm⟩⟩
 |n+1,ρ,S,T,r,q,B,h,hm,h1,h2,hB=>by
  obtain⟨⟨P1,P2⟩,⟨Q1,Q2⟩,s1,s2,ρ',s3,s4,s5⟩:=C8 kr h hm h1 h2 (by omega)
  have c1:uv r=true/\uv q=true:=by
   unfold uv;rcases h.go hm with⟨e1,e2,_⟩|⟨_,e1,e2,_⟩
   ·rw[e1,e2];exact⟨rfl,rfl⟩
   ·rw[e1,e2];constructor<;>split<;>rfl
  rw[uO,uO,show q.mode=r.mode from h.mode,hm,c1.1,c1.2];rw[show((0:Int)==1||(0:Int)==3)=false from rfl,show((0:Int)==2)=false from rfl];dsimp only;rw[s1,s2];dsimp only at s4 s5 ⊢;rcases s5 with⟨o1,o2,o3⟩|⟨a,b,o,o1,o2,o3,o4,o5⟩
  ·rw[o1,o2]
   obtain⟨o,S',r',T',q',ρ2,g1,g2,g3,g4,g5⟩:=Ch kr n s4 o3 o1 o2 (by omega);exact⟨o,S',r',T',q',ρ2,g1,g2,g3.weak (by omega),fun _ _ x=>g4 _ _ (s3 _ _ x),g5⟩
  ·rw[o1,o2]
   dsimp only;rw[o3,o4];exact⟨o,_,_,_,_,ρ',rfl,rfl,(s4.out none none).weak (by omega),s3,rfl,rfl,.inr o5⟩
theorem Kr (kr:KR K1 K2 fo NR m1 m2) (k num:Int) (t:ByteArray) (l:List Ov) (ht:t.size<=2000000):∃R,yB K1 m1 (.mk k num t l)=some R/\yB K2 m2 (.mk k num t l)=some R/\
 ∀o most,R=some (o,most)->o.2.2.size<=2000000/\o.1=k/\(k=8->o.2.1=0/\o.2.2=⟨#[]⟩/\most=1)/\(k=7->fo o.2.1 o.2.2 l.length/\most=l.length)/\(((k=1\/k=4\/k=5\/k=8)->o.2.1=0)/\(¬(k=4\/k=5\/k=7)->o.2.2=⟨#[]⟩))/\(¬(k=5\/k=7\/k=8)->most=0):=by
 have z:(⟨#[]⟩:ByteArray).size<=2000000:=by decide
 unfold yB;dsimp only
 cases e1:k==1 with
 |true=>have e1:=eq_of_beq e1;exact⟨_,rfl,rfl,fun o m e=>by cases e;exact⟨z,e1.symm,fun e=>(by omega),fun e=>(by omega),by refine⟨⟨?_,?_⟩,?_⟩<;>intro h<;>first|rfl|omega⟩⟩
 |false=>
 dsimp only
 cases e26:(k==2)||(k==6) with
 |true=>
  have e1:k=2\/k=6:=by simpa using e26
  exact⟨_,rfl,rfl,fun o m e=>by cases e;exact⟨z,rfl,fun e=>(by omega),fun e=>(by omega),by refine⟨⟨?_,?_⟩,?_⟩<;>intro h<;>first|rfl|omega⟩⟩
 |false=>
 dsimp only
 cases e3:k==3 with
 |true=>
  have e1:=eq_of_beq e3;dsimp only
  cases !(num==0)&&!(num==1) with
  |true=>exact⟨_,rfl,rfl,fun o m e=>by cases e⟩
  |false=>exact⟨_,rfl,rfl,fun o m e=>by cases e;exact⟨z,e1.symm,fun e=>(by omega),fun e=>(by omega),by refine⟨⟨?_,?_⟩,?_⟩<;>intro h<;>first|rfl|omega⟩⟩
 |false=>
 dsimp only
 cases e4:k==4 with
 |true=>
  have e1:=eq_of_beq e4;dsimp only
  cases decide ((t.size:Int)>64) with
  |true=>exact⟨_,rfl,rfl,fun o m e=>by cases e⟩
  |false=>exact⟨_,rfl,rfl,fun o m e=>by cases e;exact⟨ht,e1.symm,fun e=>(by omega),fun e=>(by omega),by refine⟨⟨?_,?_⟩,?_⟩<;>intro h<;>first|rfl|omega⟩⟩
 |false=>
 dsimp only
 cases e5:k==5 with
 |true=>have e1:=eq_of_beq e5;exact⟨_,rfl,rfl,fun o m e=>by cases e;exact⟨ht,e1.symm,fun e=>(by omega),fun e=>(by omega),by refine⟨⟨?_,?_⟩,?_⟩<;>intro h<;>first|rfl|omega⟩⟩
 |false=>
 dsimp only
 cases e7:k==7 with
 |true=>
  have e1:=eq_of_beq e7;obtain⟨⟨x,b⟩,f1,f2,f3⟩:=kr.form (.mk 7 num t l);dsimp only;rw[f1,f2]
  cases b with
  |false=>exact⟨_,rfl,rfl,fun o m e=>by cases e⟩
  |true=>exact⟨_,rfl,rfl,fun o m e=>by cases e;exact⟨(f3 rfl _ _ _ _ rfl).2,e1.symm,fun e=>(by omega),fun _=>⟨(f3 rfl _ _ _ _ rfl).1,rfl⟩,by refine⟨⟨?_,?_⟩,?_⟩<;>intro h<;>first|rfl|omega⟩⟩
 |false=>
 dsimp only
 cases e8:k==8 with
 |true=>have e1:=eq_of_beq e8;exact⟨_,rfl,rfl,fun o m e=>by cases e;exact⟨z,e1.symm,fun _=>⟨rfl,rfl,rfl⟩,fun e=>(by omega),by refine⟨⟨?_,?_⟩,?_⟩<;>intro h<;>first|rfl|omega⟩⟩
 |false=>exact⟨_,rfl,rfl,fun o m e=>by cases e⟩
def QV (fo:FO) (ρ:Nat->Nat->Prop) {α β:Type} (R:(Nat->Nat->Prop)->α->β->Prop) (x:Option (Option α×aZ Cl)) (y:Option (Option β×aZ Cl)):Prop:=
 ∃o o' z w ρ',x=some (o,z)/\y=some (o',w)/\(∀a b,ρ a b->ρ' a b)/\CR fo ρ' z w/\O2 (R ρ') o o'
theorem BQ {f g:Ov->aZ Cl->Option (Option Vl×aZ Cl)}:∀{l:List Ov} {ρ:Nat->Nat->Prop} {z w:aZ Cl},(∀v∈l,∀ρ z w,CR fo ρ z w->QV fo ρ (VR fo) (f v z) (g v w))->CR fo ρ z w->QV fo ρ (fun ρ a b=>F2 (VR fo ρ) a b/\a.length=l.length) (kD f l z) (kD g l w)
 | [],ρ,z,w,_,hc=>⟨_,_,z,w,ρ,rfl,rfl,fun _ _ x=>x,hc,trivial,rfl⟩
 |v::l,ρ,z,w,hf,hc=>by
  obtain⟨o,o',z2,w2,ρ2,e1,e2,e3,e4,e5⟩:=hf v List.mem_cons_self ρ z w hc;rw[kD,kD,e1,e2]
  cases o with
  |none=>
   cases o' with
   |none=>exact⟨_,_,z2,w2,ρ2,rfl,rfl,e3,e4,trivial⟩
   |some _=>cases e5
  |some x=>
   cases o' with
   |none=>cases e5
   |some y=>
    obtain⟨o,o',z3,w3,ρ3,d1,d2,d3,d4,d5⟩:=BQ (fun v hv=>hf v (List.mem_cons_of_mem _ hv)) e4;dsimp only;rw[d1,d2]
    cases o with
    |none=>
     cases o' with
     |none=>exact⟨_,_,z3,w3,ρ3,rfl,rfl,fun _ _ x=>d3 _ _ (e3 _ _ x),d4,trivial⟩
     |some _=>cases d5
    |some a=>
     cases o' with
     |none=>cases d5
     |some b=>exact⟨_,_,z3,w3,ρ3,rfl,rfl,fun _ _ x=>d3 _ _ (e3 _ _ x),d4,⟨e5.mono d3,d5.1⟩,congrArg (·+1) d5.2⟩
theorem Fh (kr:KR K1 K2 fo NR m1 m2):∀(n:Nat) (v:Ov) (ρ:Nat->Nat->Prop) (z w:aZ Cl),sY v<=n->xK v->CR fo ρ z w->QV fo ρ (VR fo) (fh K1 m1 n v z) (fh K2 m2 n v w)
 |0,v,_,_,_,h,_,_=>by cases v;simp[sY]at h
 |n+1,.mk k num t l,ρ,z,w,h,hs,hc=>by
  rw[xK]at hs;obtain⟨R,h1,h2,h3⟩:=Kr kr k num t l hs.1;rw[fh,fh,h1,h2];rcases R with _|⟨o,most⟩
  ·exact⟨_,_,z,w,ρ,rfl,rfl,fun _ _ x=>x,hc,trivial⟩
  ·obtain⟨g1,g0,g2,g3,⟨c1,c2⟩,c3⟩:=h3 o most rfl
   obtain⟨o1,o2,o3⟩:=o;dsimp only at g0 g1 g2 g3 c1 c2;subst g0;dsimp only
   cases hm:Nat.beq most 0 with
   |true=>
    have hm:most=0:=Nat.eq_of_beq_eq_true hm;refine⟨_,_,z,w,ρ,rfl,rfl,fun _ _ x=>x,hc,VR.mk' ?_ (fun e=>?_) (by simp) g1 ⟨c1,c2,fun _=>rfl⟩ (by simp[qX])⟩
    ·cases h8:o1==8 with
     |false=>rfl
     |true=>have:=(g2 (eq_of_beq h8)).2.2;omega
    ·obtain⟨f1,f2⟩:=g3 e
     rw[<-f2,hm]at f1;exact f1
   |false=>
    dsimp only
    cases decide ((l.length:Int)>(most:Int)) with
    |true=>exact⟨_,_,z,w,ρ,rfl,rfl,fun _ _ x=>x,hc,trivial⟩
    |false=>
     dsimp only;rw[Nat.ble_eq_true_of_le hs.2.1];have hmem:∀v∈l,xK v:=fun v hv=>xP hs.2.2 v hv;rw[sY]at h;obtain⟨x,y,z2,w2,ρ2,e1,e2,e3,e4,e5⟩:=BQ (f:=fh K1 m1 n) (g:=fh K2 m2 n) (l:=l) (fun v hv ρ z w hc=>Fh kr n v ρ z w (by have:=vG hv;omega) (hmem v hv) hc) hc;dsimp only;rw[e1,e2];rcases x with _|xs<;>rcases y with _|ys
     all_goals first|(cases e5;done)|skip
     ·exact⟨_,_,z2,w2,ρ2,rfl,rfl,e3,e4,trivial⟩
     ·dsimp only
      unfold El
      cases h8:o1==8 with
      |false=>
       refine⟨_,_,z2,w2,ρ2,rfl,rfl,e3,e4,VR.mk' h8 (fun e=>?_) (by rw[e5.2];exact hs.2.1) g1 ⟨c1,c2,fun q=>by have:=c3 (by rw[beq_eq_false_iff_ne]at h8;omega);subst this;cases hm⟩ (fA.2 e5.1)⟩;rw[e5.2];exact(g3 e).1
      |true=>
       have h8:=eq_of_beq h8;obtain⟨k1,k2,_⟩:=g2 h8;subst k1;subst k2;subst h8;dsimp only;rcases xs with _|⟨a,xs⟩<;>rcases ys with _|⟨b,ys⟩
       all_goals first|(cases e5.1;done)|skip
       ·exact⟨_,_,_,_,Me ρ2 z2.1 w2.1,rfl,rfl,fun _ _ x=>.inl (e3 _ _ x),e4.new rfl .zV,VR.Ev (.inr ⟨rfl,rfl⟩)⟩
       ·exact⟨_,_,_,_,Me ρ2 z2.1 w2.1,rfl,rfl,fun _ _ x=>.inl (e3 _ _ x),e4.new rfl (e5.1.1.mono lX),VR.Ev (.inr ⟨rfl,rfl⟩)⟩
end
end MN
