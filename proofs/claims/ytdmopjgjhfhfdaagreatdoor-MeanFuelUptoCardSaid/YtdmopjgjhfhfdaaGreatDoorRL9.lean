/- Contracts, and the law, for every input. No conditions. -/
import Derived.Test.YtdmopjgjhfhfdaaGreatDoorRL6
set_option linter.all false
section
open Go Go.AM Go.Proofs TK
set_option maxRecDepth 100000
namespace MN
section
variable {K1 K2:Ks} {fo:FO} {NR:Nat→Nat→Prop} {ρ ρ':Nat→Nat→Prop} {S T S' T':Ss} {m1 m2 B:Nat} {A C:List Nat} {r q:Rn} {f g:Fr} {n m:Nd} {xs ys:List Vl}
theorem gP {k:Int} {c:Int} (nd:ND K1 K2 fo NR n m) (hk:n.kind=k) (h:∀l,TR.dZ k n.num l=c) (hle:¬(gA n.args:Int)<n.needs):c≤gA n.args∧n.needs=c:=by
 have:=nd.needs;rw[hk,h]at this;omega
theorem Ij (kr:KR K1 K2 fo NR m1 m2) (h:Inv K1 fo NR ρ S T m1 m2 B [] [] r q) (z:Z r q) (hf:lM fo NR ρ S' T' f g) (hs:ER fo ρ S.s.2 T.s.2 f.sc g.sc) (hk:∀n,dA K1 f=some n→n.kind=7∧¬(gA n.args:Int)<n.needs) (hx:F2 (VR fo ρ) xs ys) (hl:1≤xs.length):
 sE K1 K2 fo NR ρ m1 m2 B (lY K1 S r f xs) (lY K2 T q g ys):=by
 obtain⟨n,m,h1,h2,nd⟩:=nT kr hf;obtain⟨hk,hle⟩:=hk n h1
 cases xs with
 |nil=>simp at hl
 |cons v xs=>
 cases ys with
 |nil=>cases hx
 |cons w ys=>
  obtain⟨e1,e2,_⟩:=hx.1.o;unfold lY;rw[h1,h2];dsimp only;rw[←e1,←e2]
  cases v.kind==3 with
  |false=>exact dD h _
  |true=>
   have:=gP nd hk (c:=3) (fun _=>rfl) hle;obtain⟨c,d,a1,a2,a3⟩:=nd.args (Dy v.num) (by unfold Dy;cases v.num==0<;>dsimp only<;>omega);dsimp only;rw[a1,a2];exact wN h z a3 hs hf.dep hf.inF
def Mh (K1:Ks) (fo:FO) (NR:Nat→Nat→Prop) (ρ:Nat→Nat→Prop) (m1 m2 B:Nat) (S T:Ss) (r q:Rn) (f g:Fr) (x y:Option (Bool×Ss×Rn)):Prop:=
 ∃b sS sT rr qq,x=some (b,{ S with s:=sS },rr)∧y=some (b,{ T with s:=sT },qq)∧Inv K1 fo NR ρ { S with s:=sS } { T with s:=sT } m1 m2 B [] [] r q∧SE S.s sS∧SE T.s sT∧
  ((b=false∧rr=r∧qq=q)∨(b=true∧∃c d s t,rr=jU r c f s∧qq=jU q d g t∧(NR c d∧¬fo.rt c)∧ER fo ρ sS.2 sT.2 s t))
theorem KP {v w:Vl} (hv:VR fo ρ v w) (l:List Ar):∀{k:List Ar} {S T:Ss},F2 (fun x y=>y.pat=x.pat∧TR.wP x.pat≤2000000∧NR x.body y.body∧¬fo.rt x.body) l k→Inv K1 fo NR ρ S T m1 m2 B [] [] r q→ER fo ρ S.s.2 T.s.2 f.sc g.sc→
 Mh K1 fo NR ρ m1 m2 B S T r q f g (mj f v l S r) (mj g w k T q):=by
 induction l with
 |nil=>
  intro k S T hl h hs
  cases k with
  |cons=>cases hl
  |nil=>exact⟨false,S.s,T.s,r,q,rfl,rfl,h,.refl h.s1,.refl h.s2,.inl ⟨rfl,rfl,rfl⟩⟩
 |cons a l ih=>
  intro k S T hl h hs
  cases k with
  |nil=>cases hl
  |cons b k=>
   obtain⟨⟨e1,e2,e3⟩,hl⟩:=hl;obtain⟨x,P,Q,g1,g2,g3,g4,g5⟩:=GF (TR.wP a.pat) a.pat v w S.s T.s f.sc g.sc (Nat.le_refl _) e2 hv h.s1 h.s2 hs;rw[mj,mj,e1,g1,g2];have h2:=h.sc g3 g4
   cases x with
   |true=>exact⟨true,P.1,Q.1,_,_,rfl,rfl,h2,g3,g4,.inr ⟨rfl,_,_,_,_,rfl,rfl,e3,g5⟩⟩
   |false=>
    obtain⟨b,sS,sT,rr,qq,k1,k2,k3,k4,k5,k6⟩:=ih hl h2 (hs.mono (fun _ _ x=>x) g3 g4);exact⟨b,sS,sT,rr,qq,k1,k2,k3,g3.trans k4,g4.trans k5,k6⟩
theorem Hi (kr:KR K1 K2 fo NR m1 m2) {v w:Vl} (hv:VR fo ρ v w) (h:Inv K1 fo NR ρ S T m1 m2 B [] [] r q) (hf:lM fo NR ρ S' T' f g) (hs:ER fo ρ S.s.2 T.s.2 f.sc g.sc):
 Mh K1 fo NR ρ m1 m2 B S T r q f g (oB K1 S r f v) (oB K2 T q g w):=by
 obtain⟨n,m,h1,h2,nd⟩:=nT kr hf;obtain⟨l,k,a1,a2,a3⟩:=nd.dU;unfold oB;rw[h1,h2];dsimp only;rw[a1,a2];exact KP hv l a3 h hs
theorem HF (kr:KR K1 K2 fo NR m1 m2) (h:Inv K1 fo NR ρ S T m1 m2 B [] [] r q) (z:Z r q) (hf:lM fo NR ρ S' T' f g) (hs:ER fo ρ S.s.2 T.s.2 f.sc g.sc) (hx:F2 (VR fo ρ) xs ys) (hl:1≤xs.length):
 sE K1 K2 fo NR ρ m1 m2 B (kA K1 S r f xs) (kA K2 T q g ys):=by
 cases xs with
 |nil=>simp at hl
 |cons v xs=>
 cases ys with
 |nil=>cases hx
 |cons w ys=>
  obtain⟨b,sS,sT,rr,qq,k1,k2,k3,k4,k5,k6⟩:=Hi kr hx.1 h hf hs;unfold kA;dsimp only;rw[k1,k2];rcases k6 with⟨rfl,rfl,rfl⟩|⟨rfl,c,d,s,t,rfl,rfl,e1,e2⟩
  ·exact dD k3 _
  ·exact wN k3 z e1 e2 hf.dep hf.inF
theorem GZ (h:Inv K1 fo NR ρ S T m1 m2 B [] [] r q) (z:Z r q) (hd:g.depth=f.depth) {names:List ByteArray} {b c:Nat} {s t:Option Nat} (hn:names.length≤2000000) (hb:NR b c∧¬fo.rt b) (hs:ER fo ρ S.s.2 T.s.2 s t) (hx:F2 (VR fo ρ) xs ys):
 sE K1 K2 fo NR ρ m1 m2 B (Cy S r f names b s xs) (Cy T q g names c t ys):=by
 unfold Cy;rw[Nat.ble_eq_true_of_le hn,←hx.len,hd];dsimp only
 cases hl:Nat.beq xs.length names.length with
 |false=>exact dD h _
 |true=>
  dsimp only
  cases decide (f.depth≥60) with
  |true=>exact dD h _
  |false=>
   obtain⟨P,Q,w1,w2,w3,w4,w5⟩:=BA names h.s1 h.s2 (Nat.eq_of_beq_eq_true hl).symm hx hs;dsimp only;rw[w1,w2];have h2:=h.sc w3 w4;obtain⟨z1,z2,z3,z4,z5⟩:=z;exact⟨_,_,rfl,rfl,ρ,fun _ _ x=>x,⟨h2.re rfl rfl,z4.trans z3.symm,z5,fun _=>.inr ⟨⟨⟨b,c,rfl,rfl,hb.1⟩,w5,rfl,rfl,⟨[],[],rfl,rfl,trivial⟩,rfl,rfl⟩,rfl,rfl,.no rfl hb.2⟩,fun e=>(by rw[show r.mode=0 from z3]at e;cases e)⟩,.inl ⟨z1,z2,z3⟩⟩
theorem JL (kr:KR K1 K2 fo NR m1 m2) (h:Inv K1 fo NR ρ S T m1 m2 B [] [] r q) (z:Z r q) (hd:g.depth=f.depth) (hx:F2 (VR fo ρ) xs ys) (hl:1≤xs.length):
 sE K1 K2 fo NR ρ m1 m2 B (uM K1 S r f xs) (uM K2 T q g ys):=by
 cases xs with
 |nil=>simp at hl
 |cons v xs=>
 cases ys with
 |nil=>cases hx
 |cons w ys=>
  obtain⟨e1,e2,e3,_,e5,_,e7,_⟩:=hx.1.o;obtain⟨p,p',k1,k2,k3,_⟩:=kr.mkr;unfold uM;dsimp only;rw[←e1,←e2,←e3,show aK r.maker K1.mm.2=some p from h.mk1 ▸ k1,show aK q.maker K2.mm.2=some p' from h.mk2 ▸ k2]
  cases hk:v.kind==7 with
  |false=>exact dD h _
  |true=>
   obtain⟨p0,c,d,x,y,f1,f2,f3,f4,nd,f5,f6⟩:=k3 _ _ _ (e7 (eq_of_beq hk));dsimp only;rw[show((v.num.toNat:Int)==v.num)=true by rw[Int.toNat_of_nonneg p0];exact beq_self_eq_true _];dsimp only;rw[f1,f2];dsimp only;rw[f3,f4];obtain⟨b,c',a1,a2,a3⟩:=nd.args 0 f5;dsimp only;rw[a1,a2];dsimp only;rw[nd.free,Nat.ble_eq_true_of_le nd.bnd.2.1];dsimp only;obtain⟨P,Q,w1,w2,w3,w4,w5⟩:=Ji v.text (gC.1 e5) x.free 0 0 f6 h.s1 h.s2 .nil;rw[w1,w2,nd.names];exact GZ (h.sc w3 w4) z hd nd.bnd.2.2.1 a3 w5 hx.2
theorem Ld (kr:KR K1 K2 fo NR m1 m2) (h:Inv K1 fo NR ρ S T m1 m2 B [] [] r q) (z:Z r q) (hf:lM fo NR ρ S' T' f g) (hx:F2 (VR fo ρ) xs ys) (hl:∀n,dA K1 f=some n→(n.kind==9)=false→1≤xs.length):
 sE K1 K2 fo NR ρ m1 m2 B (sW K1 S r f xs) (sW K2 T q g ys):=by
 obtain⟨n,m,h1,h2,nd⟩:=nT kr hf;obtain⟨p,p',k1,k2,k3,k4,_⟩:=kr.mkr;unfold sW;rw[h1,h2];dsimp only;rw[nd.kind,nd.text]
 cases hk:n.kind==9 with
 |false=>exact JL kr h z hf.dep hx (hl n h1 hk)
 |true=>
  dsimp only;rw[show aK r.maker K1.mm.2=some p from h.mk1 ▸ k1,show aK q.maker K2.mm.2=some p' from h.mk2 ▸ k2];obtain⟨o,o',g1,g2,g3⟩:=k4 ρ n.text xs ys hx;dsimp only;rw[g1,g2]
  cases o with
  |none=>
   cases o' with
   |none=>exact dD h _
   |some _=>cases g3
  |some fn=>
   cases o' with
   |none=>cases g3
   |some fn'=>
    obtain⟨⟨j1,j2,j3⟩,j4⟩:=g3;dsimp only;rw[j1];exact GZ (K1:=K1) (K2:=K2) (names:=fn.names) (b:=fn.body) (c:=fn'.body) (s:=none) (t:=none) h z hf.dep j2 ⟨j3,j4⟩ .nil hx
theorem H8 (h:Inv K1 fo NR ρ S T m1 m2 B [] [] r q) (z:Z r q) (hi:g.inFun=f.inFun) (hx:F2 (VR fo ρ) xs ys) (hl:xs.length≤2000000):
 sE K1 K2 fo NR ρ m1 m2 B (lZ S r f xs) (lZ T q g ys):=by
 unfold lZ;rw[h.nm,←hx.len,Nat.ble_eq_true_of_le hl,Nat.ble_eq_true_of_le h.nl,hi];rw[Bool.and_self];dsimp only
 cases hq:f.inFun||!(Nat.beq xs.length r.names.length) with
 |true=>exact dD h _
 |false=>
  obtain⟨b,a1,a2,_⟩:=Gu h.cr hx;dsimp only;rw[a1,a2]
  cases b with
  |true=>exact dD h _
  |false=>
   rw[Bool.or_eq_false_iff,Bool.not_eq_false']at hq;obtain⟨P,Q,w1,w2,w3,w4,w5⟩:=BA r.names h.s1 h.s2 (Nat.eq_of_beq_eq_true hq.2).symm hx .nil;dsimp only;rw[w1,w2];have h2:=h.sc w3 w4;obtain⟨z1,z2,z3,z4,z5⟩:=z;refine⟨_,_,rfl,rfl,ρ,fun _ _ x=>x,⟨?_,rfl,z5,fun _=>.inr ⟨⟨h.bd,w5,rfl,rfl,⟨[],[],rfl,rfl,trivial⟩,rfl,rfl⟩,rfl,rfl,fun _ _ _=>⟨rfl,rfl,(Nat.eq_of_beq_eq_true hq.2).symm,S.s,P,h.s1,w1,.refl w3.1,rfl⟩⟩,fun e=>(by cases e)⟩,.inl ⟨z1,z2,rfl⟩⟩;exact⟨h2.cr,h2.s1,h2.s2,h2.v1,h2.v2,h2.f1,h2.f2,h2.mk1,h2.mk2,h2.nm,h2.nl,h2.bd,h2.se,hx,[],[],rfl,rfl,trivial,List.nodup_nil,List.nodup_nil,Nat.zero_le _⟩
theorem Kf (kr:KR K1 K2 fo NR m1 m2) (h:Inv K1 fo NR ρ S T m1 m2 B [] [] r q) (z:Z r q) (nd:ND K1 K2 fo NR n m) (hx:F2 (VR fo ρ) xs ys) (hl:xs.length≤2000000):
 sE K1 K2 fo NR ρ m1 m2 B (uv K1 S r n xs) (uv K2 T q m ys):=by
 obtain⟨p,p',k1,k2,_,_,⟨es,fs,k3,k4,k5⟩,_⟩:=kr.mkr;have k5:=k5 n.text;unfold uv;rw[show aK r.maker K1.mm.2=some p from h.mk1 ▸ k1,show aK q.maker K2.mm.2=some p' from h.mk2 ▸ k2];dsimp only;rw[k3,k4];dsimp only;rw[nd.text]
 cases e1:bq n.text es with
 |none=>
  cases e2:bq n.text fs with
  |none=>exact dD h _
  |some _=>rw[e1,e2]at k5;cases k5
 |some a=>
  cases e2:bq n.text fs with
  |none=>rw[e1,e2]at k5;cases k5
  |some b=>
   rw[e1,e2]at k5;obtain⟨j1,_⟩:=k5;dsimp only;rw[j1,←hx.len]
   cases Nat.beq a.names.length xs.length with
   |false=>exact dD h _
   |true=>
    obtain⟨P,Q,l1,l2,l3,l4,l5⟩:=Hg h.cr (y:=S.g) (y':=T.g) hx hl;dsimp only;rw[l1,l2];dsimp only;rw[←l3];have h2:=h.cg (fun _ _ x=>x) l4 P.2.2 Q.2.2
    cases he:jV P.1.2 ⟨#[]⟩ with
    |false=>exact dD h2 _
    |true=>exact NL h2 z _ rfl ⟨rfl,(l5 he).2,by rw[(l5 he).1];exact hl⟩
theorem tJ (h:Inv K1 fo NR ρ S T m1 m2 B [] [] r q) {v w:Vl} (hv:VR fo ρ v w) (k:Int) {R R':Option (Ss×Rn)} (hR:sE K1 K2 fo NR ρ m1 m2 B R R'):sE K1 K2 fo NR ρ m1 m2 B (jc S r v k R) (jc T q w k R'):=by
 unfold jc;rw[←hv.o.1]
 cases v.kind==k with
 |false=>exact dD h _
 |true=>exact hR
theorem Le (h:Inv K1 fo NR ρ S T m1 m2 B [] [] r q) (z:Z r q) {v w:Vl} (hv:VR fo ρ v w) (hx:F2 (VR fo ρ) xs ys) (hl:xs.length≤2000000) (h1:1≤xs.length):
 sE K1 K2 fo NR ρ m1 m2 B (AR S r v xs) (AR T q w ys):=by
 obtain⟨P,Q,l1,l2,l3,l4,l5⟩:=Hg h.cr (y:=S.g) (y':=T.g) hx hl;unfold AR;rw[l1,l2];dsimp only;rw[←l3,←hv.o.2.1];have h2:=h.cg (fun _ _ x=>x) l4 P.2.2 Q.2.2
 cases he:jV P.1.2 ⟨#[]⟩ with
 |false=>exact dD h2 _
 |true=>
  obtain⟨l5,l6⟩:=l5 he;dsimp only
  cases hp:P.1.1 with
  |nil=>rw[hp]at l5;simp at l5;omega
  |cons o os=>
   rw[hp,BZ,Bool.and_eq_true]at l6;obtain⟨ok,on,ot,oa⟩:=o;exact wj h2 z _ (.inr (.inl rfl)) ⟨l6.1,rfl,Nat.zero_le _⟩
theorem It (kr:KR K1 K2 fo NR m1 m2) (h:Inv K1 fo NR ρ S T m1 m2 B [] [] r q) (z:Z r q) (hf:lM fo NR ρ S' T' f g) (hx:F2 (VR fo ρ) xs ys) (hl:xs.length≤2000000)
 (hk:∀n,dA K1 f=some n→(n.kind=15∨n.kind=14∨n.kind=20∨n.kind=24∨n.kind=25∨n.kind=19)∧((n.kind==14)=false→1≤xs.length)∧(n.kind=15→2≤xs.length)):
 sE K1 K2 fo NR ρ m1 m2 B (pG K1 S r f xs) (pG K2 T q g ys):=by
 obtain⟨n,m,h1,h2,nd⟩:=nT kr hf;obtain⟨hkk,l1,l2⟩:=hk n h1;unfold pG;rw[h1,h2];dsimp only;rw[nd.kind]
 cases e14:n.kind==14 with
 |true=>exact Kf kr h z nd hx hl
 |false=>
  have l1:=l1 e14
  cases xs with
  |nil=>simp at l1
  |cons v xs=>
  cases ys with
  |nil=>cases hx
  |cons w ys=>
   dsimp only;rw[←hx.1.o.2.1]
   cases e20:n.kind==20 with
   |true=>exact tJ h hx.1 _ (wj h z _ (.inl rfl) mW)
   |false=>
   dsimp only
   cases e24:n.kind==24 with
   |true=>exact tJ h hx.1 _ (wj h z _ (.inr (.inr (.inl rfl))) mW)
   |false=>
   dsimp only
   cases e25:n.kind==25 with
   |true=>exact tJ h hx.1 _ (wj h z _ (.inr (.inr (.inr rfl))) mW)
   |false=>
   dsimp only
   cases e19:n.kind==19 with
   |true=>dsimp only;rw[←hx.1.o.2.2.1];exact tJ h hx.1 _ (dD h _)
   |false=>
   dsimp only
   have h15:n.kind=15:=by
    rcases hkk with e|e|e|e|e|e
    ·exact e
    all_goals exfalso;rw[e]at e14 e20 e24 e25 e19;revert e14 e20 e24 e25 e19;decide
   rw[h15];have:=l2 h15;simp at this hl;exact tJ h hx.1 _ (Le h z hx.1 hx.2 (by omega) (by omega))
end
end MN
end
section
open Go Go.AM Go.Proofs TK
set_option maxRecDepth 100000
namespace MN
section
variable {K1 K2:Ks} {fo:FO} {NR:Nat→Nat→Prop} {ρ ρ':Nat→Nat→Prop} {S T S' T':Ss} {m1 m2 B:Nat} {A C:List Nat} {r q:Rn} {f g:Fr} {n m:Nd} {xs ys:List Vl}
def VT (fo:FO) (ρ:Nat→Nat→Prop) (x y:Option (Vl×ByteArray)):Prop:=∃p q,x=some p∧y=some q∧q.2=p.2∧VR fo ρ p.1 q.1
theorem VT.bad {w:ByteArray}:VT fo ρ (some (zV,w)) (some (zV,w)):=⟨_,_,rfl,rfl,rfl,.zV⟩
theorem VT.num {k n:Int} {w:ByteArray} (h8:(k==8)=false) (h7:k=2∨k=3∨k=6∨(k=1∧n=0)):VT fo ρ (some (vI k n,w)) (some (vI k n,w)):=⟨_,_,rfl,rfl,rfl,VR.vI h8 h7⟩
theorem Lu (op:ByteArray) (a b:Int):VR fo ρ (oo op a b).1 (oo op a b).1:=by
 unfold oo
 cases cO op 43 with
 |true=>exact VR.vI rfl (by simp)
 |false=>
 cases cO op 45 with
 |true=>exact VR.vI rfl (by simp)
 |false=>
 cases cO op 42 with
 |true=>exact VR.vI rfl (by simp)
 |false=>
 cases b==0 with
 |true=>exact VR.zV
 |false=>
 cases cO op 47<;>exact VR.vI rfl (by simp)
theorem IB (op:ByteArray) (hx:F2 (VR fo ρ) xs ys):VT fo ρ (dW op xs) (dW op ys):=by
 unfold dW
 cases lN op with
 |true=>
  rcases xs with _|⟨a,_|⟨b,_|⟨c,xs⟩⟩⟩<;>rcases ys with _|⟨a',_|⟨b',_|⟨c',ys⟩⟩⟩
  all_goals first|exact VT.bad|(cases hx;done)|(cases hx.2;done)|(cases hx.2.2;done)|skip
  dsimp only;rw[←hx.1.o.1,←hx.2.1.o.1,←hx.1.o.2.1,←hx.2.1.o.2.1]
  cases (a.kind==2)&&(b.kind==2) with
  |false=>exact VT.bad
  |true=>
   cases cO op 60 with
   |true=>exact VT.num rfl (by simp)
   |false=>exact⟨_,_,rfl,rfl,rfl,Lu ..⟩
 |false=>
 cases cO op 61 with
 |true=>
  rcases xs with _|⟨a,_|⟨b,_|⟨c,xs⟩⟩⟩<;>rcases ys with _|⟨a',_|⟨b',_|⟨c',ys⟩⟩⟩
  all_goals first|exact VT.bad|(cases hx;done)|(cases hx.2;done)|(cases hx.2.2;done)|skip
  dsimp only;obtain⟨R,h1,h2⟩:=Jv (lE a) (lE a') a b a' b' hx.1 hx.2.1 (Nat.le_refl _) (Nat.le_refl _);rw[h1,h2];exact VT.num rfl (by simp)
 |false=>
 dsimp only
 cases op.toList==Em.toList with
 |true=>
  rcases xs with _|⟨a,_|⟨b,_|⟨c,xs⟩⟩⟩<;>rcases ys with _|⟨a',_|⟨b',_|⟨c',ys⟩⟩⟩
  all_goals first|exact VT.bad|(cases hx;done)|(cases hx.2;done)|(cases hx.2.2;done)|skip
  dsimp only;obtain⟨e1,_,e3,_,_,_,_,e8⟩:=hx.1.o;obtain⟨d1,_,d3,_,_,_,_,d8⟩:=hx.2.1.o;rw[←e1,←d1,←e3,←d3]
  cases (a.kind==4)&&(b.kind==4) with
  |false=>exact VT.bad
  |true=>
   dsimp only;rw[Nat.ble_eq_true_of_le (by omega)];dsimp only
   cases hs:decide (((a.text++b.text).size:Int)>64) with
   |true=>exact VT.bad
   |false=>
    have hs:=of_decide_eq_false hs;exact⟨_,_,rfl,rfl,rfl,VR.Qm (by omega)⟩
 |false=>
 dsimp only
 cases op.toList==HD.toList with
 |false=>exact VT.bad
 |true=>
  rcases xs with _|⟨a,_|⟨b,xs⟩⟩<;>rcases ys with _|⟨a',_|⟨b',ys⟩⟩
  all_goals first|exact VT.bad|(cases hx;done)|(cases hx.2;done)|skip
  dsimp only;rw[←hx.1.o.1,←hx.1.o.2.1]
  cases a.kind==3 with
  |false=>exact VT.bad
  |true=>exact VT.num rfl (by simp)
theorem Dr (kr:KR K1 K2 fo NR m1 m2) (h:Inv K1 fo NR ρ S T m1 m2 B (bk f.vals) (bk g.vals) r q) (z:Z r q) (hf:lM fo NR ρ S T f g) (hB:B<2000000) (hk:∀n,dA K1 f=some n→¬(gA n.args:Int)<n.needs∧¬(eC f.vals:Int)<gJ n∧eC f.vals≤gA n.args):
 sE K1 K2 fo NR ρ m1 m2 (B+1) (jn K1 S r f) (jn K2 T q g):=by
 obtain⟨n,m,h1,h2,nd⟩:=nT kr hf;obtain⟨hle,hea,hlb⟩:=hk n h1;obtain⟨xs,ys,v1,v2,hx⟩:=hf.v;have hlen:=(gV hf.il v1).1;have hw:=h.weak (Nat.le_succ B);have hz:Inv K1 fo NR ρ (dS S f.vals) (dS T g.vals) m1 m2 (B+1) [] [] r q:=h.tj.weak (Nat.le_succ B);unfold jn;rw[h1,h2];dsimp only;rw[v1,v2];dsimp only;rw[nd.eager.1,nd.text]
 cases hlz:gH n with
 |false=>
  obtain⟨p,p',o1,o2,o3,o4⟩:=IB n.text hx;dsimp only;rw[o1,o2];dsimp only;rw[o3]
  cases jV p.2 ⟨#[]⟩ with
  |false=>exact dD hz _
  |true=>exact sH hz z o4
 |true=>
  have h2l:gA n.args=2:=by
   unfold gH at hlz;simp only[Bool.and_eq_true]at hlz;have:=eq_of_beq hlz.2;omega
  have he1:gJ n=1:=(wY nd hle).2.2 (by rw[hlz,Bool.or_true]);rcases xs with _|⟨a,_|⟨b,_|⟨c,xs⟩⟩⟩<;>rcases ys with _|⟨a',_|⟨b',_|⟨c',ys⟩⟩⟩
  all_goals first|(cases hx;done)|(cases hx.2;done)|(cases hx.2.2;done)|skip
  ·simp at hlen;omega
  ·dsimp only
   rw[←hx.1.o.1,←hx.1.o.2.1]
   cases a.kind==3 with
   |false=>exact dD hw _
   |true=>
    dsimp only
    cases !((!(a.num==0))==jV n.text Fc) with
    |true=>exact sH hw z hx.1
    |false=>exact vj h z hf hB h1 nd (by simp at hlen;omega) (by omega)
  ·dsimp only
   rw[←hx.2.1.o.1]
   cases b.kind==3 with
   |false=>exact dD hw _
   |true=>exact sH hw z hx.2.1
  ·simp at hlen;omega
theorem Il (kr:KR K1 K2 fo NR m1 m2) (h:Inv K1 fo NR ρ S T m1 m2 B [] [] r q) (z:Z r q) (hf:lM fo NR ρ S' T' f g) (hs:ER fo ρ S.s.2 T.s.2 f.sc g.sc) (hx:F2 (VR fo ρ) xs ys) (hl:xs.length≤2000000) (hk:∀n,dA K1 f=some n→(n.kind=21→1≤xs.length)∧(n.kind=22→1≤xs.length)∧(n.kind=23→2≤xs.length)):
 sE K1 K2 fo NR ρ m1 m2 B (qj K1 S r f xs) (qj K2 T q g ys):=by
 suffices H:∃p p' ρ',mh K1 S r f xs=some p∧mh K2 T q g ys=some p'∧p'.1.2=p.1.2∧(∀a b,ρ a b→ρ' a b)∧VR fo ρ' p.1.1 p'.1.1∧Inv K1 fo NR ρ' p.2 p'.2 m1 m2 B [] [] r q by
  obtain⟨⟨⟨u,w⟩,S2⟩,⟨⟨u',w'⟩,T2⟩,ρ',e1,e2,e3,e4,e5,e6⟩:=H;unfold qj;rw[e1,e2];dsimp only at e3 e5 e6 ⊢;rw[e3];refine sE.le e4 ?_
  cases jV w ⟨#[]⟩ with
  |false=>exact dD e6 _
  |true=>exact sH e6 z e5
 obtain⟨n,m,h1,h2,nd⟩:=nT kr hf;obtain⟨k1,k2,k3⟩:=hk n h1;have le:∀a b,ρ a b→ρ a b:=fun _ _ x=>x;unfold mh;rw[h1,h2];dsimp only;rw[nd.kind,nd.num,nd.text,h.se]
 cases e1:n.kind==1 with
 |true=>exact⟨_,_,ρ,rfl,rfl,rfl,le,VR.vI rfl (by simp),h⟩
 |false=>
 dsimp only
 cases e2:n.kind==2 with
 |true=>exact⟨_,_,ρ,rfl,rfl,rfl,le,VR.vI rfl (by simp),h⟩
 |false=>
 dsimp only
 cases e3:n.kind==3 with
 |true=>exact⟨_,_,ρ,rfl,rfl,rfl,le,VR.vI rfl (by simp),h⟩
 |false=>
 dsimp only
 cases e4:n.kind==4 with
 |true=>exact⟨_,_,ρ,rfl,rfl,rfl,le,VR.Qm nd.bnd.2.2.2,h⟩
 |false=>
 dsimp only
 cases e16:n.kind==16 with
 |true=>exact⟨_,_,ρ,rfl,rfl,rfl,le,VR.vI rfl (by simp),h⟩
 |false=>
 dsimp only
 cases e5:n.kind==5 with
 |true=>
  obtain⟨o,o',f1,f2,f3⟩:=IX n.text hs (S.s.1+1) (T.s.1+1) (fun a ha=>Nat.lt_succ_of_lt (hs.PD h.s1 a ha)) (fun a ha=>Nat.lt_succ_of_lt (hs.P0 h.s2 a ha));dsimp only;rw[f1,f2]
  cases o with
  |none=>
   cases o' with
   |none=>exact⟨_,_,ρ,rfl,rfl,rfl,le,.zV,h⟩
   |some _=>cases f3
  |some v=>
   cases o' with
   |none=>cases f3
   |some w=>exact⟨_,_,ρ,rfl,rfl,rfl,le,f3,h⟩
 |false=>
 dsimp only
 cases e12:n.kind==12 with
 |true=>
  obtain⟨p,p',j1,j2,_,_,_,es,j3,j4⟩:=kr.mkr;dsimp only;rw[show aK r.maker K1.mm.2=some p from h.mk1 ▸ j1,show aK q.maker K2.mm.2=some p' from h.mk2 ▸ j2];dsimp only;rw[j3,j4];dsimp only
  cases bq n.text es with
  |none=>exact⟨_,_,ρ,rfl,rfl,rfl,le,.zV,h⟩
  |some c=>
   dsimp only;rw[←hx.len]
   cases c.args==(xs.length:Int) with
   |false=>exact⟨_,_,ρ,rfl,rfl,rfl,le,.zV,h⟩
   |true=>
    obtain⟨a,b,f1,f2,f3,f4⟩:=MH h.cr (VR.mk' (k:=5) (n:=0) (t:=n.text) rfl (fun e=>by cases e) hl nd.bnd.2.2.2 (by simp[Bg]) (gC.2 hx));dsimp only;rw[f1,f2];exact⟨_,_,ρ,rfl,rfl,f3.symm,le,f4,h⟩
 |false=>
 dsimp only
 cases e21:n.kind==21 with
 |true=>
  have:=k1 (eq_of_beq e21);rcases xs with _|⟨v,xs⟩<;>rcases ys with _|⟨w,ys⟩
  all_goals first|(cases hx;done)|(simp at this;done)|skip
  have hc:=h.cr.new (x:=⟨false,v⟩) (y:=⟨false,w⟩) rfl (hx.1.mono kZ);obtain⟨a,b,f1,f2,f3,f4⟩:=MH hc (VR.GA (fo:=fo) (ρ:=K5 ρ S.c.1 T.c.1) (.inr ⟨rfl,rfl⟩));dsimp only at f1 f2 ⊢;rw[f1,f2];exact⟨_,_,K5 ρ S.c.1 T.c.1,rfl,rfl,f3.symm,kZ,f4,h.cg kZ hc S.g T.g⟩
 |false=>
 dsimp only
 cases e22:n.kind==22 with
 |true=>
  have:=k2 (eq_of_beq e22);rcases xs with _|⟨v,xs⟩<;>rcases ys with _|⟨w,ys⟩
  all_goals first|(cases hx;done)|(simp at this;done)|skip
  obtain⟨a,b,f1,f2,f3,f4⟩:=Oe h.cr hx.1;dsimp only;rw[f1,f2];exact⟨_,_,ρ,rfl,rfl,f3.symm,le,f4,h⟩
 |false=>
 dsimp only
 cases e23:n.kind==23 with
 |true=>
  have:=k3 (eq_of_beq e23);rcases xs with _|⟨v,_|⟨v2,xs⟩⟩<;>rcases ys with _|⟨w,_|⟨w2,ys⟩⟩
  all_goals first|(cases hx;done)|(cases hx.2;done)|(simp at this;done)|skip
  obtain⟨a,b,ρ',f1,f2,f3,f4,f5⟩:=Ok h.cr hx.1 hx.2.1;dsimp only;rw[f1,f2];exact⟨_,_,ρ',rfl,rfl,f3.symm,f4,VR.vI rfl (by simp),h.cg f4 f5 S.g T.g⟩
 |false=>exact⟨_,_,ρ,rfl,rfl,rfl,le,.zV,h⟩
theorem Nj (h:Inv K1 fo NR ρ S T m1 m2 B [] [] r q) (z:Z r q) (hf:lM fo NR ρ S T f g) (nd:ND K1 K2 fo NR n m) (hj:1<gA n.args) (hx:F2 (VR fo ρ) xs ys) (hl:1≤xs.length):
 sE K1 K2 fo NR ρ m1 m2 B (A1 K1 S r f n xs) (A1 K2 T q g m ys):=by
 rcases xs with _|⟨v,xs⟩<;>rcases ys with _|⟨w,ys⟩
 all_goals first|(cases hx;done)|(simp at hl;done)|skip
 obtain⟨c,d,a1,a2,a3⟩:=nd.args 1 hj;unfold A1;rw[a1,a2];dsimp only;rw[nd.text];exact wN (h.sc (.push h.s1 _) (.push h.s2 _)) z a3 (hf.sc.push h.s1 h.s2 _ hx.1) hf.dep hf.inF
theorem Lq (kr:KR K1 K2 fo NR m1 m2) (h:Inv K1 fo NR ρ S T m1 m2 B (bk f.vals) (bk g.vals) r q) (z:Z r q) (hf:lM fo NR ρ S T f g) (hB:B<2000000) (h1:dA K1 f=some n) (nd:ND K1 K2 fo NR n m) (hle:¬(gA n.args:Int)<n.needs) (hea:¬(eC f.vals:Int)<gJ n) (hlb:eC f.vals≤gA n.args):
 sE K1 K2 fo NR ρ m1 m2 (B+1) (eH K1 S r f n) (eH K2 T q g m):=by
 have hn:∀k,dA K1 f=some k→k=n:=fun k e=>by rw[h1]at e;cases e;rfl
 obtain⟨xs,ys,v1,v2,hx⟩:=hf.v;obtain⟨hlen,hl⟩:=gV hf.il v1;have hw:=h.weak (Nat.le_succ B);have hz:Inv K1 fo NR ρ (dS S f.vals) (dS T g.vals) m1 m2 (B+1) [] [] r q:=h.tj.weak (Nat.le_succ B)
 have hs:ER fo ρ (dS S f.vals).s.2 (dS T g.vals).s.2 f.sc g.sc:=by
  have:∀(S:Ss) (v:FV),(dS S v).s=S.s:=fun S v=>by cases v<;>rfl
  rw[this,this];exact hf.sc
 obtain⟨ea1,ea2,ea3⟩:=wY nd hle;unfold eH;rw[nd.kind]
 cases e6:n.kind==6 with
 |true=>
  have:=gP nd (eq_of_beq e6) (c:=2) (fun _=>rfl) hle;have:=ea3 (by rw[e6];simp);dsimp only;rw[v1,v2];exact Nj hw z hf nd (by omega) hx (by omega)
 |false=>
 dsimp only
 cases e8:n.kind==8 with
 |true=>exact Dr kr h z hf hB fun k hk=>by rw[hn k hk];exact⟨hle,hea,hlb⟩
 |false=>
 dsimp only;rw[v1,v2];dsimp only
 cases e7:n.kind==7 with
 |true=>
  have:=ea3 (by rw[e7];simp);exact Ij kr hz z hf hs (fun k hk=>by rw[hn k hk];exact⟨eq_of_beq e7,hle⟩) hx (by omega)
 |false=>
 have hee:=ea2 (by rw[e7,e6];unfold gH;rw[e8];rfl);rw[hee,hlen]at hea;dsimp only
 cases e13:n.kind==13 with
 |true=>
  have:=gP nd (eq_of_beq e13) (c:=1) (fun _=>rfl) hle;exact HF kr hz z hf hs hx (by omega)
 |false=>
 dsimp only
 cases ec:(n.kind==9)||(n.kind==11) with
 |true=>
  refine Ld kr hz z hf hx fun k hk h9=>?_;rw[hn k hk]at h9;rw[h9,Bool.false_or]at ec;have:=nd.needs;rw[eq_of_beq ec,show TR.dZ 11 n.num (gA n.args)=if (gA n.args:Int)<1 then 1 else (gA n.args:Int) from rfl]at this;split at this<;>omega
 |false=>
 dsimp only
 cases e17:n.kind==17 with
 |true=>exact H8 hz z hf.inF hx hl
 |false=>
 dsimp only
 cases el:(n.kind==15)||(n.kind==14)||(n.kind==20)||(n.kind==24)||(n.kind==25)||(n.kind==19) with
 |true=>
  refine It kr hz z hf hx hl fun k hk=>?_;rw[hn k hk];simp only[Bool.or_eq_true,beq_iff_eq]at el;have el:n.kind=15∨n.kind=14∨n.kind=20∨n.kind=24∨n.kind=25∨n.kind=19:=by omega
  refine⟨el,fun e14=>?_,fun e15=>?_⟩
  ·have h14:n.kind≠14:=by simpa using e14
   have:n.needs=1∨n.needs=2:=by
    rcases el with e|e|e|e|e|e
    ·exact .inr (gP nd e (c:=2) (fun _=>rfl) hle).2
    ·exact absurd e h14
    all_goals exact .inl (gP nd e (c:=1) (fun _=>rfl) hle).2
   omega
  ·have:=(gP nd e15 (c:=2) (fun _=>rfl) hle).2
   omega
 |false=>
  refine Il kr hz z hf hs hx hl fun k hk=>?_;rw[hn k hk];refine⟨fun e=>?_,fun e=>?_,fun e=>?_⟩
  ·have:=(gP nd e (c:=1) (fun _=>rfl) hle).2;omega
  ·have:=(gP nd e (c:=1) (fun _=>rfl) hle).2;omega
  ·have:=(gP nd e (c:=2) (fun _=>rfl) hle).2;omega
theorem AD (kr:KR K1 K2 fo NR m1 m2) (h:Inv K1 fo NR ρ S T m1 m2 B (bk f.vals) (bk g.vals) r q) (z:Z r q) (hf:lM fo NR ρ S T f g) (hB:B<2000000) (hlb:∀n,dA K1 f=some n→eC f.vals≤gA n.args):
 sE K1 K2 fo NR ρ m1 m2 (B+1) (gR K1 S r f) (gR K2 T q g):=by
 obtain⟨n,m,h1,h2,nd⟩:=nT kr hf;have hlb:=hlb n h1;unfold gR;rw[h1,h2];dsimp only;rw[hf.il,hf.jl,hf.len,nd.eager.2,nd.la,nd.needs2];dsimp only
 cases he:decide ((eC f.vals:Int)<gJ n) with
 |true=>
  have he:=of_decide_eq_true he
  have hlt:eC f.vals<gA n.args:=by
   by_cases hle:(gA n.args:Int)<n.needs
   ·unfold gJ at he;rw[decide_eq_true hle]at he;dsimp only at he;omega
   ·have:=(wY nd hle).1;omega
  exact vj h z hf hB h1 nd hlt hlt
 |false=>
  dsimp only
  cases hd:decide ((gA n.args:Int)<n.needs) with
  |true=>exact dD (h.weak (Nat.le_succ B)) _
  |false=>exact Lq kr h z hf hB h1 nd (of_decide_eq_false hd) (of_decide_eq_false he) hlb
theorem JR {M N:List (Nat×Sc)} {s t:Option Nat} (e:ER fo ρ M N s t) {n m:Nat} (hn:∀a,s=some a→a<n) (hm:∀a,t=some a→a<m):∀(free:List ByteArray) (b:List Int) {l k:List Vl},F2 (VR fo ρ) l k→
 ∃b' l' k',vQ M n s free (b,l)=some (b++b',l++l')∧vQ N m t free (b,k)=some (b++b',k++k')∧F2 (VR fo ρ) (l++l') (k++k')∧b'.length=free.length∧l'.length≤free.length∧b'.count 49=l'.length∧(∀x∈b',x=48∨x=49)
 | [],b,l,k,h=>⟨[],[],[],by simp[vQ],by simp[vQ],by simpa using h,rfl,Nat.le_refl _,rfl,fun x hx=>by cases hx⟩
 |x::free,b,l,k,h=>by
  obtain⟨o,o',h1,h2,h3⟩:=IX x e n m hn hm;rw[vQ,vQ,h1,h2]
  cases o with
  |none=>
   cases o' with
   |some _=>cases h3
   |none=>
    dsimp only;obtain⟨b',l',k',g1,g2,g3,g4,g5,g6,g7⟩:=JR e hn hm free (b++[48]) h;refine⟨48::b',l',k',by simpa using g1,by simpa using g2,g3,by simp[g4],by simp;omega,by rw[List.count_cons];simp[g6],fun y hy=>?_⟩;rcases List.mem_cons.1 hy with rfl|hy
    ·exact .inl rfl
    ·exact g7 y hy
  |some v=>
   cases o' with
   |none=>cases h3
   |some w=>
    dsimp only;obtain⟨b',l',k',g1,g2,g3,g4,g5,g6,g7⟩:=JR e hn hm free (b++[49]) (h.app (l':=[v]) (m':=[w]) ⟨h3,trivial⟩);refine⟨49::b',v::l',w::k',by simpa using g1,by simpa using g2,by simpa using g3,by simp[g4],by simp;omega,by rw[List.count_cons];simp[g6],fun y hy=>?_⟩;rcases List.mem_cons.1 hy with rfl|hy
    ·exact .inr rfl
    ·exact g7 y hy
end
end MN
end
section
open Go Go.AM Go.Proofs TK
set_option maxRecDepth 100000
namespace MN
theorem Na (t:ByteArray) (i:Nat):t[i]?=t.data.toList[i]?:=by
 by_cases h:i<t.size
 ·rw[getElem?_pos t i h,List.getElem?_eq_getElem (by simpa using h)];rfl
 ·rw[getElem?_neg t i h,List.getElem?_eq_none (by simpa using h)]
theorem As (ns:List Int):(iZ ns).data.toList=ns.map fun n=>UInt8.ofNat n.toNat:=by
 have:∀(ns:List Int) (r:ByteArray),(ns.foldl (fun r n=>r.push (UInt8.ofNat n.toNat)) r).data.toList=r.data.toList++ns.map fun n=>UInt8.ofNat n.toNat:=by
  intro ns
  induction ns with
  |nil=>intro r;simp
  |cons a ns ih=>intro r;rw[List.foldl_cons,ih];simp[ByteArray.push]
 exact this ns _
theorem wD (t:ByteArray):t.size=t.data.toList.length:=by rw[Array.length_toList];rfl
theorem tA (t:ByteArray) (len:Nat):∀(free:List ByteArray) (i k:Nat),i+free.length≤t.data.toList.length→k+(t.data.toList.drop i).count 49≤len→xV t len free i k
 | [],_,_,_,_=>trivial
 |x::r,i,k,h1,h2=>by
  simp only[List.length_cons]at h1;have hi:i<t.data.toList.length:=by omega
  have e:=List.drop_eq_getElem_cons hi;rw[e,List.count_cons]at h2;have hg:(t[i]?).getD 0=t.data.toList[i]:=by rw[Na,List.getElem?_eq_getElem hi];rfl
  refine⟨by rw[wD];exact hi,fun h=>?_,fun h=>?_⟩
  ·rw[hg]at h
   have:t.data.toList[i]=49:=UInt8.toNat_inj.1 (by show _=49;omega);rw[this]at h2;simp only[beq_self_eq_true,if_true]at h2;exact⟨by omega,tA t len r (i+1) (k+1) (by omega) (by omega)⟩
  ·exact tA t len r (i+1) k (by omega) (by omega)
theorem IF {b:List Int} (hb:∀x∈b,x=48∨x=49):((iZ b).data.toList).count 49=b.count 49:=by
 rw[As]
 induction b with
 |nil=>rfl
 |cons x b ih=>
  rw[List.map_cons,List.count_cons,List.count_cons,ih fun y hy=>hb y (List.mem_cons_of_mem _ hy)];rcases hb x List.mem_cons_self with rfl|rfl<;>rfl
section
variable {K1 K2:Ks} {fo:FO} {NR:Nat→Nat→Prop} {ρ ρ':Nat→Nat→Prop} {S T S' T':Ss} {m1 m2 B:Nat} {A C:List Nat} {r q:Rn} {f g:Fr} {n m:Nd} {xs ys:List Vl}
theorem Kz (h:Inv K1 fo NR ρ S T m1 m2 B [] [] r q) (z:Z r q) (hf:lM fo NR ρ S T f g) (nd:ND K1 K2 fo NR n m) (hk:n.kind=10) (hl:0<gA n.args):sE K1 K2 fo NR ρ m1 m2 B (uy K1 S r f n) (uy K2 T q g m):=by
 unfold uy;rw[nd.free,Nat.ble_eq_true_of_le nd.bnd.2.1];dsimp only;obtain⟨b,l,k,g1,g2,g3,g4,g5,g6,g7⟩:=JR hf.sc (fun a ha=>Nat.lt_succ_of_lt (hf.sc.PD h.s1 a ha)) (fun a ha=>Nat.lt_succ_of_lt (hf.sc.P0 h.s2 a ha)) n.free [] (l:=[]) (k:=[]) trivial;rw[g1,g2];dsimp only;simp only[List.nil_append]at g3 ⊢;have hb:=nd.bnd.2.1;have hs:(iZ b).size=n.free.length:=by rw[wD,As,List.length_map,g4]
 have hv:VR fo ρ (.mk 7 n.fn (iZ b) l none) (.mk 7 n.fn (iZ b) k none):=VR.mk' rfl (fun _=>nd.clo hk hl _ _ hs (tA _ _ _ 0 0 (by rw[←wD,hs];omega) (by rw[List.drop_zero,IF g7,g6];omega))) (by omega) (by omega) (by simp[Bg]) (gC.2 g3);obtain⟨x,l1,l2,_⟩:=wu h.cr hv;rw[nd.fn,l1,l2]
 cases x with
 |true=>exact dD h _
 |false=>exact sH h z hv
theorem JV (kr:KR K1 K2 fo NR m1 m2) (h:Inv K1 fo NR ρ S T m1 m2 B [] [] r q) (z:Z r q) (hf:lM fo NR ρ S T f g) (hB:B<2000000) (hv:f.vals=.nil) (hw:g.vals=.nil) (hb:Ml fo S r f):
 sE K1 K2 fo NR ρ m1 m2 (B+1) (uE K1 S r f) (uE K2 T q g):=by
 obtain⟨n,m,h1,h2,nd⟩:=nT kr hf;have hi:=h.weak (Nat.le_succ B);have hr:sE K1 K2 fo NR ρ m1 m2 (B+1) (gR K1 S r f) (gR K2 T q g):=AD kr (by rw[hv,hw];exact h) z hf hB fun k _=>by rw[hv];exact Nat.zero_le _
 unfold uE;rw[h1,h2];dsimp only;rw[nd.needs2,nd.la,nd.kind]
 cases decide (n.needs<0) with
 |true=>exact dD hi _
 |false=>
 dsimp only
 cases hd:decide ((gA n.args:Int)<n.needs) with
 |true=>exact hr
 |false=>
 have hd:=of_decide_eq_false hd;dsimp only
 cases e10:n.kind==10 with
 |true=>
  have:=gP nd (eq_of_beq e10) (c:=1) (fun _=>rfl) hd;exact Kz hi z hf nd (eq_of_beq e10) (by omega)
 |false=>
 dsimp only
 cases e18:n.kind==18 with
 |false=>exact hr
 |true=>
  obtain⟨z1,z2,z3,z4,z5⟩:=z;have ho:qP m=qP n:=by unfold qP;rw[nd.num]
  dsimp only;rw[ho];refine⟨_,_,rfl,rfl,ρ,fun _ _ x=>x,⟨(hi.o _ _).re rfl rfl,rfl,rfl,fun e=>(by cases e),fun _=>⟨⟨hf.n,hf.sc,hf.il,hf.jl,hf.v,hf.dep,hf.inF⟩,hv,hw,fun hn=>?_,fun a x y=>hb a x y⟩⟩,.inr ⟨_,_,qP n,rfl,rfl,aQ ..,aQ ..,.inr (.inl ⟨rfl,rfl,rfl⟩),mW⟩⟩
  have hn:0≤n.num:=by
   have hn:0≤(if n.num < -1 then (-1:Int) else n.num):=hn;split at hn<;>omega
  have hnn:=nd.needs;rw[eq_of_beq e18,show TR.dZ 18 n.num (gA n.args)=(bif decide (n.num≥0) then 1 else 0) from rfl,decide_eq_true hn]at hnn;have hnn:n.needs=1:=hnn;obtain⟨c,d,a1,a2,a3⟩:=nd.args 0 (by omega);exact⟨n,m,c,d,h1,h2,a1,a2,a3⟩
theorem Jb:∀{fs gs:List Fr},F2 (Ol K1 fo NR ρ S T) fs gs→fX S.v→fX T.v→(∀k∈HU fs,k<S.v.1)∧(∀k∈HU gs,k<T.v.1)
 | [],[],_,_,_=>⟨fun k hk=>(by cases hk),fun k hk=>(by cases hk)⟩
 |f::fs,g::gs,h,hb,hc=>by
  obtain⟨i1,i2⟩:=Jb h.2 hb hc;obtain⟨xs,ys,v1,v2,_⟩:=h.1.1.v
  have one:∀{S:Ss} {v:FV} {xs:List Vl},fX S.v→bJ S v=some xs→∀k∈bk v,k<S.v.1:=by
   intro S v xs hb hv k hk
   cases v with
   |nil=>cases hk
   |nA l=>cases hk
   |blk j n=>
    simp only[bk,List.mem_singleton]at hk;subst hk;unfold bJ at hv;dsimp only at hv;split at hv
    ·cases hv
    ·rename_i hq;exact hb.lt hq
  refine⟨fun k hk=>?_,fun k hk=>?_⟩
  all_goals rw[HU,List.flatMap_cons,List.mem_append]at hk
  ·rcases hk with hk|hk
   ·exact one hb v1 k hk
   ·exact i1 k hk
  ·rcases hk with hk|hk
   ·exact one hc v2 k hk
   ·exact i2 k hk
theorem Ca (kr:KR K1 K2 fo NR m1 m2) (h:FI K1 K2 fo NR ρ S T m1 m2 B r q) (hm:r.mode=0) (ho:r.out=none) (ho2:q.out=none) (hB:B<2000000):sE K1 K2 fo NR ρ m1 m2 (B+1) (qU K1 S r) (qU K2 T q):=by
 have z:Z r q:=⟨ho,ho2,hm,h.mode.trans hm,h.last⟩
 unfold qU;rcases h.go hm with⟨n1,n2,hv⟩|⟨hf,e1,e2,e3⟩
 ·rw[n1,n2]
  dsimp only;obtain⟨fs,gs,x1,x2,x3,x4,x5,x6⟩:=h.inv.stk;have hend:=fun r' q' (e:Inv K1 fo NR ρ S T m1 m2 (B+1) [] [] r' q')=>Hw (K2:=K2) e DG (.inl rfl) mW;rcases fs with _|⟨f,fs⟩<;>rcases gs with _|⟨g,gs⟩
  all_goals first|(cases x3;done)|skip
  ·have:=hend r q (h.inv.weak (Nat.le_succ B))
   rcases Gv x1 with s1|⟨a,s1⟩<;>rcases Gv x2 with s2|⟨b,s2⟩<;>rw[s1,s2]<;>exact⟨_,_,rfl,rfl,this⟩
  ·obtain⟨a,j,l,s1,s2,s3,s4,s5⟩:=Gj x1
   obtain⟨b,k,l',t1,t2,t3,t4,t5⟩:=Gj x2;rw[s1,t1];dsimp only;rw[s2,t2];dsimp only;rw[s3,t3];dsimp only;rw[Nat.ble_eq_true_of_le s4,Nat.ble_eq_true_of_le t4];dsimp only;obtain⟨⟨hf,p,hp,hlt⟩,x3⟩:=x3;obtain⟨n,m,h1,h2,nd⟩:=nT kr hf;have hpn:p=n:=by rw[hp]at h1;cases h1;rfl
   subst hpn;obtain⟨xs,ys,v1,v2,hx⟩:=hf.v;obtain⟨hlen,_⟩:=gV hf.il v1;have hb:=nd.bnd.1;obtain⟨S',w,p1,p2,p3,p4,p5,p6⟩:=DS r.val hf.il v1 (by omega) h.inv.v1;obtain⟨T',w',q1,q2,q3,q4,q5,q6⟩:=DS q.val hf.jl v2 (by rw[←hx.len];omega) h.inv.v2;rw[p1,q1];dsimp only;rw[List.nil_append,HU,List.flatMap_cons]at x4 x5;have y4:=List.nodup_append.1 x4;have y5:=List.nodup_append.1 x5;obtain⟨b1,b2⟩:=Jb x3 h.inv.v1 h.inv.v2;have hm3:F2 (Ol K1 fo NR ρ { S with v:=S' } { T with v:=T' }) fs gs:=oY (S:=S) (T:=T) x3 (fun _ _ x=>x) (.refl h.inv.s1) (.refl h.inv.s2) (fun k l hk=>p6 k l fun hn=>y4.2.2 _ hn _ hk rfl) (fun k l hk=>q6 k l fun hn=>y5.2.2 _ hn _ hk rfl)
   have hi:Inv K1 fo NR ρ { S with v:=S' } { T with v:=T' } m1 m2 B (bk { f with vals:=w }.vals) (bk { g with vals:=w' }.vals) { r with stack:=some (a,j) } { q with stack:=some (b,k) }:=
    ⟨h.inv.cr,h.inv.s1,h.inv.s2,p4,q4,h.inv.f1,h.inv.f2,h.inv.mk1,h.inv.mk2,h.inv.nm,h.inv.nl,h.inv.bd,h.inv.se,h.inv.st,fs,gs,s5,t5,hm3,
      by
       show(bk w++HU fs).Nodup;rw[p5,List.singleton_append,List.nodup_cons];exact⟨fun hn=>Nat.lt_irrefl _ (b1 _ hn),y4.2.1⟩,
      by
       show(bk w'++HU gs).Nodup;rw[q5,List.singleton_append,List.nodup_cons];exact⟨fun hn=>Nat.lt_irrefl _ (b2 _ hn),y5.2.1⟩,
      by simp at x6;omega⟩
   refine AD kr hi z ⟨hf.n,hf.sc,p2,q2,⟨_,_,p3 _ rfl,q3 _ rfl,hx.app ⟨hv,trivial⟩⟩,hf.dep,hf.inF⟩ hB fun n hn=>?_;have hn:dA K1 f=some n:=hn;rw[hp]at hn;cases hn;have:=(gV p2 (p3 { S with v:=S' } rfl)).1;dsimp only;rw[this];simp;omega
 ·obtain⟨a,b,c1,c2,_⟩:=hf.n
  rw[c1,c2];exact JV kr h.inv z hf hB e1 e2 e3
end
end MN
end
