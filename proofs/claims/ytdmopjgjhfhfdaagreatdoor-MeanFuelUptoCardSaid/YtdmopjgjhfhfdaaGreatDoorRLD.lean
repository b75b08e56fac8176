/- Contracts, and the law, for every input. No conditions. -/
import Derived.Test.YtdmopjgjhfhfdaaGreatDoorRL9
set_option linter.all false
section
open Go Go.AM Go.Proofs TK
set_option maxRecDepth 100000
namespace MN
mutual
def Dq:Ov→Prop
 |.mk _ _ t l=>t.size≤2000000∧l.length≤2000000∧FE l
def FE:List Ov→Prop
 | []=>True
 |v::r=>Dq v∧FE r
end
theorem uO {a:Ov}:∀{l:List Ov},a∈l→yw a≤rA l
 |x::l,h=>by
  rw[rA];rcases List.mem_cons.1 h with rfl|h
  ·omega
  ·have:=uO h;omega
theorem yp:∀{l:List Ov},FE l→∀v∈l,Dq v
 | [],_,v,h=>by cases h
 |a::l,q,v,h=>by
  rw[FE]at q;rcases List.mem_cons.1 h with rfl|h
  ·exact q.1
  ·exact yp q.2 v h
section
variable {K1 K2:Ks} {fo:FO} {NR:Nat→Nat→Prop} {ρ ρ':Nat→Nat→Prop} {S T S' T':Ss} {m1 m2 B:Nat} {A C:List Nat} {r q:Rn} {f g:Fr} {n m:Nd} {xs ys:List Vl}
theorem FI.weak (h:FI K1 K2 fo NR ρ S T m1 m2 B r q) {B':Nat} (hB:B≤B'):FI K1 K2 fo NR ρ S T m1 m2 B' r q:=⟨h.inv.weak hB,h.mode,h.last,h.go,h.pa⟩
theorem FI.out (h:FI K1 K2 fo NR ρ S T m1 m2 B r q) (x y:Option Nat):FI K1 K2 fo NR ρ S T m1 m2 B { r with out:=x } { q with out:=y }:=⟨h.inv.re rfl rfl,h.mode,h.last,h.go,h.pa⟩
theorem FL (kr:KR K1 K2 fo NR m1 m2):∀(n:Nat) {ρ:Nat→Nat→Prop} {S T:Ss} {r q:Rn} {B:Nat},FI K1 K2 fo NR ρ S T m1 m2 B r q→r.mode=0→r.out=none→q.out=none→B+n≤2000000→
 ∃o S' r' T' q' ρ',u9 K1 n S r=some (o,S',r')∧u9 K2 n T q=some (o,T',q')∧FI K1 K2 fo NR ρ' S' T' m1 m2 (B+n) r' q'∧(∀a b,ρ a b→ρ' a b)∧r'.out=none∧q'.out=none∧((o=Gn∧r'.mode=0)∨(MO o r'∧vT o))
 |0,ρ,S,T,r,q,B,h,hm,h1,h2,_=>⟨_,_,_,_,_,ρ,rfl,rfl,h,fun _ _ x=>x,h1,h2,.inl ⟨rfl,hm⟩⟩
 |n+1,ρ,S,T,r,q,B,h,hm,h1,h2,hB=>by
  obtain⟨⟨P1,P2⟩,⟨Q1,Q2⟩,s1,s2,ρ',s3,s4,s5⟩:=Ca kr h hm h1 h2 (by omega)
  have c1:tH r=true∧tH q=true:=by
   unfold tH;rcases h.go hm with⟨e1,e2,_⟩|⟨_,e1,e2,_⟩
   ·rw[e1,e2];exact⟨rfl,rfl⟩
   ·rw[e1,e2];constructor<;>split<;>rfl
  rw[u9,u9,show q.mode=r.mode from h.mode,hm,c1.1,c1.2];rw[show((0:Int)==1||(0:Int)==3)=false from rfl,show((0:Int)==2)=false from rfl];dsimp only;rw[s1,s2];dsimp only at s4 s5 ⊢;rcases s5 with⟨o1,o2,o3⟩|⟨a,b,o,o1,o2,o3,o4,o5⟩
  ·rw[o1,o2]
   obtain⟨o,S',r',T',q',ρ2,g1,g2,g3,g4,g5⟩:=FL kr n s4 o3 o1 o2 (by omega);exact⟨o,S',r',T',q',ρ2,g1,g2,g3.weak (by omega),fun _ _ x=>g4 _ _ (s3 _ _ x),g5⟩
  ·rw[o1,o2]
   dsimp only;rw[o3,o4];exact⟨o,_,_,_,_,ρ',rfl,rfl,(s4.out none none).weak (by omega),s3,rfl,rfl,.inr o5⟩
theorem NI (kr:KR K1 K2 fo NR m1 m2) (k num:Int) (t:ByteArray) (l:List Ov) (ht:t.size≤2000000):∃R,AG K1 m1 (.mk k num t l)=some R∧AG K2 m2 (.mk k num t l)=some R∧
 ∀o most,R=some (o,most)→o.2.2.size≤2000000∧o.1=k∧(k=8→o.2.1=0∧o.2.2=⟨#[]⟩∧most=1)∧(k=7→fo o.2.1 o.2.2 l.length∧most=l.length)∧(((k=1∨k=4∨k=5∨k=8)→o.2.1=0)∧(¬(k=4∨k=5∨k=7)→o.2.2=⟨#[]⟩))∧(¬(k=5∨k=7∨k=8)→most=0):=by
 have z:(⟨#[]⟩:ByteArray).size≤2000000:=by decide
 unfold AG;dsimp only
 cases e1:k==1 with
 |true=>have e1:=eq_of_beq e1;exact⟨_,rfl,rfl,fun o m e=>by cases e;exact⟨z,e1.symm,fun e=>(by omega),fun e=>(by omega),by refine⟨⟨?_,?_⟩,?_⟩<;>intro h<;>first|rfl|omega⟩⟩
 |false=>
 dsimp only
 cases e26:(k==2)||(k==6) with
 |true=>
  have e1:k=2∨k=6:=by simpa using e26
  exact⟨_,rfl,rfl,fun o m e=>by cases e;exact⟨z,rfl,fun e=>(by omega),fun e=>(by omega),by refine⟨⟨?_,?_⟩,?_⟩<;>intro h<;>first|rfl|omega⟩⟩
 |false=>
 dsimp only
 cases e3:k==3 with
 |true=>
  have e1:=eq_of_beq e3;dsimp only
  cases !(num==0)&&!(num==1) with
  |true=>exact⟨_,rfl,rfl,fun o m e=>by cases e⟩
  |false=>exact⟨_,rfl,rfl,fun o m e=>by cases e;exact⟨z,e1.symm,fun e=>(by omega),fun e=>(by omega),by refine⟨⟨?_,?_⟩,?_⟩<;>intro h<;>first|rfl|omega⟩⟩
 |false=>
 dsimp only
 cases e4:k==4 with
 |true=>
  have e1:=eq_of_beq e4;dsimp only
  cases decide ((t.size:Int)>64) with
  |true=>exact⟨_,rfl,rfl,fun o m e=>by cases e⟩
  |false=>exact⟨_,rfl,rfl,fun o m e=>by cases e;exact⟨ht,e1.symm,fun e=>(by omega),fun e=>(by omega),by refine⟨⟨?_,?_⟩,?_⟩<;>intro h<;>first|rfl|omega⟩⟩
 |false=>
 dsimp only
 cases e5:k==5 with
 |true=>have e1:=eq_of_beq e5;exact⟨_,rfl,rfl,fun o m e=>by cases e;exact⟨ht,e1.symm,fun e=>(by omega),fun e=>(by omega),by refine⟨⟨?_,?_⟩,?_⟩<;>intro h<;>first|rfl|omega⟩⟩
 |false=>
 dsimp only
 cases e7:k==7 with
 |true=>
  have e1:=eq_of_beq e7;obtain⟨⟨x,b⟩,f1,f2,f3⟩:=kr.form (.mk 7 num t l);dsimp only;rw[f1,f2]
  cases b with
  |false=>exact⟨_,rfl,rfl,fun o m e=>by cases e⟩
  |true=>exact⟨_,rfl,rfl,fun o m e=>by cases e;exact⟨(f3 rfl _ _ _ _ rfl).2,e1.symm,fun e=>(by omega),fun _=>⟨(f3 rfl _ _ _ _ rfl).1,rfl⟩,by refine⟨⟨?_,?_⟩,?_⟩<;>intro h<;>first|rfl|omega⟩⟩
 |false=>
 dsimp only
 cases e8:k==8 with
 |true=>have e1:=eq_of_beq e8;exact⟨_,rfl,rfl,fun o m e=>by cases e;exact⟨z,e1.symm,fun _=>⟨rfl,rfl,rfl⟩,fun e=>(by omega),by refine⟨⟨?_,?_⟩,?_⟩<;>intro h<;>first|rfl|omega⟩⟩
 |false=>exact⟨_,rfl,rfl,fun o m e=>by cases e⟩
def Qd (fo:FO) (ρ:Nat→Nat→Prop) {α β:Type} (R:(Nat→Nat→Prop)→α→β→Prop) (x:Option (Option α×bf Cl)) (y:Option (Option β×bf Cl)):Prop:=
 ∃o o' z w ρ',x=some (o,z)∧y=some (o',w)∧(∀a b,ρ a b→ρ' a b)∧CR fo ρ' z w∧O2 (R ρ') o o'
theorem BG {f g:Ov→bf Cl→Option (Option Vl×bf Cl)}:∀{l:List Ov} {ρ:Nat→Nat→Prop} {z w:bf Cl},(∀v∈l,∀ρ z w,CR fo ρ z w→Qd fo ρ (VR fo) (f v z) (g v w))→CR fo ρ z w→Qd fo ρ (fun ρ a b=>F2 (VR fo ρ) a b∧a.length=l.length) (lR f l z) (lR g l w)
 | [],ρ,z,w,_,hc=>⟨_,_,z,w,ρ,rfl,rfl,fun _ _ x=>x,hc,trivial,rfl⟩
 |v::l,ρ,z,w,hf,hc=>by
  obtain⟨o,o',z2,w2,ρ2,e1,e2,e3,e4,e5⟩:=hf v List.mem_cons_self ρ z w hc;rw[lR,lR,e1,e2]
  cases o with
  |none=>
   cases o' with
   |none=>exact⟨_,_,z2,w2,ρ2,rfl,rfl,e3,e4,trivial⟩
   |some _=>cases e5
  |some x=>
   cases o' with
   |none=>cases e5
   |some y=>
    obtain⟨o,o',z3,w3,ρ3,d1,d2,d3,d4,d5⟩:=BG (fun v hv=>hf v (List.mem_cons_of_mem _ hv)) e4;dsimp only;rw[d1,d2]
    cases o with
    |none=>
     cases o' with
     |none=>exact⟨_,_,z3,w3,ρ3,rfl,rfl,fun _ _ x=>d3 _ _ (e3 _ _ x),d4,trivial⟩
     |some _=>cases d5
    |some a=>
     cases o' with
     |none=>cases d5
     |some b=>exact⟨_,_,z3,w3,ρ3,rfl,rfl,fun _ _ x=>d3 _ _ (e3 _ _ x),d4,⟨e5.mono d3,d5.1⟩,congrArg (·+1) d5.2⟩
theorem E8 (kr:KR K1 K2 fo NR m1 m2):∀(n:Nat) (v:Ov) (ρ:Nat→Nat→Prop) (z w:bf Cl),yw v≤n→Dq v→CR fo ρ z w→Qd fo ρ (VR fo) (gQ K1 m1 n v z) (gQ K2 m2 n v w)
 |0,v,_,_,_,h,_,_=>by cases v;simp[yw]at h
 |n+1,.mk k num t l,ρ,z,w,h,hs,hc=>by
  rw[Dq]at hs;obtain⟨R,h1,h2,h3⟩:=NI kr k num t l hs.1;rw[gQ,gQ,h1,h2];rcases R with _|⟨o,most⟩
  ·exact⟨_,_,z,w,ρ,rfl,rfl,fun _ _ x=>x,hc,trivial⟩
  ·obtain⟨g1,g0,g2,g3,⟨c1,c2⟩,c3⟩:=h3 o most rfl
   obtain⟨o1,o2,o3⟩:=o;dsimp only at g0 g1 g2 g3 c1 c2;subst g0;dsimp only
   cases hm:Nat.beq most 0 with
   |true=>
    have hm:most=0:=Nat.eq_of_beq_eq_true hm;refine⟨_,_,z,w,ρ,rfl,rfl,fun _ _ x=>x,hc,VR.mk' ?_ (fun e=>?_) (by simp) g1 ⟨c1,c2,fun _=>rfl⟩ (by simp[uN])⟩
    ·cases h8:o1==8 with
     |false=>rfl
     |true=>have:=(g2 (eq_of_beq h8)).2.2;omega
    ·obtain⟨f1,f2⟩:=g3 e
     rw[←f2,hm]at f1;exact f1
   |false=>
    dsimp only
    cases decide ((l.length:Int)>(most:Int)) with
    |true=>exact⟨_,_,z,w,ρ,rfl,rfl,fun _ _ x=>x,hc,trivial⟩
    |false=>
     dsimp only;rw[Nat.ble_eq_true_of_le hs.2.1];have hmem:∀v∈l,Dq v:=fun v hv=>yp hs.2.2 v hv;rw[yw]at h;obtain⟨x,y,z2,w2,ρ2,e1,e2,e3,e4,e5⟩:=BG (f:=gQ K1 m1 n) (g:=gQ K2 m2 n) (l:=l) (fun v hv ρ z w hc=>E8 kr n v ρ z w (by have:=uO hv;omega) (hmem v hv) hc) hc;dsimp only;rw[e1,e2];rcases x with _|xs<;>rcases y with _|ys
     all_goals first|(cases e5;done)|skip
     ·exact⟨_,_,z2,w2,ρ2,rfl,rfl,e3,e4,trivial⟩
     ·dsimp only
      unfold Gp
      cases h8:o1==8 with
      |false=>
       refine⟨_,_,z2,w2,ρ2,rfl,rfl,e3,e4,VR.mk' h8 (fun e=>?_) (by rw[e5.2];exact hs.2.1) g1 ⟨c1,c2,fun q=>by have:=c3 (by rw[beq_eq_false_iff_ne]at h8;omega);subst this;cases hm⟩ (gC.2 e5.1)⟩;rw[e5.2];exact(g3 e).1
      |true=>
       have h8:=eq_of_beq h8;obtain⟨k1,k2,_⟩:=g2 h8;subst k1;subst k2;subst h8;dsimp only;rcases xs with _|⟨a,xs⟩<;>rcases ys with _|⟨b,ys⟩
       all_goals first|(cases e5.1;done)|skip
       ·exact⟨_,_,_,_,K5 ρ2 z2.1 w2.1,rfl,rfl,fun _ _ x=>.inl (e3 _ _ x),e4.new rfl .zV,VR.GA (.inr ⟨rfl,rfl⟩)⟩
       ·exact⟨_,_,_,_,K5 ρ2 z2.1 w2.1,rfl,rfl,fun _ _ x=>.inl (e3 _ _ x),e4.new rfl (e5.1.1.mono kZ),VR.GA (.inr ⟨rfl,rfl⟩)⟩
end
end MN
end
section
open Go Go.AM Go.Proofs TK
set_option maxRecDepth 100000
namespace MN
structure SB (fo:FO) (ρ:Nat→Nat→Prop) (S T:Ss):Prop where
 cr:CR fo ρ S.c T.c
 s1:fX S.s
 s2:fX T.s
 v1:fX S.v
 v2:fX T.v
 f1:fX S.f
 f2:fX T.f
section
variable {K1 K2:Ks} {fo:FO} {NR:Nat→Nat→Prop} {ρ ρ':Nat→Nat→Prop} {S T S' T':Ss} {m1 m2 B:Nat} {r q:Rn} {f g:Fr}
theorem SB.c (h:SB fo ρ S T) {x y:bf Cl} (hc:CR fo ρ' x y):SB fo ρ' { S with c:=x } { T with c:=y }:=⟨hc,h.s1,h.s2,h.v1,h.v2,h.f1,h.f2⟩
theorem FI.sb (h:FI K1 K2 fo NR ρ S T m1 m2 B r q):SB fo ρ S T:=⟨h.inv.cr,h.inv.s1,h.inv.s2,h.inv.v1,h.inv.v2,h.inv.f1,h.inv.f2⟩
def QH (K1 K2:Ks) (fo:FO) (NR:Nat→Nat→Prop) (ρ:Nat→Nat→Prop) (m1 m2:Nat) (x y:Option (Ss×Except Int Rn)):Prop:=
 ∃S T ρ',(∀a b,ρ a b→ρ' a b)∧((∃e,x=some (S,.error e)∧y=some (T,.error e)∧SB fo ρ' S T)∨∃r q,x=some (S,.ok r)∧y=some (T,.ok q)∧FI K1 K2 fo NR ρ' S T m1 m2 0 r q∧r.mode=0∧r.out=none∧q.out=none)
theorem BR (kr:KR K1 K2 fo NR m1 m2) (h:SB fo ρ S T) (name:ByteArray) (st:List Ov) (self:Int) (hst:∀v∈st,Dq v) (hl:st.length≤2000000):QH K1 K2 fo NR ρ m1 m2 (lI K1 S m1 name st self) (lI K2 T m2 name st self):=by
 obtain⟨p,p',j1,j2,_,_,⟨es,fs,j3,j4,j5⟩,_⟩:=kr.mkr;have j5:=j5 name;unfold lI;rw[j1,j2];dsimp only;rw[j3,j4];dsimp only;have le:∀a b,ρ a b→ρ a b:=fun _ _ x=>x
 cases e1:bq name es with
 |none=>
  cases e2:bq name fs with
  |none=>exact⟨S,T,ρ,le,.inl ⟨_,rfl,rfl,h⟩⟩
  |some _=>rw[e1,e2]at j5;cases j5
 |some a=>
  cases e2:bq name fs with
  |none=>rw[e1,e2]at j5;cases j5
  |some b=>
   rw[e1,e2]at j5;obtain⟨k1,k2,k3⟩:=j5;dsimp only;rw[k1]
   cases hn:Nat.beq st.length a.names.length with
   |false=>exact⟨S,T,ρ,le,.inl ⟨_,rfl,rfl,h⟩⟩
   |true=>
    dsimp only;rw[Nat.ble_eq_true_of_le hl];dsimp only;obtain⟨x,y,z,w,ρ2,f1,f2,f3,f4,f5⟩:=BG (f:=gQ K1 m1 (rA st)) (g:=gQ K2 m2 (rA st)) (l:=st) (fun v hv ρ z w hc=>E8 kr _ v ρ z w (uO hv) (hst v hv) hc) h.cr;rw[f1,f2];rcases x with _|l<;>rcases y with _|k
    all_goals first|(cases f5;done)|skip
    ·exact⟨_,_,ρ2,f3,.inl ⟨_,rfl,rfl,h.c f4⟩⟩
    ·obtain⟨f5,f6⟩:=f5
     obtain⟨b1,g1,g2,_⟩:=Gu f4 f5;dsimp only;rw[←f5.len,f6,Nat.ble_eq_true_of_le hl];dsimp only;rw[g1,g2]
     cases b1 with
     |true=>exact⟨_,_,ρ2,f3,.inl ⟨_,rfl,rfl,h.c f4⟩⟩
     |false=>
      obtain⟨P,Q,w1,w2,w3,w4,w5⟩:=BA a.names h.s1 h.s2 (by rw[f6];exact(Nat.eq_of_beq_eq_true hn).symm) f5 .nil;dsimp only;rw[w1,w2];refine⟨_,_,ρ2,f3,.inr ⟨_,_,rfl,rfl,⟨?_,rfl,rfl,fun _=>.inr ⟨⟨⟨_,_,rfl,rfl,k3⟩,w5,rfl,rfl,⟨[],[],rfl,rfl,trivial⟩,rfl,rfl⟩,rfl,rfl,fun _ _ _=>⟨rfl,rfl,by show a.names.length=l.length;rw[f6];exact(Nat.eq_of_beq_eq_true hn).symm,S.s,P,h.s1,w1,.refl w3.1,rfl⟩⟩,fun e=>(by cases e)⟩,rfl,rfl,rfl⟩⟩;exact⟨f4,w3.1,w4.1,h.v1,h.v2,h.f1,h.f2,rfl,rfl,rfl,k2,⟨_,_,rfl,rfl,k3⟩,rfl,f5,[],[],rfl,rfl,trivial,List.nodup_nil,List.nodup_nil,Nat.zero_le _⟩
theorem Pa.mono (h:Pa K1 K2 fo NR ρ S T r q) (hρ:∀a b,ρ a b→ρ' a b) (e1:SE S.s S'.s) (e2:SE T.s T'.s) (v1:S'.v=S.v) (v2:T'.v=T.v):Pa K1 K2 fo NR ρ' S' T' r q:=
 ⟨h.1.mono hρ e1 e2 (fun _ _ _ x=>v1 ▸ x) (fun _ _ _ x=>v2 ▸ x),h.2.1,h.2.2.1,h.2.2.2.1,h.2.2.2.2.mono e1⟩
def Qz (K1 K2:Ks) (fo:FO) (NR:Nat→Nat→Prop) (ρ:Nat→Nat→Prop) (m1 m2 B:Nat) (n:Int) (x y:Option (Bool×Ss×Rn)):Prop:=
 ∃b S T r q ρ',x=some (b,S,r)∧y=some (b,T,q)∧(∀a b,ρ a b→ρ' a b)∧FI K1 K2 fo NR ρ' S T m1 m2 B r q∧r.out=none∧q.out=none∧(b=true→r.mode=0)∧(b=false→r.mode=1∧r.last.num=n)
theorem KM (kr:KR K1 K2 fo NR m1 m2) (h:FI K1 K2 fo NR ρ S T m1 m2 B r q) (hm:r.mode=1) (h1:r.out=none) (h2:q.out=none) (v:Ov) (hv:Dq v):Qz K1 K2 fo NR ρ m1 m2 B r.last.num (pU K1 S r v) (pU K2 T q v):=by
 unfold pU;rw[show q.mode=r.mode from h.mode,hm,show((1:Int)==1)=true from rfl,h.inv.mk1,h.inv.mk2];dsimp only;obtain⟨x,y,z,w,ρ2,f1,f2,f3,f4,f5⟩:=E8 kr (yw v) v ρ S.c T.c (Nat.le_refl _) hv h.inv.cr;rw[f1,f2];have hi:=h.inv.cg f3 f4 S.g T.g;have hp:Pa K1 K2 fo NR ρ2 { S with c:=z } { T with c:=w } r q:=(h.pa hm).mono f3 (.refl h.inv.s1) (.refl h.inv.s2) rfl rfl;rcases x with _|x<;>rcases y with _|y
 all_goals first|(cases f5;done)|skip
 ·exact⟨false,_,_,r,q,ρ2,rfl,rfl,f3,⟨hi,h.mode,h.last,fun e=>(by rw[hm]at e;cases e),fun _=>hp⟩,h1,h2,fun e=>(by cases e),fun _=>⟨hm,rfl⟩⟩
 ·obtain⟨b,sS,sT,rr,qq,k1,k2,k3,k4,k5,k6⟩:=Hi kr (v:=x) (w:=y) f5 hi hp.1 hp.1.sc
  dsimp only;rw[k1,k2];rcases k6 with⟨rfl,rfl,rfl⟩|⟨rfl,c,d,s,t,rfl,rfl,e1,e2⟩
  ·exact⟨false,_,_,_,_,ρ2,rfl,rfl,f3,⟨k3,h.mode,h.last,fun e=>(by rw[hm]at e;cases e),fun _=>hp.mono (fun _ _ x=>x) k4 k5 rfl rfl⟩,h1,h2,fun e=>(by cases e),fun _=>⟨hm,rfl⟩⟩
  ·exact⟨true,_,_,_,_,ρ2,rfl,rfl,f3,⟨k3.re rfl rfl,rfl,h.last,fun _=>.inr ⟨⟨⟨c,d,rfl,rfl,e1.1⟩,e2,rfl,rfl,⟨[],[],rfl,rfl,trivial⟩,hp.1.dep,hp.1.inF⟩,rfl,rfl,.no rfl e1.2⟩,fun e=>(by cases e)⟩,h1,h2,fun _=>rfl,fun e=>(by cases e)⟩
theorem Ll (h:FI K1 K2 fo NR ρ S T m1 m2 B r q) (hm:r.mode=1) (h1:r.out=none) (h2:q.out=none) (hn:0≤r.last.num):∃r' q',vF K1 r=some r'∧vF K2 q=some q'∧FI K1 K2 fo NR ρ S T m1 m2 B r' q'∧r'.out=none∧q'.out=none∧r'.mode=0:=by
 obtain⟨p1,p2,p3,p4,_⟩:=h.pa hm;obtain⟨n,m,a,b,e1,e2,e3,e4,e5,e6⟩:=p4 hn;unfold vF;rw[show q.mode=r.mode from h.mode,hm,show((1:Int)==1)=true from rfl,show q.last=r.last from h.last,decide_eq_false (show ¬r.last.num<0 by omega),e1,e2];dsimp only;rw[e3,e4];exact⟨_,_,rfl,rfl,⟨h.inv.re rfl rfl,rfl,rfl,fun _=>.inr ⟨⟨⟨a,b,rfl,rfl,e5⟩,p1.sc,rfl,rfl,⟨[],[],rfl,rfl,trivial⟩,p1.dep,p1.inF⟩,rfl,rfl,.no rfl e6⟩,fun e=>(by cases e)⟩,h1,h2,rfl⟩
theorem xo (h:FI K1 K2 fo NR ρ S T m1 m2 B r q) (hm:r.mode=2) (h1:r.out=none) (h2:q.out=none) (n:Int):∃r' q',tG K1 S r (.mk 6 n ⟨#[]⟩ [])=some (S,r')∧tG K2 T q (.mk 6 n ⟨#[]⟩ [])=some (T,q')∧FI K1 K2 fo NR ρ S T m1 m2 B r' q'∧r'.out=none∧q'.out=none∧r'.mode=0:=by
 have key:∀(K:Ks) (m:Nat) (z:bf Cl),gQ K m (yw (.mk 6 n ⟨#[]⟩ [])) (.mk 6 n ⟨#[]⟩ []) z=some (some (.mk 6 n ⟨#[]⟩ [] none),z):=fun K m z=>rfl;unfold tG;rw[show q.mode=r.mode from h.mode,hm,show((2:Int)==2)=true from rfl,key,key];exact⟨_,_,rfl,rfl,⟨h.inv.re rfl rfl,rfl,h.last,fun _=>.inl ⟨rfl,rfl,VR.mk' rfl (fun e=>by cases e) (by simp) (by decide) (by simp[Bg]) (by simp[uN])⟩,fun e=>(by cases e)⟩,h1,h2,rfl⟩
def QC (K1 K2:Ks) (fo:FO) (NR:Nat→Nat→Prop) (ρ:Nat→Nat→Prop) (m1 m2 B:Nat) (L:List mK) (x y:Option (Bool×Ss×Rn×List mK)):Prop:=
 ∃b S T r q l ρ',x=some (b,S,r,l)∧y=some (b,T,q,l)∧(∀a b,ρ a b→ρ' a b)∧FI K1 K2 fo NR ρ' S T m1 m2 B r q∧r.out=none∧q.out=none∧(b=true→r.mode=0)∧(b=false→r.mode=1)∧∀s∈l,s∈L
theorem nr (kr:KR K1 K2 fo NR m1 m2) (n:Int):∀(l:List mK) {ρ:Nat→Nat→Prop} {S T:Ss} {r q:Rn},FI K1 K2 fo NR ρ S T m1 m2 B r q→r.mode=1→r.out=none→q.out=none→r.last.num=n→(∀s∈l,Dq s.val)→QC K1 K2 fo NR ρ m1 m2 B l (eK K1 n S r l) (eK K2 n T q l)
 | [],ρ,S,T,r,q,h,hm,h1,h2,_,_=>⟨false,S,T,r,q,[],ρ,rfl,rfl,fun _ _ x=>x,h,h1,h2,fun e=>(by cases e),fun _=>hm,fun _ hs=>hs⟩
 |s::l,ρ,S,T,r,q,h,hm,h1,h2,hn,hl=>by
  rw[eK,eK]
  cases s.kind==1 with
  |true=>
   dsimp only
   cases hd:decide (n≥0) with
   |true=>
    obtain⟨r',q',e1,e2,e3,e4,e5,e6⟩:=Ll h hm h1 h2 (by rw[hn];exact of_decide_eq_true hd);dsimp only;rw[e1,e2];exact⟨true,S,T,r',q',l,ρ,rfl,rfl,fun _ _ x=>x,e3,e4,e5,fun _=>e6,fun e=>(by cases e),fun s hs=>List.mem_cons_of_mem _ hs⟩
   |false=>
    obtain⟨b,S',T',r',q',l',ρ',e1,e2,e3,e4,e5,e6,e7,e8,e9⟩:=nr kr n l h hm h1 h2 hn fun s hs=>hl s (List.mem_cons_of_mem _ hs);exact⟨b,S',T',r',q',l',ρ',e1,e2,e3,e4,e5,e6,e7,e8,fun s hs=>List.mem_cons_of_mem _ (e9 s hs)⟩
  |false=>
   dsimp only;obtain⟨b,S',T',r',q',ρ',e1,e2,e3,e4,e5,e6,e7,e8⟩:=KM kr h hm h1 h2 s.val (hl s List.mem_cons_self);rw[e1,e2]
   cases b with
   |true=>exact⟨true,S',T',r',q',l,ρ',rfl,rfl,e3,e4,e5,e6,e7,fun e=>(by cases e),fun s hs=>List.mem_cons_of_mem _ hs⟩
   |false=>
    obtain⟨b,S',T',r',q',l',ρ2,d1,d2,d3,d4,d5,d6,d7,d8,d9⟩:=nr kr n l e4 (e8 rfl).1 e5 e6 ((e8 rfl).2.trans hn) fun s hs=>hl s (List.mem_cons_of_mem _ hs);exact⟨b,S',T',r',q',l',ρ2,d1,d2,fun _ _ x=>d3 _ _ (e3 _ _ x),d4,d5,d6,d7,d8,fun s hs=>List.mem_cons_of_mem _ (d9 s hs)⟩
theorem CV (fuels:List Int) (j:Nat):1≤cR fuels j∧cR fuels j≤400:=by
 unfold cR;split
 ·exact⟨by omega,by omega⟩
 ·have h1:=Int.emod_nonneg ((((‹Int›::‹List Int›)[j % (‹List Int›.length+1)]?).getD 0)) (show(400:Int)≠0 by omega)
  have h2:=Int.emod_lt_of_pos ((((‹Int›::‹List Int›)[j % (‹List Int›.length+1)]?).getD 0)) (show(0:Int)<400 by omega);rw[wrap64 (by omega) (by omega)];omega
def qR (N:Nat) (l:List Ou):Prop:=(∀o∈l,vT o)∧l.length+N≤2000000
theorem qR.le {N M:Nat} (h:M≤N) {l:List Ou} (g:qR N l):qR M l:=⟨g.1,by have:=g.2;omega⟩
def Qo (fo:FO) (x y:Option (Option (List Ou)×Ss×Rn)):Prop:=∃R S r T q ρ,x=some (R,S,r)∧y=some (R,T,q)∧SB fo ρ S T∧∀l,R=some l→qR 0 l
theorem pR {N:Nat} {l:List Ou} {o:Ou} (h:qR (N+1) l) (ho:vT o):qR N (l++[o]):=by
 refine⟨fun x hx=>?_,by have:=h.2;simp;omega⟩;rcases List.mem_append.1 hx with hx|hx
 ·exact h.1 x hx
 ·simp at hx;subst hx;exact ho
theorem Hh (kr:KR K1 K2 fo NR m1 m2) (fuels:List Int):∀(N j:Nat) {ρ:Nat→Nat→Prop} {S T:Ss} {r q:Rn} {B:Nat} (refs used:Int) (l:List mK) (out:List Ou),FI K1 K2 fo NR ρ S T m1 m2 B r q→r.mode=0→r.out=none→q.out=none→0≤used→used≤60400→60000<used+N∧1≤N→(B:Int)≤used→(∀s∈l,Dq s.val)→
 qR N out→Qo fo (eW K1 fuels N j S r refs used l out) (eW K2 fuels N j T q refs used l out)
 |0,_,_,_,_,_,_,_,_,_,_,_,_,_,_,_,_,_,h,_,_,_=>absurd h.2 (by omega)
 |N+1,j,ρ,S,T,r,q,B,refs,used,l,out,h,hm,h1,h2,u0,u1,u2,hB,hl,hok=>by
  rw[eW,eW]
  cases hu:decide (used<60000) with
  |false=>exact⟨_,_,_,_,_,ρ,rfl,rfl,h.sb,fun l e=>by cases e⟩
  |true=>
   have hu:=of_decide_eq_true hu;obtain⟨f1,f2⟩:=CV fuels j;obtain⟨o,S',r',T',q',ρ',e1,e2,e3,e4,e5,e6,e7⟩:=FL kr (cR fuels j).toNat h hm h1 h2 (by omega);have hw:IntKind.i64.wrap (used+cR fuels j)=used+cR fuels j:=wrap64 (by omega) (by omega);dsimp only;rw[e1,e2,hw];dsimp only
   have go:∀{ρ:Nat→Nat→Prop} {S T:Ss} {r q:Rn} (refs:Int) (l:List mK) (out:List Ou),FI K1 K2 fo NR ρ S T m1 m2 (B+(cR fuels j).toNat) r q→r.mode=0→r.out=none→q.out=none→(∀s∈l,Dq s.val)→qR N out→Qo fo (eW K1 fuels N (j+1) S r refs (used+cR fuels j) l out) (eW K2 fuels N (j+1) T q refs (used+cR fuels j) l out):=
    fun refs l out h hm h1 h2 hl ho=>Hh kr fuels N (j+1) refs (used+cR fuels j) l out h hm h1 h2 (by omega) (by omega) (by omega) (by omega) hl ho
   rcases e7 with⟨rfl,hm'⟩|⟨⟨hm',ho⟩|⟨hm',ho,hn⟩|⟨hm',ho⟩|⟨hm',ho⟩,hk⟩
   ·exact go refs l out e3 hm' e5 e6 hl (hok.le (Nat.le_succ N))
   ·have g1:(o.kind==1)=false:=by rcases ho with e|e<;>rw[e]<;>rfl
    have g2:((o.kind==8)||(o.kind==9))=true:=by rcases ho with e|e<;>rw[e]<;>rfl
    rw[g1,g2];exact⟨_,_,_,_,_,ρ',rfl,rfl,e3.sb,fun l e=>by cases e;exact(pR hok hk).le (Nat.zero_le _)⟩
   ·rw[ho]
    obtain⟨b,S2,T2,r2,q2,l2,ρ2,d1,d2,d3,d4,d5,d6,d7,d8,d9⟩:=nr kr o.num l e3 hm' e5 e6 hn.symm hl;rw[show((7:Int)==1)=false from rfl,show(((7:Int)==8)||((7:Int)==9))=false from rfl,show((7:Int)==4)=false from rfl,show((7:Int)==7)=true from rfl];dsimp only;rw[d1,d2]
    cases b with
    |false=>exact⟨_,_,_,_,_,ρ2,rfl,rfl,d4.sb,fun l e=>by cases e;exact(pR hok hk).le (Nat.zero_le _)⟩
    |true=>exact go refs l2 _ d4 (d7 rfl) d5 d6 (fun s hs=>hl s (d9 s hs)) (pR hok hk)
   ·rw[ho]
    obtain⟨r2,q2,d1,d2,d3,d4,d5,d6⟩:=xo e3 hm' e5 e6 (IntKind.i64.wrap (refs+1));rw[show((4:Int)==1)=false from rfl,show(((4:Int)==8)||((4:Int)==9))=false from rfl,show((4:Int)==4)=true from rfl];dsimp only;rw[d1,d2];exact go _ l _ d3 d6 d4 d5 hl (pR hok hk)
   ·have g1:(o.kind==1)=false∧((o.kind==8)||(o.kind==9))=false∧(o.kind==4)=false∧(o.kind==7)=false:=by rcases ho with e|e|e|e<;>rw[e]<;>exact⟨rfl,rfl,rfl,rfl⟩
    rw[g1.1,g1.2.1,g1.2.2.1,g1.2.2.2];exact go refs l _ e3 hm' e5 e6 hl (pR hok hk)
end
end MN
end
section
open Go Go.AM Go.Proofs TK
set_option maxRecDepth 100000
namespace MN
noncomputable def pE (K:Ks) (k:Ss→Rn→Int→List mK→List Ou→Option (List Ou)) (o:Ou) (S:Ss) (r:Rn) (refs:Int) (l:List mK) (out:List Ou):Option (List Ou):=match (o.kind==8)||(o.kind==9) with
 |true=>some (out++[o])
 |false=>match o.kind==4 with
  |true=>match tG K S r (.mk 6 (IntKind.i64.wrap (refs+1)) ⟨#[]⟩ []) with
   |none=>none
   |some (S3,r3)=>k S3 r3 (IntKind.i64.wrap (refs+1)) l (out++[o])
  |false=>match o.kind==7 with
   |false=>k S r refs l (out++[o])
   |true=>match eK K o.num S r l with
    |none=>none
    |some (false,_,_,_)=>some (out++[o])
    |some (true,S3,r3,l3)=>k S3 r3 refs l3 (out++[o])
noncomputable def gu (K:Ks):Nat→Ss→Rn→Int→List mK→List Ou→Option (List Ou)
 |0,_,_,_,_,_=>none
 |n+1,S,r,refs,l,out=>match qU K S r with
  |none=>none
  |some (S2,r2)=>match r2.out with
   |none=>gu K n S2 r2 refs l out
   |some a=>match aK a S2.o.2 with
    |none=>none
    |some o=>pE K (gu K n) o S2 { r2 with out:=none } refs l out
theorem C0 {K:Ks} {k k':Ss→Rn→Int→List mK→List Ou→Option (List Ou)} (h:∀S r refs l out x,k S r refs l out=some x→k' S r refs l out=some x) {o:Ou} {S:Ss} {r:Rn} {refs:Int} {l:List mK} {out x:List Ou} (e:pE K k o S r refs l out=some x):pE K k' o S r refs l out=some x:=by
 unfold pE at e ⊢
 cases h1:(o.kind==8)||(o.kind==9) with
 |true=>rw[h1]at e;exact e
 |false=>
 rw[h1]at e;dsimp only at e ⊢
 cases h4:o.kind==4 with
 |true=>
  rw[h4]at e;dsimp only at e ⊢;split at e
  ·cases e
  ·rename_i hg;exact h _ _ _ _ _ _ e
 |false=>
 rw[h4]at e;dsimp only at e ⊢
 cases h7:o.kind==7 with
 |false=>rw[h7]at e;exact h _ _ _ _ _ _ e
 |true=>
  rw[h7]at e;dsimp only at e ⊢;split at e
  ·cases e
  ·rename_i hg;exact e
  ·rename_i hg;exact h _ _ _ _ _ _ e
theorem su {K:Ks}:∀(n:Nat) {S:Ss} {r:Rn} {refs:Int} {l:List mK} {out x:List Ou},gu K n S r refs l out=some x→gu K (n+1) S r refs l out=some x
 |0,_,_,_,_,_,_,h=>by cases h
 |n+1,S,r,refs,l,out,x,h=>by
  rw[gu]at h ⊢;split at h
  ·cases h
  ·split at h
   ·exact su n h
   ·split at h
    ·cases h
    ·exact C0 (fun _ _ _ _ _ _ e=>su n e) h
theorem Ds {K:Ks} {n m:Nat} (hm:n≤m) {S:Ss} {r:Rn} {refs:Int} {l:List mK} {out x:List Ou} (h:gu K n S r refs l out=some x):gu K m S r refs l out=some x:=by
 obtain⟨k,rfl⟩:∃k,m=n+k:=⟨m-n,by omega⟩
 clear hm
 induction k with
 |zero=>exact h
 |succ k ih=>exact su _ ih
section
variable {K1 K2:Ks} {fo:FO} {NR:Nat→Nat→Prop} {ρ ρ':Nat→Nat→Prop} {S T S' T':Ss} {m1 m2 B:Nat} {r q:Rn} {f g:Fr}
theorem Hq (kr:KR K1 K2 fo NR m1 m2):∀(n:Nat) {ρ:Nat→Nat→Prop} {S T:Ss} {r q:Rn} {B:Nat},FI K1 K2 fo NR ρ S T m1 m2 B r q→r.mode=0→r.out=none→q.out=none→B+n≤2000000→∀o S' r',u9 K1 n S r=some (o,S',r')→
 (o=Gn∧∀i refs l out,gu K1 (i+n) S r refs l out=gu K1 i S' r' refs l out)∨((MO o r'∧vT o)∧∃k,k<n∧∀i refs l out,gu K1 (i+k+1) S r refs l out=pE K1 (gu K1 i) o S' r' refs l out)
 |0,ρ,S,T,r,q,B,h,hm,h1,h2,_,o,S',r',hr=>by cases hr;exact .inl ⟨rfl,fun _ _ _ _=>rfl⟩
 |n+1,ρ,S,T,r,q,B,h,hm,h1,h2,hB,o,S',r',hr=>by
  obtain⟨⟨P1,P2⟩,⟨Q1,Q2⟩,s1,s2,ρ',s3,s4,s5⟩:=Ca kr h hm h1 h2 (by omega)
  have c1:tH r=true:=by
   unfold tH;rcases h.go hm with⟨e1,e2,_⟩|⟨_,e1,e2,_⟩
   ·rw[e1]
   ·rw[e1];split<;>rfl
  rw[u9,hm,c1,show((0:Int)==1||(0:Int)==3)=false from rfl,show((0:Int)==2)=false from rfl]at hr;dsimp only at hr;rw[s1]at hr;dsimp only at s4 s5 hr;rcases s5 with⟨o1,o2,o3⟩|⟨a,b,o',o1,o2,o3,o4,o5⟩
  ·rw[o1]at hr
   rcases Hq kr n s4 o3 o1 o2 (by omega) o S' r' hr with⟨e,g⟩|⟨e,k,hk,g⟩
   ·refine .inl ⟨e,fun i refs l out=>?_⟩
    rw[←g,←Nat.add_assoc,gu,s1];dsimp only;rw[o1]
   ·refine .inr ⟨e,k+1,by omega,fun i refs l out=>?_⟩
    rw[←g,←Nat.add_assoc i k 1,gu,s1];dsimp only;rw[o1]
  ·rw[o1]at hr
   dsimp only at hr;rw[o3]at hr;cases hr;refine .inr ⟨o5,0,by omega,fun i refs l out=>?_⟩;rw[Nat.add_zero,gu,s1];dsimp only;rw[o1];dsimp only;rw[o3]
theorem GC (kr:KR K1 K2 fo NR m1 m2) (fuels:List Int):∀(N j:Nat) {ρ:Nat→Nat→Prop} {S T:Ss} {r q:Rn} {B:Nat} (refs used:Int) (l:List mK) (out:List Ou),FI K1 K2 fo NR ρ S T m1 m2 B r q→r.mode=0→r.out=none→q.out=none→0≤used→used≤60400→(B:Int)≤used→(∀s∈l,Dq s.val)→
 ∀x S' r',eW K1 fuels N j S r refs used l out=some (some x,S',r')→∃n:Nat,(n:Int)≤60400-used∧gu K1 n S r refs l out=some x
 |0,_,_,S,T,r,q,_,refs,used,l,out,_,hm,_,_,_,_,_,_,x,S',r',h=>by cases h
 |N+1,j,ρ,S,T,r,q,B,refs,used,l,out,h,hm,h1,h2,u0,u1,hB,hl,x,Sx,rx,hp=>by
  rw[eW]at hp
  cases hu:decide (used<60000) with
  |false=>rw[hu]at hp;cases hp
  |true=>
   rw[hu]at hp;have hu:=of_decide_eq_true hu;obtain⟨f1,f2⟩:=CV fuels j;obtain⟨o,S',r',T',q',ρ',e1,e2,e3,e4,e5,e6,e7⟩:=FL kr (cR fuels j).toNat h hm h1 h2 (by omega);have hw:IntKind.i64.wrap (used+cR fuels j)=used+cR fuels j:=wrap64 (by omega) (by omega);dsimp only at hp;rw[e1,hw]at hp;dsimp only at hp
   have go:∀{ρ:Nat→Nat→Prop} {S T:Ss} {r q:Rn} (refs:Int) (l:List mK) (out:List Ou),FI K1 K2 fo NR ρ S T m1 m2 (B+(cR fuels j).toNat) r q→r.mode=0→r.out=none→q.out=none→(∀s∈l,Dq s.val)→eW K1 fuels N (j+1) S r refs (used+cR fuels j) l out=some (some x,Sx,rx)→∃n:Nat,(n:Int)≤60400-(used+cR fuels j)∧gu K1 n S r refs l out=some x:=
    fun refs l out h hm h1 h2 hl hp=>GC kr fuels N (j+1) refs (used+cR fuels j) l out h hm h1 h2 (by omega) (by omega) (by omega) hl x Sx rx hp
   have hS:=Hq kr (cR fuels j).toNat h hm h1 h2 (by omega) o S' r' e1
   -- an output
   have fin:(MO o r'∧vT o)→(∀k,(k:Int)≤(cR fuels j).toNat→∃n:Nat,(n:Int)≤60400-(used+cR fuels j)∧pE K1 (gu K1 n) o S' r' refs l out=some x)→∃n:Nat,(n:Int)≤60400-used∧gu K1 n S r refs l out=some x:=by
    intro ho hk;rcases hS with⟨rfl,_⟩|⟨_,k,k1,k2⟩
    ·rcases ho.1 with⟨_,e|e⟩|⟨_,e,_⟩|⟨_,e⟩|⟨_,e|e|e|e⟩<;>cases e
    ·obtain⟨n,n1,n2⟩:=hk k (by omega)
     exact⟨n+k+1,by omega,by rw[k2];exact n2⟩
   rcases e7 with⟨rfl,hm'⟩|ho
   ·obtain⟨n,n1,n2⟩:=go refs l out e3 hm' e5 e6 hl hp
    rcases hS with⟨_,g⟩|⟨ho,_⟩
    ·exact⟨n+(cR fuels j).toNat,by omega,by rw[g];exact n2⟩
    ·rcases ho.1 with⟨_,e|e⟩|⟨_,e,_⟩|⟨_,e⟩|⟨_,e|e|e|e⟩<;>cases e
   ·refine fin ho fun k _=>?_
    unfold pE;rcases ho.1 with⟨hm',ho⟩|⟨hm',ho,hn⟩|⟨hm',ho⟩|⟨hm',ho⟩
    ·have g1:(o.kind==1)=false:=by rcases ho with e|e<;>rw[e]<;>rfl
     have g2:((o.kind==8)||(o.kind==9))=true:=by rcases ho with e|e<;>rw[e]<;>rfl
     rw[g1,g2]at hp;cases hp;exact⟨0,by omega,by rw[g2]⟩
    ·obtain⟨b,S2,T2,r2,q2,l2,ρ2,d1,d2,d3,d4,d5,d6,d7,d8,d9⟩:=nr kr o.num l e3 hm' e5 e6 hn.symm hl
     rw[ho]at hp ⊢;rw[show((7:Int)==1)=false from rfl,show(((7:Int)==8)||((7:Int)==9))=false from rfl,show((7:Int)==4)=false from rfl,show((7:Int)==7)=true from rfl]at hp;rw[show(((7:Int)==8)||((7:Int)==9))=false from rfl,show((7:Int)==4)=false from rfl,show((7:Int)==7)=true from rfl];dsimp only at hp ⊢;rw[d1]at hp ⊢
     cases b with
     |false=>cases hp;exact⟨0,by omega,rfl⟩
     |true=>exact go refs l2 _ d4 (d7 rfl) d5 d6 (fun s hs=>hl s (d9 s hs)) hp
    ·rw[ho]at hp ⊢
     obtain⟨r2,q2,d1,d2,d3,d4,d5,d6⟩:=xo e3 hm' e5 e6 (IntKind.i64.wrap (refs+1));rw[show((4:Int)==1)=false from rfl,show(((4:Int)==8)||((4:Int)==9))=false from rfl,show((4:Int)==4)=true from rfl]at hp;rw[show(((4:Int)==8)||((4:Int)==9))=false from rfl,show((4:Int)==4)=true from rfl];dsimp only at hp ⊢;rw[d1]at hp ⊢;exact go _ l _ d3 d6 d4 d5 hl hp
    ·have g1:(o.kind==1)=false∧((o.kind==8)||(o.kind==9))=false∧(o.kind==4)=false∧(o.kind==7)=false:=by rcases ho with e|e|e|e<;>rw[e]<;>exact⟨rfl,rfl,rfl,rfl⟩
     rw[g1.1,g1.2.1,g1.2.2.1,g1.2.2.2]at hp;rw[g1.2.1,g1.2.2.1,g1.2.2.2];exact go refs l _ e3 hm' e5 e6 hl hp
theorem pF (kr:KR K1 K2 fo NR m1 m2):∀(n:Nat) {ρ:Nat→Nat→Prop} {S T:Ss} {r q:Rn} {B:Nat} (refs:Int) (l:List mK) (out:List Ou),FI K1 K2 fo NR ρ S T m1 m2 B r q→r.mode=0→r.out=none→q.out=none→B+n≤2000000→(∀s∈l,Dq s.val)→
 gu K1 n S r refs l out=gu K2 n T q refs l out
 |0,_,_,_,_,_,_,_,_,_,_,_,_,_,_,_=>rfl
 |n+1,ρ,S,T,r,q,B,refs,l,out,h,hm,h1,h2,hB,hl=>by
  obtain⟨⟨P1,P2⟩,⟨Q1,Q2⟩,s1,s2,ρ',s3,s4,s5⟩:=Ca kr h hm h1 h2 (by omega);rw[gu,gu,s1,s2];dsimp only at s4 s5 ⊢;rcases s5 with⟨o1,o2,o3⟩|⟨a,b,o,o1,o2,o3,o4,o5⟩
  ·rw[o1,o2]
   exact pF kr n refs l out s4 o3 o1 o2 (by omega) hl
  ·rw[o1,o2]
   dsimp only;rw[o3,o4];dsimp only;have e3:=s4.out none none;unfold pE
   cases g89:(o.kind==8)||(o.kind==9) with
   |true=>rfl
   |false=>
   dsimp only
   cases g4:o.kind==4 with
   |true=>
    have g4:=eq_of_beq g4
    have hm':P2.mode=2:=by
     rcases o5.1 with⟨_,e|e⟩|⟨_,e,_⟩|⟨e,_⟩|⟨_,e|e|e|e⟩<;>first|exact e|omega
    obtain⟨r2,q2,d1,d2,d3,d4,d5,d6⟩:=xo e3 hm' rfl rfl (IntKind.i64.wrap (refs+1));dsimp only;rw[d1,d2];exact pF kr n _ l _ d3 d6 d4 d5 (by omega) hl
   |false=>
   dsimp only
   cases g7:o.kind==7 with
   |true=>
    have g7:=eq_of_beq g7
    have hm':P2.mode=1∧o.num=P2.last.num:=by
     rcases o5.1 with⟨_,e|e⟩|⟨e,_,e'⟩|⟨_,e⟩|⟨_,e|e|e|e⟩<;>first|exact⟨e,e'⟩|omega
    obtain⟨b,S2,T2,r2,q2,l2,ρ2,d1,d2,d3,d4,d5,d6,d7,d8,d9⟩:=nr kr o.num l e3 hm'.1 rfl rfl hm'.2.symm hl;dsimp only;rw[d1,d2]
    cases b with
    |false=>rfl
    |true=>exact pF kr n _ l2 _ d4 (d7 rfl) d5 d6 (by omega) fun s hs=>hl s (d9 s hs)
   |false=>
    have g4':o.kind≠4:=by simpa using g4
    have g7':o.kind≠7:=by simpa using g7
    have g89':¬(o.kind=8∨o.kind=9):=by simpa using g89
    have hm':P2.mode=0:=by
     rcases o5.1 with⟨_,e⟩|⟨_,e,_⟩|⟨_,e⟩|⟨e,_⟩
     ·exact absurd e g89'
     ·exact absurd e g7'
     ·exact absurd e g4'
     ·exact e
    exact pF kr n _ l _ e3 hm' rfl rfl (by omega) hl
end
end MN
end
section
open Go Go.AM Go.Proofs TK
set_option maxRecDepth 100000
namespace MN
section
def oP (e:TR.Ex):Bool:=(e.kind==10)&&!(Nat.beq e.args.length 0)
mutual
def nc:TR.Ex→List TR.Ex
 |.mk k n t ns ts xs ms p=>(match (k==10)&&!(Nat.beq xs.length 0) with|true=>[.mk k n t ns ts xs ms p]|false=>[])++(oF xs++pK ms)
def oF:List TR.Ex→List TR.Ex
 | []=>[]
 |e::r=>nc e++oF r
def pK:List TR.eU→List TR.Ex
 | []=>[]
 |.mk _ e::r=>nc e++pK r
end
def Bk {α:Type} (M:List (Nat×List α)) (C:Nat→Prop) (q:Option (Nat×Nat)) (cs:List α):Prop:=match q with
 |none=>cs=[]
 |some q=>aK q.1 M=some cs∧q.2=cs.length∧C q.1
structure NK (F:List TR.Ex) (nd:Nd) (e:TR.Ex) (o:Nat):Prop where
 kind:nd.kind=e.kind
 num:nd.num=e.num
 text:nd.text=e.text
 names:nd.names=e.names
 needs:nd.needs=TR.dZ e.kind e.num e.args.length
 fn:oP e=true→nd.free=TR.ng e∧nd.fn=o∧F[o]?=some e
 nf:oP e=false→nd.fn=0∧nd.free=[]
variable (F:List TR.Ex) (z:Ns) (A C D:Nat→Prop)
def one (e:TR.Ex):List TR.Ex:=match oP e with|true=>[e]|false=>[]
mutual
def An:TR.Ex→Nat→Nat→Prop
 |.mk k n t ns ts xs ms p,o,j=>∃nd cs ars,A j∧aK j z.n.2=some nd∧NK F nd (.mk k n t ns ts xs ms p) o∧Bk z.a.2 C nd.args cs∧Bk z.b.2 D nd.dU ars∧jd xs (o+(one (.mk k n t ns ts xs ms p)).length) cs∧jy ms (o+(one (.mk k n t ns ts xs ms p)).length+(oF xs).length) ars
def jd:List TR.Ex→Nat→List Nat→Prop
 | [],_,[]=>True
 |e::r,o,c::s=>An e o c∧jd r (o+(nc e).length) s
 | [],_,_::_=>False
 |_::_,_,[]=>False
def jy:List TR.eU→Nat→List Ar→Prop
 | [],_,[]=>True
 |.mk p e::r,o,a::s=>a.pat=p∧An e o a.body∧jy r (o+(nc e).length) s
 | [],_,_::_=>False
 |_::_,_,[]=>False
end
def kf:List TR.Ex→Nat→List Nat→Prop
 | [],_,[]=>True
 |e::r,o,c::s=>An F z A C D e o c∧kf r (o+1) s
 | [],_,_::_=>False
 |_::_,_,[]=>False
end
theorem Bk.mono {α:Type} {M N:List (Nat×List α)} {C C':Nat→Prop} {q:Option (Nat×Nat)} {cs:List α} (h:Bk M C q cs) (h1:∀j,C j→aK j N=aK j M) (h2:∀j,C j→C' j):Bk N C' q cs:=by
 cases q with
 |none=>exact h
 |some q=>exact⟨(h1 _ h.2.2).trans h.1,h.2.1,h2 _ h.2.2⟩
section
variable {F:List TR.Ex} {z z':Ns} {A C D A' C' D':Nat→Prop}
mutual
theorem An.mono (h1:∀j,A j→aK j z'.n.2=aK j z.n.2) (h2:∀j,C j→aK j z'.a.2=aK j z.a.2) (h3:∀j,D j→aK j z'.b.2=aK j z.b.2) (a:∀j,A j→A' j) (c:∀j,C j→C' j) (d:∀j,D j→D' j):∀{e:TR.Ex} {o j:Nat},An F z A C D e o j→An F z' A' C' D' e o j
 |.mk ..,o,j,h=>by
  rw[An]at h ⊢;obtain⟨nd,cs,ars,g1,g2,g3,g4,g5,g6,g7⟩:=h;exact⟨nd,cs,ars,a _ g1,(h1 _ g1).trans g2,g3,g4.mono h2 c,g5.mono h3 d,jd.mono h1 h2 h3 a c d g6,jy.mono h1 h2 h3 a c d g7⟩
theorem jd.mono (h1:∀j,A j→aK j z'.n.2=aK j z.n.2) (h2:∀j,C j→aK j z'.a.2=aK j z.a.2) (h3:∀j,D j→aK j z'.b.2=aK j z.b.2) (a:∀j,A j→A' j) (c:∀j,C j→C' j) (d:∀j,D j→D' j):∀{l:List TR.Ex} {o:Nat} {s:List Nat},jd F z A C D l o s→jd F z' A' C' D' l o s
 | [],_,[],_=>by rw[jd];trivial
 | [],_,_::_,h=>by rw[jd]at h;exact h.elim
 |_::_,_,[],h=>by rw[jd]at h;exact h.elim
 |e::r,_,k::s,h=>by rw[jd]at h ⊢;exact⟨An.mono h1 h2 h3 a c d h.1,jd.mono h1 h2 h3 a c d h.2⟩
theorem jy.mono (h1:∀j,A j→aK j z'.n.2=aK j z.n.2) (h2:∀j,C j→aK j z'.a.2=aK j z.a.2) (h3:∀j,D j→aK j z'.b.2=aK j z.b.2) (a:∀j,A j→A' j) (c:∀j,C j→C' j) (d:∀j,D j→D' j):∀{l:List TR.eU} {o:Nat} {s:List Ar},jy F z A C D l o s→jy F z' A' C' D' l o s
 | [],_,[],_=>by rw[jy];trivial
 | [],_,_::_,h=>by rw[jy]at h;exact h.elim
 |_::_,_,[],h=>by rw[jy]at h;exact h.elim
 |.mk p e::r,_,k::s,h=>by rw[jy]at h ⊢;exact⟨h.1,An.mono h1 h2 h3 a c d h.2.1,jy.mono h1 h2 h3 a c d h.2.2⟩
end
theorem kf.mono (h1:∀j,A j→aK j z'.n.2=aK j z.n.2) (h2:∀j,C j→aK j z'.a.2=aK j z.a.2) (h3:∀j,D j→aK j z'.b.2=aK j z.b.2) (a:∀j,A j→A' j) (c:∀j,C j→C' j) (d:∀j,D j→D' j):∀{l:List TR.Ex} {o:Nat} {s:List Nat},kf F z A C D l o s→kf F z' A' C' D' l o s
 | [],_,[],_=>trivial
 |e::r,_,k::s,h=>⟨An.mono h1 h2 h3 a c d h.1,kf.mono h1 h2 h3 a c d h.2⟩
theorem kf.app:∀{l l':List TR.Ex} {o:Nat} {s s':List Nat},kf F z A C D l o s→kf F z A C D l' (o+l.length) s'→kf F z A C D (l++l') o (s++s')
 | [],l',_,[],s',_,h=>h
 |e::r,l',o,k::s,s',h,h'=>⟨h.1,h.2.app (by rw[show o+1+r.length=o+(e::r).length by simp;omega];exact h')⟩
theorem kf.len:∀{l:List TR.Ex} {o:Nat} {s:List Nat},kf F z A C D l o s→s.length=l.length
 | [],_,[],_=>rfl
 |e::r,_,k::s,h=>congrArg (·+1) h.2.len
theorem kf.get:∀{l:List TR.Ex} {o:Nat} {s:List Nat} {i:Nat} {e:TR.Ex},kf F z A C D l o s→l[i]?=some e→∃k,s[i]?=some k∧An F z A C D e (o+i) k
 | [],_,_,_,_,_,h=>by simp at h
 |e::r,_,k::s,0,x,h,q=>by simp at q;subst q;exact⟨k,rfl,h.1⟩
 |e::r,o,k::s,i+1,x,h,q=>by
  simp at q;obtain⟨k',h1,h2⟩:=h.2.get q;exact⟨k',by simpa using h1,by rw[show o+(i+1)=o+1+i by omega];exact h2⟩
theorem jd.len:∀{l:List TR.Ex} {o:Nat} {s:List Nat},jd F z A C D l o s→s.length=l.length
 | [],_,[],_=>rfl
 | [],_,_::_,h=>by rw[jd]at h;exact h.elim
 |_::_,_,[],h=>by rw[jd]at h;exact h.elim
 |e::r,_,k::s,h=>by rw[jd]at h;rw[List.length_cons,List.length_cons,h.2.len]
theorem jd.get:∀{l:List TR.Ex} {o:Nat} {i:Nat} {e:TR.Ex},l[i]?=some e→∃o',∀{z:Ns} {A C D:Nat→Prop} {s:List Nat},jd F z A C D l o s→∃k,s[i]?=some k∧An F z A C D e o' k
 | [],_,_,_,h=>by simp at h
 |e::r,o,0,x,q=>by
  simp at q;subst q;refine⟨o,fun {z A C D s} h=>?_⟩
  cases s with
  |nil=>rw[jd]at h;exact h.elim
  |cons k s=>rw[jd]at h;exact⟨k,rfl,h.1⟩
 |e::r,o,i+1,x,q=>by
  simp at q;obtain⟨o',h'⟩:=jd.get (o:=o+(nc e).length) q;refine⟨o',fun {z A C D s} h=>?_⟩
  cases s with
  |nil=>rw[jd]at h;exact h.elim
  |cons k s=>rw[jd]at h;simpa using h' h.2
end
def nf (z:Ns) (j:Nat):Prop:=∀q,z.fu=some q→q.1≠j
structure Ei (z:Ns):Prop where
 n:fX z.n
 a:fX z.a
 b:fX z.b
structure W (en ea eb:Nat→Prop) (z z':Ns):Prop where
 n:z.n.1≤z'.n.1
 a:z.a.1≤z'.a.1
 b:z.b.1≤z'.b.1
 tn:∀j,j<z.n.1→¬en j→aK j z'.n.2=aK j z.n.2
 ta:∀j,j<z.a.1→¬ea j→nf z j→aK j z'.a.2=aK j z.a.2∧nf z' j
 tb:∀j,j<z.b.1→¬eb j→aK j z'.b.2=aK j z.b.2
def no:Nat→Prop:=fun _=>False
theorem W.refl {en ea eb:Nat→Prop} {z:Ns}:W en ea eb z z:=⟨Nat.le_refl _,Nat.le_refl _,Nat.le_refl _,fun _ _ _=>rfl,fun _ _ _ h=>⟨rfl,h⟩,fun _ _ _=>rfl⟩
theorem W.trans {en ea eb en' ea' eb':Nat→Prop} {x y z:Ns} (h:W en ea eb x y) (q:W en' ea' eb' y z) (h1:∀j,j<x.n.1→en' j→en j) (h2:∀j,j<x.a.1→ea' j→ea j) (h3:∀j,j<x.b.1→eb' j→eb j):W en ea eb x z where
 n:=Nat.le_trans h.n q.n
 a:=Nat.le_trans h.a q.a
 b:=Nat.le_trans h.b q.b
 tn:=fun j hj e=>(q.tn j (Nat.lt_of_lt_of_le hj h.n) fun x=>e (h1 j hj x)).trans (h.tn j hj e)
 ta:=fun j hj e hn=>by
  have g:=h.ta j hj e hn;have g2:=q.ta j (Nat.lt_of_lt_of_le hj h.a) (fun x=>e (h2 j hj x)) g.2;exact⟨g2.1.trans g.1,g2.2⟩
 tb:=fun j hj e=>(q.tb j (Nat.lt_of_lt_of_le hj h.b) fun x=>e (h3 j hj x)).trans (h.tb j hj e)
theorem tT {α:Type} {z:bf (List α)} {C:Nat→Prop} {q:Option (Nat×Nat)} {cs:List α} (c:α) (hb:fX z) (h:Bk z.2 C q cs) (hl:cs.length≤2000000):
 ∃z' q',mP z q c=some (z',q')∧fX z'∧z'.1=z.1+1∧q'=(z.1,cs.length+1)∧aK z.1 z'.2=some (cs++[c])∧∀j,j<z.1→(∀p,q=some p→p.1≠j)→aK j z'.2=aK j z.2:=by
 unfold mP
 cases q with
 |none=>
  cases h;exact⟨_,_,rfl,hb.push _,rfl,rfl,aQ ..,fun j hj _=>jN (Nat.ne_of_gt hj)⟩
 |some q=>
  obtain⟨h1,h2,_⟩:=h;dsimp only;rw[h1];dsimp only;rw[nX (show q.2≤cs.length by omega) (show q.2≤2000000 by omega)];refine⟨_,_,rfl,(hb.del q.1).push _,rfl,by rw[h2],?_,fun j hj hn=>?_⟩
  ·rw[h2,List.take_length];exact aQ ..
  ·dsimp only
   rw[jN (Nat.ne_of_gt hj),tN (hn q rfl)]
theorem vG:∀q,rM q q=true
 |none=>rfl
 |some q=>by rw[rM,Nat.beq_refl,Nat.beq_refl];rfl
end MN
end
