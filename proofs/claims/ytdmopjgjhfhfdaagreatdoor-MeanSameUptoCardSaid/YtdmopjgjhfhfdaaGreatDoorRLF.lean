/- Contracts, and the law, for every input. No conditions. -/
import Derived.Test.YtdmopjgjhfhfdaaGreatDoorRLA
set_option linter.all false
section
open Go Go.AM Go.Proofs TK
set_option maxRecDepth 100000
namespace MN
structure SB (fo:Int→ByteArray→Nat→Prop) (ρ:Nat→Nat→Prop) (S T:Ss):Prop where
 cr:CR fo ρ S.c T.c
 s1:gf S.s
 s2:gf T.s
 v1:gf S.v
 v2:gf T.v
 f1:gf S.f
 f2:gf T.f
section
variable {K1 K2:Ks} {fo:Int→ByteArray→Nat→Prop} {NR:Nat→Nat→Prop} {ρ ρ':Nat→Nat→Prop} {S T S' T':Ss} {m1 m2 B:Nat} {r q:Rn} {f g:Fr}
theorem SB.c (h:SB fo ρ S T) {x y:bf Cl} (hc:CR fo ρ' x y):SB fo ρ' { S with c:=x } { T with c:=y }:=⟨hc,h.s1,h.s2,h.v1,h.v2,h.f1,h.f2⟩
theorem FI.sb (h:FI K1 K2 fo NR ρ S T m1 m2 B r q):SB fo ρ S T:=⟨h.inv.cr,h.inv.s1,h.inv.s2,h.inv.v1,h.inv.v2,h.inv.f1,h.inv.f2⟩
def Qc (K1 K2:Ks) (fo:Int→ByteArray→Nat→Prop) (NR:Nat→Nat→Prop) (ρ:Nat→Nat→Prop) (m1 m2:Nat) (x y:Option (Ss×Except Int Rn)):Prop:=
 ∃S T ρ',(∀a b,ρ a b→ρ' a b)∧((∃e,x=some (S,.error e)∧y=some (T,.error e)∧SB fo ρ' S T)∨∃r q,x=some (S,.ok r)∧y=some (T,.ok q)∧FI K1 K2 fo NR ρ' S T m1 m2 0 r q∧r.mode=0∧r.out=none∧q.out=none)
theorem LU (kr:KR K1 K2 fo NR m1 m2) (h:SB fo ρ S T) (name:ByteArray) (st:List Ov) (self:Int) (hst:∀v∈st,GQ v) (hl:st.length≤2000000):Qc K1 K2 fo NR ρ m1 m2 (lM K1 S m1 name st self) (lM K2 T m2 name st self):=by
 obtain⟨p,p',j1,j2,_,_,⟨es,fs,j3,j4,j5⟩,_⟩:=kr.mkr;have j5:=j5 name;unfold lM;rw[j1,j2];dsimp only;rw[j3,j4];dsimp only;have le:∀a b,ρ a b→ρ a b:=fun _ _ x=>x
 cases e1:bh name es with
 |none=>
  cases e2:bh name fs with
  |none=>exact⟨S,T,ρ,le,.inl ⟨_,rfl,rfl,h⟩⟩
  |some _=>rw[e1,e2]at j5;cases j5
 |some a=>
  cases e2:bh name fs with
  |none=>rw[e1,e2]at j5;cases j5
  |some b=>
   rw[e1,e2]at j5;obtain⟨k1,k2,k3⟩:=j5;dsimp only;rw[k1]
   cases hn:Nat.beq st.length a.names.length with
   |false=>exact⟨S,T,ρ,le,.inl ⟨_,rfl,rfl,h⟩⟩
   |true=>
    dsimp only;rw[Nat.ble_eq_true_of_le hl];dsimp only;obtain⟨x,y,z,w,ρ2,f1,f2,f3,f4,f5⟩:=B5 (f:=gJ K1 m1 (qS st)) (g:=gJ K2 m2 (qS st)) (l:=st) (fun v hv ρ z w hc=>EB kr _ v ρ z w (uh hv) (hst v hv) hc) h.cr;rw[f1,f2];rcases x with _|l<;>rcases y with _|k
    all_goals first|(cases f5;done)|skip
    ·exact⟨_,_,ρ2,f3,.inl ⟨_,rfl,rfl,h.c f4⟩⟩
    ·obtain⟨f5,f6⟩:=f5
     obtain⟨b1,g1,g2,_⟩:=GY f4 f5;dsimp only;rw[←f5.len,f6,Nat.ble_eq_true_of_le hl];dsimp only;rw[g1,g2]
     cases b1 with
     |true=>exact⟨_,_,ρ2,f3,.inl ⟨_,rfl,rfl,h.c f4⟩⟩
     |false=>
      obtain⟨P,Q,w1,w2,w3,w4,w5⟩:=Bt a.names h.s1 h.s2 (by rw[f6];exact(Nat.eq_of_beq_eq_true hn).symm) f5 .nil;dsimp only;rw[w1,w2];refine⟨_,_,ρ2,f3,.inr ⟨_,_,rfl,rfl,⟨?_,rfl,rfl,fun _=>.inr ⟨⟨⟨_,_,rfl,rfl,k3⟩,w5,rfl,rfl,⟨[],[],rfl,rfl,trivial⟩,rfl,rfl⟩,rfl,rfl⟩,fun e=>(by cases e)⟩,rfl,rfl,rfl⟩⟩;exact⟨f4,w3.1,w4.1,h.v1,h.v2,h.f1,h.f2,rfl,rfl,rfl,k2,⟨_,_,rfl,rfl,k3⟩,rfl,f5,[],[],rfl,rfl,trivial,List.nodup_nil,List.nodup_nil,Nat.zero_le _⟩
theorem Pa.mono (h:Pa K1 K2 fo NR ρ S T r q) (hρ:∀a b,ρ a b→ρ' a b) (e1:SE S.s S'.s) (e2:SE T.s T'.s) (v1:S'.v=S.v) (v2:T'.v=T.v):Pa K1 K2 fo NR ρ' S' T' r q:=
 ⟨h.1.mono hρ e1 e2 (fun _ _ _ x=>v1 ▸ x) (fun _ _ _ x=>v2 ▸ x),h.2⟩
def Qk (K1 K2:Ks) (fo:Int→ByteArray→Nat→Prop) (NR:Nat→Nat→Prop) (ρ:Nat→Nat→Prop) (m1 m2 B:Nat) (n:Int) (x y:Option (Bool×Ss×Rn)):Prop:=
 ∃b S T r q ρ',x=some (b,S,r)∧y=some (b,T,q)∧(∀a b,ρ a b→ρ' a b)∧FI K1 K2 fo NR ρ' S T m1 m2 B r q∧r.out=none∧q.out=none∧(b=true→r.mode=0)∧(b=false→r.mode=1∧r.last.num=n)
theorem Kj (kr:KR K1 K2 fo NR m1 m2) (h:FI K1 K2 fo NR ρ S T m1 m2 B r q) (hm:r.mode=1) (h1:r.out=none) (h2:q.out=none) (v:Ov) (hv:GQ v):Qk K1 K2 fo NR ρ m1 m2 B r.last.num (oK K1 S r v) (oK K2 T q v):=by
 unfold oK;rw[show q.mode=r.mode from h.mode,hm,show((1:Int)==1)=true from rfl,h.inv.mk1,h.inv.mk2];dsimp only;obtain⟨x,y,z,w,ρ2,f1,f2,f3,f4,f5⟩:=EB kr (yV v) v ρ S.c T.c (Nat.le_refl _) hv h.inv.cr;rw[f1,f2];have hi:=h.inv.cg f3 f4 S.g T.g;have hp:Pa K1 K2 fo NR ρ2 { S with c:=z } { T with c:=w } r q:=(h.pa hm).mono f3 (.refl h.inv.s1) (.refl h.inv.s2) rfl rfl;rcases x with _|x<;>rcases y with _|y
 all_goals first|(cases f5;done)|skip
 ·exact⟨false,_,_,r,q,ρ2,rfl,rfl,f3,⟨hi,h.mode,h.last,fun e=>(by rw[hm]at e;cases e),fun _=>hp⟩,h1,h2,fun e=>(by cases e),fun _=>⟨hm,rfl⟩⟩
 ·obtain⟨b,sS,sT,rr,qq,k1,k2,k3,k4,k5,k6⟩:=Gj kr (v:=x) (w:=y) f5 hi hp.1 hp.1.sc
  dsimp only;rw[k1,k2];rcases k6 with⟨rfl,rfl,rfl⟩|⟨rfl,c,d,s,t,rfl,rfl,e1,e2⟩
  ·exact⟨false,_,_,_,_,ρ2,rfl,rfl,f3,⟨k3,h.mode,h.last,fun e=>(by rw[hm]at e;cases e),fun _=>hp.mono (fun _ _ x=>x) k4 k5 rfl rfl⟩,h1,h2,fun e=>(by cases e),fun _=>⟨hm,rfl⟩⟩
  ·exact⟨true,_,_,_,_,ρ2,rfl,rfl,f3,⟨k3.re rfl rfl,rfl,h.last,fun _=>.inr ⟨⟨⟨c,d,rfl,rfl,e1⟩,e2,rfl,rfl,⟨[],[],rfl,rfl,trivial⟩,hp.1.dep,hp.1.inF⟩,rfl,rfl⟩,fun e=>(by cases e)⟩,h1,h2,fun _=>rfl,fun e=>(by cases e)⟩
theorem Lg (h:FI K1 K2 fo NR ρ S T m1 m2 B r q) (hm:r.mode=1) (h1:r.out=none) (h2:q.out=none) (hn:0≤r.last.num):∃r' q',uU K1 r=some r'∧uU K2 q=some q'∧FI K1 K2 fo NR ρ S T m1 m2 B r' q'∧r'.out=none∧q'.out=none∧r'.mode=0:=by
 obtain⟨p1,p2,p3,p4⟩:=h.pa hm;obtain⟨n,m,a,b,e1,e2,e3,e4,e5⟩:=p4 hn;unfold uU;rw[show q.mode=r.mode from h.mode,hm,show((1:Int)==1)=true from rfl,show q.last=r.last from h.last,decide_eq_false (show ¬r.last.num<0 by omega),e1,e2];dsimp only;rw[e3,e4];exact⟨_,_,rfl,rfl,⟨h.inv.re rfl rfl,rfl,rfl,fun _=>.inr ⟨⟨⟨a,b,rfl,rfl,e5⟩,p1.sc,rfl,rfl,⟨[],[],rfl,rfl,trivial⟩,p1.dep,p1.inF⟩,rfl,rfl⟩,fun e=>(by cases e)⟩,h1,h2,rfl⟩
theorem Jt (h:FI K1 K2 fo NR ρ S T m1 m2 B r q) (hm:r.mode=2) (h1:r.out=none) (h2:q.out=none) (n:Int):∃r' q',vu K1 S r (.mk 6 n ⟨#[]⟩ [])=some (S,r')∧vu K2 T q (.mk 6 n ⟨#[]⟩ [])=some (T,q')∧FI K1 K2 fo NR ρ S T m1 m2 B r' q'∧r'.out=none∧q'.out=none∧r'.mode=0:=by
 have key:∀(K:Ks) (m:Nat) (z:bf Cl),gJ K m (yV (.mk 6 n ⟨#[]⟩ [])) (.mk 6 n ⟨#[]⟩ []) z=some (some (.mk 6 n ⟨#[]⟩ [] none),z):=fun K m z=>rfl;unfold vu;rw[show q.mode=r.mode from h.mode,hm,show((2:Int)==2)=true from rfl,key,key];exact⟨_,_,rfl,rfl,⟨h.inv.re rfl rfl,rfl,h.last,fun _=>.inl ⟨rfl,rfl,VR.mk' rfl (fun e=>by cases e) (by simp) (by decide) (by simp[AF])⟩,fun e=>(by cases e)⟩,h1,h2,rfl⟩
def Qj (K1 K2:Ks) (fo:Int→ByteArray→Nat→Prop) (NR:Nat→Nat→Prop) (ρ:Nat→Nat→Prop) (m1 m2 B:Nat) (L:List r8) (x y:Option (Bool×Ss×Rn×List r8)):Prop:=
 ∃b S T r q l ρ',x=some (b,S,r,l)∧y=some (b,T,q,l)∧(∀a b,ρ a b→ρ' a b)∧FI K1 K2 fo NR ρ' S T m1 m2 B r q∧r.out=none∧q.out=none∧(b=true→r.mode=0)∧(b=false→r.mode=1)∧∀s∈l,s∈L
theorem uQ (kr:KR K1 K2 fo NR m1 m2) (n:Int):∀(l:List r8) {ρ:Nat→Nat→Prop} {S T:Ss} {r q:Rn},FI K1 K2 fo NR ρ S T m1 m2 B r q→r.mode=1→r.out=none→q.out=none→r.last.num=n→(∀s∈l,GQ s.val)→Qj K1 K2 fo NR ρ m1 m2 B l (fc K1 n S r l) (fc K2 n T q l)
 | [],ρ,S,T,r,q,h,hm,h1,h2,_,_=>⟨false,S,T,r,q,[],ρ,rfl,rfl,fun _ _ x=>x,h,h1,h2,fun e=>(by cases e),fun _=>hm,fun _ hs=>hs⟩
 |s::l,ρ,S,T,r,q,h,hm,h1,h2,hn,hl=>by
  rw[fc,fc]
  cases s.kind==1 with
  |true=>
   dsimp only
   cases hd:decide (n≥0) with
   |true=>
    obtain⟨r',q',e1,e2,e3,e4,e5,e6⟩:=Lg h hm h1 h2 (by rw[hn];exact of_decide_eq_true hd);dsimp only;rw[e1,e2];exact⟨true,S,T,r',q',l,ρ,rfl,rfl,fun _ _ x=>x,e3,e4,e5,fun _=>e6,fun e=>(by cases e),fun s hs=>List.mem_cons_of_mem _ hs⟩
   |false=>
    obtain⟨b,S',T',r',q',l',ρ',e1,e2,e3,e4,e5,e6,e7,e8,e9⟩:=uQ kr n l h hm h1 h2 hn fun s hs=>hl s (List.mem_cons_of_mem _ hs);exact⟨b,S',T',r',q',l',ρ',e1,e2,e3,e4,e5,e6,e7,e8,fun s hs=>List.mem_cons_of_mem _ (e9 s hs)⟩
  |false=>
   dsimp only;obtain⟨b,S',T',r',q',ρ',e1,e2,e3,e4,e5,e6,e7,e8⟩:=Kj kr h hm h1 h2 s.val (hl s List.mem_cons_self);rw[e1,e2]
   cases b with
   |true=>exact⟨true,S',T',r',q',l,ρ',rfl,rfl,e3,e4,e5,e6,e7,fun e=>(by cases e),fun s hs=>List.mem_cons_of_mem _ hs⟩
   |false=>
    obtain⟨b,S',T',r',q',l',ρ2,d1,d2,d3,d4,d5,d6,d7,d8,d9⟩:=uQ kr n l e4 (e8 rfl).1 e5 e6 ((e8 rfl).2.trans hn) fun s hs=>hl s (List.mem_cons_of_mem _ hs);exact⟨b,S',T',r',q',l',ρ2,d1,d2,fun _ _ x=>d3 _ _ (e3 _ _ x),d4,d5,d6,d7,d8,fun s hs=>List.mem_cons_of_mem _ (d9 s hs)⟩
theorem Kn (fuels:List Int) (j:Nat):1≤ei fuels j∧ei fuels j≤400:=by
 unfold ei;split
 ·exact⟨by omega,by omega⟩
 ·have h1:=Int.emod_nonneg ((((‹Int›::‹List Int›)[j % (‹List Int›.length+1)]?).getD 0)) (show(400:Int)≠0 by omega)
  have h2:=Int.emod_lt_of_pos ((((‹Int›::‹List Int›)[j % (‹List Int›.length+1)]?).getD 0)) (show(0:Int)<400 by omega);rw[wrap64 (by omega) (by omega)];omega
def qJ (N:Nat) (l:List Ou):Prop:=(∀o∈l,zE o)∧l.length+N≤2000000
theorem qJ.le {N M:Nat} (h:M≤N) {l:List Ou} (g:qJ N l):qJ M l:=⟨g.1,by have:=g.2;omega⟩
def P3 (fo:Int→ByteArray→Nat→Prop) (x y:Option (Option (List Ou)×Ss×Rn)):Prop:=∃R S r T q ρ,x=some (R,S,r)∧y=some (R,T,q)∧SB fo ρ S T∧∀l,R=some l→qJ 0 l
theorem oU {N:Nat} {l:List Ou} {o:Ou} (h:qJ (N+1) l) (ho:zE o):qJ N (l++[o]):=by
 refine⟨fun x hx=>?_,by have:=h.2;simp;omega⟩;rcases List.mem_append.1 hx with hx|hx
 ·exact h.1 x hx
 ·simp at hx;subst hx;exact ho
theorem Gl (kr:KR K1 K2 fo NR m1 m2) (fuels:List Int):∀(N j:Nat) {ρ:Nat→Nat→Prop} {S T:Ss} {r q:Rn} {B:Nat} (refs used:Int) (l:List r8) (out:List Ou),FI K1 K2 fo NR ρ S T m1 m2 B r q→r.mode=0→r.out=none→q.out=none→0≤used→used≤60400→60000<used+N∧1≤N→(B:Int)≤used→(∀s∈l,GQ s.val)→
 qJ N out→P3 fo (gC K1 fuels N j S r refs used l out) (gC K2 fuels N j T q refs used l out)
 |0,_,_,_,_,_,_,_,_,_,_,_,_,_,_,_,_,_,h,_,_,_=>absurd h.2 (by omega)
 |N+1,j,ρ,S,T,r,q,B,refs,used,l,out,h,hm,h1,h2,u0,u1,u2,hB,hl,hok=>by
  rw[gC,gC]
  cases hu:decide (used<60000) with
  |false=>exact⟨_,_,_,_,_,ρ,rfl,rfl,h.sb,fun l e=>by cases e⟩
  |true=>
   have hu:=of_decide_eq_true hu;obtain⟨f1,f2⟩:=Kn fuels j;obtain⟨o,S',r',T',q',ρ',e1,e2,e3,e4,e5,e6,e7⟩:=Kx kr (ei fuels j).toNat h hm h1 h2 (by omega);have hw:IntKind.i64.wrap (used+ei fuels j)=used+ei fuels j:=wrap64 (by omega) (by omega);dsimp only;rw[e1,e2,hw];dsimp only
   have go:∀{ρ:Nat→Nat→Prop} {S T:Ss} {r q:Rn} (refs:Int) (l:List r8) (out:List Ou),FI K1 K2 fo NR ρ S T m1 m2 (B+(ei fuels j).toNat) r q→r.mode=0→r.out=none→q.out=none→(∀s∈l,GQ s.val)→qJ N out→P3 fo (gC K1 fuels N (j+1) S r refs (used+ei fuels j) l out) (gC K2 fuels N (j+1) T q refs (used+ei fuels j) l out):=
    fun refs l out h hm h1 h2 hl ho=>Gl kr fuels N (j+1) refs (used+ei fuels j) l out h hm h1 h2 (by omega) (by omega) (by omega) (by omega) hl ho
   rcases e7 with⟨rfl,hm'⟩|⟨⟨hm',ho⟩|⟨hm',ho,hn⟩|⟨hm',ho⟩|⟨hm',ho⟩,hk⟩
   ·exact go refs l out e3 hm' e5 e6 hl (hok.le (Nat.le_succ N))
   ·have g1:(o.kind==1)=false:=by rcases ho with e|e<;>rw[e]<;>rfl
    have g2:((o.kind==8)||(o.kind==9))=true:=by rcases ho with e|e<;>rw[e]<;>rfl
    rw[g1,g2];exact⟨_,_,_,_,_,ρ',rfl,rfl,e3.sb,fun l e=>by cases e;exact(oU hok hk).le (Nat.zero_le _)⟩
   ·rw[ho]
    obtain⟨b,S2,T2,r2,q2,l2,ρ2,d1,d2,d3,d4,d5,d6,d7,d8,d9⟩:=uQ kr o.num l e3 hm' e5 e6 hn.symm hl;rw[show((7:Int)==1)=false from rfl,show(((7:Int)==8)||((7:Int)==9))=false from rfl,show((7:Int)==4)=false from rfl,show((7:Int)==7)=true from rfl];dsimp only;rw[d1,d2]
    cases b with
    |false=>exact⟨_,_,_,_,_,ρ2,rfl,rfl,d4.sb,fun l e=>by cases e;exact(oU hok hk).le (Nat.zero_le _)⟩
    |true=>exact go refs l2 _ d4 (d7 rfl) d5 d6 (fun s hs=>hl s (d9 s hs)) (oU hok hk)
   ·rw[ho]
    obtain⟨r2,q2,d1,d2,d3,d4,d5,d6⟩:=Jt e3 hm' e5 e6 (IntKind.i64.wrap (refs+1));rw[show((4:Int)==1)=false from rfl,show(((4:Int)==8)||((4:Int)==9))=false from rfl,show((4:Int)==4)=true from rfl];dsimp only;rw[d1,d2];exact go _ l _ d3 d6 d4 d5 hl (oU hok hk)
   ·have g1:(o.kind==1)=false∧((o.kind==8)||(o.kind==9))=false∧(o.kind==4)=false∧(o.kind==7)=false:=by rcases ho with e|e|e|e<;>rw[e]<;>exact⟨rfl,rfl,rfl,rfl⟩
    rw[g1.1,g1.2.1,g1.2.2.1,g1.2.2.2];exact go refs l _ e3 hm' e5 e6 hl (oU hok hk)
end
end MN
end
section
open Go Go.AM Go.Proofs TK
set_option maxRecDepth 100000
namespace MN
section
variable {K1 K2:Ks} {fo:Int→ByteArray→Nat→Prop} {NR:Nat→Nat→Prop} {ρ ρ':Nat→Nat→Prop} {S T S' T':Ss} {m1 m2 B:Nat} {r q:Rn} {f g:Fr}
end
end MN
end
section
open Go Go.AM Go.Proofs TK
set_option maxRecDepth 100000
namespace MN
section
def oI (e:TR.Ex):Bool:=(e.kind==10)&&!(Nat.beq e.args.length 0)
mutual
def mT:TR.Ex→List TR.Ex
 |.mk k n t ns ts xs ms p=>(match (k==10)&&!(Nat.beq xs.length 0) with|true=>[.mk k n t ns ts xs ms p]|false=>[])++(oA xs++o9 ms)
def oA:List TR.Ex→List TR.Ex
 | []=>[]
 |e::r=>mT e++oA r
def o9:List TR.eR→List TR.Ex
 | []=>[]
 |.mk _ e::r=>mT e++o9 r
end
def Bk {α:Type} (M:List (Nat×List α)) (C:Nat→Prop) (q:Option (Nat×Nat)) (cs:List α):Prop:=match q with
 |none=>cs=[]
 |some q=>aJ q.1 M=some cs∧q.2=cs.length∧C q.1
structure Nx (F:List TR.Ex) (nd:Nd) (e:TR.Ex) (o:Nat):Prop where
 kind:nd.kind=e.kind
 num:nd.num=e.num
 text:nd.text=e.text
 names:nd.names=e.names
 needs:nd.needs=TR.dX e.kind e.num e.args.length
 fn:oI e=true→nd.free=TR.mJ e∧nd.fn=o∧F[o]?=some e
 nf:oI e=false→nd.fn=0∧nd.free=[]
variable (F:List TR.Ex) (z:Ns) (A C D:Nat→Prop)
def one (e:TR.Ex):List TR.Ex:=match oI e with|true=>[e]|false=>[]
mutual
def Ae:TR.Ex→Nat→Nat→Prop
 |.mk k n t ns ts xs ms p,o,j=>∃nd cs ars,A j∧aJ j z.n.2=some nd∧Nx F nd (.mk k n t ns ts xs ms p) o∧Bk z.a.2 C nd.args cs∧Bk z.b.2 D nd.dR ars∧jf xs (o+(one (.mk k n t ns ts xs ms p)).length) cs∧jv ms (o+(one (.mk k n t ns ts xs ms p)).length+(oA xs).length) ars
def jf:List TR.Ex→Nat→List Nat→Prop
 | [],_,[]=>True
 |e::r,o,c::s=>Ae e o c∧jf r (o+(mT e).length) s
 | [],_,_::_=>False
 |_::_,_,[]=>False
def jv:List TR.eR→Nat→List Ar→Prop
 | [],_,[]=>True
 |.mk p e::r,o,a::s=>a.pat=p∧Ae e o a.body∧jv r (o+(mT e).length) s
 | [],_,_::_=>False
 |_::_,_,[]=>False
end
def ke:List TR.Ex→Nat→List Nat→Prop
 | [],_,[]=>True
 |e::r,o,c::s=>Ae F z A C D e o c∧ke r (o+1) s
 | [],_,_::_=>False
 |_::_,_,[]=>False
end
theorem Bk.mono {α:Type} {M N:List (Nat×List α)} {C C':Nat→Prop} {q:Option (Nat×Nat)} {cs:List α} (h:Bk M C q cs) (h1:∀j,C j→aJ j N=aJ j M) (h2:∀j,C j→C' j):Bk N C' q cs:=by
 cases q with
 |none=>exact h
 |some q=>exact⟨(h1 _ h.2.2).trans h.1,h.2.1,h2 _ h.2.2⟩
section
variable {F:List TR.Ex} {z z':Ns} {A C D A' C' D':Nat→Prop}
mutual
theorem Ae.mono (h1:∀j,A j→aJ j z'.n.2=aJ j z.n.2) (h2:∀j,C j→aJ j z'.a.2=aJ j z.a.2) (h3:∀j,D j→aJ j z'.b.2=aJ j z.b.2) (a:∀j,A j→A' j) (c:∀j,C j→C' j) (d:∀j,D j→D' j):∀{e:TR.Ex} {o j:Nat},Ae F z A C D e o j→Ae F z' A' C' D' e o j
 |.mk ..,o,j,h=>by
  rw[Ae]at h ⊢;obtain⟨nd,cs,ars,g1,g2,g3,g4,g5,g6,g7⟩:=h;exact⟨nd,cs,ars,a _ g1,(h1 _ g1).trans g2,g3,g4.mono h2 c,g5.mono h3 d,jf.mono h1 h2 h3 a c d g6,jv.mono h1 h2 h3 a c d g7⟩
theorem jf.mono (h1:∀j,A j→aJ j z'.n.2=aJ j z.n.2) (h2:∀j,C j→aJ j z'.a.2=aJ j z.a.2) (h3:∀j,D j→aJ j z'.b.2=aJ j z.b.2) (a:∀j,A j→A' j) (c:∀j,C j→C' j) (d:∀j,D j→D' j):∀{l:List TR.Ex} {o:Nat} {s:List Nat},jf F z A C D l o s→jf F z' A' C' D' l o s
 | [],_,[],_=>by rw[jf];trivial
 | [],_,_::_,h=>by rw[jf]at h;exact h.elim
 |_::_,_,[],h=>by rw[jf]at h;exact h.elim
 |e::r,_,k::s,h=>by rw[jf]at h ⊢;exact⟨Ae.mono h1 h2 h3 a c d h.1,jf.mono h1 h2 h3 a c d h.2⟩
theorem jv.mono (h1:∀j,A j→aJ j z'.n.2=aJ j z.n.2) (h2:∀j,C j→aJ j z'.a.2=aJ j z.a.2) (h3:∀j,D j→aJ j z'.b.2=aJ j z.b.2) (a:∀j,A j→A' j) (c:∀j,C j→C' j) (d:∀j,D j→D' j):∀{l:List TR.eR} {o:Nat} {s:List Ar},jv F z A C D l o s→jv F z' A' C' D' l o s
 | [],_,[],_=>by rw[jv];trivial
 | [],_,_::_,h=>by rw[jv]at h;exact h.elim
 |_::_,_,[],h=>by rw[jv]at h;exact h.elim
 |.mk p e::r,_,k::s,h=>by rw[jv]at h ⊢;exact⟨h.1,Ae.mono h1 h2 h3 a c d h.2.1,jv.mono h1 h2 h3 a c d h.2.2⟩
end
theorem ke.mono (h1:∀j,A j→aJ j z'.n.2=aJ j z.n.2) (h2:∀j,C j→aJ j z'.a.2=aJ j z.a.2) (h3:∀j,D j→aJ j z'.b.2=aJ j z.b.2) (a:∀j,A j→A' j) (c:∀j,C j→C' j) (d:∀j,D j→D' j):∀{l:List TR.Ex} {o:Nat} {s:List Nat},ke F z A C D l o s→ke F z' A' C' D' l o s
 | [],_,[],_=>trivial
 |e::r,_,k::s,h=>⟨Ae.mono h1 h2 h3 a c d h.1,ke.mono h1 h2 h3 a c d h.2⟩
theorem ke.app:∀{l l':List TR.Ex} {o:Nat} {s s':List Nat},ke F z A C D l o s→ke F z A C D l' (o+l.length) s'→ke F z A C D (l++l') o (s++s')
 | [],l',_,[],s',_,h=>h
 |e::r,l',o,k::s,s',h,h'=>⟨h.1,h.2.app (by rw[show o+1+r.length=o+(e::r).length by simp;omega];exact h')⟩
theorem ke.len:∀{l:List TR.Ex} {o:Nat} {s:List Nat},ke F z A C D l o s→s.length=l.length
 | [],_,[],_=>rfl
 |e::r,_,k::s,h=>congrArg (·+1) h.2.len
theorem ke.get:∀{l:List TR.Ex} {o:Nat} {s:List Nat} {i:Nat} {e:TR.Ex},ke F z A C D l o s→l[i]?=some e→∃k,s[i]?=some k∧Ae F z A C D e (o+i) k
 | [],_,_,_,_,_,h=>by simp at h
 |e::r,_,k::s,0,x,h,q=>by simp at q;subst q;exact⟨k,rfl,h.1⟩
 |e::r,o,k::s,i+1,x,h,q=>by
  simp at q;obtain⟨k',h1,h2⟩:=h.2.get q;exact⟨k',by simpa using h1,by rw[show o+(i+1)=o+1+i by omega];exact h2⟩
theorem jf.len:∀{l:List TR.Ex} {o:Nat} {s:List Nat},jf F z A C D l o s→s.length=l.length
 | [],_,[],_=>rfl
 | [],_,_::_,h=>by rw[jf]at h;exact h.elim
 |_::_,_,[],h=>by rw[jf]at h;exact h.elim
 |e::r,_,k::s,h=>by rw[jf]at h;rw[List.length_cons,List.length_cons,h.2.len]
theorem jf.get:∀{l:List TR.Ex} {o:Nat} {i:Nat} {e:TR.Ex},l[i]?=some e→∃o',∀{z:Ns} {A C D:Nat→Prop} {s:List Nat},jf F z A C D l o s→∃k,s[i]?=some k∧Ae F z A C D e o' k
 | [],_,_,_,h=>by simp at h
 |e::r,o,0,x,q=>by
  simp at q;subst q;refine⟨o,fun {z A C D s} h=>?_⟩
  cases s with
  |nil=>rw[jf]at h;exact h.elim
  |cons k s=>rw[jf]at h;exact⟨k,rfl,h.1⟩
 |e::r,o,i+1,x,q=>by
  simp at q;obtain⟨o',h'⟩:=jf.get (o:=o+(mT e).length) q;refine⟨o',fun {z A C D s} h=>?_⟩
  cases s with
  |nil=>rw[jf]at h;exact h.elim
  |cons k s=>rw[jf]at h;simpa using h' h.2
end
def nf (z:Ns) (j:Nat):Prop:=∀q,z.fu=some q→q.1≠j
structure D0 (z:Ns):Prop where
 n:gf z.n
 a:gf z.a
 b:gf z.b
structure W (en ea eb:Nat→Prop) (z z':Ns):Prop where
 n:z.n.1≤z'.n.1
 a:z.a.1≤z'.a.1
 b:z.b.1≤z'.b.1
 tn:∀j,j<z.n.1→¬en j→aJ j z'.n.2=aJ j z.n.2
 ta:∀j,j<z.a.1→¬ea j→nf z j→aJ j z'.a.2=aJ j z.a.2∧nf z' j
 tb:∀j,j<z.b.1→¬eb j→aJ j z'.b.2=aJ j z.b.2
def no:Nat→Prop:=fun _=>False
theorem W.refl {en ea eb:Nat→Prop} {z:Ns}:W en ea eb z z:=⟨Nat.le_refl _,Nat.le_refl _,Nat.le_refl _,fun _ _ _=>rfl,fun _ _ _ h=>⟨rfl,h⟩,fun _ _ _=>rfl⟩
theorem W.trans {en ea eb en' ea' eb':Nat→Prop} {x y z:Ns} (h:W en ea eb x y) (q:W en' ea' eb' y z) (h1:∀j,j<x.n.1→en' j→en j) (h2:∀j,j<x.a.1→ea' j→ea j) (h3:∀j,j<x.b.1→eb' j→eb j):W en ea eb x z where
 n:=Nat.le_trans h.n q.n
 a:=Nat.le_trans h.a q.a
 b:=Nat.le_trans h.b q.b
 tn:=fun j hj e=>(q.tn j (Nat.lt_of_lt_of_le hj h.n) fun x=>e (h1 j hj x)).trans (h.tn j hj e)
 ta:=fun j hj e hn=>by
  have g:=h.ta j hj e hn;have g2:=q.ta j (Nat.lt_of_lt_of_le hj h.a) (fun x=>e (h2 j hj x)) g.2;exact⟨g2.1.trans g.1,g2.2⟩
 tb:=fun j hj e=>(q.tb j (Nat.lt_of_lt_of_le hj h.b) fun x=>e (h3 j hj x)).trans (h.tb j hj e)
theorem tO {α:Type} {z:bf (List α)} {C:Nat→Prop} {q:Option (Nat×Nat)} {cs:List α} (c:α) (hb:gf z) (h:Bk z.2 C q cs) (hl:cs.length≤2000000):
 ∃z' q',mI z q c=some (z',q')∧gf z'∧z'.1=z.1+1∧q'=(z.1,cs.length+1)∧aJ z.1 z'.2=some (cs++[c])∧∀j,j<z.1→(∀p,q=some p→p.1≠j)→aJ j z'.2=aJ j z.2:=by
 unfold mI
 cases q with
 |none=>
  cases h;exact⟨_,_,rfl,hb.push _,rfl,rfl,aP ..,fun j hj _=>jW (Nat.ne_of_gt hj)⟩
 |some q=>
  obtain⟨h1,h2,_⟩:=h;dsimp only;rw[h1];dsimp only;rw[nY (show q.2≤cs.length by omega) (show q.2≤2000000 by omega)];refine⟨_,_,rfl,(hb.del q.1).push _,rfl,by rw[h2],?_,fun j hj hn=>?_⟩
  ·rw[h2,List.take_length];exact aP ..
  ·dsimp only
   rw[jW (Nat.ne_of_gt hj),sP (hn q rfl)]
theorem vg:∀q,rC q q=true
 |none=>rfl
 |some q=>by rw[rC,Nat.beq_refl,Nat.beq_refl];rfl
end MN
end
section
open Go Go.AM Go.Proofs TK
set_option maxRecDepth 100000
namespace MN
def own (q:Option (Nat×Nat)) (j:Nat):Prop:=∃p,q=some p∧p.1=j
def sN (z z':Ns) (j:Nat):Prop:=z.n.1≤j∧j<z'.n.1
def sA (z z':Ns) (j:Nat):Prop:=z.a.1≤j∧j<z'.a.1∧nf z' j
def sB (z z':Ns) (j:Nat):Prop:=z.b.1≤j∧j<z'.b.1
def Of (q:Option (Nat×Nat)) (z z':Ns) (j:Nat):Prop:=sA z z' j∧¬own q j
def NK (q:Option (Nat×Nat)) (z z':Ns) (j:Nat):Prop:=sB z z' j∧¬own q j
def Fu (z:Ns) (cs:List Nat):Prop:=Bk z.a.2 (fun j=>j<z.a.1) z.fu cs
theorem Bk.len {α:Type} {M:List (Nat×List α)} {C:Nat→Prop} {q:Option (Nat×Nat)} {cs:List α} (h:Bk M C q cs):gx q=cs.length:=by
 cases q with
 |none=>cases h;rfl
 |some q=>exact h.2.1
theorem Bk.c {α:Type} {M:List (Nat×List α)} {C:Nat→Prop} {q:Option (Nat×Nat)} {cs:List α} (h:Bk M C q cs):∀j,own q j→C j:=by
 rintro j ⟨p,rfl,rfl⟩;exact h.2.2
def Pw (F:List TR.Ex) (g:TR.Ex→Ns→Option (Ns×Nat)) (e:TR.Ex):Prop:=∀(z:Ns) (L M:List TR.Ex) (cs:List Nat),D0 z→Fu z cs→F=L++mT e++M→cs.length=L.length→
 ∃z' ds,g e z=some (z',z.n.1)∧z.n.1<z'.n.1∧D0 z'∧W no no no z z'∧Ae F z' (sN z z') (sA z z') (sB z z') e L.length z.n.1∧Fu z' (cs++ds)∧ke F z' (sN z z') (sA z z') (sB z z') (mT e) L.length ds
section
variable {F:List TR.Ex} {g:TR.Ex→Ns→Option (Ns×Nat)}
theorem Dp (k:Nat):∀(es:List TR.Ex) (z:Ns) (nd:Nd) (cs0:List Nat) (L M:List TR.Ex) (cs:List Nat),(∀e∈es,Pw F g e)→k<z.n.1→D0 z→aJ k z.n.2=some nd→Bk z.a.2 (fun j=>j<z.a.1∧nf z j) nd.args cs0→cs0.length+es.length≤2000000→
 Fu z cs→F=L++oA es++M→cs.length=L.length→
 ∃z' qa cs1 ds,qC g k es z=some z'∧D0 z'∧W (·=k) (own nd.args) no z z'∧aJ k z'.n.2=some { nd with args:=qa }∧Bk z'.a.2 (fun j=>j<z'.a.1∧nf z' j) qa (cs0++cs1)∧(∀j,own qa j→own nd.args j∨z.a.1≤j)∧
  jf F z' (sN z z') (Of qa z z') (sB z z') es L.length cs1∧Fu z' (cs++ds)∧ke F z' (sN z z') (Of qa z z') (sB z z') (oA es) L.length ds
 | [],z,nd,cs0,L,M,cs,_,hk,ok,hn,hb,_,hf,_,_=>⟨z,nd.args,[],[],rfl,ok,W.refl,hn,by rw[List.append_nil];exact hb,fun j h=>.inl h,by rw[jf];trivial,by rw[List.append_nil];exact hf,by rw[oA];trivial⟩
 |e::es,z,nd,cs0,L,M,cs,hg,hk,ok,hn,hb,hl,hf,hF,hc=>by
  obtain⟨z2,d1,e1,e2,e3,e4,e5,e6,e7⟩:=hg e List.mem_cons_self z L (oA es++M) cs ok hf (by rw[hF,oA];simp) hc;have hn2:aJ k z2.n.2=some nd:=(e4.tn k hk fun h=>h).trans hn;have hb2:Bk z2.a.2 (fun j=>j<z.a.1∧nf z2 j) nd.args cs0:=hb.mono (fun j h=>(e4.ta j h.1 (fun x=>x) h.2).1) fun j h=>⟨h.1,(e4.ta j h.1 (fun x=>x) h.2).2⟩
  have hl:cs0.length+es.length+1≤2000000:=hl;obtain⟨a3,q,p1,p2,p3,p4,p5,p6⟩:=tO z.n.1 e3.a hb2 (by omega)
  have hz3:qC g k (e::es) z=qC g k es ⟨(z2.n.1,aV k { nd with args:=some q } z2.n.2),a3,z2.b,z2.fu⟩:=by
   rw[qC,hn];dsimp only;rw[e1];dsimp only;rw[hn2];dsimp only;rw[vg];dsimp only;rw[p1]
  generalize hzz:(⟨(z2.n.1,aV k { nd with args:=some q } z2.n.2),a3,z2.b,z2.fu⟩:Ns)=z3 at hz3;have q1:z3.n=(z2.n.1,aV k { nd with args:=some q } z2.n.2):=by rw[←hzz]
  have q2:z3.a=a3:=by rw[←hzz]
  have q3:z3.b=z2.b:=by rw[←hzz]
  have q4:z3.fu=z2.fu:=by rw[←hzz]
  have hnf:∀j,nf z2 j→nf z3 j:=fun j h q hq=>h q (q4 ▸ hq)
  have w3:W (·=k) (own nd.args) no z2 z3:=by
   refine⟨by rw[q1];exact Nat.le_refl _,by rw[q2,p3];omega,by rw[q3];exact Nat.le_refl _,fun j _ h=>?_,fun j hj h hn=>⟨?_,hnf j hn⟩,fun j _ _=>by rw[q3]⟩
   ·rw[q1];exact gp fun e=>h e.symm
   ·rw[q2];exact p6 j hj fun p hp x=>h ⟨p,hp,x⟩
  have hfu:∀p,z2.fu=some p→p.1<z2.a.1:=fun p hp=>e6.c p.1 ⟨p,hp,rfl⟩;have ok3:D0 z3:=⟨by rw[q1];exact jH e3.n gr,by rw[q2];exact p2,by rw[q3];exact e3.b⟩
  have f3:Fu z3 (cs++d1):=by
   have h:=e6;unfold Fu at h ⊢;rw[q4]
   cases hq:z2.fu with
   |none=>rw[hq]at h;exact h
   |some p=>
    rw[hq]at h;obtain⟨h1,h2,h3⟩:=h;refine⟨?_,h2,by rw[q2,p3];omega⟩;rw[q2,p6 p.1 h3 fun x hx y=>(hb2.c x.1 ⟨x,hx,rfl⟩).2 p hq y.symm];exact h1
  have hn3:aJ k z3.n.2=some { nd with args:=some q }:=by rw[q1];exact cw hn2
  have hb3:Bk z3.a.2 (fun j=>j<z3.a.1∧nf z3 j) ({ nd with args:=some q }:Nd).args (cs0++[z.n.1]):=by
   refine⟨by rw[q2,p4];exact p5,by rw[p4];simp,by rw[q2,p3,p4];dsimp only;omega,fun p hp x=>?_⟩;rw[q4]at hp;have:=hfu p hp;rw[p4]at x;dsimp only at x;omega
  obtain⟨z',qa,cs1,d2,g1,g2,g3,g4,g5,g6,g7,g8,g9⟩:=Dp k es z3 { nd with args:=some q } (cs0++[z.n.1]) (L++mT e) M (cs++d1) (fun x hx=>hg x (List.mem_cons_of_mem _ hx)) (by rw[q1];dsimp only;omega) ok3 hn3 hb3 (by simp;omega) f3 (by rw[hF,oA];simp) (by
   have:=e7.len;rw[List.length_append,List.length_append,this,hc])
  rw[List.length_append]at g7 g9
  have w23:W (·=k) (own nd.args) no z z3:=⟨Nat.le_trans e4.n w3.n,Nat.le_trans e4.a w3.a,Nat.le_trans e4.b w3.b,fun j hj h=>(w3.tn j (Nat.lt_trans hj e2) h).trans (e4.tn j hj fun x=>x),fun j hj h hn=>by
   have u:=e4.ta j hj (fun x=>x) hn;have v:=w3.ta j (Nat.lt_of_lt_of_le hj e4.a) h u.2;exact⟨v.1.trans u.1,v.2⟩,fun j hj _=>(w3.tb j (Nat.lt_of_lt_of_le hj e4.b) fun x=>x).trans (e4.tb j hj fun x=>x)⟩
  have ne:∀j,j<z2.a.1→¬own (some q) j:=by
   rintro j hj ⟨p,hp,x⟩;cases hp;rw[p4]at x;dsimp only at x;omega
  have a23:z3.a.1=z2.a.1+1:=by rw[q2,p3]
  have n23:z3.n.1=z2.n.1:=by rw[q1]
  have b23:z3.b.1=z2.b.1:=by rw[q3]
  have mv:∀{j:Nat},sA z z2 j→aJ j z'.a.2=aJ j z2.a.2∧Of qa z z' j:=by
   rintro j ⟨h1,h2,h3⟩;have hno:¬own nd.args j:=fun x=>by have:=(hb.c j x).1;omega
   have u:=w3.ta j h2 hno h3;have v:=g3.ta j (by omega) (ne j h2) u.2;refine⟨v.1.trans u.1,⟨h1,by have:=g3.a;omega,v.2⟩,fun x=>?_⟩;rcases g6 j x with x|x
   ·exact ne j h2 x
   ·omega
  have mn:∀{j:Nat},sN z z2 j→aJ j z'.n.2=aJ j z2.n.2∧sN z z' j:=by
   rintro j ⟨h1,h2⟩;have hne:¬j=k:=by omega
   exact⟨(g3.tn j (by omega) hne).trans (w3.tn j h2 hne),h1,by have:=g3.n;omega⟩
  have mb:∀{j:Nat},sB z z2 j→aJ j z'.b.2=aJ j z2.b.2∧sB z z' j:=by
   rintro j ⟨h1,h2⟩;exact⟨(g3.tb j (by omega) fun x=>x).trans (w3.tb j h2 fun x=>x),h1,by have:=g3.b;omega⟩
  have lift:∀j,sN z3 z' j→sN z z' j:=fun j h=>⟨by have:=h.1;omega,h.2⟩
  have lifA:∀j,Of qa z3 z' j→Of qa z z' j:=fun j h=>⟨⟨by have:=h.1.1;have:=e4.a;omega,h.1.2⟩,h.2⟩
  have lifB:∀j,sB z3 z' j→sB z z' j:=fun j h=>⟨by have:=h.1;have:=e4.b;omega,h.2⟩
  have id3:∀{α:Type} {M:List (Nat×α)} (C:Nat→Prop) (j:Nat),C j→aJ j M=aJ j M:=fun _ _ _=>rfl;refine⟨z',qa,z.n.1::cs1,d1++d2,hz3.trans g1,g2,w23.trans g3 (fun _ _ x=>x) (fun j hj x=>(ne j (Nat.lt_of_lt_of_le hj e4.a) x).elim) (fun _ _ x=>x),g4,by rw[List.append_cons];exact g5,fun j x=>?_,?_,by rw[←List.append_assoc];exact g8,?_⟩
  ·rcases g6 j x with⟨p,hp,y⟩|x
   ·cases hp;rw[p4]at y;dsimp only at y;have:=e4.a;exact .inr (by omega)
   ·have:=e4.a;exact .inr (by omega)
  ·rw[jf]
   exact⟨e5.mono (fun j h=>(mn h).1) (fun j h=>(mv h).1) (fun j h=>(mb h).1) (fun j h=>(mn h).2) (fun j h=>(mv h).2) fun j h=>(mb h).2,g7.mono (id3 _) (id3 _) (id3 _) lift lifA lifB⟩
  ·rw[oA]
   exact(e7.mono (fun j h=>(mn h).1) (fun j h=>(mv h).1) (fun j h=>(mb h).1) (fun j h=>(mn h).2) (fun j h=>(mv h).2) fun j h=>(mb h).2).app (g9.mono (id3 _) (id3 _) (id3 _) lift lifA lifB)
end
end MN
end
section
open Go Go.AM Go.Proofs TK
set_option maxRecDepth 100000
namespace MN
section
variable {F:List TR.Ex} {g:TR.Ex→Ns→Option (Ns×Nat)}
theorem C3 (k:Nat):∀(es:List TR.eR) (z:Ns) (nd:Nd) (as0:List Ar) (L M:List TR.Ex) (cs:List Nat),(∀x∈es,Pw F g x.body∧TR.wP x.pat≤1048576)→k<z.n.1→D0 z→aJ k z.n.2=some nd→Bk z.b.2 (fun j=>j<z.b.1) nd.dR as0→as0.length+es.length≤2000000→
 Fu z cs→F=L++o9 es++M→cs.length=L.length→
 ∃z' qa as1 ds,qU g k es z=some z'∧D0 z'∧W (·=k) no (own nd.dR) z z'∧aJ k z'.n.2=some { nd with dR:=qa }∧Bk z'.b.2 (fun j=>j<z'.b.1) qa (as0++as1)∧(∀j,own qa j→own nd.dR j∨z.b.1≤j)∧
  jv F z' (sN z z') (sA z z') (NK qa z z') es L.length as1∧Fu z' (cs++ds)∧ke F z' (sN z z') (sA z z') (NK qa z z') (o9 es) L.length ds
 | [],z,nd,as0,L,M,cs,_,hk,ok,hn,hb,_,hf,_,_=>⟨z,nd.dR,[],[],rfl,ok,W.refl,hn,by rw[List.append_nil];exact hb,fun j h=>.inl h,by rw[jv];trivial,by rw[List.append_nil];exact hf,by rw[o9];trivial⟩
 |.mk pt e::es,z,nd,as0,L,M,cs,hg,hk,ok,hn,hb,hl,hf,hF,hc=>by
  obtain⟨hge,hwp⟩:=hg _ List.mem_cons_self;obtain⟨z2,d1,e1,e2,e3,e4,e5,e6,e7⟩:=hge z L (o9 es++M) cs ok hf (by rw[hF,o9];simp[TR.eR.body]) hc;have hn2:aJ k z2.n.2=some nd:=(e4.tn k hk fun h=>h).trans hn;have hb2:Bk z2.b.2 (fun j=>j<z.b.1) nd.dR as0:=hb.mono (fun j h=>e4.tb j h fun x=>x) fun j h=>h;have hl:as0.length+es.length+1≤2000000:=hl;obtain⟨b3,q,p1,p2,p3,p4,p5,p6⟩:=tO (⟨pt,z.n.1⟩:Ar) e3.b hb2 (by omega)
  have hz3:qU g k (.mk pt e::es) z=qU g k es ⟨(z2.n.1,aV k { nd with dR:=some q } z2.n.2),z2.a,b3,z2.fu⟩:=by
   rw[qU,hn];dsimp only[TR.eR.body,TR.eR.pat]at e1 hwp ⊢;rw[e1];dsimp only;rw[hn2];dsimp only;rw[vg,Nat.ble_eq_true_of_le hwp];rw[Bool.and_self];dsimp only;rw[p1]
  generalize hzz:(⟨(z2.n.1,aV k { nd with dR:=some q } z2.n.2),z2.a,b3,z2.fu⟩:Ns)=z3 at hz3;have q1:z3.n=(z2.n.1,aV k { nd with dR:=some q } z2.n.2):=by rw[←hzz]
  have q2:z3.b=b3:=by rw[←hzz]
  have q3:z3.a=z2.a:=by rw[←hzz]
  have q4:z3.fu=z2.fu:=by rw[←hzz]
  have hnf:∀j,nf z2 j→nf z3 j:=fun j h q hq=>h q (q4 ▸ hq)
  have w3:W (·=k) no (own nd.dR) z2 z3:=by
   refine⟨by rw[q1];exact Nat.le_refl _,by rw[q3];exact Nat.le_refl _,by rw[q2,p3];omega,fun j _ h=>?_,fun j hj h hn=>⟨by rw[q3],hnf j hn⟩,fun j hj h=>?_⟩
   ·rw[q1];exact gp fun e=>h e.symm
   ·rw[q2];exact p6 j hj fun p hp x=>h ⟨p,hp,x⟩
  have ok3:D0 z3:=⟨by rw[q1];exact jH e3.n gr,by rw[q3];exact e3.a,by rw[q2];exact p2⟩
  have f3:Fu z3 (cs++d1):=by
   unfold Fu at e6 ⊢;rw[q4,q3];exact e6
  have hn3:aJ k z3.n.2=some { nd with dR:=some q }:=by rw[q1];exact cw hn2
  have hb3:Bk z3.b.2 (fun j=>j<z3.b.1) ({ nd with dR:=some q }:Nd).dR (as0++[⟨pt,z.n.1⟩]):=⟨by rw[q2,p4];exact p5,by rw[p4];simp,by rw[q2,p3,p4];dsimp only;omega⟩
  obtain⟨z',qa,as1,d2,g1,g2,g3,g4,g5,g6,g7,g8,g9⟩:=C3 k es z3 { nd with dR:=some q } (as0++[⟨pt,z.n.1⟩]) (L++mT e) M (cs++d1) (fun x hx=>hg x (List.mem_cons_of_mem _ hx)) (by rw[q1];dsimp only;omega) ok3 hn3 hb3 (by simp;omega) f3 (by rw[hF,o9];simp) (by
   have:=e7.len;rw[List.length_append,List.length_append,this,hc];rfl)
  rw[List.length_append]at g7 g9
  have w23:W (·=k) no (own nd.dR) z z3:=⟨Nat.le_trans e4.n w3.n,Nat.le_trans e4.a w3.a,Nat.le_trans e4.b w3.b,fun j hj h=>(w3.tn j (Nat.lt_trans hj e2) h).trans (e4.tn j hj fun x=>x),fun j hj h hn=>by
   have u:=e4.ta j hj (fun x=>x) hn;have v:=w3.ta j (Nat.lt_of_lt_of_le hj e4.a) (fun x=>x) u.2;exact⟨v.1.trans u.1,v.2⟩,fun j hj h=>(w3.tb j (Nat.lt_of_lt_of_le hj e4.b) h).trans (e4.tb j hj fun x=>x)⟩
  have ne:∀j,j<z2.b.1→¬own (some q) j:=by
   rintro j hj ⟨p,hp,x⟩;cases hp;rw[p4]at x;dsimp only at x;omega
  have b23:z3.b.1=z2.b.1+1:=by rw[q2,p3]
  have n23:z3.n.1=z2.n.1:=by rw[q1]
  have a23:z3.a.1=z2.a.1:=by rw[q3]
  have mv:∀{j:Nat},sA z z2 j→aJ j z'.a.2=aJ j z2.a.2∧sA z z' j:=by
   rintro j ⟨h1,h2,h3⟩;have u:=w3.ta j h2 (fun x=>x) h3;have v:=g3.ta j (by omega) (fun x=>x) u.2;exact⟨v.1.trans u.1,h1,by have:=g3.a;omega,v.2⟩
  have mn:∀{j:Nat},sN z z2 j→aJ j z'.n.2=aJ j z2.n.2∧sN z z' j:=by
   rintro j ⟨h1,h2⟩;have hne:¬j=k:=by omega
   exact⟨(g3.tn j (by omega) hne).trans (w3.tn j h2 hne),h1,by have:=g3.n;omega⟩
  have mb:∀{j:Nat},sB z z2 j→aJ j z'.b.2=aJ j z2.b.2∧NK qa z z' j:=by
   rintro j ⟨h1,h2⟩;have hno:¬own nd.dR j:=fun x=>by have:=hb.c j x;omega
   refine⟨(g3.tb j (by omega) (ne j h2)).trans (w3.tb j h2 hno),⟨h1,by have:=g3.b;omega⟩,fun x=>?_⟩;rcases g6 j x with x|x
   ·exact ne j h2 x
   ·omega
  have lift:∀j,sN z3 z' j→sN z z' j:=fun j h=>⟨by have:=h.1;omega,h.2⟩
  have lifA:∀j,sA z3 z' j→sA z z' j:=fun j h=>⟨by have:=h.1;have:=e4.a;omega,h.2⟩
  have lifB:∀j,NK qa z3 z' j→NK qa z z' j:=fun j h=>⟨⟨by have:=h.1.1;have:=e4.b;omega,h.1.2⟩,h.2⟩
  have id3:∀{α:Type} {M:List (Nat×α)} (C:Nat→Prop) (j:Nat),C j→aJ j M=aJ j M:=fun _ _ _=>rfl;refine⟨z',qa,⟨pt,z.n.1⟩::as1,d1++d2,hz3.trans g1,g2,w23.trans g3 (fun _ _ x=>x) (fun _ _ x=>x) (fun j hj x=>(ne j (Nat.lt_of_lt_of_le hj e4.b) x).elim),g4,by rw[List.append_cons];exact g5,fun j x=>?_,?_,by rw[←List.append_assoc];exact g8,?_⟩
  ·rcases g6 j x with⟨p,hp,y⟩|x
   ·cases hp;rw[p4]at y;dsimp only at y;have:=e4.b;exact .inr (by omega)
   ·have:=e4.b;exact .inr (by omega)
  ·rw[jv]
   exact⟨rfl,e5.mono (fun j h=>(mn h).1) (fun j h=>(mv h).1) (fun j h=>(mb h).1) (fun j h=>(mn h).2) (fun j h=>(mv h).2) fun j h=>(mb h).2,g7.mono (id3 _) (id3 _) (id3 _) lift lifA lifB⟩
  ·rw[o9]
   exact(e7.mono (fun j h=>(mn h).1) (fun j h=>(mv h).1) (fun j h=>(mb h).1) (fun j h=>(mn h).2) (fun j h=>(mv h).2) fun j h=>(mb h).2).app (g9.mono (id3 _) (id3 _) (id3 _) lift lifA lifB)
end
theorem xu (F:List TR.Ex) (hFl:F.length≤2000000):∀(n:Nat) (e:TR.Ex),TR.wE e≤n→TR.wE e≤1048576→Pw F (iG n) e
 |0,e,h,_=>by have:=TR.EJ e;omega
 |n+1,.mk k0 n0 t0 ns0 ts0 as0 ms0 p0,h,hw=>by
  intro z L M cs ok hf hF hc;have hlen:=TR.tP k0 n0 t0 ns0 ts0 as0 ms0 p0;generalize hE:(TR.Ex.mk k0 n0 t0 ns0 ts0 as0 ms0 p0)=E at *;have ea:E.args=as0:=by rw[←hE];rfl
  have em:E.dR=ms0:=by rw[←hE];rfl
  have en:E.names=ns0:=by rw[←hE];rfl
  have hfE:mT E=one E++(oA as0++o9 ms0):=by rw[←hE];rfl
  rw[iG,ea,em,en,Nat.ble_eq_true_of_le (show as0.length≤2000000 by omega),Nat.ble_eq_true_of_le (show ms0.length≤2000000 by omega),Nat.ble_eq_true_of_le (show ns0.length≤2000000 by omega),Bool.and_self,Bool.and_self];dsimp only
  -- the node itself
  obtain⟨z1,nd1,d0,f1,f2,f3,f4,f5,f6,f7,f8,f9⟩:∃z1 nd1 d0,Kz E z.n.1 ⟨(z.n.1+1,(z.n.1,tw E)::z.n.2),z.a,z.b,z.fu⟩=some z1∧D0 z1∧z1.n.1=z.n.1+1∧W no no no z z1∧aJ z.n.1 z1.n.2=some nd1∧Nx F nd1 E L.length∧(nd1.args=none∧nd1.dR=none)∧Fu z1 (cs++d0)∧d0=(match oI E with|true=>[z.n.1]|false=>[]):=by
   have okz:D0 ⟨(z.n.1+1,(z.n.1,tw E)::z.n.2),z.a,z.b,z.fu⟩:=⟨ok.n.push _,ok.a,ok.b⟩
   unfold Kz;rw[show((E.kind==10)&&!(Nat.beq E.args.length 0))=oI E from rfl]
   cases hi:oI E with
   |false=>exact⟨_,tw E,[],rfl,okz,rfl,⟨Nat.le_succ _,Nat.le_refl _,Nat.le_refl _,fun j hj _=>jW (Nat.ne_of_gt hj),fun j _ _ h=>⟨rfl,h⟩,fun _ _ _=>rfl⟩,aP ..,⟨rfl,rfl,rfl,rfl,rfl,fun e=>(by rw[hi]at e;cases e),fun _=>⟨rfl,rfl⟩⟩,⟨rfl,rfl⟩,by rw[List.append_nil];exact hf,rfl⟩
   |true=>
    have hcl:cs.length≤2000000:=by
     have:=congrArg List.length hF;rw[List.length_append,List.length_append]at this;omega
    obtain⟨a2,q,p1,p2,p3,p4,p5,p6⟩:=tO z.n.1 ok.a hf hcl;rw[Nat.ble_eq_true_of_le (show TR.wE E≤1048640 by omega)];dsimp only;rw[p1];have hfu:∀p,z.fu=some p→p.1<z.a.1:=fun p hp=>hf.c p.1 ⟨p,hp,rfl⟩;refine⟨_,{ tw E with fn:=(gx z.fu:Int),free:=TR.mJ E },[z.n.1],rfl,⟨jH okz.n gr,p2,ok.b⟩,rfl,⟨Nat.le_succ _,by rw[p3];exact Nat.le_succ _,Nat.le_refl _,fun j hj _=>?_,fun j hj _ hn=>⟨p6 j hj hn,?_⟩,fun _ _ _=>rfl⟩,cw (aP ..),⟨rfl,rfl,rfl,rfl,rfl,fun _=>⟨rfl,?_,?_⟩,fun e=>(by rw[hi]at e;cases e)⟩,⟨rfl,rfl⟩,⟨by rw[p4];exact p5,by rw[p4];simp,by rw[p3,p4];exact Nat.lt_succ_self _⟩,rfl⟩
    ·exact(gp (Nat.ne_of_gt hj)).trans (jW (Nat.ne_of_gt hj))
    ·rintro p hp x
     cases hp;rw[p4]at x;dsimp only at x;omega
    ·dsimp only;rw[hf.len,hc]
    ·rw[hF,hfE];unfold one;rw[hi];simp
  rw[f1];dsimp only;have hd0:d0.length=(one E).length:=by rw[f9];unfold one;cases oI E<;>rfl
  obtain⟨z2,qa,cs1,d1,a1,a2,a3,a4,a5,a6,a7,a8,a9⟩:=Dp (F:=F) (g:=iG n) z.n.1 as0 z1 nd1 [] (L++one E) (o9 ms0++M) (cs++d0) (fun x hx=>xu F hFl n x (by have:=TR.lT (k:=k0) (n:=n0) (t:=t0) (ns:=ns0) (ts:=ts0) (ms:=ms0) (p:=p0) hx;rw[hE]at this;omega) (by have:=TR.lT (k:=k0) (n:=n0) (t:=t0) (ns:=ns0) (ts:=ts0) (ms:=ms0) (p:=p0) hx;rw[hE]at this;omega)) (by omega) f2 f5 (by rw[f7.1];rfl) (by simp;omega) f8 (by rw[hF,hfE];simp) (by rw[List.length_append,List.length_append,hc,hd0]);rw[a1];dsimp only
  obtain⟨z3,qb,as1,d2,b1,b2,b3,b4,b5,b6,b7,b8,b9⟩:=C3 (F:=F) (g:=iG n) z.n.1 ms0 z2 { nd1 with args:=qa } [] (L++one E++oA as0) M (cs++d0++d1) (fun x hx=>by
   have:=TR.nI (k:=k0) (n:=n0) (t:=t0) (ns:=ns0) (ts:=ts0) (xs:=as0) (p:=p0) hx;rw[hE]at this;exact⟨xu F hFl n x.body (by omega) (by omega),by omega⟩) (by have:=a3.n;omega) a2 a4 (by dsimp only;rw[f7.2];rfl) (by simp;omega) a8 (by rw[hF,hfE];simp) (by rw[List.length_append,List.length_append,hc,hd0,a9.len,List.length_append,List.length_append])
  rw[b1];rw[List.length_append]at a7 a9;rw[List.length_append,List.length_append]at b7 b9;have noA:∀j,¬own nd1.args j:=fun j ⟨p,hp,_⟩=>by rw[f7.1]at hp;cases hp
  have noB:∀j,¬own ({ nd1 with args:=qa }:Nd).dR j:=fun j ⟨p,hp,_⟩=>by dsimp only at hp;rw[f7.2]at hp;cases hp
  have z12:=a3.n;have z23:=b3.n
  have w13:∀j,sA z1 z2 j→aJ j z3.a.2=aJ j z2.a.2∧sA z z3 j:=fun j h=>by
   have u:=b3.ta j h.2.1 (fun x=>x) h.2.2;exact⟨u.1,by have:=f4.a;have:=h.1;omega,by have:=b3.a;have:=h.2.1;omega,u.2⟩
  have m13:∀j,sN z1 z2 j→aJ j z3.n.2=aJ j z2.n.2∧sN z z3 j:=fun j h=>⟨b3.tn j h.2 (by have:=h.1;omega),by have:=h.1;omega,by have:=h.2;omega⟩
  have b13:∀j,sB z1 z2 j→aJ j z3.b.2=aJ j z2.b.2∧sB z z3 j:=fun j h=>⟨b3.tb j h.2 (noB j),by have:=f4.b;have:=h.1;omega,by have:=b3.b;have:=h.2;omega⟩
  have id3:∀{α:Type} {M:List (Nat×α)} (C:Nat→Prop) (j:Nat),C j→aJ j M=aJ j M:=fun _ _ _=>rfl;have liN:∀j,sN z2 z3 j→sN z z3 j:=fun j h=>⟨by have:=h.1;omega,h.2⟩
  have liA:∀j,sA z2 z3 j→sA z z3 j:=fun j h=>⟨by have:=h.1;have:=f4.a;have:=a3.a;omega,h.2⟩
  have liB:∀j,NK qb z2 z3 j→sB z z3 j:=fun j h=>⟨by have:=h.1.1;have:=f4.b;have:=a3.b;omega,h.1.2⟩
  have hRep:Ae F z3 (sN z z3) (sA z z3) (sB z z3) E L.length z.n.1:=by
   rw[←hE,Ae,hE];refine⟨{ nd1 with args:=qa,dR:=qb },cs1,as1,⟨Nat.le_refl _,by omega⟩,b4,?_,?_,?_,?_,?_⟩
   ·exact⟨f6.kind,f6.num,f6.text,f6.names,f6.needs,f6.fn,f6.nf⟩
   ·have:=a5
    rw[List.nil_append]at this;dsimp only
    cases hq:qa with
    |none=>rw[hq]at this;exact this
    |some q=>
     rw[hq]at this;obtain⟨u1,u2,u3⟩:=this
     have hs:sA z1 z2 q.1:=by
      refine⟨?_,u3⟩;rcases a6 q.1 ⟨q,hq,rfl⟩ with x|x
      ·exact(noA _ x).elim
      ·exact x
     exact⟨(w13 _ hs).1.trans u1,u2,(w13 _ hs).2⟩
   ·have:=b5
    rw[List.nil_append]at this;dsimp only
    cases hq:qb with
    |none=>rw[hq]at this;exact this
    |some q=>
     rw[hq]at this;obtain⟨u1,u2,u3⟩:=this;refine⟨u1,u2,?_,u3⟩;rcases b6 q.1 ⟨q,hq,rfl⟩ with x|x
     ·exact(noB _ x).elim
     ·have:=f4.b;have:=a3.b;omega
   ·exact a7.mono (fun j h=>(m13 j h).1) (fun j h=>(w13 j h.1).1) (fun j h=>(b13 j h).1) (fun j h=>(m13 j h).2) (fun j h=>(w13 j h.1).2) fun j h=>(b13 j h).2
   ·exact b7.mono (id3 _) (id3 _) (id3 _) liN liA liB
  refine⟨z3,d0++d1++d2,rfl,by omega,b2,?_,hRep,by rw[show cs++(d0++d1++d2)=cs++d0++d1++d2 by simp];exact b8,?_⟩
  ·refine⟨by omega,Nat.le_trans f4.a (Nat.le_trans a3.a b3.a),Nat.le_trans f4.b (Nat.le_trans a3.b b3.b),fun j hj _=>?_,fun j hj _ hn=>?_,fun j hj _=>?_⟩
   ·exact(b3.tn j (by omega) (by omega)).trans ((a3.tn j (by omega) (by omega)).trans (f4.tn j hj fun x=>x))
   ·have u:=f4.ta j hj (fun x=>x) hn
    have v:=a3.ta j (Nat.lt_of_lt_of_le hj f4.a) (noA j) u.2;have w:=b3.ta j (Nat.lt_of_lt_of_le hj (Nat.le_trans f4.a a3.a)) (fun x=>x) v.2;exact⟨w.1.trans (v.1.trans u.1),w.2⟩
   ·exact(b3.tb j (Nat.lt_of_lt_of_le hj (Nat.le_trans f4.b a3.b)) (noB j)).trans ((a3.tb j (Nat.lt_of_lt_of_le hj f4.b) fun x=>x).trans (f4.tb j hj fun x=>x))
  ·rw[hfE,List.append_assoc]
   refine ke.app ?_ (ke.app (a9.mono (fun j h=>(m13 j h).1) (fun j h=>(w13 j h.1).1) (fun j h=>(b13 j h).1) (fun j h=>(m13 j h).2) (fun j h=>(w13 j h.1).2) fun j h=>(b13 j h).2) (b9.mono (id3 _) (id3 _) (id3 _) liN liA liB));rw[f9];unfold one
   cases oI E with
   |false=>trivial
   |true=>exact⟨hRep,trivial⟩
end MN
end
