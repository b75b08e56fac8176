/- Contracts, and the law, for every input. No conditions. -/
import Derived.Test.YtdmopjgjhfhfdaaGreatDoorRLA
set_option linter.all false
set_option maxRecDepth 100000
open Go Go.AM Go.Proofs TK
namespace MN
structure SB (fo:FO) (ρ:Nat->Nat->Prop) (S T:Ss):Prop where
 cr:CR fo ρ S.c T.c
 s1:gp S.s
 s2:gp T.s
 v1:gp S.v
 v2:gp T.v
 f1:gp S.f
 f2:gp T.f
section
variable {K1 K2:Ks} {fo:FO} {NR:Nat->Nat->Prop} {ρ ρ':Nat->Nat->Prop} {S T S' T':Ss} {m1 m2 B:Nat} {r q:Rn} {f g:Fr}
theorem SB.c (h:SB fo ρ S T) {x y:aZ Cl} (hc:CR fo ρ' x y):SB fo ρ' { S with c:=x } { T with c:=y }:=⟨hc,h.s1,h.s2,h.v1,h.v2,h.f1,h.f2⟩
theorem FI.sb (h:FI K1 K2 fo NR ρ S T m1 m2 B r q):SB fo ρ S T:=⟨h.inv.cr,h.inv.s1,h.inv.s2,h.inv.v1,h.inv.v2,h.inv.f1,h.inv.f2⟩
def RO (K1 K2:Ks) (fo:FO) (NR:Nat->Nat->Prop) (ρ:Nat->Nat->Prop) (m1 m2:Nat) (x y:Option (Ss×Except Int Rn)):Prop:=
 ∃S T ρ',(∀a b,ρ a b->ρ' a b)/\((∃e,x=some (S,.error e)/\y=some (T,.error e)/\SB fo ρ' S T)\/∃r q,x=some (S,.ok r)/\y=some (T,.ok q)/\FI K1 K2 fo NR ρ' S T m1 m2 0 r q/\r.mode=0/\r.out=none/\q.out=none)
theorem uP (kr:KR K1 K2 fo NR m1 m2) (h:SB fo ρ S T) (name:ByteArray) (st:List Ov) (self:Int) (hst:∀v∈st,xK v) (hl:st.length<=2000000) (hcn:∀p es a c,aK m1 K1.mm.2=some p->aK p.actors K1.ma.2=some es->aV name es=some a->fo.cn=some c->(a.names,some a.body,self)=c):RO K1 K2 fo NR ρ m1 m2 (fY K1 S m1 name st self) (fY K2 T m2 name st self):=by
 obtain⟨p,p',j1,j2,_,_,⟨es,fs,j3,j4,j5⟩,_⟩:=kr.mkr;have j5:=j5 name;unfold fY;rw[j1,j2];dsimp only;rw[j3,j4];dsimp only;have le:∀a b,ρ a b->ρ a b:=fun _ _ x=>x
 cases e1:aV name es with
 |none=>
  cases e2:aV name fs with
  |none=>exact⟨S,T,ρ,le,.inl ⟨_,rfl,rfl,h⟩⟩
  |some _=>rw[e1,e2]at j5;cases j5
 |some a=>
  cases e2:aV name fs with
  |none=>rw[e1,e2]at j5;cases j5
  |some b=>
   rw[e1,e2]at j5;obtain⟨k1,k2,k3⟩:=j5;dsimp only;rw[k1]
   cases hn:Nat.beq st.length a.names.length with
   |false=>exact⟨S,T,ρ,le,.inl ⟨_,rfl,rfl,h⟩⟩
   |true=>
    dsimp only;rw[Nat.ble_eq_true_of_le hl];dsimp only;obtain⟨x,y,z,w,ρ2,f1,f2,f3,f4,f5⟩:=BQ (f:=fh K1 m1 (mg st)) (g:=fh K2 m2 (mg st)) (l:=st) (fun v hv ρ z w hc=>Fh kr _ v ρ z w (vG hv) (hst v hv) hc) h.cr;rw[f1,f2];rcases x with _|l<;>rcases y with _|k
    all_goals first|(cases f5;done)|skip
    ·exact⟨_,_,ρ2,f3,.inl ⟨_,rfl,rfl,h.c f4⟩⟩
    ·obtain⟨f5,f6⟩:=f5
     obtain⟨b1,g1,g2,_⟩:=HT f4 f5;dsimp only;rw[<-f5.len,f6,Nat.ble_eq_true_of_le hl];dsimp only;rw[g1,g2]
     cases b1 with
     |true=>exact⟨_,_,ρ2,f3,.inl ⟨_,rfl,rfl,h.c f4⟩⟩
     |false=>
      obtain⟨P,Q,w1,w2,w3,w4,w5⟩:=xV a.names h.s1 h.s2 (by rw[f6];exact(Nat.eq_of_beq_eq_true hn).symm) f5 .nil;dsimp only;rw[w1,w2];refine⟨_,_,ρ2,f3,.inr ⟨_,_,rfl,rfl,⟨?_,rfl,rfl,fun _=>.inr ⟨⟨⟨_,_,rfl,rfl,k3⟩,w5,rfl,rfl,⟨[],[],rfl,rfl,trivial⟩,rfl,rfl⟩,rfl,rfl,fun _ _ _=>⟨rfl,rfl,by show a.names.length=l.length;rw[f6];exact(Nat.eq_of_beq_eq_true hn).symm,S.s,P,h.s1,w1,.refl w3.1,rfl⟩⟩,fun e=>(by cases e)⟩,rfl,rfl,rfl⟩⟩;exact⟨f4,w3.1,w4.1,h.v1,h.v2,h.f1,h.f2,rfl,rfl,rfl,k2,⟨_,_,rfl,rfl,k3⟩,⟨rfl,fun c hc=>hcn _ _ _ _ j1 j3 e1 hc⟩,⟨f5,by show l.length<=_;omega⟩,[],[],rfl,rfl,trivial,List.nodup_nil,List.nodup_nil,Nat.zero_le _⟩
theorem Pa.mono (h:Pa K1 K2 fo NR ρ S T r q) (hρ:∀a b,ρ a b->ρ' a b) (e1:SE S.s S'.s) (e2:SE T.s T'.s) (v1:S'.v=S.v) (v2:T'.v=T.v):Pa K1 K2 fo NR ρ' S' T' r q:=
 ⟨h.1.mono hρ e1 e2 (fun _ _ _ x=>v1 ▸ x) (fun _ _ _ x=>v2 ▸ x),h.2.1,h.2.2.1,h.2.2.2.1,h.2.2.2.2.1.mono e1,h.2.2.2.2.2⟩
def RZ (K1 K2:Ks) (fo:FO) (NR:Nat->Nat->Prop) (ρ:Nat->Nat->Prop) (m1 m2 B:Nat) (n:Int) (x y:Option (Bool×Ss×Rn)):Prop:=
 ∃b S T r q ρ',x=some (b,S,r)/\y=some (b,T,q)/\(∀a b,ρ a b->ρ' a b)/\FI K1 K2 fo NR ρ' S T m1 m2 B r q/\r.out=none/\q.out=none/\(b=true->r.mode=0)/\(b=false->r.mode=1/\r.last.num=n)
theorem LH (kr:KR K1 K2 fo NR m1 m2) (h:FI K1 K2 fo NR ρ S T m1 m2 B r q) (hm:r.mode=1) (h1:r.out=none) (h2:q.out=none) (v:Ov) (hv:xK v):RZ K1 K2 fo NR ρ m1 m2 B r.last.num (lW K1 S r v) (lW K2 T q v):=by
 unfold lW;rw[show q.mode=r.mode from h.mode,hm,show((1:Int)==1)=true from rfl,h.inv.mk1,h.inv.mk2];dsimp only;obtain⟨x,y,z,w,ρ2,f1,f2,f3,f4,f5⟩:=Fh kr (sY v) v ρ S.c T.c (Nat.le_refl _) hv h.inv.cr;rw[f1,f2];have hi:=h.inv.cg f3 f4 S.g T.g;have hp:Pa K1 K2 fo NR ρ2 { S with c:=z } { T with c:=w } r q:=(h.pa hm).mono f3 (.refl h.inv.s1) (.refl h.inv.s2) rfl rfl;rcases x with _|x<;>rcases y with _|y
 all_goals first|(cases f5;done)|skip
 ·exact⟨false,_,_,r,q,ρ2,rfl,rfl,f3,⟨hi,h.mode,h.last,fun e=>(by rw[hm]at e;cases e),fun _=>hp⟩,h1,h2,fun e=>(by cases e),fun _=>⟨hm,rfl⟩⟩
 ·obtain⟨b,sS,sT,rr,qq,k1,k2,k3,k4,k5,k6⟩:=Hz kr (v:=x) (w:=y) f5 hi hp.1 hp.1.sc
  dsimp only;rw[k1,k2];rcases k6 with⟨rfl,rfl,rfl⟩|⟨rfl,c,d,s,t,rfl,rfl,e1,e2⟩
  ·exact⟨false,_,_,_,_,ρ2,rfl,rfl,f3,⟨k3,h.mode,h.last,fun e=>(by rw[hm]at e;cases e),fun _=>hp.mono (fun _ _ x=>x) k4 k5 rfl rfl⟩,h1,h2,fun e=>(by cases e),fun _=>⟨hm,rfl⟩⟩
  ·exact⟨true,_,_,_,_,ρ2,rfl,rfl,f3,⟨k3.re rfl rfl,rfl,h.last,fun _=>.inr ⟨⟨⟨c,d,rfl,rfl,e1.1⟩,e2,rfl,rfl,⟨[],[],rfl,rfl,trivial⟩,hp.1.dep,hp.1.inF⟩,rfl,rfl,.no rfl e1.2⟩,fun e=>(by cases e)⟩,h1,h2,fun _=>rfl,fun e=>(by cases e)⟩
theorem Mu (h:FI K1 K2 fo NR ρ S T m1 m2 B r q) (hm:r.mode=1) (h1:r.out=none) (h2:q.out=none) (hn:0<=r.last.num):∃r' q',tH K1 r=some r'/\tH K2 q=some q'/\FI K1 K2 fo NR ρ S T m1 m2 B r' q'/\r'.out=none/\q'.out=none/\r'.mode=0:=by
 obtain⟨p1,p2,p3,p4,_⟩:=h.pa hm;obtain⟨n,m,a,b,e1,e2,e3,e4,e5,e6⟩:=p4 hn;unfold tH;rw[show q.mode=r.mode from h.mode,hm,show((1:Int)==1)=true from rfl,show q.last=r.last from h.last,decide_eq_false (show ¬r.last.num<0 by omega),e1,e2];dsimp only;rw[e3,e4];exact⟨_,_,rfl,rfl,⟨h.inv.re rfl rfl,rfl,rfl,fun _=>.inr ⟨⟨⟨a,b,rfl,rfl,e5⟩,p1.sc,rfl,rfl,⟨[],[],rfl,rfl,trivial⟩,p1.dep,p1.inF⟩,rfl,rfl,.no rfl e6⟩,fun e=>(by cases e)⟩,h1,h2,rfl⟩
theorem tZ (h:FI K1 K2 fo NR ρ S T m1 m2 B r q) (hm:r.mode=2) (h1:r.out=none) (h2:q.out=none) (n:Int):∃r' q',pP K1 S r (.mk 6 n ⟨#[]⟩ [])=some (S,r')/\pP K2 T q (.mk 6 n ⟨#[]⟩ [])=some (T,q')/\FI K1 K2 fo NR ρ S T m1 m2 B r' q'/\r'.out=none/\q'.out=none/\r'.mode=0:=by
 have key:∀(K:Ks) (m:Nat) (z:aZ Cl),fh K m (sY (.mk 6 n ⟨#[]⟩ [])) (.mk 6 n ⟨#[]⟩ []) z=some (some (.mk 6 n ⟨#[]⟩ [] none),z):=fun K m z=>rfl;unfold pP;rw[show q.mode=r.mode from h.mode,hm,show((2:Int)==2)=true from rfl,key,key];exact⟨_,_,rfl,rfl,⟨h.inv.re rfl rfl,rfl,h.last,fun _=>.inl ⟨rfl,rfl,VR.mk' rfl (fun e=>by cases e) (by simp) (by decide) (by simp[Cj]) (by simp[qX])⟩,fun e=>(by cases e)⟩,h1,h2,rfl⟩
def R7 (K1 K2:Ks) (fo:FO) (NR:Nat->Nat->Prop) (ρ:Nat->Nat->Prop) (m1 m2 B:Nat) (L:List gV) (x y:Option (Bool×Ss×Rn×List gV)):Prop:=
 ∃b S T r q l ρ',x=some (b,S,r,l)/\y=some (b,T,q,l)/\(∀a b,ρ a b->ρ' a b)/\FI K1 K2 fo NR ρ' S T m1 m2 B r q/\r.out=none/\q.out=none/\(b=true->r.mode=0)/\(b=false->r.mode=1)/\∀s∈l,s∈L
theorem jF (kr:KR K1 K2 fo NR m1 m2) (n:Int):∀(l:List gV) {ρ:Nat->Nat->Prop} {S T:Ss} {r q:Rn},FI K1 K2 fo NR ρ S T m1 m2 B r q->r.mode=1->r.out=none->q.out=none->r.last.num=n->(∀s∈l,xK s.val)->R7 K1 K2 fo NR ρ m1 m2 B l (cq K1 n S r l) (cq K2 n T q l)
 | [],ρ,S,T,r,q,h,hm,h1,h2,_,_=>⟨false,S,T,r,q,[],ρ,rfl,rfl,fun _ _ x=>x,h,h1,h2,fun e=>(by cases e),fun _=>hm,fun _ hs=>hs⟩
 |s::l,ρ,S,T,r,q,h,hm,h1,h2,hn,hl=>by
  rw[cq,cq]
  cases s.kind==1 with
  |true=>
   dsimp only
   cases hd:decide (n>=0) with
   |true=>
    obtain⟨r',q',e1,e2,e3,e4,e5,e6⟩:=Mu h hm h1 h2 (by rw[hn];exact of_decide_eq_true hd);dsimp only;rw[e1,e2];exact⟨true,S,T,r',q',l,ρ,rfl,rfl,fun _ _ x=>x,e3,e4,e5,fun _=>e6,fun e=>(by cases e),fun s hs=>List.mem_cons_of_mem _ hs⟩
   |false=>
    obtain⟨b,S',T',r',q',l',ρ',e1,e2,e3,e4,e5,e6,e7,e8,e9⟩:=jF kr n l h hm h1 h2 hn fun s hs=>hl s (List.mem_cons_of_mem _ hs);exact⟨b,S',T',r',q',l',ρ',e1,e2,e3,e4,e5,e6,e7,e8,fun s hs=>List.mem_cons_of_mem _ (e9 s hs)⟩
  |false=>
   dsimp only;obtain⟨b,S',T',r',q',ρ',e1,e2,e3,e4,e5,e6,e7,e8⟩:=LH kr h hm h1 h2 s.val (hl s List.mem_cons_self);rw[e1,e2]
   cases b with
   |true=>exact⟨true,S',T',r',q',l,ρ',rfl,rfl,e3,e4,e5,e6,e7,fun e=>(by cases e),fun s hs=>List.mem_cons_of_mem _ hs⟩
   |false=>
    obtain⟨b,S',T',r',q',l',ρ2,d1,d2,d3,d4,d5,d6,d7,d8,d9⟩:=jF kr n l e4 (e8 rfl).1 e5 e6 ((e8 rfl).2.trans hn) fun s hs=>hl s (List.mem_cons_of_mem _ hs);exact⟨b,S',T',r',q',l',ρ2,d1,d2,fun _ _ x=>d3 _ _ (e3 _ _ x),d4,d5,d6,d7,d8,fun s hs=>List.mem_cons_of_mem _ (d9 s hs)⟩
theorem D5 (fuels:List Int) (j:Nat):1<=dQ fuels j/\dQ fuels j<=400:=by
 unfold dQ;split
 ·exact⟨by omega,by omega⟩
 ·have h1:=Int.emod_nonneg ((((‹Int›::‹List Int›)[j % (‹List Int›.length+1)]?).getD 0)) (show(400:Int)≠0 by omega)
  have h2:=Int.emod_lt_of_pos ((((‹Int›::‹List Int›)[j % (‹List Int›.length+1)]?).getD 0)) (show(0:Int)<400 by omega);rw[wrap64 (by omega) (by omega)];omega
def rP (N:Nat) (l:List Ou):Prop:=(∀o∈l,tY o)/\l.length+N<=2000000
theorem rP.le {N M:Nat} (h:M<=N) {l:List Ou} (g:rP N l):rP M l:=⟨g.1,by have:=g.2;omega⟩
def RM (fo:FO) (x y:Option (Option (List Ou)×Ss×Rn)):Prop:=∃R S r T q ρ,x=some (R,S,r)/\y=some (R,T,q)/\SB fo ρ S T/\∀l,R=some l->rP 0 l
theorem qk {N:Nat} {l:List Ou} {o:Ou} (h:rP (N+1) l) (ho:tY o):rP N (l++[o]):=by
 refine⟨fun x hx=>?_,by have:=h.2;simp;omega⟩;rcases List.mem_append.1 hx with hx|hx
 ·exact h.1 x hx
 ·simp at hx;subst hx;exact ho
theorem HG (kr:KR K1 K2 fo NR m1 m2) (fuels:List Int):∀(N j:Nat) {ρ:Nat->Nat->Prop} {S T:Ss} {r q:Rn} {B:Nat} (refs used:Int) (l:List gV) (out:List Ou),FI K1 K2 fo NR ρ S T m1 m2 B r q->r.mode=0->r.out=none->q.out=none->0<=used->used<=60400->60000<used+N/\1<=N->(B:Int)<=used->(∀s∈l,xK s.val)->
 rP N out->RM fo (gP K1 fuels N j S r refs used l out) (gP K2 fuels N j T q refs used l out)
 |0,_,_,_,_,_,_,_,_,_,_,_,_,_,_,_,_,_,h,_,_,_=>absurd h.2 (by omega)
 |N+1,j,ρ,S,T,r,q,B,refs,used,l,out,h,hm,h1,h2,u0,u1,u2,hB,hl,hok=>by
  rw[gP,gP]
  cases hu:decide (used<60000) with
  |false=>exact⟨_,_,_,_,_,ρ,rfl,rfl,h.sb,fun l e=>by cases e⟩
  |true=>
   have hu:=of_decide_eq_true hu;obtain⟨f1,f2⟩:=D5 fuels j;obtain⟨o,S',r',T',q',ρ',e1,e2,e3,e4,e5,e6,e7⟩:=Ch kr (dQ fuels j).toNat h hm h1 h2 (by omega);have hw:IntKind.i64.wrap (used+dQ fuels j)=used+dQ fuels j:=wrap64 (by omega) (by omega);dsimp only;rw[e1,e2,hw];dsimp only
   have go:∀{ρ:Nat->Nat->Prop} {S T:Ss} {r q:Rn} (refs:Int) (l:List gV) (out:List Ou),FI K1 K2 fo NR ρ S T m1 m2 (B+(dQ fuels j).toNat) r q->r.mode=0->r.out=none->q.out=none->(∀s∈l,xK s.val)->rP N out->RM fo (gP K1 fuels N (j+1) S r refs (used+dQ fuels j) l out) (gP K2 fuels N (j+1) T q refs (used+dQ fuels j) l out):=
    fun refs l out h hm h1 h2 hl ho=>HG kr fuels N (j+1) refs (used+dQ fuels j) l out h hm h1 h2 (by omega) (by omega) (by omega) (by omega) hl ho
   rcases e7 with⟨rfl,hm'⟩|⟨⟨hm',ho⟩|⟨hm',ho,hn⟩|⟨hm',ho⟩|⟨hm',ho⟩,hk⟩
   ·exact go refs l out e3 hm' e5 e6 hl (hok.le (Nat.le_succ N))
   ·have g1:(o.kind==1)=false:=by rcases ho with e|e<;>rw[e]<;>rfl
    have g2:((o.kind==8)||(o.kind==9))=true:=by rcases ho with e|e<;>rw[e]<;>rfl
    rw[g1,g2];exact⟨_,_,_,_,_,ρ',rfl,rfl,e3.sb,fun l e=>by cases e;exact(qk hok hk).le (Nat.zero_le _)⟩
   ·rw[ho]
    obtain⟨b,S2,T2,r2,q2,l2,ρ2,d1,d2,d3,d4,d5,d6,d7,d8,d9⟩:=jF kr o.num l e3 hm' e5 e6 (by rw[hn]) hl;rw[show((7:Int)==1)=false from rfl,show(((7:Int)==8)||((7:Int)==9))=false from rfl,show((7:Int)==4)=false from rfl,show((7:Int)==7)=true from rfl];dsimp only;rw[d1,d2]
    cases b with
    |false=>exact⟨_,_,_,_,_,ρ2,rfl,rfl,d4.sb,fun l e=>by cases e;exact(qk hok hk).le (Nat.zero_le _)⟩
    |true=>exact go refs l2 _ d4 (d7 rfl) d5 d6 (fun s hs=>hl s (d9 s hs)) (qk hok hk)
   ·rw[ho]
    obtain⟨r2,q2,d1,d2,d3,d4,d5,d6⟩:=tZ e3 hm' e5 e6 (IntKind.i64.wrap (refs+1));rw[show((4:Int)==1)=false from rfl,show(((4:Int)==8)||((4:Int)==9))=false from rfl,show((4:Int)==4)=true from rfl];dsimp only;rw[d1,d2];exact go _ l _ d3 d6 d4 d5 hl (qk hok hk)
   ·have g1:(o.kind==1)=false/\((o.kind==8)||(o.kind==9))=false/\(o.kind==4)=false/\(o.kind==7)=false:=by rcases ho with e|e|e|e<;>rw[e]<;>exact⟨rfl,rfl,rfl,rfl⟩
    rw[g1.1,g1.2.1,g1.2.2.1,g1.2.2.2];exact go refs l _ e3 hm' e5 e6 hl (qk hok hk)
end
noncomputable def gR (K:Ks) (k:Ss->Rn->Int->List gV->List Ou->Option (List Ou)) (o:Ou) (S:Ss) (r:Rn) (refs:Int) (l:List gV) (out:List Ou):Option (List Ou):=match (o.kind==8)||(o.kind==9) with
 |true=>some (out++[o])
 |false=>match o.kind==4 with
  |true=>match pP K S r (.mk 6 (IntKind.i64.wrap (refs+1)) ⟨#[]⟩ []) with
   |none=>none
   |some (S3,r3)=>k S3 r3 (IntKind.i64.wrap (refs+1)) l (out++[o])
  |false=>match o.kind==7 with
   |false=>k S r refs l (out++[o])
   |true=>match cq K o.num S r l with
    |none=>none
    |some (false,_,_,_)=>some (out++[o])
    |some (true,S3,r3,l3)=>k S3 r3 refs l3 (out++[o])
noncomputable def cc (K:Ks):Nat->Ss->Rn->Int->List gV->List Ou->Option (List Ou)
 |0,_,_,_,_,_=>none
 |n+1,S,r,refs,l,out=>match nJ K S r with
  |none=>none
  |some (S2,r2)=>match r2.out with
   |none=>cc K n S2 r2 refs l out
   |some a=>match aK a S2.o.2 with
    |none=>none
    |some o=>gR K (cc K n) o S2 { r2 with out:=none } refs l out
theorem Ez {K:Ks} {k k':Ss->Rn->Int->List gV->List Ou->Option (List Ou)} (h:∀S r refs l out x,k S r refs l out=some x->k' S r refs l out=some x) {o:Ou} {S:Ss} {r:Rn} {refs:Int} {l:List gV} {out x:List Ou} (e:gR K k o S r refs l out=some x):gR K k' o S r refs l out=some x:=by
 unfold gR at e ⊢
 cases h1:(o.kind==8)||(o.kind==9) with
 |true=>rw[h1]at e;exact e
 |false=>
 rw[h1]at e;dsimp only at e ⊢
 cases h4:o.kind==4 with
 |true=>
  rw[h4]at e;dsimp only at e ⊢;split at e
  ·cases e
  ·rename_i hg;exact h _ _ _ _ _ _ e
 |false=>
 rw[h4]at e;dsimp only at e ⊢
 cases h7:o.kind==7 with
 |false=>rw[h7]at e;exact h _ _ _ _ _ _ e
 |true=>
  rw[h7]at e;dsimp only at e ⊢;split at e
  ·cases e
  ·rename_i hg;exact e
  ·rename_i hg;exact h _ _ _ _ _ _ e
theorem sE {K:Ks}:∀(n:Nat) {S:Ss} {r:Rn} {refs:Int} {l:List gV} {out x:List Ou},cc K n S r refs l out=some x->cc K (n+1) S r refs l out=some x
 |0,_,_,_,_,_,_,h=>by cases h
 |n+1,S,r,refs,l,out,x,h=>by
  rw[cc]at h ⊢;split at h
  ·cases h
  ·split at h
   ·exact sE n h
   ·split at h
    ·cases h
    ·exact Ez (fun _ _ _ _ _ _ e=>sE n e) h
theorem zO {K:Ks} {n m:Nat} (hm:n<=m) {S:Ss} {r:Rn} {refs:Int} {l:List gV} {out x:List Ou} (h:cc K n S r refs l out=some x):cc K m S r refs l out=some x:=by
 obtain⟨k,rfl⟩:∃k,m=n+k:=⟨m-n,by omega⟩
 clear hm
 induction k with
 |zero=>exact h
 |succ k ih=>exact sE _ ih
section
variable {K1 K2:Ks} {fo:FO} {NR:Nat->Nat->Prop} {ρ ρ':Nat->Nat->Prop} {S T S' T':Ss} {m1 m2 B:Nat} {r q:Rn} {f g:Fr}
theorem Cq (kr:KR K1 K2 fo NR m1 m2):∀(n:Nat) {ρ:Nat->Nat->Prop} {S T:Ss} {r q:Rn} {B:Nat},FI K1 K2 fo NR ρ S T m1 m2 B r q->r.mode=0->r.out=none->q.out=none->B+n<=2000000->∀o S' r',uO K1 n S r=some (o,S',r')->
 (o=Iu/\∀i refs l out,cc K1 (i+n) S r refs l out=cc K1 i S' r' refs l out)\/((MO o r'/\tY o)/\∃k,k<n/\∀i refs l out,cc K1 (i+k+1) S r refs l out=gR K1 (cc K1 i) o S' r' refs l out)
 |0,ρ,S,T,r,q,B,h,hm,h1,h2,_,o,S',r',hr=>by cases hr;exact .inl ⟨rfl,fun _ _ _ _=>rfl⟩
 |n+1,ρ,S,T,r,q,B,h,hm,h1,h2,hB,o,S',r',hr=>by
  obtain⟨⟨P1,P2⟩,⟨Q1,Q2⟩,s1,s2,ρ',s3,s4,s5⟩:=C8 kr h hm h1 h2 (by omega)
  have c1:uv r=true:=by
   unfold uv;rcases h.go hm with⟨e1,e2,_⟩|⟨_,e1,e2,_⟩
   ·rw[e1]
   ·rw[e1];split<;>rfl
  rw[uO,hm,c1,show((0:Int)==1||(0:Int)==3)=false from rfl,show((0:Int)==2)=false from rfl]at hr;dsimp only at hr;rw[s1]at hr;dsimp only at s4 s5 hr;rcases s5 with⟨o1,o2,o3⟩|⟨a,b,o',o1,o2,o3,o4,o5⟩
  ·rw[o1]at hr
   rcases Cq kr n s4 o3 o1 o2 (by omega) o S' r' hr with⟨e,g⟩|⟨e,k,hk,g⟩
   ·refine .inl ⟨e,fun i refs l out=>?_⟩
    rw[<-g,<-Nat.add_assoc,cc,s1];dsimp only;rw[o1]
   ·refine .inr ⟨e,k+1,by omega,fun i refs l out=>?_⟩
    rw[<-g,<-Nat.add_assoc i k 1,cc,s1];dsimp only;rw[o1]
  ·rw[o1]at hr
   dsimp only at hr;rw[o3]at hr;cases hr;refine .inr ⟨o5,0,by omega,fun i refs l out=>?_⟩;rw[Nat.add_zero,cc,s1];dsimp only;rw[o1];dsimp only;rw[o3]
theorem Hy (kr:KR K1 K2 fo NR m1 m2) (fuels:List Int):∀(N j:Nat) {ρ:Nat->Nat->Prop} {S T:Ss} {r q:Rn} {B:Nat} (refs used:Int) (l:List gV) (out:List Ou),FI K1 K2 fo NR ρ S T m1 m2 B r q->r.mode=0->r.out=none->q.out=none->0<=used->used<=60400->(B:Int)<=used->(∀s∈l,xK s.val)->
 ∀x S' r',gP K1 fuels N j S r refs used l out=some (some x,S',r')->∃n:Nat,(n:Int)<=60400-used/\cc K1 n S r refs l out=some x
 |0,_,_,S,T,r,q,_,refs,used,l,out,_,hm,_,_,_,_,_,_,x,S',r',h=>by cases h
 |N+1,j,ρ,S,T,r,q,B,refs,used,l,out,h,hm,h1,h2,u0,u1,hB,hl,x,Sx,rx,hp=>by
  rw[gP]at hp
  cases hu:decide (used<60000) with
  |false=>rw[hu]at hp;cases hp
  |true=>
   rw[hu]at hp;have hu:=of_decide_eq_true hu;obtain⟨f1,f2⟩:=D5 fuels j;obtain⟨o,S',r',T',q',ρ',e1,e2,e3,e4,e5,e6,e7⟩:=Ch kr (dQ fuels j).toNat h hm h1 h2 (by omega);have hw:IntKind.i64.wrap (used+dQ fuels j)=used+dQ fuels j:=wrap64 (by omega) (by omega);dsimp only at hp;rw[e1,hw]at hp;dsimp only at hp
   have go:∀{ρ:Nat->Nat->Prop} {S T:Ss} {r q:Rn} (refs:Int) (l:List gV) (out:List Ou),FI K1 K2 fo NR ρ S T m1 m2 (B+(dQ fuels j).toNat) r q->r.mode=0->r.out=none->q.out=none->(∀s∈l,xK s.val)->gP K1 fuels N (j+1) S r refs (used+dQ fuels j) l out=some (some x,Sx,rx)->∃n:Nat,(n:Int)<=60400-(used+dQ fuels j)/\cc K1 n S r refs l out=some x:=
    fun refs l out h hm h1 h2 hl hp=>Hy kr fuels N (j+1) refs (used+dQ fuels j) l out h hm h1 h2 (by omega) (by omega) (by omega) hl x Sx rx hp
   have hS:=Cq kr (dQ fuels j).toNat h hm h1 h2 (by omega) o S' r' e1
   -- an output
   have fin:(MO o r'/\tY o)->(∀k,(k:Int)<=(dQ fuels j).toNat->∃n:Nat,(n:Int)<=60400-(used+dQ fuels j)/\gR K1 (cc K1 n) o S' r' refs l out=some x)->∃n:Nat,(n:Int)<=60400-used/\cc K1 n S r refs l out=some x:=by
    intro ho hk;rcases hS with⟨rfl,_⟩|⟨_,k,k1,k2⟩
    ·rcases ho.1 with⟨_,e|e⟩|⟨_,e,_⟩|⟨_,e⟩|⟨_,e|e|e|e⟩<;>cases e
    ·obtain⟨n,n1,n2⟩:=hk k (by omega)
     exact⟨n+k+1,by omega,by rw[k2];exact n2⟩
   rcases e7 with⟨rfl,hm'⟩|ho
   ·obtain⟨n,n1,n2⟩:=go refs l out e3 hm' e5 e6 hl hp
    rcases hS with⟨_,g⟩|⟨ho,_⟩
    ·exact⟨n+(dQ fuels j).toNat,by omega,by rw[g];exact n2⟩
    ·rcases ho.1 with⟨_,e|e⟩|⟨_,e,_⟩|⟨_,e⟩|⟨_,e|e|e|e⟩<;>cases e
   ·refine fin ho fun k _=>?_
    unfold gR;rcases ho.1 with⟨hm',ho⟩|⟨hm',ho,hn⟩|⟨hm',ho⟩|⟨hm',ho⟩
    ·have g1:(o.kind==1)=false:=by rcases ho with e|e<;>rw[e]<;>rfl
     have g2:((o.kind==8)||(o.kind==9))=true:=by rcases ho with e|e<;>rw[e]<;>rfl
     rw[g1,g2]at hp;cases hp;exact⟨0,by omega,by rw[g2]⟩
    ·obtain⟨b,S2,T2,r2,q2,l2,ρ2,d1,d2,d3,d4,d5,d6,d7,d8,d9⟩:=jF kr o.num l e3 hm' e5 e6 (by rw[hn]) hl
     rw[ho]at hp ⊢;rw[show((7:Int)==1)=false from rfl,show(((7:Int)==8)||((7:Int)==9))=false from rfl,show((7:Int)==4)=false from rfl,show((7:Int)==7)=true from rfl]at hp;rw[show(((7:Int)==8)||((7:Int)==9))=false from rfl,show((7:Int)==4)=false from rfl,show((7:Int)==7)=true from rfl];dsimp only at hp ⊢;rw[d1]at hp ⊢
     cases b with
     |false=>cases hp;exact⟨0,by omega,rfl⟩
     |true=>exact go refs l2 _ d4 (d7 rfl) d5 d6 (fun s hs=>hl s (d9 s hs)) hp
    ·rw[ho]at hp ⊢
     obtain⟨r2,q2,d1,d2,d3,d4,d5,d6⟩:=tZ e3 hm' e5 e6 (IntKind.i64.wrap (refs+1));rw[show((4:Int)==1)=false from rfl,show(((4:Int)==8)||((4:Int)==9))=false from rfl,show((4:Int)==4)=true from rfl]at hp;rw[show(((4:Int)==8)||((4:Int)==9))=false from rfl,show((4:Int)==4)=true from rfl];dsimp only at hp ⊢;rw[d1]at hp ⊢;exact go _ l _ d3 d6 d4 d5 hl hp
    ·have g1:(o.kind==1)=false/\((o.kind==8)||(o.kind==9))=false/\(o.kind==4)=false/\(o.kind==7)=false:=by rcases ho with e|e|e|e<;>rw[e]<;>exact⟨rfl,rfl,rfl,rfl⟩
     rw[g1.1,g1.2.1,g1.2.2.1,g1.2.2.2]at hp;rw[g1.2.1,g1.2.2.1,g1.2.2.2];exact go refs l _ e3 hm' e5 e6 hl hp
theorem nu (kr:KR K1 K2 fo NR m1 m2):∀(n:Nat) {ρ:Nat->Nat->Prop} {S T:Ss} {r q:Rn} {B:Nat} (refs:Int) (l:List gV) (out:List Ou),FI K1 K2 fo NR ρ S T m1 m2 B r q->r.mode=0->r.out=none->q.out=none->B+n<=2000000->(∀s∈l,xK s.val)->
 cc K1 n S r refs l out=cc K2 n T q refs l out
 |0,_,_,_,_,_,_,_,_,_,_,_,_,_,_,_=>rfl
 |n+1,ρ,S,T,r,q,B,refs,l,out,h,hm,h1,h2,hB,hl=>by
  obtain⟨⟨P1,P2⟩,⟨Q1,Q2⟩,s1,s2,ρ',s3,s4,s5⟩:=C8 kr h hm h1 h2 (by omega);rw[cc,cc,s1,s2];dsimp only at s4 s5 ⊢;rcases s5 with⟨o1,o2,o3⟩|⟨a,b,o,o1,o2,o3,o4,o5⟩
  ·rw[o1,o2]
   exact nu kr n refs l out s4 o3 o1 o2 (by omega) hl
  ·rw[o1,o2]
   dsimp only;rw[o3,o4];dsimp only;have e3:=s4.out none none;unfold gR
   cases g89:(o.kind==8)||(o.kind==9) with
   |true=>rfl
   |false=>
   dsimp only
   cases g4:o.kind==4 with
   |true=>
    have g4:=eq_of_beq g4
    have hm':P2.mode=2:=by
     rcases o5.1 with⟨_,e|e⟩|⟨_,e,_⟩|⟨e,_⟩|⟨_,e|e|e|e⟩<;>first|exact e|omega
    obtain⟨r2,q2,d1,d2,d3,d4,d5,d6⟩:=tZ e3 hm' rfl rfl (IntKind.i64.wrap (refs+1));dsimp only;rw[d1,d2];exact nu kr n _ l _ d3 d6 d4 d5 (by omega) hl
   |false=>
   dsimp only
   cases g7:o.kind==7 with
   |true=>
    have g7:=eq_of_beq g7
    have hm':P2.mode=1/\o.num=P2.last.num:=by
     rcases o5.1 with⟨_,e|e⟩|⟨e,_,e'⟩|⟨_,e⟩|⟨_,e|e|e|e⟩<;>first|exact⟨e,by rw[e']⟩|omega
    obtain⟨b,S2,T2,r2,q2,l2,ρ2,d1,d2,d3,d4,d5,d6,d7,d8,d9⟩:=jF kr o.num l e3 hm'.1 rfl rfl hm'.2.symm hl;dsimp only;rw[d1,d2]
    cases b with
    |false=>rfl
    |true=>exact nu kr n _ l2 _ d4 (d7 rfl) d5 d6 (by omega) fun s hs=>hl s (d9 s hs)
   |false=>
    have g4':o.kind≠4:=by simpa using g4
    have g7':o.kind≠7:=by simpa using g7
    have g89':¬(o.kind=8\/o.kind=9):=by simpa using g89
    have hm':P2.mode=0:=by
     rcases o5.1 with⟨_,e⟩|⟨_,e,_⟩|⟨_,e⟩|⟨e,_⟩
     ·exact absurd e g89'
     ·exact absurd e g7'
     ·exact absurd e g4'
     ·exact e
    exact nu kr n _ l _ e3 hm' rfl rfl (by omega) hl
end
section
def qj (e:TR.Ex):Bool:=(e.kind==10)&&!(Nat.beq e.args.length 0)
mutual
def nH:TR.Ex->List TR.Ex
 |.mk k n t ns ts xs ms p=>(match (k==10)&&!(Nat.beq xs.length 0) with|true=>[.mk k n t ns ts xs ms p]|false=>[])++(pM xs++pY ms)
def pM:List TR.Ex->List TR.Ex
 | []=>[]
 |e::r=>nH e++pM r
def pY:List TR.eZ->List TR.Ex
 | []=>[]
 |.mk _ e::r=>nH e++pY r
end
def Bk {α:Type} (M:List (Nat×List α)) (C:Nat->Prop) (q:Option (Nat×Nat)) (cs:List α):Prop:=match q with
 |none=>cs=[]
 |some q=>aK q.1 M=some cs/\q.2=cs.length/\C q.1
structure OO (F:List TR.Ex) (nd:Nd) (e:TR.Ex) (o:Nat):Prop where
 kind:nd.kind=e.kind
 num:nd.num=e.num
 text:nd.text=e.text
 names:nd.names=e.names
 needs:nd.needs=TR.ei e.kind e.num e.args.length
 fn:qj e=true->nd.free=TR.ny e/\nd.fn=o/\F[o]?=some e
 nf:qj e=false->nd.fn=0/\nd.free=[]
variable (F:List TR.Ex) (z:Ns) (A C D:Nat->Prop)
def one (e:TR.Ex):List TR.Ex:=match qj e with|true=>[e]|false=>[]
mutual
def Am:TR.Ex->Nat->Nat->Prop
 |.mk k n t ns ts xs ms p,o,j=>∃nd cs ars,A j/\aK j z.n.2=some nd/\OO F nd (.mk k n t ns ts xs ms p) o/\Bk z.a.2 C nd.args cs/\Bk z.b.2 D nd.dZ ars/\jG xs (o+(one (.mk k n t ns ts xs ms p)).length) cs/\jM ms (o+(one (.mk k n t ns ts xs ms p)).length+(pM xs).length) ars
def jG:List TR.Ex->Nat->List Nat->Prop
 | [],_,[]=>True
 |e::r,o,c::s=>Am e o c/\jG r (o+(nH e).length) s
 | [],_,_::_=>False
 |_::_,_,[]=>False
def jM:List TR.eZ->Nat->List Ar->Prop
 | [],_,[]=>True
 |.mk p e::r,o,a::s=>a.pat=p/\Am e o a.body/\jM r (o+(nH e).length) s
 | [],_,_::_=>False
 |_::_,_,[]=>False
end
def kO:List TR.Ex->Nat->List Nat->Prop
 | [],_,[]=>True
 |e::r,o,c::s=>Am F z A C D e o c/\kO r (o+1) s
 | [],_,_::_=>False
 |_::_,_,[]=>False
end
theorem Bk.mono {α:Type} {M N:List (Nat×List α)} {C C':Nat->Prop} {q:Option (Nat×Nat)} {cs:List α} (h:Bk M C q cs) (h1:∀j,C j->aK j N=aK j M) (h2:∀j,C j->C' j):Bk N C' q cs:=by
 cases q with
 |none=>exact h
 |some q=>exact⟨(h1 _ h.2.2).trans h.1,h.2.1,h2 _ h.2.2⟩
section
variable {F:List TR.Ex} {z z':Ns} {A C D A' C' D':Nat->Prop}
mutual
theorem Am.mono (h1:∀j,A j->aK j z'.n.2=aK j z.n.2) (h2:∀j,C j->aK j z'.a.2=aK j z.a.2) (h3:∀j,D j->aK j z'.b.2=aK j z.b.2) (a:∀j,A j->A' j) (c:∀j,C j->C' j) (d:∀j,D j->D' j):∀{e:TR.Ex} {o j:Nat},Am F z A C D e o j->Am F z' A' C' D' e o j
 |.mk ..,o,j,h=>by
  rw[Am]at h ⊢;obtain⟨nd,cs,ars,g1,g2,g3,g4,g5,g6,g7⟩:=h;exact⟨nd,cs,ars,a _ g1,(h1 _ g1).trans g2,g3,g4.mono h2 c,g5.mono h3 d,jG.mono h1 h2 h3 a c d g6,jM.mono h1 h2 h3 a c d g7⟩
theorem jG.mono (h1:∀j,A j->aK j z'.n.2=aK j z.n.2) (h2:∀j,C j->aK j z'.a.2=aK j z.a.2) (h3:∀j,D j->aK j z'.b.2=aK j z.b.2) (a:∀j,A j->A' j) (c:∀j,C j->C' j) (d:∀j,D j->D' j):∀{l:List TR.Ex} {o:Nat} {s:List Nat},jG F z A C D l o s->jG F z' A' C' D' l o s
 | [],_,[],_=>by rw[jG];trivial
 | [],_,_::_,h=>by rw[jG]at h;exact h.elim
 |_::_,_,[],h=>by rw[jG]at h;exact h.elim
 |e::r,_,k::s,h=>by rw[jG]at h ⊢;exact⟨Am.mono h1 h2 h3 a c d h.1,jG.mono h1 h2 h3 a c d h.2⟩
theorem jM.mono (h1:∀j,A j->aK j z'.n.2=aK j z.n.2) (h2:∀j,C j->aK j z'.a.2=aK j z.a.2) (h3:∀j,D j->aK j z'.b.2=aK j z.b.2) (a:∀j,A j->A' j) (c:∀j,C j->C' j) (d:∀j,D j->D' j):∀{l:List TR.eZ} {o:Nat} {s:List Ar},jM F z A C D l o s->jM F z' A' C' D' l o s
 | [],_,[],_=>by rw[jM];trivial
 | [],_,_::_,h=>by rw[jM]at h;exact h.elim
 |_::_,_,[],h=>by rw[jM]at h;exact h.elim
 |.mk p e::r,_,k::s,h=>by rw[jM]at h ⊢;exact⟨h.1,Am.mono h1 h2 h3 a c d h.2.1,jM.mono h1 h2 h3 a c d h.2.2⟩
end
theorem kO.mono (h1:∀j,A j->aK j z'.n.2=aK j z.n.2) (h2:∀j,C j->aK j z'.a.2=aK j z.a.2) (h3:∀j,D j->aK j z'.b.2=aK j z.b.2) (a:∀j,A j->A' j) (c:∀j,C j->C' j) (d:∀j,D j->D' j):∀{l:List TR.Ex} {o:Nat} {s:List Nat},kO F z A C D l o s->kO F z' A' C' D' l o s
 | [],_,[],_=>trivial
 |e::r,_,k::s,h=>⟨Am.mono h1 h2 h3 a c d h.1,kO.mono h1 h2 h3 a c d h.2⟩
theorem kO.app:∀{l l':List TR.Ex} {o:Nat} {s s':List Nat},kO F z A C D l o s->kO F z A C D l' (o+l.length) s'->kO F z A C D (l++l') o (s++s')
 | [],l',_,[],s',_,h=>h
 |e::r,l',o,k::s,s',h,h'=>⟨h.1,h.2.app (by rw[show o+1+r.length=o+(e::r).length by simp;omega];exact h')⟩
theorem kO.len:∀{l:List TR.Ex} {o:Nat} {s:List Nat},kO F z A C D l o s->s.length=l.length
 | [],_,[],_=>rfl
 |e::r,_,k::s,h=>congrArg (·+1) h.2.len
theorem kO.get:∀{l:List TR.Ex} {o:Nat} {s:List Nat} {i:Nat} {e:TR.Ex},kO F z A C D l o s->l[i]?=some e->∃k,s[i]?=some k/\Am F z A C D e (o+i) k
 | [],_,_,_,_,_,h=>by simp at h
 |e::r,_,k::s,0,x,h,q=>by simp at q;subst q;exact⟨k,rfl,h.1⟩
 |e::r,o,k::s,i+1,x,h,q=>by
  simp at q;obtain⟨k',h1,h2⟩:=h.2.get q;exact⟨k',by simpa using h1,by rw[show o+(i+1)=o+1+i by omega];exact h2⟩
theorem jG.len:∀{l:List TR.Ex} {o:Nat} {s:List Nat},jG F z A C D l o s->s.length=l.length
 | [],_,[],_=>rfl
 | [],_,_::_,h=>by rw[jG]at h;exact h.elim
 |_::_,_,[],h=>by rw[jG]at h;exact h.elim
 |e::r,_,k::s,h=>by rw[jG]at h;rw[List.length_cons,List.length_cons,h.2.len]
theorem jG.get:∀{l:List TR.Ex} {o:Nat} {i:Nat} {e:TR.Ex},l[i]?=some e->∃o',∀{z:Ns} {A C D:Nat->Prop} {s:List Nat},jG F z A C D l o s->∃k,s[i]?=some k/\Am F z A C D e o' k
 | [],_,_,_,h=>by simp at h
 |e::r,o,0,x,q=>by
  simp at q;subst q;refine⟨o,fun {z A C D s} h=>?_⟩
  cases s with
  |nil=>rw[jG]at h;exact h.elim
  |cons k s=>rw[jG]at h;exact⟨k,rfl,h.1⟩
 |e::r,o,i+1,x,q=>by
  simp at q;obtain⟨o',h'⟩:=jG.get (o:=o+(nH e).length) q;refine⟨o',fun {z A C D s} h=>?_⟩
  cases s with
  |nil=>rw[jG]at h;exact h.elim
  |cons k s=>rw[jG]at h;simpa using h' h.2
end
def nf (z:Ns) (j:Nat):Prop:=∀q,z.fu=some q->q.1≠j
structure Fb (z:Ns):Prop where
 n:gp z.n
 a:gp z.a
 b:gp z.b
structure W (en ea eb:Nat->Prop) (z z':Ns):Prop where
 n:z.n.1<=z'.n.1
 a:z.a.1<=z'.a.1
 b:z.b.1<=z'.b.1
 tn:∀j,j<z.n.1->¬en j->aK j z'.n.2=aK j z.n.2
 ta:∀j,j<z.a.1->¬ea j->nf z j->aK j z'.a.2=aK j z.a.2/\nf z' j
 tb:∀j,j<z.b.1->¬eb j->aK j z'.b.2=aK j z.b.2
def no:Nat->Prop:=fun _=>False
theorem W.refl {en ea eb:Nat->Prop} {z:Ns}:W en ea eb z z:=⟨Nat.le_refl _,Nat.le_refl _,Nat.le_refl _,fun _ _ _=>rfl,fun _ _ _ h=>⟨rfl,h⟩,fun _ _ _=>rfl⟩
theorem W.trans {en ea eb en' ea' eb':Nat->Prop} {x y z:Ns} (h:W en ea eb x y) (q:W en' ea' eb' y z) (h1:∀j,j<x.n.1->en' j->en j) (h2:∀j,j<x.a.1->ea' j->ea j) (h3:∀j,j<x.b.1->eb' j->eb j):W en ea eb x z where
 n:=Nat.le_trans h.n q.n
 a:=Nat.le_trans h.a q.a
 b:=Nat.le_trans h.b q.b
 tn:=fun j hj e=>(q.tn j (Nat.lt_of_lt_of_le hj h.n) fun x=>e (h1 j hj x)).trans (h.tn j hj e)
 ta:=fun j hj e hn=>by
  have g:=h.ta j hj e hn;have g2:=q.ta j (Nat.lt_of_lt_of_le hj h.a) (fun x=>e (h2 j hj x)) g.2;exact⟨g2.1.trans g.1,g2.2⟩
 tb:=fun j hj e=>(q.tb j (Nat.lt_of_lt_of_le hj h.b) fun x=>e (h3 j hj x)).trans (h.tb j hj e)
theorem uT {α:Type} {z:aZ (List α)} {C:Nat->Prop} {q:Option (Nat×Nat)} {cs:List α} (c:α) (hb:gp z) (h:Bk z.2 C q cs) (hl:cs.length<=2000000):
 ∃z' q',lU z q c=some (z',q')/\gp z'/\z'.1=z.1+1/\q'=(z.1,cs.length+1)/\aK z.1 z'.2=some (cs++[c])/\∀j,j<z.1->(∀p,q=some p->p.1≠j)->aK j z'.2=aK j z.2:=by
 unfold lU
 cases q with
 |none=>
  cases h;exact⟨_,_,rfl,hb.push _,rfl,rfl,aP ..,fun j hj _=>ig (Nat.ne_of_gt hj)⟩
 |some q=>
  obtain⟨h1,h2,_⟩:=h;dsimp only;rw[h1];dsimp only;rw[oU (show q.2<=cs.length by omega) (show q.2<=2000000 by omega)];refine⟨_,_,rfl,(hb.del q.1).push _,rfl,by rw[h2],?_,fun j hj hn=>?_⟩
  ·rw[h2,List.take_length];exact aP ..
  ·dsimp only
   rw[ig (Nat.ne_of_gt hj),uR (hn q rfl)]
theorem wG:∀q,sC q q=true
 |none=>rfl
 |some q=>by rw[sC,Nat.beq_refl,Nat.beq_refl];rfl
def own (q:Option (Nat×Nat)) (j:Nat):Prop:=∃p,q=some p/\p.1=j
def sN (z z':Ns) (j:Nat):Prop:=z.n.1<=j/\j<z'.n.1
def sA (z z':Ns) (j:Nat):Prop:=z.a.1<=j/\j<z'.a.1/\nf z' j
def sB (z z':Ns) (j:Nat):Prop:=z.b.1<=j/\j<z'.b.1
def Qp (q:Option (Nat×Nat)) (z z':Ns) (j:Nat):Prop:=sA z z' j/\¬own q j
def Pk (q:Option (Nat×Nat)) (z z':Ns) (j:Nat):Prop:=sB z z' j/\¬own q j
def Fu (z:Ns) (cs:List Nat):Prop:=Bk z.a.2 (fun j=>j<z.a.1) z.fu cs
theorem Bk.len {α:Type} {M:List (Nat×List α)} {C:Nat->Prop} {q:Option (Nat×Nat)} {cs:List α} (h:Bk M C q cs):fT q=cs.length:=by
 cases q with
 |none=>cases h;rfl
 |some q=>exact h.2.1
theorem Bk.c {α:Type} {M:List (Nat×List α)} {C:Nat->Prop} {q:Option (Nat×Nat)} {cs:List α} (h:Bk M C q cs):∀j,own q j->C j:=by
 rintro j ⟨p,rfl,rfl⟩;exact h.2.2
def Q4 (F:List TR.Ex) (g:TR.Ex->Ns->Option (Ns×Nat)) (e:TR.Ex):Prop:=∀(z:Ns) (L M:List TR.Ex) (cs:List Nat),Fb z->Fu z cs->F=L++nH e++M->cs.length=L.length->
 ∃z' ds,g e z=some (z',z.n.1)/\z.n.1<z'.n.1/\Fb z'/\W no no no z z'/\Am F z' (sN z z') (sA z z') (sB z z') e L.length z.n.1/\Fu z' (cs++ds)/\kO F z' (sN z z') (sA z z') (sB z z') (nH e) L.length ds
section
variable {F:List TR.Ex} {g:TR.Ex->Ns->Option (Ns×Nat)}
theorem ET (k:Nat):∀(es:List TR.Ex) (z:Ns) (nd:Nd) (cs0:List Nat) (L M:List TR.Ex) (cs:List Nat),(∀e∈es,Q4 F g e)->k<z.n.1->Fb z->aK k z.n.2=some nd->Bk z.a.2 (fun j=>j<z.a.1/\nf z j) nd.args cs0->cs0.length+es.length<=2000000->
 Fu z cs->F=L++pM es++M->cs.length=L.length->
 ∃z' qa cs1 ds,pH g k es z=some z'/\Fb z'/\W (·=k) (own nd.args) no z z'/\aK k z'.n.2=some { nd with args:=qa }/\Bk z'.a.2 (fun j=>j<z'.a.1/\nf z' j) qa (cs0++cs1)/\(∀j,own qa j->own nd.args j\/z.a.1<=j)/\
  jG F z' (sN z z') (Qp qa z z') (sB z z') es L.length cs1/\Fu z' (cs++ds)/\kO F z' (sN z z') (Qp qa z z') (sB z z') (pM es) L.length ds
 | [],z,nd,cs0,L,M,cs,_,hk,ok,hn,hb,_,hf,_,_=>⟨z,nd.args,[],[],rfl,ok,W.refl,hn,by rw[List.append_nil];exact hb,fun j h=>.inl h,by rw[jG];trivial,by rw[List.append_nil];exact hf,by rw[pM];trivial⟩
 |e::es,z,nd,cs0,L,M,cs,hg,hk,ok,hn,hb,hl,hf,hF,hc=>by
  obtain⟨z2,d1,e1,e2,e3,e4,e5,e6,e7⟩:=hg e List.mem_cons_self z L (pM es++M) cs ok hf (by rw[hF,pM];simp) hc;have hn2:aK k z2.n.2=some nd:=(e4.tn k hk fun h=>h).trans hn;have hb2:Bk z2.a.2 (fun j=>j<z.a.1/\nf z2 j) nd.args cs0:=hb.mono (fun j h=>(e4.ta j h.1 (fun x=>x) h.2).1) fun j h=>⟨h.1,(e4.ta j h.1 (fun x=>x) h.2).2⟩
  have hl:cs0.length+es.length+1<=2000000:=hl;obtain⟨a3,q,p1,p2,p3,p4,p5,p6⟩:=uT z.n.1 e3.a hb2 (by omega)
  have hz3:pH g k (e::es) z=pH g k es ⟨(z2.n.1,bf k { nd with args:=some q } z2.n.2),a3,z2.b,z2.fu⟩:=by
   rw[pH,hn];dsimp only;rw[e1];dsimp only;rw[hn2];dsimp only;rw[wG];dsimp only;rw[p1]
  generalize hzz:(⟨(z2.n.1,bf k { nd with args:=some q } z2.n.2),a3,z2.b,z2.fu⟩:Ns)=z3 at hz3;have q1:z3.n=(z2.n.1,bf k { nd with args:=some q } z2.n.2):=by rw[<-hzz]
  have q2:z3.a=a3:=by rw[<-hzz]
  have q3:z3.b=z2.b:=by rw[<-hzz]
  have q4:z3.fu=z2.fu:=by rw[<-hzz]
  have hnf:∀j,nf z2 j->nf z3 j:=fun j h q hq=>h q (q4 ▸ hq)
  have w3:W (·=k) (own nd.args) no z2 z3:=by
   refine⟨by rw[q1];exact Nat.le_refl _,by rw[q2,p3];omega,by rw[q3];exact Nat.le_refl _,fun j _ h=>?_,fun j hj h hn=>⟨?_,hnf j hn⟩,fun j _ _=>by rw[q3]⟩
   ·rw[q1];exact fe fun e=>h e.symm
   ·rw[q2];exact p6 j hj fun p hp x=>h ⟨p,hp,x⟩
  have hfu:∀p,z2.fu=some p->p.1<z2.a.1:=fun p hp=>e6.c p.1 ⟨p,hp,rfl⟩;have ok3:Fb z3:=⟨by rw[q1];exact kG e3.n gK,by rw[q2];exact p2,by rw[q3];exact e3.b⟩
  have f3:Fu z3 (cs++d1):=by
   have h:=e6;unfold Fu at h ⊢;rw[q4]
   cases hq:z2.fu with
   |none=>rw[hq]at h;exact h
   |some p=>
    rw[hq]at h;obtain⟨h1,h2,h3⟩:=h;refine⟨?_,h2,by rw[q2,p3];omega⟩;rw[q2,p6 p.1 h3 fun x hx y=>(hb2.c x.1 ⟨x,hx,rfl⟩).2 p hq y.symm];exact h1
  have hn3:aK k z3.n.2=some { nd with args:=some q }:=by rw[q1];exact cA hn2
  have hb3:Bk z3.a.2 (fun j=>j<z3.a.1/\nf z3 j) ({ nd with args:=some q }:Nd).args (cs0++[z.n.1]):=by
   refine⟨by rw[q2,p4];exact p5,by rw[p4];simp,by rw[q2,p3,p4];dsimp only;omega,fun p hp x=>?_⟩;rw[q4]at hp;have:=hfu p hp;rw[p4]at x;dsimp only at x;omega
  obtain⟨z',qa,cs1,d2,g1,g2,g3,g4,g5,g6,g7,g8,g9⟩:=ET k es z3 { nd with args:=some q } (cs0++[z.n.1]) (L++nH e) M (cs++d1) (fun x hx=>hg x (List.mem_cons_of_mem _ hx)) (by rw[q1];dsimp only;omega) ok3 hn3 hb3 (by simp;omega) f3 (by rw[hF,pM];simp) (by
   have:=e7.len;rw[List.length_append,List.length_append,this,hc])
  rw[List.length_append]at g7 g9
  have w23:W (·=k) (own nd.args) no z z3:=⟨Nat.le_trans e4.n w3.n,Nat.le_trans e4.a w3.a,Nat.le_trans e4.b w3.b,fun j hj h=>(w3.tn j (Nat.lt_trans hj e2) h).trans (e4.tn j hj fun x=>x),fun j hj h hn=>by
   have u:=e4.ta j hj (fun x=>x) hn;have v:=w3.ta j (Nat.lt_of_lt_of_le hj e4.a) h u.2;exact⟨v.1.trans u.1,v.2⟩,fun j hj _=>(w3.tb j (Nat.lt_of_lt_of_le hj e4.b) fun x=>x).trans (e4.tb j hj fun x=>x)⟩
  have ne:∀j,j<z2.a.1->¬own (some q) j:=by
   rintro j hj ⟨p,hp,x⟩;cases hp;rw[p4]at x;dsimp only at x;omega
  have a23:z3.a.1=z2.a.1+1:=by rw[q2,p3]
  have n23:z3.n.1=z2.n.1:=by rw[q1]
  have b23:z3.b.1=z2.b.1:=by rw[q3]
  have mv:∀{j:Nat},sA z z2 j->aK j z'.a.2=aK j z2.a.2/\Qp qa z z' j:=by
   rintro j ⟨h1,h2,h3⟩;have hno:¬own nd.args j:=fun x=>by have:=(hb.c j x).1;omega
   have u:=w3.ta j h2 hno h3;have v:=g3.ta j (by omega) (ne j h2) u.2;refine⟨v.1.trans u.1,⟨h1,by have:=g3.a;omega,v.2⟩,fun x=>?_⟩;rcases g6 j x with x|x
   ·exact ne j h2 x
   ·omega
  have mn:∀{j:Nat},sN z z2 j->aK j z'.n.2=aK j z2.n.2/\sN z z' j:=by
   rintro j ⟨h1,h2⟩;have hne:¬j=k:=by omega
   exact⟨(g3.tn j (by omega) hne).trans (w3.tn j h2 hne),h1,by have:=g3.n;omega⟩
  have mb:∀{j:Nat},sB z z2 j->aK j z'.b.2=aK j z2.b.2/\sB z z' j:=by
   rintro j ⟨h1,h2⟩;exact⟨(g3.tb j (by omega) fun x=>x).trans (w3.tb j h2 fun x=>x),h1,by have:=g3.b;omega⟩
  have lift:∀j,sN z3 z' j->sN z z' j:=fun j h=>⟨by have:=h.1;omega,h.2⟩
  have lifA:∀j,Qp qa z3 z' j->Qp qa z z' j:=fun j h=>⟨⟨by have:=h.1.1;have:=e4.a;omega,h.1.2⟩,h.2⟩
  have lifB:∀j,sB z3 z' j->sB z z' j:=fun j h=>⟨by have:=h.1;have:=e4.b;omega,h.2⟩
  have id3:∀{α:Type} {M:List (Nat×α)} (C:Nat->Prop) (j:Nat),C j->aK j M=aK j M:=fun _ _ _=>rfl;refine⟨z',qa,z.n.1::cs1,d1++d2,hz3.trans g1,g2,w23.trans g3 (fun _ _ x=>x) (fun j hj x=>(ne j (Nat.lt_of_lt_of_le hj e4.a) x).elim) (fun _ _ x=>x),g4,by rw[List.append_cons];exact g5,fun j x=>?_,?_,by rw[<-List.append_assoc];exact g8,?_⟩
  ·rcases g6 j x with⟨p,hp,y⟩|x
   ·cases hp;rw[p4]at y;dsimp only at y;have:=e4.a;exact .inr (by omega)
   ·have:=e4.a;exact .inr (by omega)
  ·rw[jG]
   exact⟨e5.mono (fun j h=>(mn h).1) (fun j h=>(mv h).1) (fun j h=>(mb h).1) (fun j h=>(mn h).2) (fun j h=>(mv h).2) fun j h=>(mb h).2,g7.mono (id3 _) (id3 _) (id3 _) lift lifA lifB⟩
  ·rw[pM]
   exact(e7.mono (fun j h=>(mn h).1) (fun j h=>(mv h).1) (fun j h=>(mb h).1) (fun j h=>(mn h).2) (fun j h=>(mv h).2) fun j h=>(mb h).2).app (g9.mono (id3 _) (id3 _) (id3 _) lift lifA lifB)
end
end MN
