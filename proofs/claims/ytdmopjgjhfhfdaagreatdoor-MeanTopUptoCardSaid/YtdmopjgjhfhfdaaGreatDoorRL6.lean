/- Contracts, and the law, for every input. No conditions. -/
import Derived.Test.YtdmopjgjhfhfdaaGreatDoorRL2
set_option linter.all false
set_option maxRecDepth 100000
open Go Go.AM Go.Proofs TK
namespace MN
section
variable {fo:FO} {ρ:Nat->Nat->Prop} {z w:aZ Cl}
theorem vR {f:Vl->Int->Option (Bool×Int)}:∀{l:List Vl} {s s':Int},rG f l s=some (true,s')->∀x∈l,∃s1 s2,f x s1=some (true,s2)
 | [],_,_,_,x,h=>by cases h
 |a::l,s,s',h,x,hx=>by
  rw[rG]at h;split at h
  ·cases h
  ·cases h
  ·rename_i s1 h1
   rcases List.mem_cons.1 hx with rfl|hx
   ·exact⟨_,_,h1⟩
   ·exact vR h x hx
theorem Ie {f g:Vl->Option Bool}:∀{l m:List Vl},F2 (VR fo ρ) l m->(∀x y,x∈l->VR fo ρ x y->∃q,f x=some q/\g y=some q)->∃q,nT f l=some q/\nT g m=some q
 | [],[],_,_=>⟨_,rfl,rfl⟩
 |a::l,b::m,h,hf=>by
  obtain⟨q,h1,h2⟩:=hf a b List.mem_cons_self h.1;rw[nT,nT,h1,h2]
  cases q with
  |true=>exact⟨_,rfl,rfl⟩
  |false=>exact Ie h.2 fun x y hx=>hf x y (List.mem_cons_of_mem _ hx)
theorem H8 (hc:CR fo ρ z w) {a b c d:Nat} (h1:ρ a b) (h2:ρ c d):Nat.beq a c=Nat.beq b d:=by
 by_cases q:a=c
 ·rw[q,(hc.inj _ _ _ _ h1 h2).1 q,Nat.beq_refl,Nat.beq_refl]
 ·rw[rY q,rY fun e=>q ((hc.inj _ _ _ _ h1 h2).2 e)]
theorem Ht (hc:CR fo ρ z w) {a b:Nat} (hab:ρ a b):∀(n m:Nat) (u v:Vl) (d s s':Int),VR fo ρ u v->jb z.2 n u d s=some (true,s')->n<=m->∃q,iO z.2 a m u=some q/\iO w.2 b m v=some q
 |0,_,_,_,_,_,_,_,h,_=>by cases h
 |_+1,0,_,_,_,_,_,_,_,h=>by omega
 |n+1,m+1,u,v,d,s,s',h,hm,hl=>by
  have he:∃q,Pf z.2 u.cell a=some q/\Pf w.2 v.cell b=some q:=by
   obtain⟨_,_,_,_,_,hco,_⟩:=h.o;obtain⟨x,y,h1,h2,_⟩:=hc.at' a b hab
   cases hk:u.kind==8 with
   |false=>
    obtain⟨e1,e2⟩:=hco.2 hk;rw[e1,e2];exact⟨_,rfl,rfl⟩
   |true=>
    obtain⟨c,d,e1,e2,hcd⟩:=hco.1 hk;obtain⟨x',y',h3,h4,_⟩:=hc.at' c d hcd;rw[e1,e2];unfold Pf;dsimp only;rw[h1,h2,h3,h4];exact⟨_,rfl,by dsimp only;rw[H8 hc hcd hab]⟩
  obtain⟨q,e1,e2⟩:=he;unfold iO;rw[e1,e2]
  cases q with
  |true=>exact⟨_,rfl,rfl⟩
  |false=>
   obtain⟨l,k,g1,g2,g3,g4,_⟩:=xD hc h;unfold jb at hm;rw[g1]at hm;dsimp only;rw[g1,g2];dsimp only;rw[<-g3.len];simp only[g4,decide_true]at hm ⊢;split at hm
   ·cases hm
   ·have ha:=vR hm
    exact Ie (fA.1 g3) fun x y hx hxy=>by
     obtain⟨s1,s2,hs⟩:=ha x hx;exact Ht hc hab n m x y _ _ _ hxy hs (by omega)
theorem CR.set (h:CR fo ρ z w) {a b:Nat} (hab:ρ a b) {x y:Cl} (hg:x.gone=y.gone) (hv:VR fo ρ x.val y.val):CR fo ρ (z.1,bf a x z.2) (w.1,bf b y w.2) where
 at':=fun c d hcd=>by
  obtain⟨x',y',h1,h2,h3,h4⟩:=h.at' c d hcd
  by_cases q:a=c
  ·have q2:=(h.inj _ _ _ _ hab hcd).1 q
   subst q;subst q2;exact⟨x,y,cA h1,cA h2,hg,hv⟩
  ·have q2:b≠d:=fun e=>q ((h.inj _ _ _ _ hab hcd).2 e)
   exact⟨x',y',(fe q).trans h1,(fe q2).trans h2,h3,h4⟩
 inj:=h.inj
 b1:=kG h.b1 gK
 b2:=kG h.b2 gK
 n1:=(ke gK).trans h.n1
 n2:=(ke gK).trans h.n2
 fx:=fun p hp=>⟨(fe fun e=>by subst e;exact(h.fx p hp).2 b hab).trans (h.fx p hp).1,(h.fx p hp).2⟩
theorem PZ (hc:CR fo ρ z w) {u v x y:Vl} (h:VR fo ρ u v) (hx:VR fo ρ x y):∃p q ρ',FF z u x=some p/\FF w v y=some q/\p.1=q.1/\(∀a b,ρ a b->ρ' a b)/\CR fo ρ' p.2 q.2:=by
 obtain⟨k,n,t,l,c⟩:=u;obtain⟨k',n',t',l',c'⟩:=v;unfold VR at h;obtain⟨⟨rfl,rfl,rfl⟩,⟨hl,hco,h7⟩,hs⟩:=h;unfold FF;dsimp only
 cases hk:k==8 with
 |false=>exact⟨_,_,ρ,rfl,rfl,rfl,fun _ _ h=>h,hc⟩
 |true=>
  obtain⟨a,b,rfl,rfl,hab⟩:=hco.1 hk;obtain⟨p,q,h1,h2,h3,h4⟩:=hc.at' a b hab;dsimp only;rw[h1,h2];dsimp only;rw[<-h3]
  cases hgo:p.gone with
  |true=>exact⟨_,_,ρ,rfl,rfl,rfl,fun _ _ h=>h,hc⟩
  |false=>
   have hx':=hx.mono (ρ':=Me ρ z.1 w.1) lX;have hc':=hc.new (x:=⟨false,x⟩) (y:=⟨false,y⟩) rfl hx';have hz:VR fo (Me ρ z.1 w.1) (.mk 8 0 ⟨#[]⟩ [] (some z.1)) (.mk 8 0 ⟨#[]⟩ [] (some w.1)):=VR.Ev (.inr ⟨rfl,rfl⟩);obtain⟨r,g1,g2,g3⟩:=xh hc' hz;dsimp only at g1 g2 ⊢;rw[g1,g2]
   cases r with
   |true=>exact⟨_,_,_,rfl,rfl,rfl,lX,hc'⟩
   |false=>
    obtain⟨s,f1,_⟩:=g3 rfl
    have f2:∃s1 s2,jb ((z.1,(⟨false,x⟩:Cl))::z.2) 41 x 2 s1=some (true,s2):=by
     unfold jb at f1;rw[show dS (z.1+1,(z.1,(⟨false,x⟩:Cl))::z.2).2 (.mk 8 0 ⟨#[]⟩ [] (some z.1))=some [x] by unfold dS;simp only[aP];rfl]at f1;split at f1
     ·cases f1
     ·dsimp only at f1
      simp only[List.length_singleton,show(1<=2000000) by omega,decide_true]at f1;exact vR f1 x List.mem_cons_self
    obtain⟨s1,s2,f2⟩:=f2;obtain⟨r,e1,e2⟩:=Ht hc' (lX a b hab) 41 45 x y _ _ _ hx' f2 (by omega);dsimp only at e1 e2 ⊢;rw[e1,e2]
    cases r with
    |true=>exact⟨_,_,_,rfl,rfl,rfl,lX,hc'⟩
    |false=>
     have k1:=hc.b1.old (y:=(⟨false,x⟩:Cl)) h1;have k2:=hc.b2.old (y:=(⟨false,y⟩:Cl)) h2;dsimp only;rw[k1,k2];exact⟨_,_,Me ρ z.1 w.1,rfl,rfl,rfl,lX,hc'.set (lX a b hab) h3 hx'⟩
def un (M:List (Nat×Cl)) (s:List Nat):Nat:=(M.filter fun p=>!aW s p.1).length
theorem Kw {M:List (Nat×Cl)} {s:List Nat} {a:Nat} {x:Cl} (h:aK a M=some x) (hs:aW s a=false):un M (s++[a])+1<=un M s:=by
 have hm:=fz h;clear h;unfold un
 induction M with
 |nil=>cases hm
 |cons p M ih=>
  have hle:∀L:List (Nat×Cl),(L.filter fun p=>!aW (s++[a]) p.1).length<=(L.filter fun p=>!aW s p.1).length:=by
   intro L
   induction L with
   |nil=>simp
   |cons q L ih2=>
    simp only[List.filter_cons];rw[pS]
    cases aW s q.1<;>cases Nat.beq a q.1<;>simp<;>omega
  simp only[List.filter_cons];rcases List.mem_cons.1 hm with rfl|hm
  ·have:=hle M
   rw[pS,hs,Nat.beq_refl];simp;omega
  ·have:=ih hm
   rw[pS]
   cases aW s p.1<;>cases Nat.beq a p.1<;>simp<;>omega
theorem BJ (hc:CR fo ρ z w) {a b:Nat} (hab:ρ a b):∀{s t:List Nat},F2 ρ s t->aW s a=aW t b
 | [],[],_=>rfl
 |c::s,d::t,h=>by rw[aW,aW,H8 hc h.1 hab,BJ hc hab h.2]
theorem xj {f g:Vl->List Nat->Option (Bool×List Nat)} {U V:Nat}:∀{l m:List Vl} {s t:List Nat},F2 (VR fo ρ) l m->F2 ρ s t->un z.2 s<=U->un w.2 t<=V->(∀x y s t,x∈l->y∈m->VR fo ρ x y->F2 ρ s t->un z.2 s<=U->un w.2 t<=V->∃q s' t',f x s=some (q,s')/\g y t=some (q,t')/\F2 ρ s' t'/\un z.2 s'<=un z.2 s/\un w.2 t'<=un w.2 t)->∃q s' t',eD f l s=some (q,s')/\eD g m t=some (q,t')/\F2 ρ s' t'/\un z.2 s'<=un z.2 s/\un w.2 t'<=un w.2 t
 | [],[],s,t,_,h,_,_,_=>⟨_,s,t,rfl,rfl,h,Nat.le_refl _,Nat.le_refl _⟩
 |a::l,b::m,s,t,h,hs,h1,h2,hf=>by
  obtain⟨q,s1,t1,g1,g2,g3,g4,g5⟩:=hf a b s t List.mem_cons_self List.mem_cons_self h.1 hs h1 h2;rw[eD,eD,g1,g2]
  cases q with
  |false=>exact⟨_,s1,t1,rfl,rfl,g3,g4,g5⟩
  |true=>
   obtain⟨q,s2,t2,f1,f2,f3,f4,f5⟩:=xj h.2 g3 (by omega) (by omega) fun x y s t hx hy=>hf x y s t (List.mem_cons_of_mem _ hx) (List.mem_cons_of_mem _ hy);exact⟨q,s2,t2,f1,f2,f3,by omega,by omega⟩
theorem Cp (hc:CR fo ρ z w) {D E:Nat} (hD:∀p∈z.2,lu p.2.val<=D) (hE:∀p∈w.2,lu p.2.val<=E):∀(n m:Nat) (u v:Vl) (s t:List Nat),VR fo ρ u v->F2 ρ s t->lu u+D*un z.2 s<=n->lu v+E*un w.2 t<=m->
 ∃q s' t',dw z.2 n u s=some (q,s')/\dw w.2 m v t=some (q,t')/\F2 ρ s' t'/\un z.2 s'<=un z.2 s/\un w.2 t'<=un w.2 t
 |0,_,u,_,_,_,_,_,h,_=>by cases u;simp only[lu]at h;omega
 |_+1,0,_,v,_,_,_,_,_,h=>by cases v;simp only[lu]at h;omega
 |n+1,m+1,u,v,s,t,h,hs,hn,hm=>by
  have hh:=h;obtain⟨k,kn,kt,l,c⟩:=u;obtain⟨k',kn',kt',l',c'⟩:=v;unfold VR at h;obtain⟨⟨rfl,rfl,rfl⟩,⟨hl,hco,h7⟩,hv⟩:=h;have hl':=hv.len;simp only[lu]at hn hm;unfold dw tT dS;dsimp only
  cases hk:k==8 with
  |false=>
   dsimp only;rw[decide_eq_true hl,decide_eq_true (show l'.length<=2000000 by omega)];dsimp only;have h1:∀(a b:Nat),a<=b->D*a<=D*b:=fun a b q=>Nat.mul_le_mul_left _ q;have h2:∀(a b:Nat),a<=b->E*a<=E*b:=fun a b q=>Nat.mul_le_mul_left _ q;refine xj (fA.1 hv) hs (Nat.le_refl _) (Nat.le_refl _) fun x y s' t' hx hy hxy hst k1 k2=>Cp hc hD hE n m x y s' t' hxy hst ?_ ?_
   ·have:=lz hx;have:=h1 _ _ k1;omega
   ·have:=lz hy;have:=h2 _ _ k2;omega
  |true=>
   obtain⟨a,b,rfl,rfl,hab⟩:=hco.1 hk;obtain⟨x,y,h1,h2,h3,h4⟩:=hc.at' a b hab;dsimp only;rw[h1,h2];dsimp only;rw[<-h3,<-BJ hc hab hs]
   cases hg:x.gone||aW s a with
   |true=>exact⟨_,s,t,rfl,rfl,hs,Nat.le_refl _,Nat.le_refl _⟩
   |false=>
    rw[Bool.or_eq_false_iff]at hg;rw[hg.1];dsimp only;simp only[List.length_singleton,show(1<=2000000) by omega,decide_true];have u1:=Kw h1 hg.2;have u2:=Kw h2 (by rw[<-BJ hc hab hs];exact hg.2);have d1:=hD _ (fz h1);have d2:=hE _ (fz h2);dsimp only at d1 d2;have m1:D*(un z.2 (s++[a])+1)<=D*un z.2 s:=Nat.mul_le_mul_left _ u1;have m2:E*(un w.2 (t++[b])+1)<=E*un w.2 t:=Nat.mul_le_mul_left _ u2;rw[Nat.mul_add,Nat.mul_one]at m1 m2;obtain⟨q,s1,t1,f1,f2,f3,f4,f5⟩:=Cp hc hD hE n m x.val y.val (s++[a]) (t++[b]) h4 (hs.app ⟨hab,trivial⟩) (by omega) (by omega);rw[eD,eD,f1,f2]
    cases q with
    |false=>exact⟨_,s1,t1,rfl,rfl,f3,by omega,by omega⟩
    |true=>exact⟨_,s1,t1,rfl,rfl,f3,by omega,by omega⟩
theorem nr {f:Vl->List Nat->Option (Bool×List Nat)}:∀{l:List Vl} {s s':List Nat},eD f l s=some (true,s')->∀x∈l,∃s1 s2,f x s1=some (true,s2)
 | [],_,_,_,x,h=>by cases h
 |a::l,s,s',h,x,hx=>by
  rw[eD]at h;split at h
  ·cases h
  ·cases h
  ·rename_i s1 h1
   rcases List.mem_cons.1 hx with rfl|hx
   ·exact⟨_,_,h1⟩
   ·exact nr h x hx
theorem Cr {f g:Vl->Option Ov}:∀{l m:List Vl},F2 (VR fo ρ) l m->(∀x y,x∈l->y∈m->VR fo ρ x y->∃q,f x=some q/\g y=some q)->∃q,ia f l=some q/\ia g m=some q/\q.length=l.length
 | [],[],_,_=>⟨_,rfl,rfl,rfl⟩
 |a::l,b::m,h,hf=>by
  obtain⟨q,h1,h2⟩:=hf a b List.mem_cons_self List.mem_cons_self h.1;obtain⟨r,g1,g2,g3⟩:=Cr h.2 fun x y hx hy=>hf x y (List.mem_cons_of_mem _ hx) (List.mem_cons_of_mem _ hy);rw[ia,ia,h1,h2];dsimp only;rw[g1,g2];exact⟨_,rfl,rfl,by simp[g3]⟩
theorem LG (hc:CR fo ρ z w):∀(n m:Nat) (u v:Vl) (s t s' t':List Nat),VR fo ρ u v->dw z.2 n u s=some (true,s')->dw w.2 m v t=some (true,t')->∃o,jd z.2 n u=some o/\jd w.2 m v=some o
 |0,_,_,_,_,_,_,_,_,h,_=>by cases h
 |_+1,0,_,_,_,_,_,_,_,_,h=>by cases h
 |n+1,m+1,u,v,s,t,s',t',h,h1,h2=>by
  obtain⟨l,k,g1,g2,g3,g4,_⟩:=xD hc h
  have pick:∀{M:List (Nat×Cl)} {n:Nat} {u:Vl} {s s':List Nat} {l:List Vl},dS M u=some l->dw M (n+1) u s=some (true,s')->∀x∈l,∃s1 s2,dw M n x s1=some (true,s2):=by
   intro M n u s s' l hp hg;unfold dw at hg;rw[hp]at hg;split at hg
   ·cases hg
   ·cases hg
   ·dsimp only at hg
    split at hg
    ·cases hg
    ·exact nr hg
  have p1:=pick g1 h1;have p2:=pick g2 h2;unfold jd;rw[g1,g2];dsimp only;rw[decide_eq_true g4,decide_eq_true (show k.length<=2000000 by rw[<-g3.len];exact g4)]
  obtain⟨os,e1,e2,_⟩:=Cr (fA.1 g3) fun x y hx hy hxy=>by
   obtain⟨a1,a2,a3⟩:=p1 x hx;obtain⟨b1,b2,b3⟩:=p2 y hy;exact LG hc n m x y _ _ _ _ hxy a3 b3
  dsimp only;rw[e1,e2];obtain⟨q1,q2,q3,_⟩:=h.o;obtain⟨uk,un,ut,ua,uc⟩:=u;obtain⟨vk,vn,vt,va,vc⟩:=v;simp only[Vl.kind,Vl.num,Vl.text]at q1 q2 q3;subst q1;subst q2;subst q3;exact⟨_,rfl,rfl⟩
theorem zx {f:Vl->Option Ov}:∀{l:List Vl} {os:List Ov},(∀v∈l,∀o,f v=some o->okO o=true)->ia f l=some os->BU os=true/\os.length=l.length
 | [],_,_,h=>by cases h;exact⟨rfl,rfl⟩
 |v::l,os,hf,h=>by
  rw[ia]at h;split at h
  ·cases h
  ·rename_i o ho
   split at h
   ·cases h
   ·rename_i r hr
    cases h;obtain⟨h1,h2⟩:=zx (fun v hv=>hf v (List.mem_cons_of_mem _ hv)) hr;exact⟨by rw[BU,hf v List.mem_cons_self o ho,h1];rfl,by simp[h2]⟩
theorem Hh {M:List (Nat×Cl)}:∀(n:Nat) (v:Vl) (o:Ov),jd M n v=some o->okO o=true
 |0,_,_,h=>by cases h
 |n+1,v,o,h=>by
  unfold jd at h;split at h
  ·cases h
  ·rename_i l hl
   split at h
   ·cases h
   ·rename_i hd
    split at h
    ·cases h
    ·rename_i os hos
     obtain⟨k,m,t,a,c⟩:=v;cases h;obtain⟨h1,h2⟩:=zx (fun v _=>Hh n v) hos;rw[okO,h1,Bool.and_true,h2];exact Nat.ble_eq_true_of_le (of_decide_eq_true hd)
theorem rm {s:List Nat} {a:Nat} {x:Cl}:∀{M:List (Nat×Cl)},aK a M=some x->aK a (eR s M)=some (match aW s a with|true=>⟨true,zV⟩|false=>x)
 | [],h=>by cases h
 |(k,c)::r,h=>by
  rw[aK]at h;rw[eR,aK]
  cases hb:Nat.beq k a with
  |true=>rw[hb]at h;cases h;rw[Nat.eq_of_beq_eq_true hb];rfl
  |false=>rw[hb]at h;exact rm h
theorem nA (s:List Nat):∀M:List (Nat×Cl),(eR s M).map (·.1)=M.map (·.1)
 | []=>rfl
 |(k,c)::r=>by rw[eR,List.map_cons,List.map_cons,nA s r]
theorem Lj {ρ:Nat->Nat->Prop} {a:Nat}:∀{s t:List Nat},F2 ρ s t->(∀b,¬ρ a b)->aW s a=false
 | [],[],_,_=>rfl
 |c::s,d::t,h,n=>by
  rw[aW,rY fun e=>by subst e;exact n d h.1];exact Lj h.2 n
theorem CR.gone (h:CR fo ρ z w) {s t:List Nat} (hs:F2 ρ s t):CR fo ρ (z.1,eR s z.2) (w.1,eR t w.2) where
 at':=fun c d hcd=>by
  obtain⟨x',y',h1,h2,h3,h4⟩:=h.at' c d hcd;refine⟨_,_,rm h1,rm h2,?_⟩;rw[<-BJ h hcd hs]
  cases aW s c with
  |true=>exact⟨rfl,.zV⟩
  |false=>exact⟨h3,h4⟩
 inj:=h.inj
 b1:=kG h.b1 (nA _ _)
 b2:=kG h.b2 (nA _ _)
 n1:=(ke (nA _ _)).trans h.n1
 n2:=(ke (nA _ _)).trans h.n2
 fx:=fun p hp=>by
  have hm:aW s p.1=false:=Lj hs fun b=>(h.fx p hp).2 b;rw[rm (h.fx p hp).1,hm];exact⟨rfl,(h.fx p hp).2⟩
theorem w6:∀{M:List (Nat×Cl)} {p:Nat×Cl},p∈M->lu p.2.val<=Af M
 |(k,c)::r,p,h=>by
  rw[Af];rcases List.mem_cons.1 h with rfl|h
  ·dsimp only;omega
  ·have:=w6 h;omega
theorem CU {M:List (Nat×Cl)} {l:List Vl} {x:Vl} {s:List Nat} {D:Nat} (hD:D=max (Af M) (nQ l)) (hx:x∈l):lu x+D*un M s<=Ad M l:=by
 have h1:=lz hx;have h2:un M s<=M.length:=List.length_filter_le _ _;have h3:D*un M s<=D*M.length:=Nat.mul_le_mul_left _ h2;unfold Ad;rw[<-hD,Nat.mul_add,Nat.mul_one];omega
theorem HN (hc:CR fo ρ z w) {y y':aZ (List Nat)} {l m:List Vl} (h:F2 (VR fo ρ) l m) (hl:l.length<=2000000):∃P Q,ox z y l=some P/\ox w y' m=some Q/\P.1=Q.1/\CR fo ρ P.2.1 Q.2.1/\(kB P.1.2 ⟨#[]⟩=true->P.1.1.length=l.length/\BU P.1.1=true):=by
 unfold ox;rw[hc.n1,hc.n2,Nat.ble_eq_true_of_le hl,Nat.ble_eq_true_of_le (show m.length<=2000000 by rw[<-h.len];exact hl)];rw[Bool.and_self];have hD:∀p∈z.2,lu p.2.val<=max (Af z.2) (nQ l):=fun p hp=>by have:=w6 hp;omega
 have hE:∀p∈w.2,lu p.2.val<=max (Af w.2) (nQ m):=fun p hp=>by have:=w6 hp;omega
 obtain⟨q,s,t,g1,g2,g3,_⟩:=xj (z:=z) (w:=w) (f:=dw z.2 (Ad z.2 l)) (g:=dw w.2 (Ad w.2 m)) (U:=un z.2 []) (V:=un w.2 []) (s:=[]) (t:=[]) h trivial (Nat.le_refl _) (Nat.le_refl _) fun x y s t hx hy hxy hst k1 k2=>Cp hc hD hE _ _ x y s t hxy hst (CU rfl hx) (CU rfl hy);rw[g1,g2]
 cases q with
 |false=>exact⟨_,_,rfl,rfl,rfl,hc,fun e=>Bool.noConfusion ((show kB LQ ⟨#[]⟩=false by kernel_rfl).symm.trans e)⟩
 |true=>
  obtain⟨b,e1,e2,_⟩:=HT hc h;dsimp only;rw[e1,e2]
  cases b with
  |true=>exact⟨_,_,rfl,rfl,rfl,hc,fun e=>Bool.noConfusion ((show kB lQ ⟨#[]⟩=false by kernel_rfl).symm.trans e)⟩
  |false=>
   have a1:=nr g1;have a2:=nr g2
   obtain⟨os,f1,f2,f3⟩:=Cr (f:=jd z.2 (Ad z.2 l)) (g:=jd w.2 (Ad w.2 m)) h fun x y hx hy hxy=>by
    obtain⟨_,_,a3⟩:=a1 x hx;obtain⟨_,_,b3⟩:=a2 y hy;exact LG hc _ _ x y _ _ _ _ hxy a3 b3
   dsimp only;rw[f1,f2];exact⟨_,_,rfl,rfl,rfl,hc.gone g3,fun _=>⟨f3,(zx (fun v _=>Hh _ v) f1).1⟩⟩
end
def SE {α:Type} (z z':aZ α):Prop:=gp z'/\∀a x,aK a z.2=some x->aK a z'.2=some x
theorem SE.refl {α:Type} {z:aZ α} (h:gp z):SE z z:=⟨h,fun _ _ q=>q⟩
theorem SE.trans {α:Type} {x y z:aZ α} (h:SE x y) (q:SE y z):SE x z:=⟨q.1,fun a v e=>q.2 a v (h.2 a v e)⟩
theorem SE.push {α:Type} {z:aZ α} (h:gp z) (x:α):SE z (z.1+1,(z.1,x)::z.2):=⟨h.push x,fun _ _ q=>h.old q⟩
section
variable (fo:FO) (ρ:Nat->Nat->Prop) (M N:List (Nat×Sc))
inductive ER:Option Nat->Option Nat->Prop
 |nil:ER none none
 |cons (a b:Nat) (x y:Sc) (h1:aK a M=some x) (h2:aK b N=some y) (hn:x.name=y.name) (hv:VR fo ρ x.val y.val) (l1:∀t,x.next=some t->t<a) (l2:∀t,y.next=some t->t<b) (hr:ER x.next y.next):ER (some a) (some b)
end
section
variable {fo:FO} {ρ ρ':Nat->Nat->Prop} {z w z' w':aZ Sc}
theorem ER.mono (h:∀a b,ρ a b->ρ' a b) (h1:SE z z') (h2:SE w w') {s t:Option Nat} (e:ER fo ρ z.2 w.2 s t):ER fo ρ' z'.2 w'.2 s t:=by
 induction e with
 |nil=>exact .nil
 |cons a b x y q1 q2 hn hv l1 l2 _ ih=>exact .cons a b x y (h1.2 _ _ q1) (h2.2 _ _ q2) hn (hv.mono h) l1 l2 ih
theorem ER.Rl (hz:gp z) {s t:Option Nat} (e:ER fo ρ z.2 w.2 s t):∀a,s=some a->a<z.1:=by
 intro a ha
 cases e with
 |nil=>cases ha
 |cons a' b x y q1 q2 _ _ _ _ _=>cases ha;exact hz.lt q1
theorem ER.QS (hw:gp w) {s t:Option Nat} (e:ER fo ρ z.2 w.2 s t):∀a,t=some a->a<w.1:=by
 intro a ha
 cases e with
 |nil=>cases ha
 |cons a' b x y q1 q2 _ _ _ _ _=>cases ha;exact hw.lt q2
theorem ER.push (hz:gp z) (hw:gp w) {s t:Option Nat} (e:ER fo ρ z.2 w.2 s t) (n:ByteArray) {u v:Vl} (h:VR fo ρ u v):ER fo ρ ((z.1,(⟨n,u,s⟩:Sc))::z.2) ((w.1,⟨n,v,t⟩)::w.2) (some z.1) (some w.1):=
 .cons z.1 w.1 ⟨n,u,s⟩ ⟨n,v,t⟩ (aP ..) (aP ..) rfl h (e.Rl hz) (e.QS hw) (e.mono (z':=(z.1+1,(z.1,⟨n,u,s⟩)::z.2)) (w':=(w.1+1,(w.1,⟨n,v,t⟩)::w.2)) (fun _ _ q=>q) (.push hz _) (.push hw _))
theorem JP {M N:List (Nat×Sc)} (name:ByteArray) {s t:Option Nat} (e:ER fo ρ M N s t):∀n m,(∀a,s=some a->a<n)->(∀a,t=some a->a<m)->∃o o',findF M name n s=some o/\findF N name m t=some o'/\O2 (VR fo ρ) o o':=by
 induction e with
 |nil=>intro n m _ _;exact⟨none,none,by cases n<;>rfl,by cases m<;>rfl,trivial⟩
 |cons a b x y q1 q2 hn hv l1 l2 _ ih=>
  intro n m g1 g2;have g1:=g1 a rfl;have g2:=g2 b rfl;obtain⟨n,rfl⟩:∃k,n=k+1:=⟨n-1,by omega⟩
  obtain⟨m,rfl⟩:∃k,m=k+1:=⟨m-1,by omega⟩
  rw[findF,findF,q1,q2];dsimp only;rw[<-hn]
  cases x.name.toList==name.toList with
  |true=>exact⟨_,_,rfl,rfl,hv⟩
  |false=>exact ih n m (fun c hc=>by have:=l1 c hc;omega) (fun c hc=>by have:=l2 c hc;omega)
theorem xV:∀(names:List ByteArray) {l m:List Vl} {z w:aZ Sc} {s t:Option Nat},gp z->gp w->names.length=l.length->F2 (VR fo ρ) l m->ER fo ρ z.2 w.2 s t->
 ∃P Q,kU names l (z,s)=some P/\kU names m (w,t)=some Q/\SE z P.1/\SE w Q.1/\ER fo ρ P.1.2 Q.1.2 P.2 Q.2
 | [],[],[],_,_,_,_,hz,hw,_,_,e=>⟨_,_,rfl,rfl,.refl hz,.refl hw,e⟩
 |n::ns,a::l,b::m,z,w,s,t,hz,hw,hn,h,e=>by
  obtain⟨P,Q,h1,h2,h3,h4,h5⟩:=xV ns (hz.push ⟨n,a,s⟩) (hw.push ⟨n,b,t⟩) (by simpa using hn) h.2 (e.push hz hw n h.1);exact⟨P,Q,h1,h2,(SE.push hz _).trans h3,(SE.push hw _).trans h4,h5⟩
def yz (t:ByteArray) (len:Nat):List ByteArray->Nat->Nat->Prop
 | [],_,_=>True
 |_::r,i,k=>i<t.size/\((((t[i]?).getD 0).toNat:Int)=49->k<len/\yz t len r (i+1) (k+1))/\(¬(((t[i]?).getD 0).toNat:Int)=49->yz t len r (i+1) k)
theorem Ky (tx:ByteArray) {l m:List Vl} (h:F2 (VR fo ρ) l m):∀(free:List ByteArray) (i k:Nat) {z w:aZ Sc} {s t:Option Nat},yz tx l.length free i k->gp z->gp w->ER fo ρ z.2 w.2 s t->
 ∃P Q,AE tx l free i k (z,s)=some P/\AE tx m free i k (w,t)=some Q/\SE z P.1/\SE w Q.1/\ER fo ρ P.1.2 Q.1.2 P.2 Q.2
 | [],_,_,_,_,_,_,_,hz,hw,e=>⟨_,_,rfl,rfl,.refl hz,.refl hw,e⟩
 |n::r,i,k,z,w,s,t,hc,hz,hw,e=>by
  obtain⟨c1,c2,c3⟩:=hc;unfold AE;rw[show Nat.blt i tx.size=true from Nat.ble_eq_true_of_le c1];dsimp only
  cases hb:(((tx[i]?).getD 0).toNat:Int)==49 with
  |false=>exact Ky tx h r (i+1) k (c3 (by simpa using hb)) hz hw e
  |true=>
   obtain⟨d1,d2⟩:=c2 (by simpa using hb);obtain⟨a,ha⟩:∃a,l[k]?=some a:=⟨_,List.getElem?_eq_getElem d1⟩
   obtain⟨b,hb,hv⟩:=h.get ha;rw[ha,hb];obtain⟨P,Q,h1,h2,h3,h4,h5⟩:=Ky tx h r (i+1) (k+1) d2 (hz.push ⟨n,a,s⟩) (hw.push ⟨n,b,t⟩) (e.push hz hw n hv);exact⟨P,Q,h1,h2,(SE.push hz _).trans h3,(SE.push hw _).trans h4,h5⟩
def OI (fo:FO) (ρ:Nat->Nat->Prop) (z w:aZ Sc) (p q:Option (Bool×(aZ Sc×Option Nat))):Prop:=
 ∃b P Q,p=some (b,P)/\q=some (b,Q)/\SE z P.1/\SE w Q.1/\ER fo ρ P.1.2 Q.1.2 P.2 Q.2
theorem Em {g:TR.Pt->Vl->aZ Sc×Option Nat->Option (Bool×(aZ Sc×Option Nat))}:∀{ps:List TR.Pt} {l m:List Vl} {z w:aZ Sc} {s t:Option Nat},ps.length=l.length->F2 (VR fo ρ) l m->gp z->gp w->ER fo ρ z.2 w.2 s t->
 (∀p∈ps,∀u v z w s t,VR fo ρ u v->gp z->gp w->ER fo ρ z.2 w.2 s t->OI fo ρ z w (g p u (z,s)) (g p v (w,t)))->OI fo ρ z w (qA g ps l (z,s)) (qA g ps m (w,t))
 | [],[],[],_,_,_,_,_,_,hz,hw,e,_=>⟨_,_,_,rfl,rfl,.refl hz,.refl hw,e⟩
 |p::ps,a::l,b::m,z,w,s,t,hn,h,hz,hw,e,hg=>by
  obtain⟨x,P,Q,h1,h2,h3,h4,h5⟩:=hg p List.mem_cons_self a b z w s t h.1 hz hw e;rw[qA,qA,h1,h2]
  cases x with
  |false=>exact⟨_,P,Q,rfl,rfl,h3,h4,h5⟩
  |true=>
   obtain⟨y,P',Q',g1,g2,g3,g4,g5⟩:=Em (z:=P.1) (w:=Q.1) (s:=P.2) (t:=Q.2) (by simpa using hn) h.2 h3.1 h4.1 h5 fun p hp=>hg p (List.mem_cons_of_mem _ hp);exact⟨y,P',Q',g1,g2,h3.trans g3,h4.trans g4,g5⟩
theorem HR:∀(n:Nat) (p:TR.Pt) (u v:Vl) (z w:aZ Sc) (s t:Option Nat),TR.wP p<=n->TR.wP p<=2000000->VR fo ρ u v->gp z->gp w->ER fo ρ z.2 w.2 s t->OI fo ρ z w (mW n p u (z,s)) (mW n p v (w,t))
 |0,p,_,_,_,_,_,_,h,_,_,_,_,_=>by have:=TR.Fm p;omega
 |n+1,p,u,v,z,w,s,t,hp,hp2,h,hz,hw,e=>by
  obtain⟨a1,a2,a3,a4,a5,_⟩:=h.o;unfold mW;rw[<-a1,<-a2,<-a3,<-a5.len]
  cases p.kind==1 with
  |true=>exact⟨_,_,_,rfl,rfl,.refl hz,.refl hw,e⟩
  |false=>
  dsimp only
  cases p.kind==2 with
  |true=>exact⟨_,_,_,rfl,rfl,.push hz _,.push hw _,e.push hz hw _ h⟩
  |false=>
  dsimp only
  cases p.kind==3 with
  |true=>exact⟨_,_,_,rfl,rfl,.refl hz,.refl hw,e⟩
  |false=>
  dsimp only
  cases p.kind==4 with
  |true=>exact⟨_,_,_,rfl,rfl,.refl hz,.refl hw,e⟩
  |false=>
  dsimp only
  cases p.kind==5 with
  |true=>exact⟨_,_,_,rfl,rfl,.refl hz,.refl hw,e⟩
  |false=>
  dsimp only
  cases p.kind==6 with
  |false=>exact⟨_,_,_,rfl,rfl,.refl hz,.refl hw,e⟩
  |true=>
  dsimp only
  cases hq:!(u.kind==5)||!(kB u.text p.text)||!(Nat.beq u.args.length p.args.length) with
  |true=>exact⟨_,_,_,rfl,rfl,.refl hz,.refl hw,e⟩
  |false=>
   simp only[Bool.or_eq_false_iff,Bool.not_eq_false']at hq;obtain⟨pk,pn,pt,pl⟩:=p;have hl:=TR.HO pk pn pt pl;dsimp only[TR.Pt.args]at hq ⊢;rw[Nat.ble_eq_true_of_le (show pl.length<=2000000 by omega)];refine Em (Nat.eq_of_beq_eq_true hq.2).symm (fA.1 a5) hz hw e fun p hp u v z w s t h hz hw e=>HR n p u v z w s t ?_ ?_ h hz hw e
   ·have:=TR.C3 (k:=pk) (n:=pn) (t:=pt) hp;omega
   ·have:=TR.C3 (k:=pk) (n:=pn) (t:=pt) hp;omega
end
def bk:FV->List Nat
 |.blk k _=>[k]
 |_=>[]
def JM (l:List Fr):List Nat:=l.flatMap fun f=>bk f.vals
def nD (z:aZ (List Fr)):Option (Nat×Nat)->Option (List Fr)
 |none=>some []
 |some q=>match aK q.1 z.2 with
  |none=>none
  |some l=>match Nat.ble q.2 l.length&&Nat.ble q.2 2000000 with
   |true=>some (l.take q.2).reverse
   |false=>none
theorem xm {a b c:Nat} (h:(Nat.ble a b&&Nat.ble a c)=true):a<=b/\a<=c:=by
 rw[Bool.and_eq_true]at h;exact⟨Nat.le_of_ble_eq_true h.1,Nat.le_of_ble_eq_true h.2⟩
theorem oU {a b c:Nat} (h:a<=b) (h2:a<=c):(Nat.ble a b&&Nat.ble a c)=true:=by
 rw[Nat.ble_eq_true_of_le h,Nat.ble_eq_true_of_le h2];rfl
theorem uH {z:aZ (List Fr)} {q:Nat×Nat} {fs:List Fr} (h:nD z (some q)=some fs):∃l,aK q.1 z.2=some l/\q.2<=l.length/\q.2<=2000000/\fs=(l.take q.2).reverse:=by
 rw[nD]at h;split at h
 ·cases h
 ·rename_i l hl
  split at h
  ·rename_i hb
   cases h;exact⟨l,hl,(xm hb).1,(xm hb).2,rfl⟩
  ·cases h
theorem EK {S:Ss} {r:Rn} {fs:List Fr} (f:Fr) (h:nD S.f r.stack=some fs) (hl:fs.length<2000000) (hb:gp S.f):
 ∃S' st,uy S r f=some ({ S with f:=S' },{ r with stack:=st })/\nD S' st=some (f::fs)/\gp S':=by
 unfold uy
 cases hs:r.stack with
 |none=>
  rw[hs]at h;cases h;refine⟨_,_,rfl,?_,hb.push _⟩;rw[nD];dsimp only;rw[aP];rfl
 |some q=>
  rw[hs]at h;obtain⟨l,h1,h2,h3,rfl⟩:=uH h;dsimp only;rw[h1];dsimp only;rw[oU h2 h3];have hlen:(l.take q.2).length=q.2:=by simp;omega
  rw[List.length_reverse,hlen]at hl;refine⟨_,_,rfl,?_,(hb.del q.1).push _⟩;rw[nD];dsimp only;rw[aP];dsimp only;rw[oU (by simp;omega) (by omega),List.take_of_length_le (by simp;omega)];simp
theorem Ih {S:Ss} {r:Rn} {f:Fr} {fs:List Fr} (h:nD S.f r.stack=some (f::fs)):∃q j l,r.stack=some (q,j+1)/\aK q S.f.2=some l/\l[j]?=some f/\j<=2000000/\nD S.f (some (q,j))=some fs:=by
 cases hs:r.stack with
 |none=>rw[hs]at h;cases h
 |some q=>
  obtain⟨a,j⟩:=q;rw[hs]at h;obtain⟨l,h1,h2,h3,h4⟩:=uH h;dsimp only at h1 h2 h3 h4
  cases j with
  |zero=>simp at h4
  |succ j=>
   have hj:l[j]?=some l[j]:=List.getElem?_eq_getElem h2;rw[List.take_add_one,hj,Option.toList_some,List.reverse_append,List.reverse_singleton,List.singleton_append,List.cons.injEq]at h4;obtain⟨rfl,rfl⟩:=h4;refine⟨a,j,l,rfl,h1,hj,by omega,?_⟩;rw[nD];dsimp only;rw[h1];dsimp only;rw[oU (by omega) (by omega)]
theorem HF {S:Ss} {r:Rn} (h:nD S.f r.stack=some []):r.stack=none\/∃q,r.stack=some (q,0):=by
 cases hs:r.stack with
 |none=>exact .inl rfl
 |some q=>
  obtain⟨a,j⟩:=q;rw[hs]at h;obtain⟨l,h1,h2,h3,h4⟩:=uH h;dsimp only at h1 h2 h3 h4
  cases j with
  |zero=>exact .inr ⟨a,rfl⟩
  |succ j=>
   have:=congrArg List.length h4;simp at this;omega
theorem iJ {S:Ss} {v:FV} {xs:List Vl} (hl:zi v=false) (h:bL S v=some xs):eL v=xs.length/\xs.length<=2000000:=by
 cases v with
 |nil=>cases h;exact⟨rfl,by simp⟩
 |nw l=>cases hl
 |blk k n=>
  unfold bL at h;dsimp only at h;split at h
  ·cases h
  ·split at h
   ·rename_i hb
    cases h;have:=xm hb;exact⟨by simp[eL];omega,by simp;omega⟩
   ·cases h
theorem E6 {S:Ss} {v:FV} {xs:List Vl} (x:Vl) (hi:zi v=false) (h:bL S v=some xs) (hl:xs.length<2000000) (hb:gp S.v):
 ∃S' w,Bp S x v=some ({ S with v:=S' },w)/\zi w=false/\(∀T:Ss,T.v=S'->bL T w=some (xs++[x]))/\gp S'/\bk w=[S.v.1]/\(∀k l,k∉bk v->aK k S.v.2=some l->aK k S'.2=some l):=by
 cases v with
 |nw l=>cases hi
 |nil=>
  cases h;refine⟨_,_,rfl,rfl,?_,hb.push _,rfl,fun k l _ hk=>hb.old hk⟩;rintro T hT;unfold bL;rw[hT];dsimp only;rw[aP];rfl
 |blk k n=>
  have h0:=iJ rfl h;unfold bL at h;unfold Bp;dsimp only at h ⊢
  cases hk:aK k S.v.2 with
  |none=>rw[hk]at h;cases h
  |some l=>
   rw[hk]at h;dsimp only at h ⊢
   cases hq:Nat.ble n l.length&&Nat.ble n 2000000 with
   |false=>rw[hq]at h;cases h
   |true=>
    rw[hq]at h;cases h;obtain⟨q1,q2⟩:=xm hq;have hlen:(l.take n).length=n:=by simp;omega
    refine⟨_,_,rfl,rfl,?_,(hb.del k).push _,rfl,fun j m hj hm=>?_⟩
    ·rintro T hT
     unfold bL;rw[hT];dsimp only;rw[aP];dsimp only;rw[oU (by simp;omega) (by omega),List.take_of_length_le (by simp;omega)]
    ·have:k≠j:=fun e=>hj (by rw[e];simp[bk])
     dsimp only;rw[ig (Nat.ne_of_gt (hb.lt hm)),uR this,hm]
section
variable (K1 K2:Ks) (fo:FO) (NR:Nat->Nat->Prop)
structure ND (p q:Nd):Prop where
 kind:q.kind=p.kind
 num:q.num=p.num
 text:q.text=p.text
 names:q.names=p.names
 free:q.free=p.free
 fn:q.fn=p.fn
 needs:p.needs=TR.ei p.kind p.num (fT p.args)
 needs2:q.needs=p.needs
 la:fT q.args=fT p.args
 args:∀j,j<fT p.args->∃c d,jn K1.a p j=some c/\jn K2.a q j=some d/\NR c d/\¬fo.rt c
 dZ:∃l m,uS K1 p=some l/\uS K2 q=some m/\F2 (fun x y=>y.pat=x.pat/\TR.wP x.pat<=2000000/\NR x.body y.body/\¬fo.rt x.body) l m
 bnd:fT p.args<=2000000/\p.free.length<=2000000/\p.names.length<=2000000/\p.text.size<=2000000
 clo:p.kind=10->0<fT p.args->∀t len,t.size=p.free.length->yz t len p.free 0 0->fo p.fn t len
def Qj (f g:Fn):Prop:=g.names=f.names/\f.names.length<=2000000/\NR f.body g.body
structure KR (m1 m2:Nat):Prop where
 node:∀a b,NR a b->∃p q,aK a K1.n.2=some p/\aK b K2.n.2=some q/\ND K1 K2 fo NR p q
 mkr:∃p q,aK m1 K1.mm.2=some p/\aK m2 K2.mm.2=some q/\
  (∀n t len,fo n t len->0<=n/\∃c d x y,AA K1 p n.toNat=some c/\AA K2 q n.toNat=some d/\aK c K1.n.2=some x/\aK d K2.n.2=some y/\ND K1 K2 fo NR x y/\0<fT x.args/\yz t len x.free 0 0)/\
  (∀ρ name xs ys,F2 (VR fo ρ) xs ys->∃o o',pI K1 p name xs=some o/\pI K2 q name ys=some o'/\O2 (fun f g=>Qj NR f g/\¬fo.rt f.body) o o')/\
  (∃es fs,aK p.actors K1.ma.2=some es/\aK q.actors K2.ma.2=some fs/\∀name,O2 (Qj NR) (aV name es) (aV name fs))/\
  (∃es,aK p.makes K1.mc.2=some es/\aK q.makes K2.mc.2=some es)
 form:∀v,∃R,tu K1 m1 v=some R/\tu K2 m2 v=some R/\(R.2=true->∀k n t l,v=.mk k n t l->fo n R.1 l.length/\R.1.size<=2000000)
variable (ρ:Nat->Nat->Prop) (S T:Ss)
structure mC (f g:Fr):Prop where
 n:∃a b,f.n=some a/\g.n=some b/\NR a b
 sc:ER fo ρ S.s.2 T.s.2 f.sc g.sc
 il:zi f.vals=false
 jl:zi g.vals=false
 v:∃xs ys,bL S f.vals=some xs/\bL T g.vals=some ys/\F2 (VR fo ρ) xs ys
 dep:g.depth=f.depth
 inF:g.inFun=f.inFun
def PI (f g:Fr):Prop:=mC fo NR ρ S T f g/\∃p,cW K1 f=some p/\eL f.vals<fT p.args
structure Inv (m1 m2:Nat) (B:Nat) (A C:List Nat) (r q:Rn):Prop where
 cr:CR fo ρ S.c T.c
 s1:gp S.s
 s2:gp T.s
 v1:gp S.v
 v2:gp T.v
 f1:gp S.f
 f2:gp T.f
 mk1:r.maker=m1
 mk2:q.maker=m2
 nm:q.names=r.names
 nl:r.names.length<=2000000
 bd:∃a b,r.body=some a/\q.body=some b/\NR a b
 se:q.self=r.self/\∀c,fo.cn=some c->(r.names,r.body,r.self)=c
 st:F2 (VR fo ρ) r.state q.state/\r.state.length<=2000000
 stk:∃fs gs,nD S.f r.stack=some fs/\nD T.f q.stack=some gs/\F2 (PI K1 fo NR ρ S T) fs gs/\(A++JM fs).Nodup/\(C++JM gs).Nodup/\fs.length<=B
end
section
variable {K1 K2:Ks} {fo:FO} {NR:Nat->Nat->Prop} {ρ ρ':Nat->Nat->Prop} {S T S' T':Ss} {m1 m2 B:Nat} {A C:List Nat} {r q:Rn} {f g:Fr}
theorem uU {v:FV} (h:∀k l,k∈bk v->aK k S.v.2=some l->aK k S'.v.2=some l) {xs:List Vl} (q:bL S v=some xs):bL S' v=some xs:=by
 cases v with
 |nil=>exact q
 |nw l=>exact q
 |blk k n=>
  unfold bL at q ⊢;dsimp only at q ⊢
  cases hk:aK k S.v.2 with
  |none=>rw[hk]at q;cases q
  |some l=>
   rw[hk]at q;rw[h k l (by simp[bk]) hk];exact q
theorem mC.mono (h:mC fo NR ρ S T f g) (hρ:∀a b,ρ a b->ρ' a b) (e1:SE S.s S'.s) (e2:SE T.s T'.s) (h1:∀k l,k∈bk f.vals->aK k S.v.2=some l->aK k S'.v.2=some l) (h2:∀k l,k∈bk g.vals->aK k T.v.2=some l->aK k T'.v.2=some l):mC fo NR ρ' S' T' f g where
 n:=h.n
 sc:=h.sc.mono hρ e1 e2
 il:=h.il
 jl:=h.jl
 v:=let ⟨xs,ys,a,b,c⟩:=h.v;⟨xs,ys,uU h1 a,uU h2 b,c.mono fun _ _ x=>x.mono hρ⟩
 dep:=h.dep
 inF:=h.inF
theorem mC.len (h:mC fo NR ρ S T f g):eL g.vals=eL f.vals:=by
 obtain⟨xs,ys,a,b,c⟩:=h.v;rw[(iJ h.il a).1,(iJ h.jl b).1,c.len]
theorem qD:∀{fs gs:List Fr},F2 (PI K1 fo NR ρ S T) fs gs->(∀a b,ρ a b->ρ' a b)->SE S.s S'.s->SE T.s T'.s->(∀k l,k∈JM fs->aK k S.v.2=some l->aK k S'.v.2=some l)->(∀k l,k∈JM gs->aK k T.v.2=some l->aK k T'.v.2=some l)->F2 (PI K1 fo NR ρ' S' T') fs gs
 | [],[],_,_,_,_,_,_=>trivial
 |f::fs,g::gs,h,hρ,e1,e2,h1,h2=>by
  refine⟨⟨h.1.1.mono hρ e1 e2 (fun k l hk=>h1 k l ?_) (fun k l hk=>h2 k l ?_),h.1.2⟩,qD h.2 hρ e1 e2 (fun k l hk=>h1 k l ?_) (fun k l hk=>h2 k l ?_)⟩
  all_goals
   rw[JM,List.flatMap_cons,List.mem_append]
   first|exact .inl hk|exact .inr hk
theorem Inv.QI (h:Inv K1 fo NR ρ S T m1 m2 B A C r q) (hρ:∀a b,ρ a b->ρ' a b) (hc:CR fo ρ' S'.c T'.c) (e1:SE S.s S'.s) (e2:SE T.s T'.s) (a1:S'.v=S.v) (a2:T'.v=T.v) (b1:S'.f=S.f) (b2:T'.f=T.f):Inv K1 fo NR ρ' S' T' m1 m2 B A C r q where
 cr:=hc
 s1:=e1.1
 s2:=e2.1
 v1:=a1 ▸ h.v1
 v2:=a2 ▸ h.v2
 f1:=b1 ▸ h.f1
 f2:=b2 ▸ h.f2
 mk1:=h.mk1
 mk2:=h.mk2
 nm:=h.nm
 nl:=h.nl
 bd:=h.bd
 se:=h.se
 st:=⟨h.st.1.mono fun _ _ x=>x.mono hρ,h.st.2⟩
 stk:=by
  obtain⟨fs,gs,x1,x2,x3,x4,x5,x6⟩:=h.stk;exact⟨fs,gs,b1 ▸ x1,b2 ▸ x2,qD x3 hρ e1 e2 (fun _ _ _ x=>a1 ▸ x) (fun _ _ _ x=>a2 ▸ x),x4,x5,x6⟩
theorem Inv.re {r' q':Rn} (h:Inv K1 fo NR ρ S T m1 m2 B A C r q) (e:(r'.maker,r'.names,r'.body,r'.self,r'.state,r'.stack)=(r.maker,r.names,r.body,r.self,r.state,r.stack)) (e2:(q'.maker,q'.names,q'.body,q'.self,q'.state,q'.stack)=(q.maker,q.names,q.body,q.self,q.state,q.stack)):Inv K1 fo NR ρ S T m1 m2 B A C r' q':=by
 simp only[Prod.mk.injEq]at e e2;obtain⟨x1,x2,x3,x4,x5,x6⟩:=e;obtain⟨y1,y2,y3,y4,y5,y6⟩:=e2;exact⟨h.cr,h.s1,h.s2,h.v1,h.v2,h.f1,h.f2,x1 ▸ h.mk1,y1 ▸ h.mk2,by rw[x2,y2];exact h.nm,x2 ▸ h.nl,by rw[x3,y3];exact h.bd,by rw[x2,x3,x4,y4];exact h.se,by rw[x5,y5];exact h.st,by rw[x6,y6];exact h.stk⟩
theorem Inv.weak (h:Inv K1 fo NR ρ S T m1 m2 B A C r q) {B':Nat} (hB:B<=B'):Inv K1 fo NR ρ S T m1 m2 B' [] [] r q:=by
 obtain⟨fs,gs,x1,x2,x3,x4,x5,x6⟩:=h.stk;exact⟨h.cr,h.s1,h.s2,h.v1,h.v2,h.f1,h.f2,h.mk1,h.mk2,h.nm,h.nl,h.bd,h.se,h.st,fs,gs,x1,x2,x3,(List.nodup_append.1 x4).2.1,(List.nodup_append.1 x5).2.1,Nat.le_trans x6 hB⟩
theorem Inv.uC {v w:FV} (h:Inv K1 fo NR ρ S T m1 m2 B (bk v) (bk w) r q):Inv K1 fo NR ρ (dY S v) (dY T w) m1 m2 B [] [] r q:=by
 have key:∀{S:Ss} {v:FV},gp S.v->gp (dY S v).v/\(dY S v).c=S.c/\(dY S v).s=S.s/\(dY S v).f=S.f/\∀k l,k∉bk v->aK k S.v.2=some l->aK k (dY S v).v.2=some l:=by
  intro S v hb
  cases v with
  |nil=>exact⟨hb,rfl,rfl,rfl,fun _ _ _ x=>x⟩
  |nw l=>exact⟨hb,rfl,rfl,rfl,fun _ _ _ x=>x⟩
  |blk k n=>exact⟨hb.del k,rfl,rfl,rfl,fun j l hj x=>(uR fun e=>hj (by rw[e];simp[bk])).trans x⟩
 obtain⟨k1,k2,k3,k4,k5⟩:=key (v:=v) h.v1;obtain⟨j1,j2,j3,j4,j5⟩:=key (v:=w) h.v2;obtain⟨fs,gs,x1,x2,x3,x4,x5,x6⟩:=h.stk;have y4:=List.nodup_append.1 x4;have y5:=List.nodup_append.1 x5;refine⟨by rw[k2,j2];exact h.cr,k3 ▸ h.s1,j3 ▸ h.s2,k1,j1,k4 ▸ h.f1,j4 ▸ h.f2,h.mk1,h.mk2,h.nm,h.nl,h.bd,h.se,h.st,fs,gs,k4 ▸ x1,j4 ▸ x2,qD x3 (fun _ _ x=>x) ⟨k3 ▸ h.s1,fun _ _ x=>k3 ▸ x⟩ ⟨j3 ▸ h.s2,fun _ _ x=>j3 ▸ x⟩ (fun k l hk=>k5 k l fun hn=>y4.2.2 _ hn _ hk rfl) (fun k l hk=>j5 k l fun hn=>y5.2.2 _ hn _ hk rfl),y4.2.1,y5.2.1,x6⟩
end
theorem nG {a b c d:Int} {t u:ByteArray}:tY ⟨a,b,t,c,d,u,[],[]⟩:=⟨rfl,rfl,Nat.zero_le _⟩
def R3 (z:aZ Sc) (names:List ByteArray) (l:List Vl) (s:Option Nat):Prop:=names.length=l.length/\∃z0 P,gp z0/\kU names l (z0,none)=some P/\SE P.1 z/\s=P.2
def NJ (fo:FO) (S:Ss) (r:Rn) (f:Fr):Prop:=∀a,f.n=some a->fo.rt a->f.depth=0/\f.inFun=false/\R3 S.s r.names r.state f.sc
theorem NJ.no {fo:FO} {S:Ss} {r:Rn} {f:Fr} {a:Nat} (h:f.n=some a) (n:¬fo.rt a):NJ fo S r f:=fun b e q=>by rw[h]at e;cases e;exact absurd q n
theorem NJ.mono {fo:FO} {S S':Ss} {r:Rn} {f:Fr} (h:NJ fo S r f) (e:SE S.s S'.s):NJ fo S' r f:=fun a x y=>
 let ⟨h1,h2,h3,z,P,h4,h5,h6,h7⟩:=h a x y
 ⟨h1,h2,h3,z,P,h4,h5,h6.trans e,h7⟩
def WN (K:Ks) (r:Rn):Prop:=∃n,cW K r.pause=some n/\¬n.needs<0/\¬(fT n.args:Int)<n.needs/\n.kind=18/\r.last=iQ n
section
variable (K1 K2:Ks) (fo:FO) (NR:Nat->Nat->Prop) (ρ:Nat->Nat->Prop) (S T:Ss)
def Go (r q:Rn):Prop:=(r.cur.n=none/\q.cur.n=none/\VR fo ρ r.val q.val)\/(mC fo NR ρ S T r.cur q.cur/\r.cur.vals=.nil/\q.cur.vals=.nil/\NJ fo S r r.cur)
def Pa (r q:Rn):Prop:=mC fo NR ρ S T r.pause q.pause/\r.pause.vals=.nil/\q.pause.vals=.nil/\
 (0<=r.last.num->∃n m a b,cW K1 r.pause=some n/\cW K2 q.pause=some m/\jn K1.a n 0=some a/\jn K2.a m 0=some b/\NR a b/\¬fo.rt a)/\NJ fo S r r.pause/\WN K1 r
structure FI (m1 m2 B:Nat) (r q:Rn):Prop where
 inv:Inv K1 fo NR ρ S T m1 m2 B [] [] r q
 mode:q.mode=r.mode
 last:q.last=r.last
 go:r.mode=0->Go fo NR ρ S T r q
 pa:r.mode=1->Pa K1 K2 fo NR ρ S T r q
def MO (o:Ou) (r:Rn):Prop:=(r.mode=3/\(o.kind=8\/o.kind=9))\/(r.mode=1/\o.kind=7/\o=r.last)\/(r.mode=2/\o.kind=4)\/(r.mode=0/\(o.kind=2\/o.kind=3\/o.kind=5\/o.kind=6))
def Q8 (r q:Rn):Prop:=(r.out=none/\q.out=none/\r.mode=0)\/∃a b o,r.out=some a/\q.out=some b/\aK a S.o.2=some o/\aK b T.o.2=some o/\MO o r/\tY o
end
def Z (r q:Rn):Prop:=r.out=none/\q.out=none/\r.mode=0/\q.mode=0/\q.last=r.last
section
variable (K1 K2:Ks) (fo:FO) (NR:Nat->Nat->Prop) (ρ:Nat->Nat->Prop) (m1 m2 B:Nat)
def PK (P Q:Ss×Rn):Prop:=∃ρ',(∀a b,ρ a b->ρ' a b)/\FI K1 K2 fo NR ρ' P.1 Q.1 m1 m2 B P.2 Q.2/\Q8 P.1 Q.1 P.2 Q.2
def tj (p q:Option (Ss×Rn)):Prop:=∃P Q,p=some P/\q=some Q/\PK K1 K2 fo NR ρ m1 m2 B P Q
end
section
variable {K1 K2:Ks} {fo:FO} {NR:Nat->Nat->Prop} {ρ ρ':Nat->Nat->Prop} {S T S' T':Ss} {m1 m2 B:Nat} {A C:List Nat} {r q:Rn} {f g:Fr} {n m:Nd}
theorem tj.le (hρ:∀a b,ρ a b->ρ' a b) {p p':Option (Ss×Rn)} (h:tj K1 K2 fo NR ρ' m1 m2 B p p'):tj K1 K2 fo NR ρ m1 m2 B p p':=by
 obtain⟨P,Q,h1,h2,ρ2,h3,h4⟩:=h;exact⟨P,Q,h1,h2,ρ2,fun _ _ x=>h3 _ _ (hρ _ _ x),h4⟩
theorem Inv.o (h:Inv K1 fo NR ρ S T m1 m2 B A C r q) (x y:aZ Ou):Inv K1 fo NR ρ { S with o:=x } { T with o:=y } m1 m2 B A C r q:=
 h.QI (fun _ _ x=>x) h.cr (.refl h.s1) (.refl h.s2) rfl rfl rfl rfl
theorem Inv.cg (h:Inv K1 fo NR ρ S T m1 m2 B A C r q) (hρ:∀a b,ρ a b->ρ' a b) {x y:aZ Cl} (hc:CR fo ρ' x y) (u v:aZ (List Nat)):Inv K1 fo NR ρ' { S with c:=x,g:=u } { T with c:=y,g:=v } m1 m2 B A C r q:=
 h.QI hρ hc (.refl h.s1) (.refl h.s2) rfl rfl rfl rfl
theorem Inv.sc (h:Inv K1 fo NR ρ S T m1 m2 B A C r q) {x y:aZ Sc} (e1:SE S.s x) (e2:SE T.s y):Inv K1 fo NR ρ { S with s:=x } { T with s:=y } m1 m2 B A C r q:=
 h.QI (fun _ _ x=>x) h.cr e1 e2 rfl rfl rfl rfl
theorem HD (h:Inv K1 fo NR ρ S T m1 m2 B A C r q) (o:Ou) (ho:o.kind=8\/o.kind=9) (hk:tY o):PK K1 K2 fo NR ρ m1 m2 B ({ S with o:=(S.o.1+1,(S.o.1,o)::S.o.2) },uz r o S.o.1) ({ T with o:=(T.o.1+1,(T.o.1,o)::T.o.2) },uz q o T.o.1):=by
 have h:=h.o (S.o.1+1,(S.o.1,o)::S.o.2) (T.o.1+1,(T.o.1,o)::T.o.2);refine⟨ρ,fun _ _ x=>x,⟨?_,rfl,rfl,fun e=>(by cases e),fun e=>(by cases e)⟩,.inr ⟨_,_,o,rfl,rfl,aP ..,aP ..,.inl ⟨rfl,ho⟩,hk⟩⟩;exact⟨h.cr,h.s1,h.s2,h.v1,h.v2,h.f1,h.f2,h.mk1,h.mk2,h.nm,h.nl,h.bd,h.se,h.st,[],[],rfl,rfl,trivial,List.nodup_nil,List.nodup_nil,Nat.zero_le _⟩
theorem dG (h:Inv K1 fo NR ρ S T m1 m2 B A C r q) (w:ByteArray):tj K1 K2 fo NR ρ m1 m2 B (some (dV S r w)) (some (dV T q w)):=⟨_,_,rfl,rfl,HD h _ (.inr rfl) nG⟩
theorem tW (h:Inv K1 fo NR ρ S T m1 m2 B [] [] r q) (z:Z r q) {u v:Vl} (hv:VR fo ρ u v):tj K1 K2 fo NR ρ m1 m2 B (some (S,kI r u)) (some (T,kI q v)):=by
 obtain⟨z1,z2,z3,z4,z5⟩:=z;exact⟨_,_,rfl,rfl,ρ,fun _ _ x=>x,⟨h.re rfl rfl,z4.trans z3.symm,z5,fun _=>.inl ⟨rfl,rfl,hv⟩,fun e=>(by rw[show(kI r u).mode=r.mode from rfl,z3]at e;cases e)⟩,.inl ⟨z1,z2,z3⟩⟩
theorem xG (h:Inv K1 fo NR ρ S T m1 m2 B [] [] r q) (z:Z r q) {a b:Nat} {s t:Option Nat} (hn:NR a b/\¬fo.rt a) (hs:ER fo ρ S.s.2 T.s.2 s t) (hd:g.depth=f.depth) (hi:g.inFun=f.inFun):tj K1 K2 fo NR ρ m1 m2 B (some (S,kJ r a f s)) (some (T,kJ q b g t)):=by
 obtain⟨z1,z2,z3,z4,z5⟩:=z;exact⟨_,_,rfl,rfl,ρ,fun _ _ x=>x,⟨h.re rfl rfl,z4.trans z3.symm,z5,fun _=>.inr ⟨⟨⟨a,b,rfl,rfl,hn.1⟩,hs,rfl,rfl,⟨[],[],rfl,rfl,trivial⟩,hd,hi⟩,rfl,rfl,.no rfl hn.2⟩,fun e=>(by rw[show(kJ r a f s).mode=r.mode from rfl,z3]at e;cases e)⟩,.inl ⟨z1,z2,z3⟩⟩
theorem xw (h:Inv K1 fo NR ρ S T m1 m2 B [] [] r q) (z:Z r q) (o:Ou) (ho:o.kind=2\/o.kind=3\/o.kind=5\/o.kind=6) (hk:tY o):tj K1 K2 fo NR ρ m1 m2 B (some (nN S r o)) (some (nN T q o)):=by
 obtain⟨z1,z2,z3,z4,z5⟩:=z;have h:=h.o (S.o.1+1,(S.o.1,o)::S.o.2) (T.o.1+1,(T.o.1,o)::T.o.2);exact⟨_,_,rfl,rfl,ρ,fun _ _ x=>x,⟨h.re rfl rfl,z4.trans z3.symm,z5,fun _=>.inl ⟨rfl,rfl,VR.vI rfl (by simp)⟩,fun e=>(by rw[show(nN S r o).2.mode=r.mode from rfl,z3]at e;cases e)⟩,.inr ⟨_,_,o,rfl,rfl,aP ..,aP ..,.inr (.inr (.inr ⟨z3,ho⟩)),hk⟩⟩
theorem OG (h:Inv K1 fo NR ρ S T m1 m2 B [] [] r q) (z:Z r q) (o:Ou) (ho:o.kind=4) (hk:tY o):tj K1 K2 fo NR ρ m1 m2 B (some (Og (nN S r o))) (some (Og (nN T q o))):=by
 obtain⟨z1,z2,z3,z4,z5⟩:=z;have h:=h.o (S.o.1+1,(S.o.1,o)::S.o.2) (T.o.1+1,(T.o.1,o)::T.o.2);exact⟨_,_,rfl,rfl,ρ,fun _ _ x=>x,⟨h.re rfl rfl,rfl,z5,fun e=>(by cases e),fun e=>(by cases e)⟩,.inr ⟨_,_,o,rfl,rfl,aP ..,aP ..,.inr (.inr (.inl ⟨rfl,ho⟩)),hk⟩⟩
theorem Z.stack {a b:Option (Nat×Nat)} (z:Z r q):Z { r with stack:=a } { q with stack:=b }:=z
theorem oH (kr:KR K1 K2 fo NR m1 m2) (h:mC fo NR ρ S T f g):∃n m,cW K1 f=some n/\cW K2 g=some m/\ND K1 K2 fo NR n m:=by
 obtain⟨a,b,e1,e2,hab⟩:=h.n;obtain⟨n,m,h1,h2,h3⟩:=kr.node a b hab;exact⟨n,m,by unfold cW;rw[e1];exact h1,by unfold cW;rw[e2];exact h2,h3⟩
theorem wu (h:Inv K1 fo NR ρ S T m1 m2 B (bk f.vals) (bk g.vals) r q) (z:Z r q) (hf:mC fo NR ρ S T f g) (hB:B<2000000) (hn:cW K1 f=some n) (nd:ND K1 K2 fo NR n m) {j:Nat} (hl:eL f.vals<fT n.args) (hj:j<fT n.args):
 tj K1 K2 fo NR ρ m1 m2 (B+1) (gD K1 S r f n j) (gD K2 T q g m j):=by
 obtain⟨fs,gs,x1,x2,x3,x4,x5,x6⟩:=h.stk;obtain⟨S',st,p1,p2,p3⟩:=EK f x1 (by omega) h.f1;obtain⟨T',tt,q1,q2,q3⟩:=EK g x2 (by rw[<-x3.len];omega) h.f2;obtain⟨c,d,a1,a2,a3⟩:=nd.args j hj;unfold gD;rw[p1,q1];dsimp only;rw[a1,a2]
 have hi:Inv K1 fo NR ρ { S with f:=S' } { T with f:=T' } m1 m2 (B+1) [] [] { r with stack:=st } { q with stack:=tt }:=
  ⟨h.cr,h.s1,h.s2,h.v1,h.v2,p3,q3,h.mk1,h.mk2,h.nm,h.nl,h.bd,h.se,h.st,f::fs,g::gs,p2,q2,
    qD (S:=S) (T:=T) ⟨⟨hf,n,hn,hl⟩,x3⟩ (fun _ _ x=>x) (.refl h.s1) (.refl h.s2) (fun _ _ _ x=>x) (fun _ _ _ x=>x),
    by rw[List.nil_append,JM,List.flatMap_cons];exact x4,by rw[List.nil_append,JM,List.flatMap_cons];exact x5,by simpa using x6⟩
 exact xG hi z.stack a3 hf.sc hf.dep hf.inF
theorem ND.eager (nd:ND K1 K2 fo NR n m):gQ m=gQ n/\gU m=gU n:=by
 have:gQ m=gQ n:=by unfold gQ;rw[nd.kind,nd.text,nd.la]
 refine⟨this,?_⟩;unfold gU;rw[nd.la,nd.needs2,nd.kind,this]
theorem xQ (nd:ND K1 K2 fo NR n m) (hle:¬(fT n.args:Int)<n.needs):gU n<=(fT n.args:Int)/\((((n.kind==7)||(n.kind==6))||gQ n)=false->gU n=n.needs)/\((((n.kind==7)||(n.kind==6))||gQ n)=true->gU n=1):=by
 have hk:(((n.kind==7)||(n.kind==6))||gQ n)=true->1<=fT n.args:=by
  intro h;have hn:=nd.needs;simp only[Bool.or_eq_true]at h;rcases h with(h|h)|h
  ·have h:=eq_of_beq h
   rw[h]at hn;have:n.needs=3:=hn;omega
  ·have h:=eq_of_beq h
   rw[h]at hn;have:n.needs=2:=hn;omega
  ·unfold gQ at h
   simp only[Bool.and_eq_true]at h;have:=eq_of_beq h.2;omega
 unfold gU;rw[decide_eq_false hle];dsimp only
 cases hq:((n.kind==7)||(n.kind==6))||gQ n with
 |true=>have:=hk hq;exact⟨by dsimp only;omega,fun e=>(by cases e),fun _=>rfl⟩
 |false=>exact⟨by dsimp only;omega,fun _=>rfl,fun e=>(by cases e)⟩
end
end MN
