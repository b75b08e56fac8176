/- Part of a machine over plain values. No conditions. -/
import Derived.Test.YtdmopjgjhfhfdaaGreatDoorAMCall
set_option linter.all false
set_option maxRecDepth 100000
namespace Go.AM
section
variable {P:Program} {ty:Nat->Option TI} {n:Nat} {o:Oper} {e:Env} {h:Heap} {K:AK}
mutual
def AV.xA (σ:Nat->Nat):AV->AV
 |.agg cs=>.agg (AV.p9 σ cs)
 |.cI cs=>.cI (AV.p9 σ cs)
 |.fn f a b=>.fn f (AV.p9 σ a) (AV.p9 σ b)
 |.ptr l off=>.ptr (σ l) off
 |.ar l=>.ar (σ l)
 |.ap l i=>.ap (σ l) i
 |v=>v
def AV.p9 (σ:Nat->Nat):List AV->List AV
 | []=>[]
 |v::r=>AV.xA σ v::AV.p9 σ r
end
theorem kL (σ:Nat->Nat):∀(xs:List AV) (j:Nat),(AV.p9 σ xs)[j]?=(xs[j]?).map (AV.xA σ)
 | [],j=>by simp[AV.p9]
 |x::r,0=>by simp[AV.p9]
 |x::r,j+1=>by simp[AV.p9,kL σ r j]
theorem gB (σ:Nat->Nat) (xs:List AV):(AV.p9 σ xs).length=xs.length:=by
 induction xs with
 |nil=>rfl
 |cons x r ih=>simp[AV.p9,ih]
def bu.xA (σ:Nat->Nat):bu->bu
 |.cells cs=>.cells (AV.p9 σ cs)
 |x=>x
theorem bu.qP (σ:Nat->Nat) (x:bu):(x.xA σ).dP=x.dP:=by cases x<;>rfl
theorem aH.xA {g g2:Gh} {w:World} {dom dom2:Nat->Prop} (σ:Nat->Nat) (d:Nat->Bool) (hi:∀b o v,bT g w b o=some v->bT g2 w b o=some v)
 (hd:∀l,dom l->d l=true->dom2 (σ l)/\g2.ρ (σ l)=g.ρ l) {ow ow2:Option bg} (ho:∀o b,ow=some o->g.own b=some o->∃o2,ow2=some o2/\g2.own b=some o2/\g2.pre b=g.pre b)
 {v:Value} {x:AV} (r:aH g w dom ow v x) (hx:x.within d=true) (hsg:∀s k a,g.σ s k=some a->g2.σ s k=some a:=by exact fun _ _ _ q=>q):aH g2 w dom2 ow2 v (x.xA σ):=by
 induction r generalizing ow2 with
 |top ow v=>exact .top _ _
 |p ow v x h=>exact .p _ _ _ (h.mono hi hsg)
 |c ow v h1=>exact .c _ _ h1
 |cx ow=>exact .cx _
 |es ow a cap sz hs=>exact .es _ a cap sz hs
 |full ow a sz xs hz h=>exact .full _ a sz xs hz (h.mono hi hsg)
 |own o a cap sz xs cs E hz h hw hp hb hs=>
  obtain⟨o2,rfl,h2,h3⟩:=ho o a.block rfl hw;exact .own o2 a cap sz xs cs E hz (h.mono hi hsg) h2 (h3.trans hp) hb hs
 |ptr ow l off h=>
  obtain⟨h1,h2⟩:=hd l h (by simpa[AV.within] using hx);rw[<-h2];exact .ptr _ _ off h1
 |vp ow a cs f hs hm hxx=>exact .vp _ a cs f hs (fun i y h=>⟨hi _ _ _ (hm i y h).1,(hm i y h).2⟩) (fun i y h=>(hxx i y h).mono hi hsg)
 |agg ow vs cs hl h1 _ ih=>
  refine .agg _ vs _ (by rw[gB];exact hl) h1 (fun j v c q1 q2=>?_);rw[kL]at q2
  cases hq:cs[j]? with
  |none=>simp[hq]at q2
  |some c0=>
   simp only[hq,Option.map_some,Option.some.injEq]at q2;subst q2;exact ih j v c0 q1 hq (fun _ _ h=>by cases h) (bZ d cs (by simpa[AV.within] using hx) j c0 hq)
 |cI ow vs cs hl _ ih=>
  refine .cI _ vs _ (by rw[gB];exact hl) (fun j v c q1 q2=>?_);rw[kL]at q2
  cases hq:cs[j]? with
  |none=>simp[hq]at q2
  |some c0=>
   simp only[hq,Option.map_some,Option.some.injEq]at q2;subst q2;exact ih j v c0 q1 hq (fun _ _ h=>by cases h) (bZ d cs (by simpa[AV.within] using hx) j c0 hq)
 |ar ow l m h hn=>
  obtain⟨h1,h2⟩:=hd l h (by simpa[AV.within] using hx);rw[<-h2]at hn ⊢;exact .ar _ _ m h1 hn
 |ap ow l i h=>obtain⟨h1,h2⟩:=hd l h (by simpa[AV.within] using hx);rw[<-h2];exact .ap _ _ i h1
 |wM ow b v h=>exact .wM _ b v h
 |fn ow f fs cs first caps h1 h2 _ _ ih1 ih2=>
  have hx:AV.dH d first=true/\AV.dH d caps=true:=by simpa[AV.within] using hx
  refine .fn _ f fs cs _ _ (by rw[gB];exact h1) (by rw[gB];exact h2) (fun j v c q1 q2=>?_) (fun j v c q1 q2=>?_)
  ·rw[kL]at q2
   cases hq:first[j]? with
   |none=>simp[hq]at q2
   |some c0=>
    simp only[hq,Option.map_some,Option.some.injEq]at q2;subst q2;exact ih1 j v c0 q1 hq (fun _ _ h=>by cases h) (bZ d first hx.1 j c0 hq)
  ·rw[kL]at q2
   cases hq:caps[j]? with
   |none=>simp[hq]at q2
   |some c0=>
    simp only[hq,Option.map_some,Option.some.injEq]at q2;subst q2;exact ih2 j v c0 q1 hq (fun _ _ h=>by cases h) (bZ d caps hx.2 j c0 hq)
mutual
theorem zZ (d:Nat->Bool) (hd:∀l,d l=true):∀(x:AV),x.within d=true
 |.agg cs=>by simp only[AV.within];exact kC d hd cs
 |.cI cs=>by simp only[AV.within];exact kC d hd cs
 |.fn f a b=>by simp only[AV.within,Bool.and_eq_true];exact⟨kC d hd a,kC d hd b⟩
 |.ptr l off=>by simp[AV.within,hd]
 |.ar l=>by simp[AV.within,hd]
 |.ap l i=>by simp[AV.within,hd]
 |.wM _=>rfl
 |.top=>rfl
 |.p _=>rfl
 |.c _=>rfl
 |.cx=>rfl
 |.es _=>rfl
 |.so _ _=>rfl
 |.vp _=>rfl
theorem kC (d:Nat->Bool) (hd:∀l,d l=true):∀(xs:List AV),AV.dH d xs=true
 | []=>rfl
 |x::r=>by simp only[AV.dH,Bool.and_eq_true];exact⟨zZ d hd x,kC d hd r⟩
end
def gj:List Nat->Nat->Nat->Nat
 | [],_,l=>l
 |x::r,k,l=>match Nat.beq x l with|true=>bP+k|false=>gj r (k+1) l
def eg (R:List Nat) (B:Nat) (l:Nat):Nat:=match Nat.ble bP l with|true=>R.getD (l-bP) 0|false=>B+l
def pN (h:Heap) (σ:Nat->Nat) (d:Nat->Bool):List Nat->Nat->Option Heap
 | [],_=>some []
 |x::r,k=>match aF h x with
  |some ob=>match ob.within d,pN h σ d r (k+1) with
   |true,some hh=>some ((bP+k,ob.xA σ)::hh)
   |_,_=>none
  |none=>none
def nodupB:List Nat->Bool
 | []=>true
 |x::r=>!(aW r x)&&nodupB r
def aO:Heap->List Nat
 | []=>[]
 |(l,_)::r=>l::aO r
def pG (h:Heap) (B m:Nat):List Nat->Bool
 | []=>true
 |l::r=>(match Nat.ble bP l with|true=>Nat.blt (l-bP) m|false=>fq h (B+l))&&pG h B m r
def lq (ks:List Nat):Nat->Bool
 |0=>true
 |k+1=>aW ks (bP+k)&&lq ks k
def dW (R:List Nat) (B:Nat):Heap->Heap
 | []=>[]
 |(l,x)::r=>(eg R B l,x.xA (eg R B))::dW R B r
def fD (hs:Heap):Heap->Bool
 | []=>true
 |(l,ob)::r=>(match ob with
  |.bJ b _=>(match aF hs l with|some (.bJ b' _)=>Nat.beq b b'|_=>false)
  |_=>true)&&fD hs r
theorem A3 {hs:Heap}:∀{h':Heap},fD hs h'=true->∀{l b:Nat} {vs:List Value},aF h' l=some (.bJ b vs)->∃vs',aF hs l=some (.bJ b vs')
 | [],_,l,b,vs,hl=>by simp[aF]at hl
 |(k,ob)::r,hg,l,b,vs,hl=>by
  simp only[fD,Bool.and_eq_true]at hg
  by_cases e1:k=l
  ·subst e1
   rw[aQ]at hl;cases hl;have h1:=hg.1;simp only at h1;split at h1
   ·rename_i b' vs' hq
    have:=Nat.eq_of_beq_eq_true h1;subst this;exact⟨vs',hq⟩
   ·cases h1
  ·rw[aT e1]at hl
   exact A3 hg.2 hl
def au (P:Program) (f:Nat) (args:List AV) (hs:Heap) (r:AV) (h':Heap):Prop:=
 (mG P f/\fD hs h'=true)/\∀(g:Gh) (w:World) (vs:List Value),gx g w hs->(∀b ow,g.own b=some ow->b<w.heap.size)->vs.length=args.length->(∀(j:Nat) (v:Value) (x:AV),vs[j]?=some v->args[j]?=some x->aH g w (aE hs) none v x)->
   Calls P f vs.toArray w fun en w'=>∃v g',en=.returned v/\aH g' w' (aE h') (some .ret) v r/\gx g' w' h'/\(∀b ow,g'.own b=some ow->b<w'.heap.size)/\Ext g w g' w'
inductive cU (P:Program) (f:Nat) (args:List AV) (h:Heap) (K:List Nat->Heap->AV->Prop):Prop
 |pure (r:AV) (hf:AV.pJ args=true) (s:aU P f args r) (hk:K [] [] r)
 |mem (R:List Nat) (B:Nat) (hs:Heap) (r:AV) (h':Heap) (h1:(AV.dH (aW R) args&&nodupB R)=true) (h2:pN h (gj R 0) (aW R) R 0=some hs) (s:au P f (AV.p9 (gj R 0) args) hs r h')
  (h3:(nodupB (aO h')&&pG h B R.length (aO h')&&lq (aO h') R.length)=true) (hk:K R (dW R B h') (r.xA (eg R B)))
end
section
variable {P:Program} {ty:Nat->Option TI} {n:Nat} {o:Oper} {e:Env} {h:Heap} {K:AK}
theorem pZ (l:List Nat) (i:Nat):aW l i=true↔i∈l:=by
 refine⟨jf l i,fun hi=>?_⟩
 induction l with
 |nil=>cases hi
 |cons x r ih=>
  simp only[aW]
  by_cases q:x=i
  ·subst q;simp
  ·rw[beq_false q]
   rcases List.mem_cons.1 hi with rfl|hi
   ·exact absurd rfl q
   ·exact ih hi
theorem mI:∀{R:List Nat},nodupB R=true->R.Nodup
 | [],_=>List.nodup_nil
 |x::r,h=>by
  simp only[nodupB,Bool.and_eq_true,Bool.not_eq_true']at h;refine List.nodup_cons.2 ⟨fun hm=>?_,mI h.2⟩;rw[(pZ r x).2 hm]at h;cases h.1
theorem jC:∀(R:List Nat) (k j l:Nat),R.Nodup->R[j]?=some l->gj R k l=bP+(k+j)
 | [],k,j,l,_,hj=>by simp at hj
 |x::r,k,0,l,_,hj=>by simp at hj;subst hj;simp[gj]
 |x::r,k,j+1,l,hn,hj=>by
  simp at hj;have hne:x≠l:=fun q=>by subst q;exact(List.nodup_cons.1 hn).1 (List.mem_of_getElem? hj)
  simp only[gj,beq_false hne];rw[jC r (k+1) j l (List.nodup_cons.1 hn).2 hj];omega
theorem rD {σ:Nat->Nat} {d:Nat->Bool}:∀(R:List Nat) (k:Nat) (hs:Heap),pN h σ d R k=some hs->
 (∀x ob,aF hs x=some ob->∃j l ob0,x=bP+(k+j)/\R[j]?=some l/\aF h l=some ob0/\ob0.within d=true/\ob=ob0.xA σ)/\
 (∀(j l:Nat),R[j]?=some l->∃ob0,aF h l=some ob0/\aF hs (bP+(k+j))=some (ob0.xA σ))
 | [],k,hs,hh=>by
   simp[pN]at hh;subst hh;exact⟨fun x ob q=>by simp[aF]at q,fun j l q=>by simp at q⟩
 |x0::r,k,hs,hh=>by
  simp only[pN]at hh;split at hh
  ·rename_i ob0 hob
   split at hh
   ·rename_i h1 hw hs1
    cases hh;obtain⟨i1,i2⟩:=rD r (k+1) h1 hs1;refine⟨fun x ob q=>?_,fun j l q=>?_⟩
    ·by_cases e1:bP+k=x
     ·subst e1;rw[aQ]at q;cases q
      exact⟨0,x0,ob0,by omega,rfl,hob,hw,rfl⟩
     ·rw[aT e1]at q
      obtain⟨j,l,ob1,q1,q2,q3,q4,q5⟩:=i1 x ob q;exact⟨j+1,l,ob1,by omega,by simpa using q2,q3,q4,q5⟩
    ·cases j with
     |zero=>simp at q;subst q;exact⟨ob0,hob,by rw[Nat.add_zero,aQ]⟩
     |succ j=>
      simp at q;obtain⟨ob1,q1,q2⟩:=i2 j l q;refine⟨ob1,q1,?_⟩;rw[aT (by omega),<-q2];congr 1;omega
   ·cases hh
  ·cases hh
theorem oq:∀(L:Heap) (x:Nat),x∉aO L->aF L x=none
 | [],x,_=>rfl
 |(k,v)::r,x,hx=>by
  simp only[aO,List.mem_cons,not_or]at hx;rw[aT (fun q=>hx.1 q.symm)];exact oq r x hx.2
theorem eS:∀(L:Heap) (x:Nat) (ob:bu),aF L x=some ob->x∈aO L
 | [],x,ob,hx=>by simp[aF]at hx
 |(k,v)::r,x,ob,hx=>by
  simp only[aO,List.mem_cons]
  by_cases q:k=x
  ·exact .inl q.symm
  ·rw[aT q]at hx;exact .inr (eS r x ob hx)
theorem dU:∀(L:Heap) (x:Nat),x∈aO L->∃ob,aF L x=some ob
 | [],x,hx=>by cases hx
 |(k,v)::r,x,hx=>by
  by_cases q:k=x
  ·subst q;exact⟨v,aQ _ _ _⟩
  ·rw[aT q]
   simp only[aO,List.mem_cons]at hx;rcases hx with rfl|hx
   ·exact absurd rfl q
   ·exact dU r x hx
theorem o9:∀(L H:Heap) (x:Nat),(aO L).Nodup->aF (L.reverse++H) x=match aF L x with|some ob=>some ob|none=>aF H x
 | [],H,x,_=>rfl
 |(k,v)::r,H,x,hn=>by
  simp only[aO]at hn;rw[List.reverse_cons,List.append_assoc,o9 r _ x (List.nodup_cons.1 hn).2]
  by_cases q:k=x
  ·subst q
   rw[oq r k (List.nodup_cons.1 hn).1,aQ];show aF ((k,v)::H) k=some v;rw[aQ]
  ·rw[aT q]
   cases aF r x with
   |some ob=>rfl
   |none=>show aF ((k,v)::H) x=aF H x;rw[aT q]
theorem Br {B m:Nat}:∀(ks:List Nat),pG h B m ks=true->∀l∈ks,(bP<=l/\l-bP<m)\/(l<bP/\fq h (B+l)=true)
 | [],_,l,hl=>by cases hl
 |k::r,hc,l,hl=>by
  simp only[pG,Bool.and_eq_true]at hc;rcases List.mem_cons.1 hl with rfl|hl
  ·have h1:=hc.1
   split at h1
   ·rename_i q
    left;exact⟨by rw[Nat.ble_eq]at q;exact q,by rw[Nat.blt_eq]at h1;exact h1⟩
   ·rename_i q
    right
    refine⟨?_,h1⟩;rcases Nat.lt_or_ge l bP with q'|q'
    ·exact q'
    ·rw[Nat.ble_eq_true_of_le q']at q;cases q
  ·exact Br r hc.2 l hl
theorem wC {ks:List Nat}:∀(m:Nat),lq ks m=true->∀k,k<m->bP+k∈ks
 |0,_,k,hk=>by omega
 |m+1,hc,k,hk=>by
  simp only[lq,Bool.and_eq_true]at hc
  by_cases q:k=m
  ·subst q;exact jf _ _ hc.1
  ·exact wC m hc.2 k (by omega)
theorem fc {R:List Nat} {B:Nat}:∀(L:Heap),aO (dW R B L)=(aO L).map (eg R B)
 | []=>rfl
 |(k,v)::r=>by simp[dW,aO,fc r]
theorem rU {f:Nat->Nat}:∀(l:List Nat),l.Nodup->(∀a∈l,∀b∈l,f a=f b->a=b)->(l.map f).Nodup
 | [],_,_=>List.nodup_nil
 |x::r,hn,hi=>by
  refine List.nodup_cons.2 ⟨fun hm=>?_,rU r (List.nodup_cons.1 hn).2 (fun a ha b hb=>hi a (by simp[ha]) b (by simp[hb]))⟩;obtain⟨y,hy,he⟩:=List.mem_map.1 hm;have:=hi y (by simp[hy]) x (by simp) he;subst this;exact(List.nodup_cons.1 hn).1 hy
theorem nI {R:List Nat} {B:Nat}:∀(L:Heap) (x:Nat) (ob:bu),aF (dW R B L) x=some ob->∃l ob0,l∈aO L/\x=eg R B l/\((∀a∈aO L,∀b∈aO L,eg R B a=eg R B b->a=b)->aF L l=some ob0/\ob=ob0.xA (eg R B))
 | [],x,ob,hx=>by simp[dW,aF]at hx
 |(k,v)::r,x,ob,hx=>by
  simp only[dW]at hx
  by_cases q:eg R B k=x
  ·subst q
   rw[aQ]at hx;cases hx;exact⟨k,v,by simp[aO],rfl,fun _=>⟨aQ _ _ _,rfl⟩⟩
  ·rw[aT q]at hx
   obtain⟨l,ob0,h1,h2,h3⟩:=nI r x ob hx;refine⟨l,ob0,by simp[aO,h1],h2,fun hi=>?_⟩;have hkl:k≠l:=fun e1=>by subst e1;exact q h2.symm
   rw[aT hkl];exact h3 (fun a ha b hb=>hi a (by simp[aO,ha]) b (by simp[aO,hb]))
def cz (R:List Nat):Option bg->Option bg
 |some (.obj l)=>if l∈R then some (.obj (gj R 0 l)) else none
 |some (.cell l j)=>if l∈R then some (.cell (gj R 0 l) j) else none
 |_=>none
def lf (R:List Nat) (B d:Nat) (h':Heap):Option bg->Option bg
 |some (.obj l)=>if l∈aO h' then some (.obj (eg R B l)) else none
 |some (.cell l j)=>if l∈aO h' then some (.cell (eg R B l) j) else none
 |some .ret=>some (.slot d)
 |_=>none
def tA (R:List Nat):Option Nat->Option Nat
 |some l=>if l∈R then some (gj R 0 l) else none
 |none=>none
def Gh.jQ (g:Gh) (R:List Nat):Gh:={ pre:=g.pre,own:=fun b=>cz R (g.own b),ρ:=fun l=>g.ρ (R.getD (l-bP) 0),σ:=g.σ,sown:=fun s=>tA R (g.sown s) }
theorem xE {R:List Nat} {j l:Nat} (h:R[j]?=some l):R.getD j 0=l:=by simp[List.getD,h]
theorem aH.jQ {g:Gh} {w:World} {R:List Nat} {hs:Heap} (hn:R.Nodup) (hsub:pN h (gj R 0) (aW R) R 0=some hs) {ow ow2:Option bg} (ho:∀q,ow=some q->ow2=cz R (some q)/\ow2≠none) {v:Value} {x:AV} (r:aH g w (aE h) ow v x) (hx:x.within (aW R)=true):
 aH (g.jQ R) w (aE hs) ow2 v (x.xA (gj R 0)):=by
 obtain⟨s1,s2⟩:=rD R 0 hs hsub;refine aH.xA (g:=g) (g2:=g.jQ R) (gj R 0) (aW R) (fun _ _ _ q=>q) (fun l _ hl=>?_) (fun q b e1 e2=>?_) r hx
 ·obtain⟨j,hj⟩:=List.getElem?_of_mem (jf R l hl)
  rw[jC R 0 j l hn hj];obtain⟨ob0,q1,q2⟩:=s2 j l hj;refine⟨by unfold aE;rw[q2];rfl,?_⟩;show g.ρ (R.getD (bP+(0+j)-bP) 0)=g.ρ l;rw[show bP+(0+j)-bP=j by omega,xE hj]
 ·obtain⟨h1,h2⟩:=ho q e1
  cases hq:ow2 with
  |none=>exact absurd hq h2
  |some q2=>
   refine⟨q2,rfl,?_,rfl⟩;show cz R (g.own b)=some q2;rw[e2,<-h1,hq]
theorem gx.jQ {g:Gh} {w:World} {R:List Nat} {hs:Heap} (hr:gx g w h) (hn:R.Nodup) (hsub:pN h (gj R 0) (aW R) R 0=some hs):gx (g.jQ R) w hs:=by
 obtain⟨s1,s2⟩:=rD R 0 hs hsub
 have ρe:∀{j l:Nat},R[j]?=some l->(g.jQ R).ρ (bP+(0+j))=g.ρ l:=fun {j l} hj=>by
  show g.ρ (R.getD (bP+(0+j)-bP) 0)=g.ρ l;rw[show bP+(0+j)-bP=j by omega,xE hj]
 refine⟨fun x ob hx=>?_,fun x ob hx hs=>?_,fun x ob hx hs=>?_⟩
 ·obtain⟨j,l,ob0,rfl,q2,q3,q4,rfl⟩:=s1 x ob hx
  have hm:l∈R:=List.mem_of_getElem? q2
  cases hr.obj l ob0 q3 with
  |cells cs vs E hb hl hxx h1=>
   refine .cells _ vs E (by rw[ρe q2];exact hb) (by rw[gB];exact hl) (fun i v c q5 q6=>?_) h1;rw[kL]at q6
   cases hq:cs[i]? with
   |none=>simp[hq]at q6
   |some c0=>
    simp only[hq,Option.map_some,Option.some.injEq]at q6;subst q6;refine aH.jQ hn hsub (fun q e1=>?_) (hxx i v c0 q5 hq) (bZ _ cs (by simpa[bu.within] using q4) i c0 hq);cases e1;simp[cz,hm,jC R 0 j l hn q2]
  |arr xs vs E hb hl hxx h1=>exact .arr xs vs E (by rw[ρe q2];exact hb) hl hxx h1
  |store T3 o3 sp3 nx3 z3 M3 hst=>exact .store T3 o3 sp3 nx3 z3 M3 (hst.mono (fun _ _ _ q=>q) (fun bb hb2=>⟨by show cz R (g.own bb)=_;rw[hb2];simp[cz,hm,jC R 0 j l hn q2],rfl,rfl⟩) (by show tA R (g.sown sp3)=_;rw[hst.sown];simp[tA,hm,jC R 0 j l hn q2]))
  |bJ gb gvs hgl=>exact gN.lM hgl (fun h1 _ _=>⟨rfl,by show cz R (g.own gb)=none;rw[h1];rfl⟩)
 ·obtain⟨j,l,ob0,rfl,q2,q3,q4,rfl⟩:=s1 x ob hx
  have hm:l∈R:=List.mem_of_getElem? q2;rw[ρe q2];show cz R (g.own (g.ρ l))=_;rw[hr.own l ob0 q3 (by rw[<-bu.qP];exact hs)];simp[cz,hm,jC R 0 j l hn q2]
 ·obtain⟨j,l,ob0,rfl,q2,q3,q4,rfl⟩:=s1 x ob hx
  rw[ρe q2];exact hr.pre l ob0 q3 (by rw[<-bu.qP];exact hs)
theorem cw.HM {g g':Gh} {w w':World} {a:Act} {e:Env} {h:Heap} (s:cw g w n a e h) {R:List Nat} {hs h':Heap} {B:Nat} (d:Nat) (hn:R.Nodup) (hsub:pN h (gj R 0) (aW R) R 0=some hs)
 (hx:Ext (g.jQ R) w g' w') (hr:gx g' w' h') (hbn:∀b ow,g'.own b=some ow->b<w'.heap.size)
 (c1:(aO h').Nodup) (c2:pG h B R.length (aO h')=true) (c3:lq (aO h') R.length=true) (hglob:fD hs h'=true):
 ∃G,cw G w' n a e ((dW R B h').reverse++h)/\Ext g w G w'/\∀v r,aH g' w' (aE h') (some .ret) v r->aH G w' (aE ((dW R B h').reverse++h)) (some (.slot d)) v (r.xA (eg R B)):=by
 obtain⟨s1,s2⟩:=rD R 0 hs hsub;have ck:=Br _ c2;have ak:=wC _ c3
 have ofB1:∀{j l:Nat},R[j]?=some l->eg R B (bP+j)=l:=fun {j l} hj=>by
  unfold eg;rw[show Nat.ble bP (bP+j)=true from Nat.ble_eq_true_of_le (by omega)];rw[show bP+j-bP=j by omega];exact xE hj
 have ofB2:∀{l:Nat},l<bP->eg R B l=B+l:=fun {l} hl=>by
  unfold eg
  cases hq:Nat.ble bP l with
  |false=>rfl
  |true=>rw[Nat.ble_eq]at hq;omega
 have Rdom:∀{j l:Nat},R[j]?=some l->aE h l:=fun {j l} hj=>by
  obtain⟨ob0,q1,_⟩:=s2 j l hj;simp[aE,q1]
 have big:∀l∈aO h',bP<=l->∃l0,R[l-bP]?=some l0/\l=bP+(l-bP):=fun l hl hb=>by
  rcases ck l hl with⟨q1,q2⟩|⟨q1,_⟩
  ·exact⟨R[l-bP],List.getElem?_eq_getElem q2,by omega⟩
  ·omega
 have small:∀l∈aO h',l<bP->aF h (B+l)=none/\B+l<bP:=fun l hl hb=>by
  rcases ck l hl with⟨q1,q2⟩|⟨_,q2⟩
  ·omega
  ·exact oK q2
 have inj:∀x∈aO h',∀y∈aO h',eg R B x=eg R B y->x=y:=by
  intro x hx y hy he
  by_cases bx:bP<=x
  ·obtain⟨lx,x1,x2⟩:=big x hx bx
   rw[x2,ofB1 x1]at he
   by_cases bY:bP<=y
   ·obtain⟨ly,y1,y2⟩:=big y hy bY
    rw[y2,ofB1 y1]at he;subst he;have h1:=(List.getElem?_eq_some_iff.1 x1)
    have h2:=(List.getElem?_eq_some_iff.1 y1)
    have:=(List.getElem_inj (h₀:=h1.1) (h₁:=h2.1) hn).1 (h1.2.trans h2.2.symm);omega
   ·exfalso
    rw[ofB2 (by omega)]at he;have:=Rdom x1;rw[he]at this;simp[aE,(small y hy (by omega)).1]at this
  ·rw[ofB2 (by omega)]at he
   by_cases bY:bP<=y
   ·exfalso
    obtain⟨ly,y1,y2⟩:=big y hy bY;rw[y2,ofB1 y1]at he;have:=Rdom y1;rw[<-he]at this;simp[aE,(small x hx (by omega)).1]at this
   ·rw[ofB2 (by omega)]at he;omega
 have kn:(aO (dW R B h')).Nodup:=by rw[fc];exact rU _ c1 inj
 have hH:∀x,aF ((dW R B h').reverse++h) x=match aF (dW R B h') x with|some ob=>some ob|none=>aF h x:=fun x=>o9 _ _ x kn
 have hHnew:∀l ob,aF h' l=some ob->aF ((dW R B h').reverse++h) (eg R B l)=some (ob.xA (eg R B)):=by
  intro l ob hl;obtain⟨ob1,q1⟩:=dU (dW R B h') (eg R B l) (by rw[fc];exact List.mem_map.2 ⟨l,eS _ _ _ hl,rfl⟩);obtain⟨l2,ob2,q2,q3,q4⟩:=nI _ _ _ q1;obtain⟨q5,q6⟩:=q4 inj;have:=inj l (eS _ _ _ hl) l2 q2 q3;subst this;rw[hl]at q5;cases q5;rw[hH,q1,q6]
 have hHold:∀x,(∀l∈aO h',x≠eg R B l)->aF ((dW R B h').reverse++h) x=aF h x:=by
  intro x hx;rw[hH,oq];rw[fc];intro hm;obtain⟨l,h1,h2⟩:=List.mem_map.1 hm;exact hx l h1 h2.symm
 have hdomH:∀x,aE h x->aE ((dW R B h').reverse++h) x:=by
  intro x hx;unfold aE at hx ⊢;rw[hH]
  cases aF (dW R B h') x with
  |some ob=>rfl
  |none=>exact hx
 -- the ghost
 let G:Gh:={ pre:=g'.pre,own:=fun b=>if b<w.heap.size/\(g.jQ R).own b=none then g.own b else lf R B d h' (g'.own b),
             ρ:=fun l=>if l∈R then g.ρ l else if B<=l/\l-B∈aO h'/\l-B<bP then g'.ρ (l-B) else g.ρ l,σ:=g'.σ,sown:=g.sown }
 have Gpre:G.pre=g'.pre:=rfl;have Gown:∀b,G.own b=if b<w.heap.size/\(g.jQ R).own b=none then g.own b else lf R B d h' (g'.own b):=fun _=>rfl
 have Gρ:∀l,G.ρ l=if l∈R then g.ρ l else if B<=l/\l-B∈aO h'/\l-B<bP then g'.ρ (l-B) else g.ρ l:=fun _=>rfl
 have Gσ:G.σ=g'.σ:=rfl;have Gsown:G.sown=g.sown:=rfl;generalize G=G at Gpre Gown Gρ Gσ Gsown;have hs1:∀s k a,g.σ s k=some a->G.σ s k=some a:=fun s k a q=>by rw[Gσ];exact hx.uC.1 s k a q
 have hs2:∀s k a,g'.σ s k=some a->G.σ s k=some a:=fun s k a q=>by rw[Gσ];exact q
 have Gρold:∀l,aE h l->G.ρ l=g.ρ l:=by
  intro l hl;rw[Gρ];split
  ·rfl
  ·split
   ·rename_i q
    have:=(small (l-B) q.2.1 q.2.2).1;rw[show B+(l-B)=l by omega]at this;simp[aE,this]at hl
   ·rfl
 have Gρnew:∀l,l∈aO h'->G.ρ (eg R B l)=g'.ρ l:=by
  intro l hl
  by_cases hb:bP<=l
  ·obtain⟨l0,q1,q2⟩:=big l hl hb
   rw[show eg R B l=l0 by rw[q2];exact ofB1 q1,Gρold l0 (Rdom q1),hx.ρk l hb];show _=g.ρ (R.getD (l-bP) 0);rw[xE q1]
  ·rw[ofB2 (by omega),Gρ]
   have hnew:=small l hl (by omega)
   have hnR:B+l∉R:=fun hm=>by
    obtain⟨j,hj⟩:=List.getElem?_of_mem hm;have:=Rdom hj;simp[aE,hnew.1]at this
   rw[if_neg hnR,if_pos ⟨by omega,by rw[show B+l-B=l by omega];exact⟨hl,by omega⟩⟩,show B+l-B=l by omega]
 have kept:∀b,b<w.heap.size->(g.jQ R).own b=none->w'.heap[b]?=w.heap[b]?/\G.pre b=g.pre b/\G.own b=g.own b:=by
  intro b hb ho;obtain⟨q1,q2,q3⟩:=hx.kept b hb ho;exact⟨q1,by rw[Gpre];exact q2,by rw[Gown,if_pos ⟨hb,ho⟩]⟩
 have lendSlot:∀b i,g.own b=some (.slot i)->(g.jQ R).own b=none:=fun b i ho=>by
  show cz R (g.own b)=none;rw[ho];rfl
 have himm:∀b k v,bT g w b k=some v->bT G w' b k=some v:=fun b k v hv=>by
  have:=hx.bT b k v hv;simp only[cO]at this ⊢;rw[Gpre];exact this
 have hownG:∀b q,g'.own b=some q->G.own b=lf R B d h' (some q):=by
  intro b q hq;rw[Gown];split
  ·rename_i hc
   have:=(hx.kept b hc.1 hc.2).2.2;rw[hq]at this;cases this
  ·rw[hq]
 -- values of the caller
 have up:∀{ow v x},(∀q b,ow=some q->g.own b=some q->(g.jQ R).own b=none)->aH g w (aE h) ow v x->aH G w' (aE ((dW R B h').reverse++h)) ow v x:=fun hq r=>
  r.keep himm (fun l hl=>⟨hdomH l hl,Gρold l hl⟩) (fun l cs E hl hb=>hx.siz _ cs E hb)
   (fun q b e1 ho=>by
     have hb:=s.bnd b q ho;obtain⟨k1,k2,k3⟩:=kept b hb (hq q b e1 ho);exact⟨k3.trans ho,k2,k1⟩) (hsg:=hs1)
 -- values of the callee
 have down:∀{ow ow2 v x},(∀q,ow=some q->ow2=lf R B d h' (some q)/\ow2≠none)->aH g' w' (aE h') ow v x->aH G w' (aE ((dW R B h').reverse++h)) ow2 v (x.xA (eg R B)):=fun {ow ow2 v x} hq r=>by
  refine aH.xA (g:=g') (g2:=G) (eg R B) (fun _=>true) (fun b k v hv=>by simp only[cO]at hv ⊢;rw[Gpre];exact hv) (fun l hl _=>?_) (fun q b e1 ho=>?_) r (zZ _ (fun _=>rfl) x) (hsg:=hs2)
  ·unfold aE at hl
   obtain⟨ob,hob⟩:=Option.isSome_iff_exists.1 hl;exact⟨by unfold aE;rw[hHnew l ob hob];rfl,Gρnew l (eS _ _ _ hob)⟩
  ·obtain⟨k1,k2⟩:=hq q e1
   cases hq2:ow2 with
   |none=>exact absurd hq2 k2
   |some q2=>exact⟨q2,rfl,by rw[hownG b q ho,<-k1,hq2],by rw[Gpre]⟩
 refine⟨G,⟨s.defers,s.size,fun i=>up (fun q b e1 ho=>by cases e1;exact lendSlot b i ho) (s.env i),⟨fun x ob hxo=>?_,fun x ob hxo hsl=>?_,fun x ob hxo hsl=>?_⟩,fun b q hq=>?_⟩,?_,fun v r hv=>?_⟩
 · -- objects
  rw[hH]at hxo
  cases hb:aF (dW R B h') x with
  |some ob1=>
   rw[hb]at hxo;cases hxo;obtain⟨l,ob0,q1,q2,q3⟩:=nI _ _ _ hb;obtain⟨q4,q5⟩:=q3 inj;subst q2;subst q5;have hkl:=eS _ _ _ q4
   cases hr.obj l ob0 q4 with
   |cells cs vs E hb' hl hxx h1=>
    refine .cells _ vs E (by rw[Gρnew l hkl];exact hb') (by rw[gB];exact hl) (fun i v c q5 q6=>?_) h1;rw[kL]at q6
    cases hq:cs[i]? with
    |none=>simp[hq]at q6
    |some c0=>
     simp only[hq,Option.map_some,Option.some.injEq]at q6;subst q6;refine down (fun q e1=>?_) (hxx i v c0 q5 hq);cases e1;simp[lf,hkl]
   |arr xs vs E hb' hl hxx h1=>exact .arr xs vs E (by rw[Gρnew l hkl];exact hb') hl (fun i v c q5 q6=>(hxx i v c q5 q6).mono (fun b k v hv=>by simp only[cO]at hv ⊢;rw[Gpre];exact hv) hs2) h1
   |store T3 o3 sp3 nx3 z3 M3 hst=>
    refine .store T3 o3 sp3 nx3 z3 M3 (hst.mono (fun b k v hv=>by simp only[cO]at hv ⊢;rw[Gpre];exact hv) (fun bb hb2=>⟨by rw[hownG bb _ hb2];simp[lf,hkl],rfl,by rw[Gpre]⟩) ?_ (hs:=hs2) (he:=fun k=>by rw[Gσ]));have q9:=hst.sown;rw[hx.uC.2.1]at q9;replace q9:tA R (g.sown sp3)=some l:=q9;rw[Gsown]
    cases hq8:g.sown sp3 with
    |none=>rw[hq8]at q9;cases q9
    |some l8=>
     rw[hq8]at q9;simp only[tA]at q9;split at q9
     ·rename_i hm8
      obtain⟨j8,hj8⟩:=List.getElem?_of_mem hm8;rw[jC R 0 j8 l8 hn hj8]at q9;cases q9;rw[Nat.zero_add,ofB1 hj8]
     ·cases q9
   |bJ gb gvs hgl=>
    refine gN.lM hgl (fun h1 hlt _=>?_);obtain⟨vs',hq⟩:=A3 hglob q4;obtain⟨j,l0,ob0,e1,e2,e3,e4,e5⟩:=s1 _ _ hq
    cases ob0 with
    |bJ b0 vs0=>
     simp only[bu.xA,bu.bJ.injEq]at e5;obtain⟨rfl,_⟩:=e5
     cases s.heap.obj l0 _ e3 with
     |bJ _ _ hg0=>
      obtain⟨g1,E0,fr0,g2⟩:=hg0;have hk:=kept gb (Array.getElem?_eq_some_iff.1 g2).1 (by show cz R (g.own gb)=none;rw[g1];rfl);exact⟨rfl,hk.2.2.trans g1⟩
    |_=>simp[bu.xA]at e5
  |none=>
   rw[hb]at hxo;have hdx:aE h x:=by simp[aE,hxo]
   have hnR:x∉R:=fun hm=>by
    obtain⟨j,hj⟩:=List.getElem?_of_mem hm;have hk:=ak j (List.getElem?_eq_some_iff.1 hj).1;obtain⟨ob2,q1⟩:=dU h' _ hk;have:=hHnew _ _ q1;rw[ofB1 hj,hH,hb]at this;have h2:x∈aO (dW R B h'):=by rw[fc];exact List.mem_map.2 ⟨_,hk,ofB1 hj⟩
    obtain⟨ob3,q3⟩:=dU _ _ h2;rw[hb]at q3;cases q3
   have hlo:ob.dP=true->(g.jQ R).own (g.ρ x)=none:=fun hsl=>by
    show cz R (g.own (g.ρ x))=none;rw[s.heap.own x ob hxo hsl];simp[cz,hnR]
   have eo:ob.dP=true->w'.heap[G.ρ x]?=w.heap[g.ρ x]?:=fun hsl=>by rw[Gρold x hdx];exact(kept _ (s.bnd _ _ (s.heap.own x ob hxo hsl)) (hlo hsl)).1
   cases s.heap.obj x ob hxo with
   |cells cs vs E hb' hl hxx h1=>
    refine .cells cs vs E ((eo rfl).trans hb') hl (fun i v c q5 q6=>up (fun q b e1 ho=>?_) (hxx i v c q5 q6)) h1;cases e1;show cz R (g.own b)=none;rw[ho];simp[cz,hnR]
   |arr xs vs E hb' hl hxx h1=>exact .arr xs vs E ((eo rfl).trans hb') hl (fun i v c q5 q6=>(hxx i v c q5 q6).mono himm hs1) h1
   |store T3 o3 sp3 nx3 z3 M3 hst=>exact .store T3 o3 sp3 nx3 z3 M3 (hst.mono himm (fun bb hb2=>by have hk:=kept bb (s.bnd _ _ hb2) (by show cz R (g.own bb)=none;rw[hb2];simp[cz,hnR]);exact⟨hk.2.2.trans hb2,hk.1,hk.2.1⟩) (by rw[Gsown];exact hst.sown) (hs:=hs1) (he:=fun k=>by rw[Gσ];exact hx.uC.2.2 sp3 (by show tA R (g.sown sp3)=none;rw[hst.sown];simp[tA,hnR]) k))
   |bJ gb gvs hgl=>exact gN.lM hgl (fun h1 hlt _=>by have hk:=kept gb hlt (by show cz R (g.own gb)=none;rw[h1];rfl);exact⟨hk.1,hk.2.2.trans h1⟩)
 ·rw[hH]at hxo
  cases hb:aF (dW R B h') x with
  |some ob1=>
   obtain⟨l,ob0,q1,q2,q3⟩:=nI _ _ _ hb;obtain⟨q4,q5⟩:=q3 inj;subst q2;have hkl:=eS _ _ _ q4;rw[hb]at hxo;cases hxo;rw[Gρnew l hkl,hownG _ _ (hr.own l ob0 q4 (by rw[q5,bu.qP]at hsl;exact hsl))];simp[lf,hkl]
  |none=>
   rw[hb]at hxo;have hdx:aE h x:=by simp[aE,hxo]
   have hnR:x∉R:=fun hm=>by
    obtain⟨j,hj⟩:=List.getElem?_of_mem hm;have hk:=ak j (List.getElem?_eq_some_iff.1 hj).1;have h2:x∈aO (dW R B h'):=by rw[fc];exact List.mem_map.2 ⟨_,hk,ofB1 hj⟩
    obtain⟨ob3,q3⟩:=dU _ _ h2;rw[hb]at q3;cases q3
   have ho:=s.heap.own x ob hxo hsl
   have hlo:(g.jQ R).own (g.ρ x)=none:=by
    show cz R (g.own (g.ρ x))=none;rw[ho];simp[cz,hnR]
   rw[Gρold x hdx,(kept _ (s.bnd _ _ ho) hlo).2.2];exact ho
 ·rw[hH]at hxo
  cases hb:aF (dW R B h') x with
  |some ob1=>
   obtain⟨l,ob0,q1,q2,q3⟩:=nI _ _ _ hb;obtain⟨q4,q5⟩:=q3 inj;subst q2;have hkl:=eS _ _ _ q4;rw[hb]at hxo;cases hxo;rw[Gρnew l hkl,Gpre];exact hr.pre l ob0 q4 (by rw[q5,bu.qP]at hsl;exact hsl)
  |none=>
   rw[hb]at hxo;have hdx:aE h x:=by simp[aE,hxo]
   have hnR:x∉R:=fun hm=>by
    obtain⟨j,hj⟩:=List.getElem?_of_mem hm;have hk:=ak j (List.getElem?_eq_some_iff.1 hj).1;have h2:x∈aO (dW R B h'):=by rw[fc];exact List.mem_map.2 ⟨_,hk,ofB1 hj⟩
    obtain⟨ob3,q3⟩:=dU _ _ h2;rw[hb]at q3;cases q3
   have ho:=s.heap.own x ob hxo hsl
   have hlo:(g.jQ R).own (g.ρ x)=none:=by
    show cz R (g.own (g.ρ x))=none;rw[ho];simp[cz,hnR]
   rw[Gρold x hdx,(kept _ (s.bnd _ _ ho) hlo).2.1];exact s.heap.pre x ob hxo hsl
 ·rw[Gown]at hq
  split at hq
  ·rename_i hc;exact Nat.lt_of_lt_of_le hc.1 hx.size
  ·cases hg:g'.own b with
   |none=>rw[hg]at hq;simp[lf]at hq
   |some q'=>exact hbn b q' hg
 ·refine⟨hx.size,hx.os,hx.out,himm,fun b hb ho=>?_,⟨hs1,Gsown,fun s q k=>by rw[Gσ];exact hx.uC.2.2 s (by show tA R (g.sown s)=none;rw[q];rfl) k⟩,hx.frz',fun l hl=>?_,hx.siz⟩
  ·have hlo:(g.jQ R).own b=none:=by
    show cz R (g.own b)=none;rw[ho];rfl
   obtain⟨k1,k2,k3⟩:=kept b hb hlo;exact⟨k1,k2,k3.trans ho⟩
  ·rw[Gρ]
   split
   ·rfl
   ·split
    ·rename_i q
     have:=(small (l-B) q.2.1 q.2.2).2;omega
    ·rfl
 ·exact down (fun q e1=>by cases e1;simp[lf]) hv
end
section
variable {P:Program} {ty:Nat->Option TI} {n:Nat} {o:Oper} {e:Env} {h:Heap} {K:AK}
theorem yA {o:Oper} {rd:List Nat} {hw:Heap} {v:AV} {K:AK} (hk:Ao o rd hw v K):K (match o.dst with|some d=>⟨rd,[(d,v)],hw⟩|none=>⟨rd,[],hw⟩):=by
 unfold Ao at hk
 cases hd:o.dst<;>simp only[hd,AV.force_eq]at hk<;>exact hk
def oA (g:Gh) (w:World) (b:Nat):Nat:=match g.own b with
 |some (.obj _)=>(match w.heap[b]? with|some (.cells c _ _)=>c.size|_=>g.pre b)
 |_=>g.pre b
def Gh.lay (g:Gh) (w:World):Gh:=⟨oA g w,fun _=>none,g.ρ,g.σ,fun _=>none⟩
theorem yI {g:Gh} {w:World} {b k:Nat} {v:Value} (hv:bT g w b k=some v):bT (g.lay w) w b k=some v:=by
 have hc:=kF hv;simp only[cO]at hv ⊢
 have hk:k<(g.lay w).pre b:=by
  show k<oA g w b;unfold oA;have hk0:k<g.pre b:=by split at hv;assumption;cases hv
  split
  ·split
   ·rename_i hb
    have:w.cell? ⟨b,k,none⟩=_:=dB hb k;rw[hc]at this;exact(Array.getElem?_eq_some_iff.1 this.symm).1
   ·exact hk0
  ·exact hk0
 rw[if_pos hk];exact hc
theorem IP {g:Gh} {w:World} {l:Nat} {vs:Array Value} {E:TypeId} (ho:g.own (g.ρ l)=some (.obj l)) (hb:w.heap[g.ρ l]?=some (.cells vs E (0,0))) {k:Nat} {v:Value} (hv:vs[k]?=some v):bT (g.lay w) w (g.ρ l) k=some v:=by
 simp only[cO]
 have hk:k<(g.lay w).pre (g.ρ l):=by
  show k<oA g w (g.ρ l);unfold oA;rw[ho,hb];exact(Array.getElem?_eq_some_iff.1 hv).1
 rw[if_pos hk,dB hb];exact hv
theorem oC {M:Mm} {v:Value} {x:PV} (r:bq M v x) (h1:v.oneCell'=true):x.cells=[x]:=by
 cases r<;>first|rfl|simp[Value.oneCell']at h1
theorem EE {g:Gh} {w:World} {h:Heap} (hr:gx g w h) {l:Nat} {xs:List PV} (hl:aF h l=some (.arr xs)) {m:Nat} (hn:∃(cs:Array Value) (E:TypeId),w.heap[g.ρ l]?=some (.cells cs E (0,0))/\cs.size=m):
 bq (bT (g.lay w) w) (.slice (some ⟨g.ρ l,0,none⟩) m m) (.sl 1 xs):=by
 obtain⟨cs,E,hb,rfl⟩:=hn
 cases hr.obj l _ hl with
 |arr _ vs E' hb' hlen hx h1=>
  rw[hb]at hb';cases hb';rw[hlen]
  have he:∀(j:Nat) (x:PV),xs[j]?=some x->∃v,cs[j]?=some v/\v.oneCell'=true/\bq (bT g w) v x:=fun j x hj=>by
   have hjl:j<cs.size:=by rw[hlen];exact(List.getElem?_eq_some_iff.1 hj).1
   have hv:cs[j]?=some cs[j]:=Array.getElem?_eq_getElem hjl;exact⟨cs[j],hv,h1 _ (by simp),hx j _ x hv hj⟩
  refine .sl ⟨g.ρ l,0,none⟩ xs.length 1 xs (fun j _=>cs.getD j undef) (fun _=>rfl) (Nat.le_refl _) (fun x hxm=>?_) (fun j x hj i y hi=>?_) (fun j x hj i y hi=>?_)
  ·obtain⟨j,hj⟩:=List.getElem?_of_mem hxm
   obtain⟨v,q1,q2,q3⟩:=he j x hj;rw[oC q3 q2];rfl
  ·obtain⟨v,q1,q2,q3⟩:=he j x hj
   rw[oC q3 q2]at hi;have hi0:i=0:=by have:=(List.getElem?_eq_some_iff.1 hi).1;simp at this;exact this
   subst hi0;have e1:cs.getD j undef=v:=by simp[Array.getD_eq_getD_getElem?,q1]
   rw[e1];refine⟨?_,q2⟩;simp only[Nat.zero_add,Nat.mul_one,Nat.add_zero];exact IP (hr.own l _ hl rfl) hb q1
  ·obtain⟨v,q1,q2,q3⟩:=he j x hj
   rw[oC q3 q2]at hi;have hi0:i=0:=by have:=(List.getElem?_eq_some_iff.1 hi).1;simp at this;exact this
   subst hi0;simp at hi;subst hi;have e1:cs.getD j undef=v:=by simp[Array.getD_eq_getD_getElem?,q1]
   rw[e1];exact q3.mono fun _ _ _ hv=>yI hv
theorem zp {σ:Nat->Nat} {d:Nat->Bool} {h':Heap}:∀(R:List Nat) (k:Nat),(∀l∈R,aF h' l=aF h l)->pN h' σ d R k=pN h σ d R k
 | [],k,_=>rfl
 |x::r,k,hh=>by simp only[pN,hh x (by simp),zp r (k+1) (fun l hl=>hh l (by simp[hl]))]
theorem we {B m:Nat} {R:List Nat} {h':Heap} {L:Heap} (hh:∀x∈aO (dW R B L),aF h' x=aF h x):∀(ks:List Nat),(∀k∈ks,k∈aO L)->pG h B m ks=true->pG h' B m ks=true
 | [],_,_=>rfl
 |l::r,hs,hc=>by
  simp only[pG,Bool.and_eq_true]at hc ⊢;refine⟨?_,we hh r (fun k hk=>hs k (by simp[hk])) hc.2⟩;have h1:=hc.1
  cases hb:Nat.ble bP l with
  |true=>rw[hb]at h1;exact h1
  |false=>
   rw[hb]at h1
   have hx:B+l∈aO (dW R B L):=by
    rw[fc];exact List.mem_map.2 ⟨l,hs l (by simp),by simp[eg,hb]⟩
   show fq h' (B+l)=true;have h1:fq h (B+l)=true:=h1;unfold fq at h1 ⊢;rw[hh _ hx];exact h1
theorem zM (e:Env):∀(xs:List Operand) (ts:List Nat) (y:AV),y∈gO ty e xs ts->∀sz l,y≠.so sz l
 | [],ts,y,hy=>by simp[gO]at hy
 |x::r,ts,y,hy=>by
  simp only[gO,List.mem_cons]at hy;rcases hy with rfl|hy
  ·intro sz l
   split
   ·split<;>(intro q;cases q)
   ·intro q;cases q
   ·intro q;cases q
   ·unfold A2;split
    ·split
     ·intro q;cases q
     ·intro q;cases q
    ·intro q;cases q
   ·rename_i hns _;intro q;exact hns sz l q
  ·exact zM e r ts.tail y hy
theorem Bu {x:Operand} {as:List Operand} {ts:List Nat} {first caps:List AV} {fs cs:List Value} {g:Gh} {w:World} {a:Act} {e':Env} {h':Heap} (s:cw g w n a e' h') (he:∀t∈slotsOf o,aL e' t=aL e t)
 (m2:∀y∈as,y∈o.op.operands) (h1:fs.length=first.length) (h2:cs.length=caps.length)
 (hf:∀(j:Nat) (v:Value) (c:AV),fs[j]?=some v->first[j]?=some c->aH g w (aE h') none v c) (hc:∀(j:Nat) (v:Value) (c:AV),cs[j]?=some v->caps[j]?=some c->aH g w (aE h') none v c):
 (fs++as.map a.eval++cs).length=(first++gO ty e as ts++caps).length/\∀(j:Nat) (v:Value) (y:AV),(fs++as.map a.eval++cs)[j]?=some v->(first++gO ty e as ts++caps)[j]?=some y->aH g w (aE h') none v y:=by
 obtain⟨k1,k2⟩:=yY (ty:=ty) s he as ts m2;refine⟨by simp[h1,h2,k1],fun j v y q1 q2=>?_⟩
 by_cases hj1:j<fs.length
 ·rw[List.append_assoc,List.getElem?_append_left hj1]at q1
  rw[List.append_assoc,List.getElem?_append_left (by omega)]at q2;exact hf j v y q1 q2
 ·by_cases hj2:j<fs.length+as.length
  ·rw[List.append_assoc,List.getElem?_append_right (by omega),List.getElem?_append_left (by simp;omega),List.getElem?_map]at q1
   rw[List.append_assoc,List.getElem?_append_right (by omega),List.getElem?_append_left (by omega),<-h1]at q2
   cases hq:as[j-fs.length]? with
   |none=>simp[hq]at q1
   |some z=>
    simp only[hq,Option.map_some,Option.some.injEq]at q1;subst q1;obtain⟨_,hr⟩:=k2 _ z y hq q2;exact hr.bW (zM e as ts y (List.mem_of_getElem? q2))
  ·rw[List.getElem?_append_right (by simp;omega)]at q1
   rw[List.getElem?_append_right (by simp;omega)]at q2;refine hc (j-(fs++as.map a.eval).length) v y q1 ?_;rw[<-q2];congr 1;simp[h1,k1]
theorem AY {name:String} {f:Nat}:∀{l:List (String×Nat)},HW name l=some f->(name,f)∈l
 | [],h=>by cases h
 |(a,b)::r,h=>by
  rw[HW]at h;split at h
  ·rename_i q;cases h;rw[beq_iff_eq]at q;subst q;exact List.mem_cons_self ..
  ·exact List.mem_cons_of_mem _ (AY h)
theorem Dl (hty:bB P ty) {T f:Nat} {name:String} (h:Cd ty T name=some f):Ku P T name f:=by
 unfold Cd at h;split at h
 ·rename_i i hi;exact(hty T i hi).mth _ (AY h)
 ·cases h
inductive CP (P:Program) (e:Env) (o:Oper) (as:List Operand) (ts:List Nat) (f:Nat) (first caps:List AV):Prop
 |value (x:Operand) (ho:o.op=.call { callee:=.value x,args:=⟨as⟩,argTypes:=⟨ts⟩ }) (hx:ev e x=.fn f first caps)
 |invoke (x:Operand) (name:String) (T:Nat) (y:PV) (ho:o.op=.call { callee:=.invoke x name,args:=⟨as⟩,argTypes:=⟨ts⟩ }) (hx:ev e x=.p (.uY T y)) (hm:Ku P T name f) (h1:first=[.p y]) (h2:caps=[])
theorem CP.args {as:List Operand} {ts:List Nat} {f:Nat} {first caps:List AV} (hc:CP P e o as ts f first caps) (hb:mG P f) {g:Gh} {w:World} {a:Act} {e':Env} {h':Heap} (s:cw g w n a e' h') (he:∀t∈slotsOf o,aL e' t=aL e t):
 ∃vs:List Value,(execOp a.eval o).run P w=.ok (.enter f vs.toArray) w/\vs.length=(first++gO ty e as ts++caps).length/\∀(j:Nat) (v:Value) (y:AV),vs[j]?=some v->(first++gO ty e as ts++caps)[j]?=some y->aH g w (aE h') none v y:=by
 cases hc with
 |value x ho hx=>
  have m1:x∈o.op.operands:=by simp[ho,Op.operands,Call.operands]
  have m2:∀y∈as,y∈o.op.operands:=fun y hy=>by simp[ho,Op.operands,Call.operands,hy]
  obtain⟨_,r1⟩:=s.cR he m1 hx;generalize hv:a.eval x=v at r1
  cases r1 with
  |fn _ _ fs cs _ _ h1 h2 hf hc=>
   obtain⟨k1,k2⟩:=Bu (ty:=ty) (x:=x) (ts:=ts) s he m2 h1 h2 hf hc;exact⟨_,yN ho hv hb,k1,k2⟩
 |invoke x name T y ho hx hm h1 h2=>
  subst h1;subst h2;have m1:x∈o.op.operands:=by simp[ho,Op.operands,Call.operands]
  have m2:∀y∈as,y∈o.op.operands:=fun y hy=>by simp[ho,Op.operands,Call.operands,hy]
  obtain⟨_,r1⟩:=s.cR he m1 hx;generalize hv:a.eval x=v at r1
  cases r1 with
  |p _ _ _ hp=>
   cases hp with
   |uY _ v1 _ hp1=>
    obtain⟨k1,k2⟩:=Bu (ty:=ty) (x:=x) (ts:=ts) (fs:=[v1]) (cs:=[]) (first:=[.p y]) (caps:=[]) s he m2 rfl rfl (fun j v c q1 q2=>by
     cases j with
     |zero=>simp only[List.getElem?_cons_zero,Option.some.injEq]at q1 q2;subst q1;subst q2;exact .p _ _ _ hp1
     |succ j=>simp at q1) (fun j v c q1 _=>by simp at q1)
    exact⟨_,by rw[wW ho hv hm hb];simp,k1,k2⟩
theorem IJ (hd:∀d,o.dst=some d->d<n) {as:List Operand} {ts:List Nat} {f:Nat} {first caps:List AV} (hx:CP P e o as ts f first caps) {K:AK}
 {R:List Nat} {B:Nat} {hs:Heap} {r:AV} {h2:Heap} (ck1:(AV.dH (aW R) (first++gO ty e as ts++caps)&&nodupB R)=true) (hsub:pN h (gj R 0) (aW R) R 0=some hs)
 (hcall0:au P f (AV.p9 (gj R 0) (first++gO ty e as ts++caps)) hs r h2) (ck2:(nodupB (aO h2)&&pG h B R.length (aO h2)&&lq (aO h2) R.length)=true) (hk:Ao o R (dW R B h2) (r.xA (eg R B)) K):∃f,K f/\cJ P n o e h f:=by
 obtain⟨⟨hb,hglob⟩,hcall⟩:=hcall0;simp only[Bool.and_eq_true]at ck1 ck2;obtain⟨ckw,ckn⟩:=ck1;obtain⟨⟨ck3,ck4⟩,ck5⟩:=ck2;refine⟨_,yA hk,fun e' h' he hl g w a s=>?_⟩
 have hlR:∀l∈R,aF h' l=aF h l:=fun l hlR=>by
  cases hdst:o.dst<;>simp only[hdst]at hl<;>exact hl l (by simp[hlR])
 have keys:∀(L:Heap) (x:Nat),x∈aO L->x∈L.map (·.1):=by
  intro L
  induction L with
  |nil=>intro x hx;cases hx
  |cons p q ih=>
   obtain⟨k,v⟩:=p;intro x hx;simp only[aO,List.mem_cons]at hx;rcases hx with rfl|hx
   ·simp
   ·exact List.mem_cons_of_mem _ (ih x hx)
 have hlN:∀x∈aO (dW R B h2),aF h' x=aF h x:=fun x hxk=>by
  have:=keys _ x hxk
  cases hdst:o.dst<;>simp only[hdst]at hl<;>exact hl x (List.mem_append_right _ this)
 have hn:=mI ckn;have hsub':pN h' (gj R 0) (aW R) R 0=some hs:=by rw[zp R 0 hlR];exact hsub
 have ck4':=we hlN _ (fun _ q=>q) ck4;obtain⟨cvs,hrun,k1,k2⟩:=hx.args hb s he
 have hargs:=hcall (g.jQ R) w cvs (s.heap.jQ hn hsub') (fun b q hq=>by
  have hq:cz R (g.own b)=some q:=hq
  cases hg:g.own b with
  |none=>rw[hg]at hq;simp[cz]at hq
  |some q'=>exact s.bnd b q' hg) (by rw[k1,gB]) (fun j v y q1 q2=>by
  rw[kL]at q2
  cases hq:(first++gO ty e as ts++caps)[j]? with
  |none=>rw[hq]at q2;cases q2
  |some c0=>
   rw[hq,Option.map_some,Option.some.injEq]at q2;subst q2;have hr0:=k2 j v c0 q1 hq;exact aH.jQ hn hsub' (fun q e1=>by cases e1) hr0 (bZ _ _ ckw j c0 hq))
 simp only[Oper.wp,hrun,Oper.upon];refine hargs.mono ?_;rintro en w' ⟨v,g',rfl,hr,hH,hbn,hE⟩
 cases hdst:o.dst with
 |none=>
  obtain⟨G,q1,q2,_⟩:=s.HM 0 hn hsub' hE hH hbn (mI ck3) ck4' ck5 hglob;exact⟨G,q1,q2⟩
 |some d=>
  obtain⟨G,q1,q2,q3⟩:=s.HM d hn hsub' hE hH hbn (mI ck3) ck4' ck5 hglob;exact⟨G,q1.put (hd d hdst) (q3 v r hr),q2⟩
theorem wg (hd:∀d,o.dst=some d->d<n) {as:List Operand} {ts:List Nat} {f:Nat} {first caps:List AV} (hx:CP P e o as ts f first caps)
 (hk:cU P f (first++gO ty e as ts++caps) h fun rd hw r=>Ao o rd hw r K):∃f,K f/\cJ P n o e h f:=by
 rcases hk with⟨r,hfree,⟨hb,hcall⟩,hk⟩|⟨R,B,hs,r,h2,ck1,hsub,hcall,ck2,hk⟩
 ·refine⟨_,yA hk,fun e' h' he _ g w a s=>?_⟩
  obtain⟨cvs,hrun,k1,k2⟩:=hx.args hb s he
  have hargs:=hcall { g with own:=fun _=>none,sown:=fun _=>none } w cvs (fun _=>rfl) (fun _=>rfl) k1 (fun j v y q1 q2=>by
   exact(k2 j v y q1 q2).KQ (lB _ hfree j y q2) _ none _)
  simp only[Oper.wp,hrun,Oper.upon];refine hargs.mono ?_;rintro en w' ⟨v,g',rfl,hr,hE⟩
  cases hdst:o.dst with
  |none=>
   obtain⟨q1,q2,_⟩:=s.called hE 0;exact⟨_,q1,q2⟩
  |some d=>
   obtain⟨q1,q2,q3⟩:=s.called hE d;exact⟨_,q1.put (hd d hdst) (q3 v r hr),q2⟩
 ·exact IJ hd hx ck1 hsub hcall ck2 hk
end
end Go.AM
