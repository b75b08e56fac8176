/- Contracts, and the law, for every input. No conditions. -/
import Derived.Test.YtdmopjgjhfhfdaaGreatDoorAMGlob
import Derived.Test.YtdmopjgjhfhfdaaGreatDoorChecked
set_option linter.all false
set_option maxRecDepth 100000
section
namespace Go.AM
def Iz:PV->Bool
 |.b _=>true
 |.i _ _=>true
 |.s _=>true
 |_=>false
def jY:AV->Bool
 |.p x=>Iz x
 |.cI vs=>vs.all fun v=>match v with|.p x=>Iz x|_=>false
 |_=>false
theorem Bo {M M':Mm} {v:Value} {x:PV} (r:bq M v x) (hf:Iz x=true):bq M' v x:=by
 cases r<;>simp[Iz]at hf
 ·exact .b _
 ·exact .i _ _
 ·exact .s _
theorem Jl {g g2:Gh} {w w2:World} {dom dom2:Nat->Prop} {ow ow2:Option bg} {v:Value} {x:AV} (r:aH g w dom ow v x) (hf:jY x=true):aH g2 w2 dom2 ow2 v x:=by
 cases r with
 |p _ _ _ h=>exact .p _ _ _ (Bo h (by simpa[jY] using hf))
 |cI _ vs cs hl hx=>
  refine .cI _ vs cs hl fun j v c q1 q2=>?_;simp only[jY,List.all_eq_true]at hf;have:=hf c (List.mem_of_getElem? q2);split at this
  ·have hr:=hx j v _ q1 q2
   cases hr with
   |p _ _ _ h=>exact .p _ _ _ (Bo h this)
  ·cases this
 |_=>simp[jY]at hf
mutual
def bC:PV->Bool
 |.b _=>true
 |.i _ _=>true
 |.s _=>true
 |.sl _ xs=>aY xs
 |.agg xs=>aY xs
 |.gm=>true
 |.tf=>true
 |.bx cs=>aY cs
 |.bH _ _=>false
 |.kE _ _ _=>false
 |.pa _ _ _ _ _ _ _=>false
 |.uY _ x=>bC x
 |.wU=>true
 |.amp _ _=>false
def aY:List PV->Bool
 | []=>true
 |x::r=>bC x&&aY r
end
theorem ko:∀{l:List PV},aY l=true->∀(j:Nat) (x:PV),l[j]?=some x->bC x=true
 | [],_,j,x,h=>by simp at h
 |a::r,h,0,x,hx=>by simp at hx;subst hx;rw[aY,Bool.and_eq_true]at h;exact h.1
 |a::r,h,j+1,x,hx=>by rw[aY,Bool.and_eq_true]at h;exact ko h.2 j x (by simpa using hx)
theorem DJ {x y:PV} {i:Nat} (h:bC x=true) (hy:x.cells[i]?=some y):bC y=true:=by
 cases x with
 |agg xs=>exact ko (l:=xs) (by simpa[bC] using h) i y hy
 |_=>
  have:i=0:=by have:=(List.getElem?_eq_some_iff.1 hy).1;simp[PV.cells]at this;exact this
  subst this;simp[PV.cells]at hy;subst hy;exact h
theorem bq.plain {M M':Mm} (hm:∀b o v,M b o=some v->M' b o=some v) {v:Value} {x:PV} (r:bq M v x) (hp:bC x=true):bq M' v x:=by
 induction r with
 |b x=>exact .b x
 |i k n=>exact .i k n
 |s x=>exact .s x
 |agg vs xs hl h1 _ ih=>exact .agg vs xs hl h1 (fun j v x q1 q2=>ih j v x q1 q2 (ko (by simpa[bC] using hp) j x q2))
 |nil sz=>exact .nil sz
 |sl a cap sz xs f hs hc hz hm2 _ ih=>exact .sl a cap sz xs f hs hc hz (fun j x hj i y hi=>⟨hm _ _ _ (hm2 j x hj i y hi).1,(hm2 j x hj i y hi).2⟩) (fun j x hj i y hi=>ih j x hj i y hi (DJ (ko (by simpa[bC] using hp) j x hj) hi))
 |gm=>exact .gm
 |tf=>exact .tf
 |bH=>cases hp
 |kE=>cases hp
 |pa=>cases hp
 |uY T v x _ ih=>exact .uY T v x (ih (by simpa[bC] using hp))
 |wU=>exact .wU
 |amp=>cases hp
 |bx a cs f hs2 hm2 _ ih=>exact .bx a cs f hs2 (fun i y hi=>⟨hm _ _ _ (hm2 i y hi).1,(hm2 i y hi).2⟩) (fun i y hi=>ih i y hi (ko (by simpa[bC] using hp) i y hi))
def vV:AV->Bool
 |.p x=>bC x
 |_=>false
def z7:Heap->Nat->Option Nat
 | [],_=>none
 |(l,.store _ _ sp _ _ _)::r,s=>match Nat.beq sp s with|true=>some l|false=>z7 r s
 |_::r,s=>z7 r s
def ov (all:Heap):Heap->Bool
 | []=>true
 |(l,.store _ _ sp nx _ M)::r=>Nat.beq nx 0&&M.isEmpty&&(match z7 all sp with|some l'=>Nat.beq l' l|none=>false)&&ov all r
 |_::_=>false
theorem kA {all:Heap}:∀{st:Heap},ov all st=true->∀{l:Nat} {ob:bu},aF st l=some ob->∃T o sp sz,ob=.store T o sp 0 sz []/\z7 all sp=some l
 | [],_,l,ob,h=>by simp[aF]at h
 |(k,x)::r,hs,l,ob,h=>by
  cases x with
  |store T o sp nx sz M=>
   simp only[ov,Bool.and_eq_true]at hs;obtain⟨⟨⟨h1,h2⟩,h3⟩,h4⟩:=hs
   by_cases e:k=l
   ·subst e
    rw[aQ]at h;cases h;obtain rfl:=Nat.eq_of_beq_eq_true h1;have hM:M=[]:=List.isEmpty_iff.1 h2;subst hM;refine⟨T,o,sp,sz,rfl,?_⟩;split at h3
    ·rename_i l' hl;rw[hl,Nat.eq_of_beq_eq_true h3]
    ·cases h3
   ·rw[aT e]at h;exact kA h4 h
  |_=>simp[ov]at hs
def x9:Heap->Bool
 | []=>true
 |(_,.bJ _ _)::r=>x9 r
 |_::_=>false
theorem jI:∀{G:Heap},x9 G=true->∀{l:Nat} {ob:bu},aF G l=some ob->∃b vs,ob=.bJ b vs
 | [],_,l,ob,h=>by simp[aF]at h
 |(k,x)::r,hs,l,ob,h=>by
  cases x with
  |bJ b vs=>
   by_cases e:k=l
   ·subst e;rw[aQ]at h;cases h;exact⟨b,vs,rfl⟩
   ·rw[aT e]at h;exact jI (by simpa[x9] using hs) h
  |_=>simp[x9]at hs
theorem qL (G st:Heap) (l:Nat):aF (G++st) l=match aF G l with|some ob=>some ob|none=>aF st l:=by
 induction G with
 |nil=>simp[aF]
 |cons p r ih=>
  obtain⟨k,x⟩:=p
  by_cases e:k=l
  ·subst e;rw[List.cons_append,aQ,aQ]
  ·rw[List.cons_append,aT e,aT e,ih]
theorem au.NT {P:Program} {f:Nat} {args:List AV} {G st st':Heap} {r:AV} (h:au P f args (G++st) r (G++st')) (ha:args.all vV=true) (hG:x9 G=true) (hst:ov st st=true)
 (hr:∀(g g2:Gh) (w:World) (d d2:Nat->Prop) (o o2:Option bg) (v:Value),(∀b i u,bT g w b i=some u->bT g2 w b i=some u)->aH g w d o v r->aH g2 w d2 o2 v r):au P f args G r G:=by
 obtain⟨⟨hb,hgl⟩,hc⟩:=h
 have hgl2:fD G G=true:=by
  have key:∀(A:Heap),(∀p∈A,∀b vs,p.2=.bJ b vs->∃vs',aF G p.1=some (.bJ b vs'))->fD G A=true:=by
   intro A
   induction A with
   |nil=>intro _;rfl
   |cons p r ih=>
    intro hA;obtain⟨l,ob⟩:=p;simp only[fD,Bool.and_eq_true];refine⟨?_,ih fun q hq=>hA q (by simp[hq])⟩
    cases ob with
    |bJ b vs=>
     obtain⟨vs',hq⟩:=hA (l,.bJ b vs) (by simp) b vs rfl;simp only[hq];exact Nat.beq_refl b
    |_=>rfl
  have sub:∀(A B:Heap),fD (G++st) (A++B)=true->fD (G++st) A=true:=by
   intro A B
   induction A with
   |nil=>intro _;rfl
   |cons p r ih=>intro q;obtain⟨l,ob⟩:=p;simp only[List.cons_append,fD,Bool.and_eq_true]at q ⊢;exact⟨q.1,ih q.2⟩
  have h1:=sub G st' hgl;clear hgl key;generalize hA:G=A at h1 ⊢
  have:∀(B:Heap),fD (A++st) B=true->fD A B=true:=by
   intro B
   induction B with
   |nil=>intro _;rfl
   |cons p r ih=>
    intro q;obtain⟨l,ob⟩:=p;simp only[fD,Bool.and_eq_true]at q ⊢;refine⟨?_,ih q.2⟩
    cases ob with
    |bJ b vs=>
     have q1:=q.1;simp only[qL]at q1
     cases hq:aF A l with
     |some ob2=>rw[hq]at q1;simpa using q1
     |none=>
      rw[hq]at q1;simp only at q1;split at q1
      ·rename_i b' vs' hq2
       obtain⟨T,o,sp,sz,e,_⟩:=kA hst hq2;cases e
      ·cases q1
    |_=>rfl
  exact this A h1
 refine⟨⟨hb,hgl2⟩,fun g w vs hH hbn hl hrel=>?_⟩
 let g':Gh:={ g with σ:=fun _ _=>none,sown:=z7 st }
 have hH':gx g' w (G++st):=by
  refine⟨fun l ob hob=>?_,fun l ob hob hs=>?_,fun l ob hob hs=>?_⟩
  ·rw[qL]at hob
   cases hq:aF G l with
   |some ob2=>
    rw[hq]at hob;cases hob;obtain⟨b,vs,rfl⟩:=jI hG hq
    cases hH.obj l _ hq with
    |bJ _ _ q=>exact .bJ b vs q
   |none=>
    rw[hq]at hob;obtain⟨T,o,sp,sz,rfl,hso⟩:=kA hst hob;exact .store _ _ _ _ _ _ { sown:=hso,fresh:=fun _ _=>rfl,row:=fun _ _ q=>absurd q (by simp),inj:=fun _ _ _ _ _ _ q=>absurd q (by simp),nodup:=List.nodup_nil }
  ·rw[qL]at hob
   cases hq:aF G l with
   |some ob2=>rw[hq]at hob;cases hob;obtain⟨b,vs,rfl⟩:=jI hG hq;cases hs
   |none=>rw[hq]at hob;obtain⟨T,o,sp,sz,rfl,_⟩:=kA hst hob;cases hs
  ·rw[qL]at hob
   cases hq:aF G l with
   |some ob2=>rw[hq]at hob;cases hob;obtain⟨b,vs,rfl⟩:=jI hG hq;cases hs
   |none=>rw[hq]at hob;obtain⟨T,o,sp,sz,rfl,_⟩:=kA hst hob;cases hs
 have hrel':∀(j:Nat) (v:Value) (x:AV),vs[j]?=some v->args[j]?=some x->aH g' w (aE (G++st)) none v x:=fun j v x q1 q2=>by
  have hp:=List.all_eq_true.1 ha x (List.mem_of_getElem? q2);have hv:=hrel j v x q1 q2
  cases x with
  |p x=>exact .p _ _ _ (bq.plain (M:=bT g w) (M':=bT g' w) (fun _ _ _ q=>q) hv.pv hp)
  |_=>cases hp
 refine(hc g' w vs hH' hbn hl hrel').mono ?_;rintro en w' ⟨v,g1,rfl,hv,hH1,hbn1,hE⟩
 let gF:Gh:={ pre:=g1.pre,own:=fun b=>if b<w.heap.size then g1.own b else none,ρ:=g1.ρ,σ:=g.σ,sown:=g.sown }
 refine⟨v,gF,rfl,hr g1 gF w' _ _ _ _ v (fun _ _ _ q=>q) hv,⟨fun l ob hob=>?_,fun l ob hob hs=>?_,fun l ob hob hs=>?_⟩,fun b o q=>?_,?_⟩
 ·obtain⟨b,vs,rfl⟩:=jI hG hob
  have hob1:aF (G++st') l=some (.bJ b vs):=by rw[qL,hob]
  cases hH1.obj l _ hob1 with
  |bJ _ _ q=>exact .bJ b vs ⟨by show(if b<w.heap.size then g1.own b else none)=none;split<;>first|exact q.1|rfl,q.2⟩
 ·obtain⟨b,vs,rfl⟩:=jI hG hob;cases hs
 ·obtain⟨b,vs,rfl⟩:=jI hG hob;cases hs
 ·replace q:(if b<w.heap.size then g1.own b else none)=some o:=q
  split at q
  ·exact hbn1 b o q
  ·cases q
 ·exact⟨hE.size,hE.os,hE.out,fun b o u hu=>hE.bT b o u hu,fun b hb hn=>by
   obtain⟨q1,q2,q3⟩:=hE.kept b hb hn;exact⟨q1,q2,by show(if b<w.heap.size then g1.own b else none)=none;rw[if_pos hb];exact q3⟩,sJ.of rfl rfl,hE.frz',hE.ρk,hE.siz⟩
theorem au.Qt {P:Program} {f:Nat} {args:List AV} {G st st':Heap} {r:AV} (h:au P f args (G++st) r (G++st')) (ha:args.all vV=true) (hG:x9 G=true) (hst:ov st st=true) (hr:jY r=true):au P f args G r G:=
 h.NT ha hG hst fun _ _ _ _ _ _ _ _ _ hv=>Jl hv hr
theorem au.NL {P:Program} {f:Nat} {args:List AV} {G st st':Heap} {x:PV} (h:au P f args (G++st) (.p x) (G++st')) (ha:args.all vV=true) (hG:x9 G=true) (hst:ov st st=true) (hr:bC x=true):au P f args G (.p x) G:=
 h.NT ha hG hst fun _ _ _ _ _ _ _ _ hm hv=>.p _ _ _ (bq.plain hm hv.pv hr)
inductive M8 (sp k n sz:Nat) (xs:List PV):PV->PV->Prop
 |refl (x:PV):M8 sp k n sz xs x x
 |kE:M8 sp k n sz xs (.kE sp k n) (.sl sz (xs.take n))
 |tf (z:Nat):M8 sp k n sz xs .tf (.sl z [])
 |agg (ps qs:List PV) (hl:ps.length=qs.length) (h:∀(j:Nat) (a b:PV),ps[j]?=some a->qs[j]?=some b->M8 sp k n sz xs a b):M8 sp k n sz xs (.agg ps) (.agg qs)
structure Qf (g:Gh) (w:World) (M:Mm) (sp k n sz:Nat) (xs:List PV):Prop where
 mem:∀b o v,bT g w b o=some v->M b o=some v
 sg:∀s q a,g.σ s q=some a->M.sg s q=some a
 hz:∀x∈xs,x.cells.length=sz
 pos:0<sz
 blk:∃A C,g.σ sp k=some (A,C)/\n<=xs.length/\∀(j:Nat) (x:PV),j<n->xs[j]?=some x->∀(i:Nat) (y:PV),x.cells[i]?=some y->∃v,M A (j*sz+i)=some v/\v.oneCell'=true/\bq (bT g w) v y
theorem M8.rel {g:Gh} {w:World} {M:Mm} {sp k n sz:Nat} {xs:List PV} (hf:Qf g w M sp k n sz xs) {p q:PV} (h:M8 sp k n sz xs p q):∀{v:Value},bq (bT g w) v p->bq M v q:=by
 induction h with
 |refl x=>intro v r;exact r.mono hf.mem hf.sg
 |kE=>
  intro v r;obtain⟨A,C,h1,h2,h3⟩:=hf.blk
  cases r with
  |kE _ _ a _ cap hA hc=>
   have hA:g.σ sp k=some (a,cap):=hA;rw[h1]at hA;cases hA;have hlen:(xs.take n).length=n:=by simp;omega
   have key:∀(j:Nat) (x:PV),(xs.take n)[j]?=some x->j<n/\xs[j]?=some x:=fun j x hx=>by
    have hj:j<n:=by have:=(List.getElem?_eq_some_iff.1 hx).1;omega
    rw[List.getElem?_take_of_lt hj]at hx;exact⟨hj,hx⟩
   have:=bq.sl (M:=M) ⟨A,0,none⟩ C sz (xs.take n) (fun j i=>(M A (j*sz+i)).getD .nilIface) (fun _=>rfl) (by omega) (fun x hx=>hf.hz x (List.mem_of_mem_take hx)) (fun j x hx i y hy=>by
    obtain⟨hj,hx⟩:=key j x hx;obtain⟨v,q1,q2,_⟩:=h3 j x hj hx i y hy;refine⟨?_,by rw[q1];exact q2⟩;show M A (0+j*sz+i)=_;rw[Nat.zero_add,q1];rfl) (fun j x hx i y hy=>by
    obtain⟨hj,hx⟩:=key j x hx;obtain⟨v,q1,_,q3⟩:=h3 j x hj hx i y hy;rw[q1];exact q3.mono hf.mem hf.sg)
   rw[hlen]at this;exact this
 |tf z=>intro v r;cases r;exact .nil z
 |agg ps qs hl _ ih=>
  intro v r
  cases r with
  |agg vs _ hl2 h1 hx=>exact .agg vs qs (hl2.trans hl) h1 (fun j v x q1 q2=>by
    have hj:j<ps.length:=by rw[hl];exact(List.getElem?_eq_some_iff.1 q2).1
    exact ih j ps[j] x (List.getElem?_eq_getElem hj) q2 (hx j v _ q1 (List.getElem?_eq_getElem hj)))
def QW (sp k n sz:Nat) (xs:List PV) (a b:AV):Prop:=(a=b/\∀z l,a≠.so z l)\/∃p q,a=.p p/\b=.p q/\M8 sp k n sz xs p q
theorem au.freeze {P:Program} {f:Nat} {args args2:List AV} {H H0 H':Heap} {r:AV} {l T:Nat} {one:Bool} {sp nx sz k n:Nat} {M:List (Nat×List PV)} {xs:List PV} (h:au P f args2 H0 r H') (hgl:fD H H'=true) (hl:aF H l=some (.store T one sp nx sz M))
 (hs0:∀x,aF H0 x=aF ((l,.store T one sp nx sz (mX k M))::H) x) (hk:th k M=some xs) (hn:n<=xs.length) (hz:sz≠0) (hlen:args.length=args2.length) (hargs:∀(j:Nat) (a b:AV),args[j]?=some a->args2[j]?=some b->QW sp k n sz xs a b):au P f args H r H':=by
 obtain⟨⟨hb,_⟩,hc⟩:=h;refine⟨⟨hb,hgl⟩,fun g w vs hH hbn hvl hrel=>?_⟩;have s:cw g w 0 ⟨#[],[]⟩ [] H:=⟨rfl,rfl,fun i=>.top _ _,hH,hbn⟩
 have hst:=s.blk hl;obtain⟨A,hA,hown,hpre,cs,E,hcs,hpos,⟨_,_⟩,hzz,hxx⟩:=hst.EV hz k xs (dc hk)
 let g1:Gh:={ pre:=fun b=>if b=A.1 then n*sz else g.pre b,own:=fun b=>if b=A.1 then none else g.own b,ρ:=g.ρ,σ:=g.σ,sown:=g.sown }
 have himm:∀b o v,bT g w b o=some v->bT g1 w b o=some v:=fun b o v hv=>by
  by_cases q:b=A.1
  ·subst q;simp only[cO]at hv;rw[hpre]at hv;simp at hv
  ·simp only[cO]at hv ⊢
   show(if o<(if b=A.1 then n*sz else g.pre b) then _ else _)=_;rw[if_neg q];exact hv
 have d1:oe g w g1 w l sp:=by
  refine⟨rfl,rfl,fun _ _ _ q=>q,fun _ _ _=>rfl,himm,fun b o h1 h2=>?_,fun b _ hn0=>?_,fun b cs E hb=>⟨cs,E,hb,rfl⟩,fun b o ho=>?_,Nat.le_refl _,rfl,rfl,fun _ _=>rfl⟩
  ·have q:b≠A.1:=fun e=>by subst e;rw[hown]at h1;cases h1;exact h2 rfl
   exact⟨by show(if b=A.1 then none else g.own b)=_;rw[if_neg q];exact h1,by show(if b=A.1 then n*sz else g.pre b)=_;rw[if_neg q],rfl⟩
  ·have q:b≠A.1:=fun e=>by subst e;rw[hown]at hn0;cases hn0
   exact⟨rfl,by show(if b=A.1 then n*sz else g.pre b)=_;rw[if_neg q],by show(if b=A.1 then none else g.own b)=_;rw[if_neg q];exact hn0⟩
  ·replace ho:(if b=A.1 then none else g.own b)=some o:=ho
   split at ho
   ·cases ho
   ·exact hbn b o ho
 have hst2:ez g1 w l sp nx sz (mX k M):=by
  refine⟨hst.sown,hst.fresh,fun k2 ys q=>?_,fun k1 k2 ys ys2 b b2 q1 q2 q3 q4 q5=>hst.inj k1 k2 ys ys2 b b2 (nM q1) (nM q2) q3 q4 q5,(vM k M).nodup hst.nodup⟩;obtain⟨b,p1,p2,p3,p4⟩:=hst.row k2 ys (nM q);have hne:b.1≠A.1:=fun e=>CA hst.nodup q (hst.inj k2 k ys xs b A (nM q) (dc hk) p1 hA e);exact⟨b,p1,by show(if b.1=A.1 then none else g.own b.1)=_;rw[if_neg hne];exact p2,by show(if b.1=A.1 then n*sz else g.pre b.1)=_;rw[if_neg hne];exact p3,p4.mono himm rfl⟩
 obtain⟨s2,hE1⟩:=s.dyn hl d1 hst2;have s3:=s2.Cb (h2:=H0) hs0
 have hdom:∀x,aE H x->aE H0 x:=fun x hx=>by
  unfold aE at *;rw[hs0 x]
  by_cases q:l=x
  ·subst q;rw[aQ];rfl
  ·rw[aT q];exact hx
 have hF:Qf g w (bT g1 w) sp k n sz xs:=by
  refine⟨himm,fun _ _ _ q=>q,hzz,hpos,A.1,A.2,hA,hn,fun j x hj hx i y hy=>?_⟩;obtain⟨v,q1,q2,q3⟩:=hxx j x hx i y hy;refine⟨v,?_,q2,q3⟩;have hi:i<sz:=by have:=(List.getElem?_eq_some_iff.1 hy).1;rw[hzz x (List.mem_of_getElem? hx)]at this;exact this
  have hlt:j*sz+i<n*sz:=by
   have:=Nat.mul_le_mul_right sz (show j+1<=n by omega);rw[Nat.add_mul,Nat.one_mul]at this;omega
  rw[cO];show(if j*sz+i<(if A.1=A.1 then n*sz else g.pre A.1) then _ else _)=_;rw[if_pos rfl,if_pos hlt];show(match w.heap[A.1]? with|some (.cells c _ _)=>if (none:Option Nat).isSome then none else c[j*sz+i]?|_=>none)=_;rw[hcs];exact q1
 refine(hc g1 w vs s3.heap s3.bnd (hvl.trans hlen) (fun j v b q1 q2=>?_)).mono ?_
 ·have hj:j<args.length:=by rw[hlen];exact(List.getElem?_eq_some_iff.1 q2).1
  have hr:=hrel j v args[j] q1 (List.getElem?_eq_getElem hj);rcases hargs j args[j] b (List.getElem?_eq_getElem hj) q2 with⟨e,_⟩|⟨p,q,e1,e2,hpq⟩
  ·rw[<-e]
   exact hr.keep himm (fun x hx=>⟨hdom x hx,rfl⟩) (fun x cs E _ hb=>⟨cs,E,hb,rfl⟩) (fun o b e1 _=>by cases e1)
  ·rw[e1]at hr;subst e2
   exact .p _ _ _ (hpq.rel hF hr.pv)
 ·rintro en w' ⟨v,g',rfl,hv,hH',hbn',hE⟩
  exact⟨v,g',rfl,hv,hH',hbn',hE1.trans hE⟩
end Go.AM
end
section
open Go Go.AM Go.Proofs TK
namespace MN
theorem s6 {a:Nat} {b:Bool} {c d e:Nat} {f:List (Nat×List PV)}:a=a/\b=b/\c=c/\d=d/\e=e/\f=f:=⟨rfl,rfl,rfl,rfl,rfl,rfl⟩
theorem av:Tryz.prog.follows .mixedOrders=true:=by kernel_rfl
inductive Vl where
 |mk (kind num:Int) (text:ByteArray) (args:List Vl) (cell:Option Nat)
def eP (sp:Nat):Option Nat->PV
 |none=>.gm
 |some k=>.bH sp k
abbrev cS:Nat:=11
mutual
def eV:Vl->PV
 |.mk k n t as_ c=>.agg [.i .i64 k,.i .i64 n,.s t,.sl 5 (bz as_),eP cS c]
def bz:List Vl->List PV
 | []=>[]
 |v::r=>eV v::bz r
end
theorem aR:∀l:List Vl,bz l=l.map eV
 | []=>rfl
 |v::r=>by rw[bz,aR r];rfl
abbrev aZ (α:Type):=Nat×List (Nat×α)
def aK {α:Type} (k:Nat):List (Nat×α)->Option α
 | []=>none
 |(a,x)::r=>match Nat.beq a k with|true=>some x|false=>aK k r
def bf {α:Type} (k:Nat) (x:α):List (Nat×α)->List (Nat×α)
 | []=>[]
 |(a,y)::r=>match Nat.beq a k with|true=>(a,x)::r|false=>(a,y)::bf k x r
def iE {α:Type} (k:Nat):List (Nat×α)->List (Nat×α)
 | []=>[]
 |(a,y)::r=>match Nat.beq a k with|true=>r|false=>(a,y)::iE k r
def cD {α:Type} (enc:α->List PV):List (Nat×α)->List (Nat×List PV)
 | []=>[]
 |(a,x)::r=>(a,enc x)::cD enc r
theorem L4 {α:Type} (enc:α->List PV) (k:Nat):∀M:List (Nat×α),th k (cD enc M)=(aK k M).map enc
 | []=>rfl
 |(a,x)::r=>by
  rw[cD,th,aK,L4 enc k r]
  cases Nat.beq a k<;>rfl
theorem aj {α:Type} {enc:α->List PV} {k:Nat} {M:List (Nat×α)} {x:α} (h:aK k M=some x):th k (cD enc M)=some (enc x):=by rw[L4,h];rfl
theorem bw {α:Type} (enc:α->List PV) {sp z m:Nat} {M:List (Nat×α)} {k:Nat} {a:α} {x:PV} {K:List PV->PV->Prop} (h:aK k M=some a) (hx:(enc a)[0]?=some x) (hK:K (enc a) x):dF (sp=sp/\z+1≠0/\(0=0\/m=z+1)) (QE (cD enc M) k fun xs=>Ct xs ((0:Nat):Int) (K xs)):=⟨⟨rfl,Nat.succ_ne_zero _,.inl rfl⟩,_,aj h,aq (i:=0) hx hK⟩
theorem bN {α:Type} (enc:α->List PV) (k:Nat) (x:α):∀M:List (Nat×α),sset k (enc x) (cD enc M)=cD enc (bf k x M)
 | []=>rfl
 |(a,y)::r=>by
  rw[cD,sset,bf,bN enc k x r]
  cases Nat.beq a k<;>rfl
theorem ug {α:Type} (enc:α->List PV) (k:Nat):∀M:List (Nat×α),mX k (cD enc M)=cD enc (iE k M)
 | []=>rfl
 |(a,y)::r=>by
  rw[cD,mX,iE,ug enc k r]
  cases Nat.beq a k<;>rfl
structure Sc where
 name:ByteArray
 val:Vl
 next:Option Nat
def Px (sp:Nat):Sc->List PV
 |⟨name,.mk k n t as_ c,s⟩=>[.agg [.s name,.i .i64 k,.i .i64 n,.s t,.sl 5 (bz as_),eP cS c,eP sp s]]
def kU:List ByteArray->List Vl->aZ Sc×Option Nat->Option (aZ Sc×Option Nat)
 | [],_,z=>some z
 |n::r,v::vs,z=>kU r vs ((z.1.1+1,(z.1.1,⟨n,v,z.2⟩)::z.1.2),some z.1.1)
 |_::_,[],_=>none
noncomputable def RN:Nat->Option TI:=hint (iX Tryz.prog) 218 [1000023]
theorem LB:bB Tryz.prog RN:=(aG Tryz.prog).hint _ _
def Ay (sp:Nat) (z:aZ Sc):bu:=.store 218 true sp z.1 7 (cD (Px sp) z.2)
theorem vw (sp:Nat) (names:List ByteArray) (vs:List Vl) (z0 R:aZ Sc×Option Nat) (hn:names.length<=4611686018427387904) (hF:kU names vs z0=some R):
 au Tryz.prog 54 [.p (eP sp z0.2),.p (.sl 1 (names.map .s)),.p (.sl 5 (bz vs))] [(1000000000,Ay sp z0.1)] (.p (eP sp R.2)) [(1000000000,Ay sp R.1)]:=by
 unfold Ay;refine au.intro LB av Tryz.func54 rfl (by rfl) (by kernel_rfl) (by show 3<=_;decide) rfl ?_;(conv=>whnf);refine bK LB av (by kernel_rfl) names.length [0,2,9,10,11] [1000000000] (fun j (z:aZ Sc×Option Nat)=>[.p (eP sp z.2),.p (.sl 5 (bz vs)),.p (.sl 1 (names.map .s)),.p (.i .i64 (names.map PV.s).length),.p (.i .i64 (ix j))]) (fun _ z=>[.store 218 true sp z.1.1 7 (cD (Px sp) z.1.2)]) (fun j z=>kU (names.drop j) (vs.drop j) z=some R) z0 ⟨rfl,rfl,rfl,rfl⟩ hF ?_;rintro j ⟨⟨nx,M⟩,s⟩ hj hQ;(conv=>whnf);refine ai ?_ ?_<;>intro h1<;>conv=>whnf
 ·have hj1:=cu h1 (by simp) hj (by omega)
  obtain⟨a,ha1⟩:∃a,names[j]?=some a:=⟨_,List.getElem?_eq_getElem hj1⟩
  rw[drop_cons ha1]at hQ
  cases hv:vs[j]? with
  |none=>
   rw[List.drop_eq_nil_of_le (List.getElem?_eq_none_iff.1 hv)]at hQ;cases hQ
  |some v=>
   rw[drop_cons hv]at hQ;obtain⟨vk,vn,vt,va,vc⟩:=v;refine bM (x:=.s a) (by simp[ha1]) (by omega) ?_;(conv=>whnf);refine bM (x:=.agg [.i .i64 vk,.i .i64 vn,.s vt,.sl 5 (bz va),eP cS vc]) (by rw[aR];simp[hv,eV]) (by omega) ?_
   cases s with
   |none=>
    (conv=>whnf);exact⟨hj1,((nx+1,(nx,⟨a,.mk vk vn vt va vc,none⟩)::M),some nx),⟨rfl,rfl,rfl,rfl⟩,hQ⟩
   |some k=>
    (conv=>whnf);exact⟨hj1,((nx+1,(nx,⟨a,.mk vk vn vt va vc,some k⟩)::M),some nx),⟨rfl,rfl,rfl,rfl⟩,hQ⟩
 ·have h1:=cv h1 (by simp) hj (by omega)
  subst h1;rw[List.drop_length]at hQ;cases hQ;exact⟨.inl rfl,⟨s6,trivial⟩⟩
def findF (M:List (Nat×Sc)) (name:ByteArray):Nat->Option Nat->Option (Option Vl)
 |_,none=>some none
 |0,some _=>none
 |n+1,some k=>match aK k M with
  |none=>none
  |some c=>match c.name.toList==name.toList with|true=>some (some c.val)|false=>findF M name n c.next
def zV:Vl:=.mk 0 0 ⟨#[]⟩ [] none
def Qz (R:Option Vl):AV:=.cI [.p (eV (R.getD zV)),.p (.b R.isSome)]
theorem find_spec (sp:Nat) (z:aZ Sc) (name:ByteArray) (s0:Option Nat) (n:Nat) (R:Option Vl) (hF:findF z.2 name n s0=some R):
 au Tryz.prog 254 [.p (eP sp s0),.p (.s name)] [(1000000000,Ay sp z)] (Qz R) [(1000000000,Ay sp z)]:=by
 unfold Ay;refine au.iN av Tryz.func254 rfl (by rfl) (by kernel_rfl) rfl rfl ?_;(conv=>whnf);refine bK (aG _) av (by kernel_rfl) n [0,1,4] [4,1000000000] (fun j (s:Option Nat)=>[.p (eP sp s),.p (.s name),.ptr 4 0]) (fun _ _=>[.cells [.p (.i .i64 0),.p (.i .i64 0),.p (.s ⟨#[]⟩),.cx,.p .gm],.store 218 true sp z.1 7 (cD (Px sp) z.2)]) (fun j s=>findF z.2 name (n-j) s=some R) s0 ⟨rfl,rfl,rfl,rfl⟩ hF ?_;rintro j s hj hQ
 cases s with
 |none=>
  (conv=>whnf);rw[show findF z.2 name (n-j) none=some none by cases n-j<;>rfl]at hQ;cases hQ;exact⟨.inl rfl,⟨s6,trivial⟩⟩
 |some k=>
  obtain⟨m,hm⟩:∃m,n-j=m+1:=by
   cases hq:n-j with
   |zero=>rw[hq]at hQ;cases hQ
   |succ m=>exact⟨m,rfl⟩
  rw[hm,findF]at hQ
  cases hc:aK k z.2 with
  |none=>rw[hc]at hQ;cases hQ
  |some c=>
   rw[hc]at hQ;simp only at hQ;obtain⟨cn,⟨vk,vn,vt,va,vc⟩,cs⟩:=c;(conv=>whnf);refine ag ⟨rfl,by decide,.inl rfl⟩ ?_;refine⟨_,aj hc,?_⟩;refine aq (i:=0) rfl ?_;(conv=>whnf);refine ai ?_ ?_<;>intro h1<;>conv=>whnf
   ·rw[show(cn.toList==name.toList)=true from h1]at hQ
    cases hQ;refine ag ⟨rfl,by decide,.inl rfl⟩ ?_;refine⟨_,aj hc,?_⟩;refine aq (i:=0) rfl ?_;(conv=>whnf);exact⟨.inl rfl,⟨s6,trivial⟩⟩
   ·rw[show(cn.toList==name.toList)=false from h1]at hQ
    refine ag ⟨rfl,by decide,.inl rfl⟩ ?_;refine⟨_,aj hc,?_⟩;refine aq (i:=0) rfl ?_;(conv=>whnf);exact⟨by omega,cs,⟨rfl,rfl,rfl,rfl⟩,by rw[show n-(j+1)=m by omega];exact hQ⟩
structure Cl where
 gone:Bool
 val:Vl
def Au:Cl->List PV
 |⟨g,.mk k n t as_ c⟩=>[.agg [.b g,.i .i64 k,.i .i64 n,.s t,.sl 5 (bz as_),eP cS c]]
def kQ (z:aZ Cl):bu:=.store 212 true cS z.1 6 (cD Au z.2)
def dS (M:List (Nat×Cl)):Vl->Option (List Vl)
 |.mk k _ _ l c=>match k==8 with
  |false=>some l
  |true=>match c with
   |none=>none
   |some a=>match aK a M with
    |none=>none
    |some x=>match x.gone with|true=>some []|false=>some [x.val]
theorem od (z:aZ Cl) (v:Vl) (R:List Vl) (hF:dS z.2 v=some R):
 au Tryz.prog 120 [.p (eV v)] [(1000000000,kQ z)] (.p (.sl 5 (bz R))) [(1000000000,kQ z)]:=by
 unfold kQ;obtain⟨k,n,t,l,c⟩:=v;unfold dS at hF;dsimp only at hF;rw[eV];refine au.iN av Tryz.func120 rfl (by rfl) (by kernel_rfl) rfl rfl ?_;(conv=>whnf);refine ai ?_ ?_<;>intro h1<;>conv=>whnf
 ·rw[show(k==8)=false by simpa using h1]at hF
  cases hF;exact⟨.inl rfl,⟨s6,trivial⟩⟩
 ·rw[show(k==8)=true by simpa using h1]at hF
  cases c with
  |none=>cases hF
  |some a=>
   simp only at hF
   cases hc:aK a z.2 with
   |none=>rw[hc]at hF;cases hF
   |some x=>
    rw[hc]at hF;obtain⟨g,⟨vk,vn,vt,va,vc⟩⟩:=x;(conv=>whnf);refine ag ⟨rfl,by decide,.inl rfl⟩ ?_;refine⟨_,aj hc,?_⟩;refine aq (i:=0) rfl ?_;(conv=>whnf)
    cases g with
    |true=>
     cases hF;(conv=>whnf);exact⟨.inr rfl,⟨s6,trivial⟩⟩
    |false=>
     cases hF;(conv=>whnf);refine ag ⟨rfl,by decide,.inl rfl⟩ ?_;refine⟨_,aj hc,?_⟩;refine aq (i:=0) rfl ?_;(conv=>whnf);exact⟨.inr rfl,⟨s6,trivial⟩⟩
def rG (f:Vl->Int->Option (Bool×Int)):List Vl->Int->Option (Bool×Int)
 | [],s=>some (true,s)
 |v::r,s=>match f v s with
  |none=>none
  |some (false,s')=>some (false,s')
  |some (true,s')=>rG f r s'
def jb (M:List (Nat×Cl)):Nat->Vl->Int->Int->Option (Bool×Int)
 |0,_,_,_=>none
 |n+1,v,d,s=>match decide (s-1<0)||decide (d>40) with
  |true=>some (false,s-1)
  |false=>match dS M v with
   |none=>none
   |some l=>match decide (l.length<=2000000) with
    |false=>none
    |true=>rG (fun v s=>jb M n v (d+1) s) l (s-1)
theorem yU (M:List (Nat×Cl)):∀(n:Nat) (v:Vl) (d s:Int) (b:Bool) (s':Int),jb M n v d s=some (b,s')->s'<=s/\(b=true->0<=s')
 |0,_,_,_,_,_,h=>by cases h
 |n+1,v,d,s,b,s',h=>by
  unfold jb at h;split at h
  ·cases h;exact⟨by omega,fun q=>by cases q⟩
  ·rename_i hq
   have h0:0<=s-1:=by
    simp only[Bool.or_eq_false_iff,decide_eq_false_iff_not]at hq;omega
   split at h
   ·cases h
   ·rename_i l _
    split at h
    ·cases h
    ·have key:∀(l:List Vl) (s:Int),0<=s->rG (fun v s=>jb M n v (d+1) s) l s=some (b,s')->s'<=s/\(b=true->0<=s'):=by
      intro l
      induction l with
      |nil=>intro s hs hl;cases hl;exact⟨by omega,fun _=>hs⟩
      |cons v r ih=>
       intro s hs hl;rw[rG]at hl;split at hl
       ·cases hl
       ·rename_i s1 h1
        cases hl;have:=yU M n _ _ _ _ _ h1;exact⟨this.1,fun q=>by cases q⟩
       ·rename_i s1 h1
        have h2:=yU M n _ _ _ _ _ h1;have h3:=ih s1 (h2.2 rfl) hl;exact⟨by omega,h3.2⟩
     have:=key l (s-1) h0 h;exact⟨by omega,this.2⟩
theorem EG:∀l:List AV,Ka l l
 | []=>trivial
 |_::r=>⟨.inl rfl,EG r⟩
theorem xo (l:List AV):wS (.cells l) (.cells l):=EG l
theorem tS (z:aZ Cl):∀(n:Nat) (v:Vl) (d s:Int) (b:Bool) (s':Int),0<=s->s<=1000->0<=d->d<=41->jb z.2 n v d s=some (b,s')->
 au Tryz.prog 81 [.p (eV v),.ptr 1000000000 0,.p (.i .i64 d)] [(1000000000,.cells [.p (.i .i64 s)]),(1000000001,kQ z)] (.p (.b b)) [(1000000000,.cells [.p (.i .i64 s')]),(1000000001,kQ z)]
 |0,_,_,_,_,_,_,_,_,_,hF=>by cases hF
 |n+1,v,d,s,b,s',hs0,hs1,hd0,hd1,hF=>by
  have ih:=tS z n;unfold jb at hF;obtain⟨vk,vn,vt,va,vc⟩:=v;rw[eV];have hp:=od z (.mk vk vn vt va vc);rw[eV]at hp;unfold kQ at *;refine au.iN av Tryz.func81 rfl (by rfl) (by kernel_rfl) rfl rfl ?_;(conv=>whnf);rw[wrap64 (by omega) (by omega)];have hw:IntKind.i64.wrap (s-1)=s-1:=wrap64 (by omega) (by omega);clear hw;refine ai ?_ ?_<;>intro g1<;>conv=>whnf
  ·rw[show decide (s-1<0)=true from g1,Bool.true_or]at hF
   cases hF;exact⟨.inl rfl,⟨xo _,s6,trivial⟩⟩
  rw[show decide (s-1<0)=false from g1,Bool.false_or]at hF;refine ai ?_ ?_<;>intro g2<;>conv=>whnf
  ·rw[show decide (d>40)=true from g2]at hF
   cases hF;exact⟨.inl rfl,⟨xo _,s6,trivial⟩⟩
  rw[show decide (d>40)=false from g2]at hF;have g1:=of_decide_eq_false g1;have g2:¬d>40:=of_decide_eq_false g2;dsimp only at hF
  cases hpf:dS z.2 (.mk vk vn vt va vc) with
  |none=>rw[hpf]at hF;cases hF
  |some l=>
   rw[hpf]at hF;dsimp only at hF
   cases hll:decide (l.length<=2000000) with
   |false=>rw[hll]at hF;cases hF
   |true=>
    rw[hll]at hF;dsimp only at hF;have hll:=of_decide_eq_true hll;have hp:=hp l hpf;refine bh [1000000001] 300 hp ?_;(conv=>whnf);refine bK (aG _) av (by kernel_rfl) l.length [1,2,23,24,25] [1000000000,1000000001] (fun j (_:Int)=>[.ptr 1000000000 0,.p (.i .i64 d),.p (.sl 5 (bz l)),.p (.i .i64 (bz l).length),.p (.i .i64 (ix j))]) (fun _ s=>[.cells [.p (.i .i64 s)],.store 212 true cS z.1 6 (cD Au z.2)]) (fun j s1=>0<=s1/\s1<=s/\rG (fun v s=>jb z.2 n v (d+1) s) (l.drop j) s1=some (b,s')) (s-1) ⟨rfl,rfl,rfl,rfl⟩ ⟨by omega,by omega,hF⟩ ?_;rintro j s1 hj ⟨q1,q2,hQ⟩;have hlen:(bz l).length=l.length:=by rw[aR];simp
    (conv=>whnf);refine ai ?_ ?_<;>intro h1<;>conv=>whnf
    ·have hj1:=cu h1 (by rw[hlen]) hj (by omega)
     obtain⟨u,hu⟩:∃u,l[j]?=some u:=⟨_,List.getElem?_eq_getElem hj1⟩
     rw[drop_cons hu,rG]at hQ
     cases hm:jb z.2 n u (d+1) s1 with
     |none=>rw[hm]at hQ;cases hQ
     |some q=>
      obtain⟨b1,s2⟩:=q;rw[hm]at hQ;have hle:=yU z.2 n u (d+1) s1 b1 s2 hm;have hi:=ih u (d+1) s1 b1 s2 q1 (by omega) (by omega) (by omega) hm;obtain⟨uk,un,ut,ua,uc⟩:=u;rw[eV]at hi;refine bM (x:=.agg [.i .i64 uk,.i .i64 un,.s ut,.sl 5 (bz ua),eP cS uc]) (by rw[aR];simp[hu,eV]) (by omega) ?_;(conv=>whnf);rw[wrap64 (by omega) (by omega)];refine bh [1000000000,1000000001] 400 hi ?_;(conv=>whnf)
      cases b1 with
      |false=>
       cases hQ;(conv=>whnf);exact⟨.inl rfl,⟨xo _,s6,trivial⟩⟩
      |true=>
       (conv=>whnf);exact⟨hj1,s2,⟨rfl,rfl,rfl,rfl⟩,hle.2 rfl,by omega,hQ⟩
    ·have h1:=cv h1 (by rw[hlen]) hj (by omega)
     subst h1;rw[List.drop_length]at hQ;cases hQ;exact⟨.inl rfl,⟨xo _,s6,trivial⟩⟩
def jg (M:List (Nat×Cl)) (v:Vl):Option Bool:=match jb M 42 v 1 400 with
 |none=>none
 |some q=>some (!q.1)
theorem oF (z:aZ Cl) (v:Vl) (b:Bool) (hF:jg z.2 v=some b):au Tryz.prog 53 [.p (eV v)] [(1000000000,kQ z)] (.p (.b b)) [(1000000000,kQ z)]:=by
 unfold jg at hF
 cases hm:jb z.2 42 v 1 400 with
 |none=>rw[hm]at hF;cases hF
 |some q=>
  obtain⟨b1,s1⟩:=q;rw[hm]at hF;cases hF;have hs:=tS z 42 v 1 400 b1 s1 (by omega) (by omega) (by omega) (by omega) hm;obtain⟨vk,vn,vt,va,vc⟩:=v;rw[eV]at hs ⊢;unfold kQ at *;refine au.iN av Tryz.func53 rfl (by rfl) (by kernel_rfl) rfl rfl ?_;(conv=>whnf);refine bh [3,1000000000] 300 hs ?_;(conv=>whnf);exact⟨.inl rfl,⟨s6,trivial⟩⟩
def mN (M:List (Nat×Cl)):List Vl->Option Bool
 | []=>some false
 |v::r=>match jg M v with
  |none=>none
  |some true=>some true
  |some false=>mN M r
theorem ni (z:aZ Cl) (l:List Vl) (b:Bool) (hl:l.length<=2000000) (hF:mN z.2 l=some b):au Tryz.prog 39 [.p (.sl 5 (bz l))] [(1000000000,kQ z)] (.p (.b b)) [(1000000000,kQ z)]:=by
 have hlen:(bz l).length=l.length:=by rw[aR];simp
 have hs:=oF z;unfold kQ at *;refine au.iN av Tryz.func39 rfl (by rfl) (by kernel_rfl) rfl rfl ?_;(conv=>whnf);refine bK (aG _) av (by kernel_rfl) l.length [5,6,7] [1000000000] (fun j (_:Unit)=>[.p (.sl 5 (bz l)),.p (.i .i64 (bz l).length),.p (.i .i64 (ix j))]) (fun _ _=>[.store 212 true cS z.1 6 (cD Au z.2)]) (fun j _=>mN z.2 (l.drop j)=some b) () ⟨rfl,rfl,rfl,rfl⟩ hF ?_;rintro j _ hj hQ;(conv=>whnf);refine ai ?_ ?_<;>intro h1<;>conv=>whnf
 ·have hj1:=cu h1 (by rw[hlen]) hj (by omega)
  obtain⟨u,hu⟩:∃u,l[j]?=some u:=⟨_,List.getElem?_eq_getElem hj1⟩
  rw[drop_cons hu,mN]at hQ
  cases hm:jg z.2 u with
  |none=>rw[hm]at hQ;cases hQ
  |some b1=>
   rw[hm]at hQ;have hi:=hs u b1 hm;obtain⟨uk,un,ut,ua,uc⟩:=u;rw[eV]at hi;refine bM (x:=.agg [.i .i64 uk,.i .i64 un,.s ut,.sl 5 (bz ua),eP cS uc]) (by rw[aR];simp[hu,eV]) (by omega) ?_;(conv=>whnf);refine bh [1000000000] 300 hi ?_;(conv=>whnf)
   cases b1 with
   |true=>
    cases hQ;(conv=>whnf);exact⟨.inl rfl,⟨s6,trivial⟩⟩
   |false=>
    (conv=>whnf);exact⟨hj1,(),⟨rfl,rfl,rfl,rfl⟩,hQ⟩
 ·have h1:=cv h1 (by rw[hlen]) hj (by omega)
  subst h1;rw[List.drop_length]at hQ;cases hQ;exact⟨.inl rfl,⟨s6,trivial⟩⟩
def CZ (M:List (Nat×Cl)) (v:Vl):Option (Vl×ByteArray):=match jg M v with
 |none=>none
 |some true=>some (zV,⟨#[108,97,114,103,101]⟩)
 |some false=>some (v,⟨#[]⟩)
theorem Ei (z:aZ Cl) (v:Vl) (R:Vl×ByteArray) (hF:CZ z.2 v=some R):au Tryz.prog 265 [.p (eV v)] [(1000000000,kQ z)] (.cI [.p (eV R.1),.p (.s R.2)]) [(1000000000,kQ z)]:=by
 unfold CZ at hF
 cases hm:jg z.2 v with
 |none=>rw[hm]at hF;cases hF
 |some b=>
  rw[hm]at hF;have hs:=oF z v b hm;obtain⟨vk,vn,vt,va,vc⟩:=v;rw[eV]at hs ⊢;unfold kQ at *;refine au.iN av Tryz.func265 rfl (by rfl) (by kernel_rfl) rfl rfl ?_;(conv=>whnf);refine bh [1000000000] 300 hs ?_;(conv=>whnf)
  cases b with
  |true=>
   cases hF;(conv=>whnf);exact⟨.inl rfl,⟨s6,trivial⟩⟩
  |false=>
   cases hF;(conv=>whnf);exact⟨.inl rfl,⟨s6,trivial⟩⟩
def Gp (M:List (Nat×Cl)):Vl->Option (Vl×ByteArray)
 |.mk k _ _ _ c=>match k==8 with
  |false=>some (zV,⟨#[116,121,112,101]⟩)
  |true=>match c with
   |none=>none
   |some a=>match aK a M with
    |none=>none
    |some x=>match x.gone with|true=>some (zV,⟨#[103,111,110,101]⟩)|false=>some (x.val,⟨#[]⟩)
theorem Kx (z:aZ Cl) (v:Vl) (R:Vl×ByteArray) (hF:Gp z.2 v=some R):
 au Tryz.prog 266 [.p (eV v)] [(1000000000,kQ z)] (.cI [.p (eV R.1),.p (.s R.2)]) [(1000000000,kQ z)]:=by
 unfold kQ;obtain⟨k,n,t,l,c⟩:=v;unfold Gp at hF;dsimp only at hF;rw[eV];refine au.iN av Tryz.func266 rfl (by rfl) (by kernel_rfl) rfl rfl ?_;(conv=>whnf);refine ai ?_ ?_<;>intro h1<;>conv=>whnf
 ·rw[show(k==8)=false by simpa using h1]at hF
  cases hF;exact⟨.inl rfl,⟨s6,trivial⟩⟩
 ·rw[show(k==8)=true by simpa using h1]at hF
  cases c with
  |none=>cases hF
  |some a=>
   simp only at hF
   cases hc:aK a z.2 with
   |none=>rw[hc]at hF;cases hF
   |some x=>
    rw[hc]at hF;obtain⟨g,⟨vk,vn,vt,va,vc⟩⟩:=x;(conv=>whnf);refine ag ⟨rfl,by decide,.inl rfl⟩ ?_;refine⟨_,aj hc,?_⟩;refine aq (i:=0) rfl ?_;(conv=>whnf)
    cases g with
    |true=>
     cases hF;(conv=>whnf);exact⟨.inl rfl,⟨s6,trivial⟩⟩
    |false=>
     cases hF;(conv=>whnf);refine ag ⟨rfl,by decide,.inl rfl⟩ ?_;refine⟨_,aj hc,?_⟩;refine aq (i:=0) rfl ?_;(conv=>whnf);exact⟨.inl rfl,⟨s6,trivial⟩⟩
def Pf (M:List (Nat×Cl)) (c:Option Nat) (a:Nat):Option Bool:=match c with
 |none=>some false
 |some b=>match aK b M with
  |none=>none
  |some _=>match aK a M with
   |none=>none
   |some _=>some (Nat.beq b a)
def nT (f:Vl->Option Bool):List Vl->Option Bool
 | []=>some false
 |v::r=>match f v with
  |none=>none
  |some true=>some true
  |some false=>nT f r
def Vl.cell:Vl->Option Nat
 |.mk _ _ _ _ c=>c
def iO (M:List (Nat×Cl)) (a:Nat):Nat->Vl->Option Bool
 |0,_=>none
 |n+1,v=>match Pf M v.cell a with
  |none=>none
  |some true=>some true
  |some false=>match dS M v with
   |none=>none
   |some l=>match decide (l.length<=2000000) with
    |false=>none
    |true=>nT (iO M a n) l
theorem xW (z:aZ Cl) (a:Nat):∀(n:Nat) (v:Vl) (b:Bool),iO z.2 a n v=some b->
 au Tryz.prog 271 [.p (eV v),.p (.bH cS a)] [(1000000000,kQ z)] (.p (.b b)) [(1000000000,kQ z)]
 |0,_,_,hF=>by cases hF
 |n+1,v,b,hF=>by
  have ih:=xW z a n;unfold iO at hF;obtain⟨vk,vn,vt,va,vc⟩:=v;rw[eV];have hp:=od z (.mk vk vn vt va vc);rw[eV]at hp;unfold kQ at *;rw[Vl.cell]at hF
  have main:(match dS z.2 (.mk vk vn vt va vc) with|none=>none|some l=>match decide (l.length<=2000000) with|false=>none|true=>nT (iO z.2 a n) l)=some b->
   ∀R:List Vl,dS z.2 (.mk vk vn vt va vc)=some R->R.length<=2000000/\nT (iO z.2 a n) R=some b:=fun h R hR=>by
   rw[hR]at h;dsimp only at h;split at h
   ·cases h
   ·rename_i q;exact⟨of_decide_eq_true q,h⟩
  have some_:(match dS z.2 (.mk vk vn vt va vc) with|none=>none|some l=>match decide (l.length<=2000000) with|false=>none|true=>nT (iO z.2 a n) l)=some b->∃R,dS z.2 (.mk vk vn vt va vc)=some R:=fun h=>by
   cases hq:dS z.2 (.mk vk vn vt va vc) with
   |none=>rw[hq]at h;cases h
   |some R=>exact⟨R,rfl⟩
  refine au.iN av Tryz.func271 rfl (by rfl) (by kernel_rfl) rfl rfl ?_;(conv=>whnf)
  cases vc with
  |none=>
   (conv=>whnf);rw[show Pf z.2 none a=some false from rfl]at hF;dsimp only at hF;obtain⟨R,hR⟩:=some_ hF;obtain⟨hRl,hQ0⟩:=main hF R hR;have hp:=hp R hR;clear main some_ hF;have hlen:(bz R).length=R.length:=by rw[aR];simp
   (conv=>whnf);refine bh [1000000000] 300 hp ?_;(conv=>whnf);refine bK (aG _) av (by kernel_rfl) R.length [1,12,13,14] [1000000000] (fun j (_:Unit)=>[.p (.bH cS a),.p (.sl 5 (bz R)),.p (.i .i64 (bz R).length),.p (.i .i64 (ix j))]) (fun _ _=>[.store 212 true cS z.1 6 (cD Au z.2)]) (fun j _=>nT (iO z.2 a n) (R.drop j)=some b) () ⟨rfl,rfl,rfl,rfl⟩ hQ0 ?_;rintro j _ hj hQ;(conv=>whnf);refine ai ?_ ?_<;>intro h1<;>conv=>whnf
   ·have hj1:=cu h1 (by rw[hlen]) hj (by omega)
    obtain⟨u,hu⟩:∃u,R[j]?=some u:=⟨_,List.getElem?_eq_getElem hj1⟩
    rw[drop_cons hu,nT]at hQ
    cases hm:iO z.2 a n u with
    |none=>rw[hm]at hQ;cases hQ
    |some b1=>
     rw[hm]at hQ;have hi:=ih u b1 hm;obtain⟨uk,un,ut,ua,uc⟩:=u;rw[eV]at hi;refine bM (x:=.agg [.i .i64 uk,.i .i64 un,.s ut,.sl 5 (bz ua),eP cS uc]) (by rw[aR];simp[hu,eV]) (by omega) ?_;(conv=>whnf);refine bh [1000000000] 300 hi ?_;(conv=>whnf)
     cases b1 with
     |true=>
      cases hQ;(conv=>whnf);exact⟨.inl rfl,⟨s6,trivial⟩⟩
     |false=>
      (conv=>whnf);exact⟨hj1,(),⟨rfl,rfl,rfl,rfl⟩,hQ⟩
   ·have h1:=cv h1 (by rw[hlen]) hj (by omega)
    subst h1;rw[List.drop_length]at hQ;cases hQ;exact⟨.inl rfl,⟨s6,trivial⟩⟩
  |some k=>
   unfold Pf at hF;dsimp only at hF
   cases hk:aK k z.2 with
   |none=>rw[hk]at hF;cases hF
   |some ck=>
    rw[hk]at hF
    cases ha:aK a z.2 with
    |none=>rw[ha]at hF;cases hF
    |some ca=>
     rw[ha]at hF;dsimp only at hF;(conv=>whnf);refine ag ⟨rfl,rfl,by decide,by rw[aj hk];rfl,by rw[aj ha];rfl⟩ ?_;(conv=>whnf);refine ai ?_ ?_<;>intro h0<;>conv=>whnf
     ·rw[show Nat.beq k a=true from h0]at hF
      cases hF;exact⟨.inl rfl,⟨s6,trivial⟩⟩
     ·rw[show Nat.beq k a=false from h0]at hF
      dsimp only at hF;obtain⟨R,hR⟩:=some_ hF;obtain⟨hRl,hQ0⟩:=main hF R hR;have hp:=hp R hR;clear main some_ hF;have hlen:(bz R).length=R.length:=by rw[aR];simp
      (conv=>whnf);refine bh [1000000000] 300 hp ?_;(conv=>whnf);refine bK (aG _) av (by kernel_rfl) R.length [1,12,13,14] [1000000000] (fun j (_:Unit)=>[.p (.bH cS a),.p (.sl 5 (bz R)),.p (.i .i64 (bz R).length),.p (.i .i64 (ix j))]) (fun _ _=>[.store 212 true cS z.1 6 (cD Au z.2)]) (fun j _=>nT (iO z.2 a n) (R.drop j)=some b) () ⟨rfl,rfl,rfl,rfl⟩ hQ0 ?_;rintro j _ hj hQ;(conv=>whnf);refine ai ?_ ?_<;>intro h1<;>conv=>whnf
      ·have hj1:=cu h1 (by rw[hlen]) hj (by omega)
       obtain⟨u,hu⟩:∃u,R[j]?=some u:=⟨_,List.getElem?_eq_getElem hj1⟩
       rw[drop_cons hu,nT]at hQ
       cases hm:iO z.2 a n u with
       |none=>rw[hm]at hQ;cases hQ
       |some b1=>
        rw[hm]at hQ;have hi:=ih u b1 hm;obtain⟨uk,un,ut,ua,uc⟩:=u;rw[eV]at hi;refine bM (x:=.agg [.i .i64 uk,.i .i64 un,.s ut,.sl 5 (bz ua),eP cS uc]) (by rw[aR];simp[hu,eV]) (by omega) ?_;(conv=>whnf);refine bh [1000000000] 300 hi ?_;(conv=>whnf)
        cases b1 with
        |true=>
         cases hQ;(conv=>whnf);exact⟨.inl rfl,⟨s6,trivial⟩⟩
        |false=>
         (conv=>whnf);exact⟨hj1,(),⟨rfl,rfl,rfl,rfl⟩,hQ⟩
      ·have h1:=cv h1 (by rw[hlen]) hj (by omega)
       subst h1;rw[List.drop_length]at hQ;cases hQ;exact⟨.inl rfl,⟨s6,trivial⟩⟩
noncomputable def RP:Nat->Option TI:=hint (iX Tryz.prog) 212 [1000018]
theorem Ol:bB Tryz.prog RP:=(aG Tryz.prog).hint _ _
def lQ:ByteArray:=⟨#[108,97,114,103,101]⟩
def cK:ByteArray:=⟨#[116,121,112,101]⟩
def LQ:ByteArray:=⟨#[103,111,110,101]⟩
def FF (z:aZ Cl) (v x:Vl):Option (ByteArray×aZ Cl):=match v with
 |.mk k _ _ _ c=>match k==8 with
  |false=>some (cK,z)
  |true=>match c with
   |none=>none
   |some a=>match aK a z.2 with
    |none=>none
    |some q=>match q.gone with
     |true=>some (LQ,z)
     |false=>match jg ((z.1,⟨false,x⟩)::z.2) (.mk 8 0 ⟨#[]⟩ [] (some z.1)) with
      |none=>none
      |some true=>some (lQ,(z.1+1,(z.1,⟨false,x⟩)::z.2))
      |some false=>match iO ((z.1,⟨false,x⟩)::z.2) a 45 x with
       |none=>none
       |some true=>some (lQ,(z.1+1,(z.1,⟨false,x⟩)::z.2))
       |some false=>match aK a ((z.1,(⟨false,x⟩:Cl))::z.2) with
        |none=>none
        |some q2=>some (⟨#[]⟩,(z.1+1,bf a ⟨q2.gone,x⟩ ((z.1,⟨false,x⟩)::z.2)))
theorem J6 (z:aZ Cl) (v x:Vl) (R:ByteArray×aZ Cl) (hF:FF z v x=some R):
 au Tryz.prog 267 [.p (eV v),.p (eV x)] [(1000000000,kQ z)] (.p (.s R.1)) [(1000000000,kQ R.2)]:=by
 unfold FF at hF;obtain⟨k,n,t,l,c⟩:=v;obtain⟨xk,xn,xt,xa,xc⟩:=x;dsimp only at hF;have hs:=fun b=>oF (z.1+1,(z.1,⟨false,.mk xk xn xt xa xc⟩)::z.2) (.mk 8 0 ⟨#[]⟩ [] (some z.1)) b;have hh:=fun a b=>xW (z.1+1,(z.1,⟨false,.mk xk xn xt xa xc⟩)::z.2) a 45 (.mk xk xn xt xa xc) b;rw[eV,eV];rw[eV]at hs hh;unfold kQ at *;refine au.intro Ol av Tryz.func267 rfl (by rfl) (by kernel_rfl) (by show 2<=_;decide) rfl ?_;(conv=>whnf);refine ai ?_ ?_<;>intro h1<;>conv=>whnf
 ·rw[show(k==8)=false by simpa using h1]at hF
  cases hF;exact⟨.inl rfl,⟨s6,trivial⟩⟩
 ·rw[show(k==8)=true by simpa using h1]at hF
  cases c with
  |none=>cases hF
  |some a=>
   dsimp only at hF
   cases hc:aK a z.2 with
   |none=>rw[hc]at hF;cases hF
   |some q=>
    rw[hc]at hF;obtain⟨g,⟨vk,vn,vt,va,vc⟩⟩:=q;(conv=>whnf);refine ag ⟨rfl,by decide,.inl rfl⟩ ?_;refine⟨_,aj hc,?_⟩;refine aq (i:=0) rfl ?_;(conv=>whnf)
    cases g with
    |true=>
     cases hF;(conv=>whnf);exact⟨.inl rfl,⟨s6,trivial⟩⟩
    |false=>
     dsimp only at hF;(conv=>whnf)
     cases hl:jg ((z.1,⟨false,.mk xk xn xt xa xc⟩)::z.2) (.mk 8 0 ⟨#[]⟩ [] (some z.1)) with
     |none=>rw[hl]at hF;cases hF
     |some b1=>
      rw[hl]at hF;refine bh [1000000000] 300 (hs b1 hl) ?_;(conv=>whnf)
      cases b1 with
      |true=>
       cases hF;(conv=>whnf);exact⟨.inl rfl,⟨s6,trivial⟩⟩
      |false=>
       dsimp only at hF;(conv=>whnf)
       cases ho:iO ((z.1,⟨false,.mk xk xn xt xa xc⟩)::z.2) a 45 (.mk xk xn xt xa xc) with
       |none=>rw[ho]at hF;cases hF
       |some b2=>
        rw[ho]at hF;refine bh [1000000000] 300 (hh a b2 ho) ?_;(conv=>whnf)
        cases b2 with
        |true=>
         cases hF;(conv=>whnf);exact⟨.inl rfl,⟨s6,trivial⟩⟩
        |false=>
         dsimp only at hF
         cases hc2:aK a ((z.1,(⟨false,.mk xk xn xt xa xc⟩:Cl))::z.2) with
         |none=>rw[hc2]at hF;cases hF
         |some q2=>
          rw[hc2]at hF;cases hF;obtain⟨g2,⟨wk,wn,wt,wa,wc⟩⟩:=q2;(conv=>whnf);refine ag ⟨rfl,by decide,.inl rfl⟩ ?_;refine⟨_,aj (enc:=Au) hc2,?_⟩;refine aq (i:=0) rfl ?_;(conv=>whnf);refine⟨.inl rfl,⟨⟨rfl,rfl,rfl,rfl,rfl,?_⟩,trivial⟩⟩;exact bN Au a ⟨g2,.mk xk xn xt xa xc⟩ ((z.1,⟨false,.mk xk xn xt xa xc⟩)::z.2)
abbrev vI (k n:Int):Vl:=.mk k n ⟨#[]⟩ [] none
theorem vo:aU Tryz.prog 261 [] (.p (eV (vI 1 0))):=by
 refine aU.iN av Tryz.func261 rfl (by rfl) (by kernel_rfl) rfl rfl ?_;(conv=>whnf);exact .inl rfl
theorem nP (n:Int):aU Tryz.prog 262 [.p (.i .i64 n)] (.p (eV (vI 2 n))):=by
 refine aU.iN av Tryz.func262 rfl (by rfl) (by kernel_rfl) rfl rfl ?_;(conv=>whnf);exact .inl rfl
theorem LS (n:Int):aU Tryz.prog 264 [.p (.i .i64 n)] (.p (eV (vI 6 n))):=by
 refine aU.iN av Tryz.func264 rfl (by rfl) (by kernel_rfl) rfl rfl ?_;(conv=>whnf);exact .inl rfl
def bI:Bool->Int
 |true=>1
 |false=>0
theorem qT (b:Bool):aU Tryz.prog 263 [.p (.b b)] (.p (eV (vI 3 (bI b)))):=by
 cases b with
 |true=>
  refine aU.iN av Tryz.func263 rfl (by rfl) (by kernel_rfl) rfl rfl ?_;(conv=>whnf);exact .inl rfl
 |false=>
  refine aU.iN av Tryz.func263 rfl (by rfl) (by kernel_rfl) rfl rfl ?_;(conv=>whnf);exact .inl rfl
def qB (k:Int):ByteArray:=match k==1 with
 |true=>⟨#[117,110,105,116]⟩
 |false=>match k==2 with
  |true=>⟨#[105,110,116]⟩
  |false=>match k==3 with
   |true=>⟨#[98,111,111,108]⟩
   |false=>match k==4 with
    |true=>⟨#[116,101,120,116]⟩
    |false=>⟨#[]⟩
theorem GF (k:Int):aU Tryz.prog 270 [.p (.i .i64 k)] (.p (.s (qB k))):=by
 unfold qB;refine aU.iN av Tryz.func270 rfl (by rfl) (by kernel_rfl) rfl rfl ?_;(conv=>whnf);refine ai ?_ ?_<;>intro h1<;>conv=>whnf
 ·rw[show(k==1)=true from h1];exact .inl rfl
 rw[show(k==1)=false from h1];refine ai ?_ ?_<;>intro h2<;>conv=>whnf
 ·rw[show(k==2)=true from h2];exact .inl rfl
 rw[show(k==2)=false from h2];refine ai ?_ ?_<;>intro h3<;>conv=>whnf
 ·rw[show(k==3)=true from h3];exact .inl rfl
 rw[show(k==3)=false from h3];refine ai ?_ ?_<;>intro h4<;>conv=>whnf
 ·rw[show(k==4)=true from h4];exact .inl rfl
 rw[show(k==4)=false from h4];exact .inl rfl
def Qm:ByteArray:=⟨#[122,101,114,111]⟩
def cT (s:ByteArray) (c:UInt8):Bool:=s.toList==(⟨#[c]⟩:ByteArray).toList
def oL (op:ByteArray) (a b:Int):Vl×ByteArray:=match cT op 43 with
 |true=>(vI 2 (IntKind.i64.wrap (a+b)),⟨#[]⟩)
 |false=>match cT op 45 with
  |true=>(vI 2 (IntKind.i64.wrap (a-b)),⟨#[]⟩)
  |false=>match cT op 42 with
   |true=>(vI 2 (IntKind.i64.wrap (a*b)),⟨#[]⟩)
   |false=>match b==0 with
    |true=>(zV,Qm)
    |false=>match cT op 47 with
     |true=>(vI 2 (IntKind.i64.wrap (a.tdiv b)),⟨#[]⟩)
     |false=>(vI 2 (a.tmod b),⟨#[]⟩)
theorem Gy (op:ByteArray) (a b:Int):aU Tryz.prog 269 [.p (.s op),.p (.i .i64 a),.p (.i .i64 b)] (.cI [.p (eV (oL op a b).1),.p (.s (oL op a b).2)]):=by
 unfold oL;refine aU.iN av Tryz.func269 rfl (by rfl) (by kernel_rfl) rfl rfl ?_;(conv=>whnf);refine ai ?_ ?_<;>intro h1<;>conv=>whnf
 ·rw[show cT op 43=true from h1]
  refine kK (nP _) ?_;(conv=>whnf);exact .inl rfl
 rw[show cT op 43=false from h1];refine ai ?_ ?_<;>intro h2<;>conv=>whnf
 ·rw[show cT op 45=true from h2]
  refine kK (nP _) ?_;(conv=>whnf);exact .inl rfl
 rw[show cT op 45=false from h2];refine ai ?_ ?_<;>intro h3<;>conv=>whnf
 ·rw[show cT op 42=true from h3]
  refine kK (nP _) ?_;(conv=>whnf);exact .inl rfl
 rw[show cT op 42=false from h3];refine ai ?_ ?_<;>intro h4<;>conv=>whnf
 ·rw[show(b==0)=true from h4]
  exact .inl rfl
 rw[show(b==0)=false from h4];have hb:b≠0:=fun q=>by subst q;exact absurd h4 (by decide)
 refine ai ?_ ?_<;>intro h5<;>conv=>whnf
 ·rw[show cT op 47=true from h5]
  refine ag ⟨rfl,hb⟩ ?_;(conv=>whnf);refine kK (nP _) ?_;(conv=>whnf);exact .inl rfl
 rw[show cT op 47=false from h5];refine ag ⟨rfl,hb⟩ ?_;(conv=>whnf);refine kK (nP _) ?_;(conv=>whnf);exact .inl rfl
end MN
end
