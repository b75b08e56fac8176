/- Part of a machine over plain values. No conditions. -/
import Derived.Test.YtdmopjgjhfhfdaaGreatDoorAMTop
import Derived.Test.YtdmopjgjhfhfdaaGreatDoorAMGlob
namespace Go.AM
def flatP:PV→Bool
 |.b _=>true
 |.i _ _=>true
 |.s _=>true
 |_=>false
def flatV:AV→Bool
 |.p x=>flatP x
 |.tup vs=>vs.all fun v=>match v with|.p x=>flatP x|_=>false
 |_=>false
theorem flatP_rel {M M':Mm} {v:Value} {x:PV} (r:PRel M v x) (hf:flatP x=true):PRel M' v x:=by
 cases r<;>simp[flatP]at hf
 ·exact .b _
 ·exact .i _ _
 ·exact .s _
theorem flatV_rel {g g2:Gh} {w w2:World} {dom dom2:Nat→Prop} {ow ow2:Option Owner} {v:Value} {x:AV} (r:VRel g w dom ow v x) (hf:flatV x=true):VRel g2 w2 dom2 ow2 v x:=by
 cases r with
 |p _ _ _ h=>exact .p _ _ _ (flatP_rel h (by simpa[flatV] using hf))
 |tup _ vs cs hl hx=>
  refine .tup _ vs cs hl fun j v c q1 q2=>?_;simp only[flatV,List.all_eq_true]at hf;have:=hf c (List.mem_of_getElem? q2);split at this
  ·have hr:=hx j v _ q1 q2
   cases hr with
   |p _ _ _ h=>exact .p _ _ _ (flatP_rel h this)
  ·cases this
 |_=>simp[flatV]at hf
mutual
def plainP:PV→Bool
 |.b _=>true
 |.i _ _=>true
 |.s _=>true
 |.sl _ xs=>plainPs xs
 |.agg xs=>plainPs xs
 |.nilp=>true
 |.nsl=>true
 |.bx cs=>plainPs cs
 |.adr _ _=>false
 |.ads _ _ _=>false
 |.pa _ _ _ _ _ _ _=>false
 |.ifv _ x=>plainP x
 |.nifc=>true
 |.amp _ _=>false
def plainPs:List PV→Bool
 | []=>true
 |x::r=>plainP x&&plainPs r
end
theorem plainPs_get:∀{l:List PV},plainPs l=true→∀(j:Nat) (x:PV),l[j]?=some x→plainP x=true
 | [],_,j,x,h=>by simp at h
 |a::r,h,0,x,hx=>by simp at hx;subst hx;rw[plainPs,Bool.and_eq_true]at h;exact h.1
 |a::r,h,j+1,x,hx=>by rw[plainPs,Bool.and_eq_true]at h;exact plainPs_get h.2 j x (by simpa using hx)
theorem plain_cells {x y:PV} {i:Nat} (h:plainP x=true) (hy:x.cells[i]?=some y):plainP y=true:=by
 cases x with
 |agg xs=>exact plainPs_get (l:=xs) (by simpa[plainP] using h) i y hy
 |_=>
  have:i=0:=by have:=(List.getElem?_eq_some_iff.1 hy).1;simp[PV.cells]at this;exact this
  subst this;simp[PV.cells]at hy;subst hy;exact h
theorem PRel.plain {M M':Mm} (hm:∀b o v,M b o=some v→M' b o=some v) {v:Value} {x:PV} (r:PRel M v x) (hp:plainP x=true):PRel M' v x:=by
 induction r with
 |b x=>exact .b x
 |i k n=>exact .i k n
 |s x=>exact .s x
 |agg vs xs hl h1 _ ih=>exact .agg vs xs hl h1 (fun j v x q1 q2=>ih j v x q1 q2 (plainPs_get (by simpa[plainP] using hp) j x q2))
 |nil sz=>exact .nil sz
 |sl a cap sz xs f hs hc hz hm2 _ ih=>exact .sl a cap sz xs f hs hc hz (fun j x hj i y hi=>⟨hm _ _ _ (hm2 j x hj i y hi).1,(hm2 j x hj i y hi).2⟩) (fun j x hj i y hi=>ih j x hj i y hi (plain_cells (plainPs_get (by simpa[plainP] using hp) j x hj) hi))
 |nilp=>exact .nilp
 |nsl=>exact .nsl
 |adr=>cases hp
 |ads=>cases hp
 |pa=>cases hp
 |ifv T v x _ ih=>exact .ifv T v x (ih (by simpa[plainP] using hp))
 |nifc=>exact .nifc
 |amp=>cases hp
 |bx a cs f hs2 hm2 _ ih=>exact .bx a cs f hs2 (fun i y hi=>⟨hm _ _ _ (hm2 i y hi).1,(hm2 i y hi).2⟩) (fun i y hi=>ih i y hi (plainPs_get (by simpa[plainP] using hp) i y hi))
def plainA:AV→Bool
 |.p x=>plainP x
 |_=>false
def sownOf:Heap→Nat→Option Nat
 | [],_=>none
 |(l,.store _ _ sp _ _ _)::r,s=>match Nat.beq sp s with|true=>some l|false=>sownOf r s
 |_::r,s=>sownOf r s
def emptySt (all:Heap):Heap→Bool
 | []=>true
 |(l,.store _ _ sp nx _ M)::r=>Nat.beq nx 0&&M.isEmpty&&(match sownOf all sp with|some l'=>Nat.beq l' l|none=>false)&&emptySt all r
 |_::_=>false
theorem emptySt_get {all:Heap}:∀{st:Heap},emptySt all st=true→∀{l:Nat} {ob:AObj},hget st l=some ob→∃T o sp sz,ob=.store T o sp 0 sz []∧sownOf all sp=some l
 | [],_,l,ob,h=>by simp[hget]at h
 |(k,x)::r,hs,l,ob,h=>by
  cases x with
  |store T o sp nx sz M=>
   simp only[emptySt,Bool.and_eq_true]at hs;obtain⟨⟨⟨h1,h2⟩,h3⟩,h4⟩:=hs
   by_cases e:k=l
   ·subst e
    rw[hget_self]at h;cases h;obtain rfl:=Nat.eq_of_beq_eq_true h1;have hM:M=[]:=List.isEmpty_iff.1 h2;subst hM;refine⟨T,o,sp,sz,rfl,?_⟩;split at h3
    ·rename_i l' hl;rw[hl,Nat.eq_of_beq_eq_true h3]
    ·cases h3
   ·rw[hget_ne e]at h;exact emptySt_get h4 h
  |_=>simp[emptySt]at hs
def allGl:Heap→Bool
 | []=>true
 |(_,.glob _ _)::r=>allGl r
 |_::_=>false
theorem allGl_get:∀{G:Heap},allGl G=true→∀{l:Nat} {ob:AObj},hget G l=some ob→∃b vs,ob=.glob b vs
 | [],_,l,ob,h=>by simp[hget]at h
 |(k,x)::r,hs,l,ob,h=>by
  cases x with
  |glob b vs=>
   by_cases e:k=l
   ·subst e;rw[hget_self]at h;cases h;exact⟨b,vs,rfl⟩
   ·rw[hget_ne e]at h;exact allGl_get (by simpa[allGl] using hs) h
  |_=>simp[allGl]at hs
theorem hget_app (G st:Heap) (l:Nat):hget (G++st) l=match hget G l with|some ob=>some ob|none=>hget st l:=by
 induction G with
 |nil=>simp[hget]
 |cons p r ih=>
  obtain⟨k,x⟩:=p
  by_cases e:k=l
  ·subst e;rw[List.cons_append,hget_self,hget_self]
  ·rw[List.cons_append,hget_ne e,hget_ne e,ih]
theorem AMem.hide {P:Program} {f:Nat} {args:List AV} {G st st':Heap} {r:AV} (h:AMem P f args (G++st) r (G++st')) (ha:args.all plainA=true) (hG:allGl G=true) (hst:emptySt st st=true) (hr:flatV r=true):AMem P f args G r G:=by
 obtain⟨⟨hb,hgl⟩,hc⟩:=h
 have hgl2:globB G G=true:=by
  have key:∀(A:Heap),(∀p∈A,∀b vs,p.2=.glob b vs→∃vs',hget G p.1=some (.glob b vs'))→globB G A=true:=by
   intro A
   induction A with
   |nil=>intro _;rfl
   |cons p r ih=>
    intro hA;obtain⟨l,ob⟩:=p;simp only[globB,Bool.and_eq_true];refine⟨?_,ih fun q hq=>hA q (by simp[hq])⟩
    cases ob with
    |glob b vs=>
     obtain⟨vs',hq⟩:=hA (l,.glob b vs) (by simp) b vs rfl;simp only[hq];exact Nat.beq_refl b
    |_=>rfl
  have sub:∀(A B:Heap),globB (G++st) (A++B)=true→globB (G++st) A=true:=by
   intro A B
   induction A with
   |nil=>intro _;rfl
   |cons p r ih=>intro q;obtain⟨l,ob⟩:=p;simp only[List.cons_append,globB,Bool.and_eq_true]at q ⊢;exact⟨q.1,ih q.2⟩
  have h1:=sub G st' hgl;clear hgl key;generalize hA:G=A at h1 ⊢
  have:∀(B:Heap),globB (A++st) B=true→globB A B=true:=by
   intro B
   induction B with
   |nil=>intro _;rfl
   |cons p r ih=>
    intro q;obtain⟨l,ob⟩:=p;simp only[globB,Bool.and_eq_true]at q ⊢;refine⟨?_,ih q.2⟩
    cases ob with
    |glob b vs=>
     have q1:=q.1;simp only[hget_app]at q1
     cases hq:hget A l with
     |some ob2=>rw[hq]at q1;simpa using q1
     |none=>
      rw[hq]at q1;simp only at q1;split at q1
      ·rename_i b' vs' hq2
       obtain⟨T,o,sp,sz,e,_⟩:=emptySt_get hst hq2;cases e
      ·cases q1
    |_=>rfl
  exact this A h1
 refine⟨⟨hb,hgl2⟩,fun g w vs hH hbn hl hrel=>?_⟩
 let g':Gh:={ g with σ:=fun _ _=>none,sown:=sownOf st }
 have hH':HRel g' w (G++st):=by
  refine⟨fun l ob hob=>?_,fun l ob hob hs=>?_,fun l ob hob hs=>?_⟩
  ·rw[hget_app]at hob
   cases hq:hget G l with
   |some ob2=>
    rw[hq]at hob;cases hob;obtain⟨b,vs,rfl⟩:=allGl_get hG hq
    cases hH.obj l _ hq with
    |glob _ _ q=>exact .glob b vs q
   |none=>
    rw[hq]at hob;obtain⟨T,o,sp,sz,rfl,hso⟩:=emptySt_get hst hob;exact .store _ _ _ _ _ _ { sown:=hso,fresh:=fun _ _=>rfl,row:=fun _ _ q=>absurd q (by simp),inj:=fun _ _ _ _ _ _ q=>absurd q (by simp),nodup:=List.nodup_nil }
  ·rw[hget_app]at hob
   cases hq:hget G l with
   |some ob2=>rw[hq]at hob;cases hob;obtain⟨b,vs,rfl⟩:=allGl_get hG hq;cases hs
   |none=>rw[hq]at hob;obtain⟨T,o,sp,sz,rfl,_⟩:=emptySt_get hst hob;cases hs
  ·rw[hget_app]at hob
   cases hq:hget G l with
   |some ob2=>rw[hq]at hob;cases hob;obtain⟨b,vs,rfl⟩:=allGl_get hG hq;cases hs
   |none=>rw[hq]at hob;obtain⟨T,o,sp,sz,rfl,_⟩:=emptySt_get hst hob;cases hs
 have hrel':∀(j:Nat) (v:Value) (x:AV),vs[j]?=some v→args[j]?=some x→VRel g' w (domOf (G++st)) none v x:=fun j v x q1 q2=>by
  have hp:=List.all_eq_true.1 ha x (List.mem_of_getElem? q2);have hv:=hrel j v x q1 q2
  cases x with
  |p x=>exact .p _ _ _ (PRel.plain (M:=imm g w) (M':=imm g' w) (fun _ _ _ q=>q) hv.pv hp)
  |_=>cases hp
 refine(hc g' w vs hH' hbn hl hrel').mono ?_;rintro en w' ⟨v,g1,rfl,hv,hH1,hbn1,hE⟩
 let gF:Gh:={ pre:=g1.pre,own:=fun b=>if b<w.heap.size then g1.own b else none,ρ:=g1.ρ,σ:=g.σ,sown:=g.sown }
 refine⟨v,gF,rfl,flatV_rel hv hr,⟨fun l ob hob=>?_,fun l ob hob hs=>?_,fun l ob hob hs=>?_⟩,fun b o q=>?_,?_⟩
 ·obtain⟨b,vs,rfl⟩:=allGl_get hG hob
  have hob1:hget (G++st') l=some (.glob b vs):=by rw[hget_app,hob]
  cases hH1.obj l _ hob1 with
  |glob _ _ q=>exact .glob b vs ⟨by show(if b<w.heap.size then g1.own b else none)=none;split<;>first|exact q.1|rfl,q.2⟩
 ·obtain⟨b,vs,rfl⟩:=allGl_get hG hob;cases hs
 ·obtain⟨b,vs,rfl⟩:=allGl_get hG hob;cases hs
 ·replace q:(if b<w.heap.size then g1.own b else none)=some o:=q
  split at q
  ·exact hbn1 b o q
  ·cases q
 ·exact⟨hE.size,hE.os,hE.out,fun b o u hu=>hE.imm b o u hu,fun b hb hn=>by
   obtain⟨q1,q2,q3⟩:=hE.kept b hb hn;exact⟨q1,q2,by show(if b<w.heap.size then g1.own b else none)=none;rw[if_pos hb];exact q3⟩,SgLe.of rfl rfl,hE.frz',hE.ρk,hE.siz⟩
end Go.AM
namespace Go.AM
inductive Frz (sp k n sz:Nat) (xs:List PV):PV→PV→Prop
 |refl (x:PV):Frz sp k n sz xs x x
 |ads:Frz sp k n sz xs (.ads sp k n) (.sl sz (xs.take n))
 |nsl (z:Nat):Frz sp k n sz xs .nsl (.sl z [])
 |agg (ps qs:List PV) (hl:ps.length=qs.length) (h:∀(j:Nat) (a b:PV),ps[j]?=some a→qs[j]?=some b→Frz sp k n sz xs a b):Frz sp k n sz xs (.agg ps) (.agg qs)
structure FrzM (g:Gh) (w:World) (M:Mm) (sp k n sz:Nat) (xs:List PV):Prop where
 mem:∀b o v,imm g w b o=some v→M b o=some v
 sg:∀s q a,g.σ s q=some a→M.sg s q=some a
 hz:∀x∈xs,x.cells.length=sz
 pos:0<sz
 blk:∃A C,g.σ sp k=some (A,C)∧n≤xs.length∧∀(j:Nat) (x:PV),j<n→xs[j]?=some x→∀(i:Nat) (y:PV),x.cells[i]?=some y→∃v,M A (j*sz+i)=some v∧v.oneCell'=true∧PRel (imm g w) v y
theorem Frz.rel {g:Gh} {w:World} {M:Mm} {sp k n sz:Nat} {xs:List PV} (hf:FrzM g w M sp k n sz xs) {p q:PV} (h:Frz sp k n sz xs p q):∀{v:Value},PRel (imm g w) v p→PRel M v q:=by
 induction h with
 |refl x=>intro v r;exact r.mono hf.mem hf.sg
 |ads=>
  intro v r;obtain⟨A,C,h1,h2,h3⟩:=hf.blk
  cases r with
  |ads _ _ a _ cap hA hc=>
   have hA:g.σ sp k=some (a,cap):=hA;rw[h1]at hA;cases hA;have hlen:(xs.take n).length=n:=by simp;omega
   have key:∀(j:Nat) (x:PV),(xs.take n)[j]?=some x→j<n∧xs[j]?=some x:=fun j x hx=>by
    have hj:j<n:=by have:=(List.getElem?_eq_some_iff.1 hx).1;omega
    rw[List.getElem?_take_of_lt hj]at hx;exact⟨hj,hx⟩
   have:=PRel.sl (M:=M) ⟨A,0,none⟩ C sz (xs.take n) (fun j i=>(M A (j*sz+i)).getD .nilIface) (fun _=>rfl) (by omega) (fun x hx=>hf.hz x (List.mem_of_mem_take hx)) (fun j x hx i y hy=>by
    obtain⟨hj,hx⟩:=key j x hx;obtain⟨v,q1,q2,_⟩:=h3 j x hj hx i y hy;refine⟨?_,by rw[q1];exact q2⟩;show M A (0+j*sz+i)=_;rw[Nat.zero_add,q1];rfl) (fun j x hx i y hy=>by
    obtain⟨hj,hx⟩:=key j x hx;obtain⟨v,q1,_,q3⟩:=h3 j x hj hx i y hy;rw[q1];exact q3.mono hf.mem hf.sg)
   rw[hlen]at this;exact this
 |nsl z=>intro v r;cases r;exact .nil z
 |agg ps qs hl _ ih=>
  intro v r
  cases r with
  |agg vs _ hl2 h1 hx=>exact .agg vs qs (hl2.trans hl) h1 (fun j v x q1 q2=>by
    have hj:j<ps.length:=by rw[hl];exact(List.getElem?_eq_some_iff.1 q2).1
    exact ih j ps[j] x (List.getElem?_eq_getElem hj) q2 (hx j v _ q1 (List.getElem?_eq_getElem hj)))
def FrzA (sp k n sz:Nat) (xs:List PV) (a b:AV):Prop:=(a=b∧∀z l,a≠.so z l)∨∃p q,a=.p p∧b=.p q∧Frz sp k n sz xs p q
theorem AMem.freeze {P:Program} {f:Nat} {args args2:List AV} {H H0 H':Heap} {r:AV} {l T:Nat} {one:Bool} {sp nx sz k n:Nat} {M:List (Nat×List PV)} {xs:List PV} (h:AMem P f args2 H0 r H') (hgl:globB H H'=true) (hl:hget H l=some (.store T one sp nx sz M))
 (hs0:∀x,hget H0 x=hget ((l,.store T one sp nx sz (sdel k M))::H) x) (hk:slk k M=some xs) (hn:n≤xs.length) (hz:sz≠0) (hlen:args.length=args2.length) (hargs:∀(j:Nat) (a b:AV),args[j]?=some a→args2[j]?=some b→FrzA sp k n sz xs a b):AMem P f args H r H':=by
 obtain⟨⟨hb,_⟩,hc⟩:=h;refine⟨⟨hb,hgl⟩,fun g w vs hH hbn hvl hrel=>?_⟩;have s:Sim g w 0 ⟨#[],[]⟩ [] H:=⟨rfl,rfl,fun i=>.top _ _,hH,hbn⟩
 have hst:=s.blk hl;obtain⟨A,hA,hown,hpre,cs,E,hcs,hpos,⟨_,_⟩,hzz,hxx⟩:=hst.rowC hz k xs (slk_mem hk)
 let g1:Gh:={ pre:=fun b=>if b=A.1 then n*sz else g.pre b,own:=fun b=>if b=A.1 then none else g.own b,ρ:=g.ρ,σ:=g.σ,sown:=g.sown }
 have himm:∀b o v,imm g w b o=some v→imm g1 w b o=some v:=fun b o v hv=>by
  by_cases q:b=A.1
  ·subst q;simp only[imm_eq]at hv;rw[hpre]at hv;simp at hv
  ·simp only[imm_eq]at hv ⊢
   show(if o<(if b=A.1 then n*sz else g.pre b) then _ else _)=_;rw[if_neg q];exact hv
 have d1:Dyn g w g1 w l sp:=by
  refine⟨rfl,rfl,fun _ _ _ q=>q,fun _ _ _=>rfl,himm,fun b o h1 h2=>?_,fun b _ hn0=>?_,fun b cs E hb=>⟨cs,E,hb,rfl⟩,fun b o ho=>?_,Nat.le_refl _,rfl,rfl,fun _ _=>rfl⟩
  ·have q:b≠A.1:=fun e=>by subst e;rw[hown]at h1;cases h1;exact h2 rfl
   exact⟨by show(if b=A.1 then none else g.own b)=_;rw[if_neg q];exact h1,by show(if b=A.1 then n*sz else g.pre b)=_;rw[if_neg q],rfl⟩
  ·have q:b≠A.1:=fun e=>by subst e;rw[hown]at hn0;cases hn0
   exact⟨rfl,by show(if b=A.1 then n*sz else g.pre b)=_;rw[if_neg q],by show(if b=A.1 then none else g.own b)=_;rw[if_neg q];exact hn0⟩
  ·replace ho:(if b=A.1 then none else g.own b)=some o:=ho
   split at ho
   ·cases ho
   ·exact hbn b o ho
 have hst2:StoreOK g1 w l sp nx sz (sdel k M):=by
  refine⟨hst.sown,hst.fresh,fun k2 ys q=>?_,fun k1 k2 ys ys2 b b2 q1 q2 q3 q4 q5=>hst.inj k1 k2 ys ys2 b b2 (sdel_sub q1) (sdel_sub q2) q3 q4 q5,(sdel_keys k M).nodup hst.nodup⟩;obtain⟨b,p1,p2,p3,p4⟩:=hst.row k2 ys (sdel_sub q);have hne:b.1≠A.1:=fun e=>sdel_ne hst.nodup q (hst.inj k2 k ys xs b A (sdel_sub q) (slk_mem hk) p1 hA e);exact⟨b,p1,by show(if b.1=A.1 then none else g.own b.1)=_;rw[if_neg hne];exact p2,by show(if b.1=A.1 then n*sz else g.pre b.1)=_;rw[if_neg hne];exact p3,p4.mono himm rfl⟩
 obtain⟨s2,hE1⟩:=s.dyn hl d1 hst2;have s3:=s2.heapEq (h2:=H0) hs0
 have hdom:∀x,domOf H x→domOf H0 x:=fun x hx=>by
  unfold domOf at *;rw[hs0 x]
  by_cases q:l=x
  ·subst q;rw[hget_self];rfl
  ·rw[hget_ne q];exact hx
 have hF:FrzM g w (imm g1 w) sp k n sz xs:=by
  refine⟨himm,fun _ _ _ q=>q,hzz,hpos,A.1,A.2,hA,hn,fun j x hj hx i y hy=>?_⟩;obtain⟨v,q1,q2,q3⟩:=hxx j x hx i y hy;refine⟨v,?_,q2,q3⟩;have hi:i<sz:=by have:=(List.getElem?_eq_some_iff.1 hy).1;rw[hzz x (List.mem_of_getElem? hx)]at this;exact this
  have hlt:j*sz+i<n*sz:=by
   have:=Nat.mul_le_mul_right sz (show j+1≤n by omega);rw[Nat.add_mul,Nat.one_mul]at this;omega
  rw[imm_eq];show(if j*sz+i<(if A.1=A.1 then n*sz else g.pre A.1) then _ else _)=_;rw[if_pos rfl,if_pos hlt];show(match w.heap[A.1]? with|some (.cells c _ _)=>if (none:Option Nat).isSome then none else c[j*sz+i]?|_=>none)=_;rw[hcs];exact q1
 refine(hc g1 w vs s3.heap s3.bnd (hvl.trans hlen) (fun j v b q1 q2=>?_)).mono ?_
 ·have hj:j<args.length:=by rw[hlen];exact(List.getElem?_eq_some_iff.1 q2).1
  have hr:=hrel j v args[j] q1 (List.getElem?_eq_getElem hj);rcases hargs j args[j] b (List.getElem?_eq_getElem hj) q2 with⟨e,_⟩|⟨p,q,e1,e2,hpq⟩
  ·rw[←e]
   exact hr.keep himm (fun x hx=>⟨hdom x hx,rfl⟩) (fun x cs E _ hb=>⟨cs,E,hb,rfl⟩) (fun o b e1 _=>by cases e1)
  ·rw[e1]at hr;subst e2
   exact .p _ _ _ (hpq.rel hF hr.pv)
 ·rintro en w' ⟨v,g',rfl,hv,hH',hbn',hE⟩
  exact⟨v,g',rfl,hv,hH',hbn',hE1.trans hE⟩
end Go.AM
