/- Part of a machine over plain values. No conditions. -/
import Derived.Test.YtdmopjgjhfhfdaaGreatDoorAMMap2
set_option linter.all false
section
namespace Go.AM
mutual
def AV.within (d:Nat→Bool):AV→Bool
 |.agg cs=>AV.dB d cs
 |.cA cs=>AV.dB d cs
 |.fn _ a b=>AV.dB d a&&AV.dB d b
 |.ptr l _=>d l
 |.ar l=>d l
 |.ap l _=>d l
 |_=>true
def AV.dB (d:Nat→Bool):List AV→Bool
 | []=>true
 |v::r=>AV.within d v&&AV.dB d r
end
theorem bZ (d:Nat→Bool):∀(xs:List AV),AV.dB d xs=true→∀(j:Nat) (x:AV),xs[j]?=some x→x.within d=true
 | [],_,j,x,hx=>by simp at hx
 |y::r,h,j,x,hx=>by
  simp only[AV.dB,Bool.and_eq_true]at h
  cases j with
  |zero=>simp at hx;subst hx;exact h.1
  |succ j=>simp at hx;exact bZ d r h.2 j x hx
theorem aH.within {g:Gh} {w:World} {dom dom':Nat→Prop} {d:Nat→Bool} (hd:∀l,d l=true→dom' l) {ow:Option aY} {v:Value} {x:AV} (r:aH g w dom ow v x) (hx:x.within d=true):aH g w dom' ow v x:=by
 induction r with
 |top=>exact .top _ _
 |p _ _ _ h=>exact .p _ _ _ h
 |c _ _ h1=>exact .c _ _ h1
 |cu=>exact .cu _
 |es _ a cap sz hs=>exact .es _ a cap sz hs
 |full _ a sz xs hz h=>exact .full _ a sz xs hz h
 |own o a cap sz xs cs E hz h ho hp hb hs=>exact .own o a cap sz xs cs E hz h ho hp hb hs
 |ptr _ l off h=>exact .ptr _ l off (hd l (by simpa[AV.within] using hx))
 |vp _ a cs f hs hm hxx=>exact .vp _ a cs f hs hm hxx
 |agg _ vs cs hl h1 _ ih=>exact .agg _ vs cs hl h1 (fun j v c q1 q2=>ih j v c q1 q2 (bZ d cs (by simpa[AV.within] using hx) j c q2))
 |cA _ vs cs hl _ ih=>exact .cA _ vs cs hl (fun j v c q1 q2=>ih j v c q1 q2 (bZ d cs (by simpa[AV.within] using hx) j c q2))
 |ar _ l m h hn=>exact .ar _ l m (hd l (by simpa[AV.within] using hx)) hn
 |ap _ l i h=>exact .ap _ l i (hd l (by simpa[AV.within] using hx))
 |v7 _ b v h=>exact .v7 _ b v h
 |fn _ f fs cs first caps h1 h2 _ _ ih1 ih2=>
  have hx:AV.dB d first=true∧AV.dB d caps=true:=by simpa[AV.within] using hx
  exact .fn _ f fs cs first caps h1 h2 (fun j v c q1 q2=>ih1 j v c q1 q2 (bZ d first hx.1 j c q2)) (fun j v c q1 q2=>ih2 j v c q1 q2 (bZ d caps hx.2 j c q2))
def br.within (d:Nat→Bool):br→Bool
 |.cells cs=>AV.dB d cs
 |_=>true
def bB (l:List Nat) (i:Nat):Bool:=match l with
 | []=>false
 |x::r=>match Nat.beq x i with|true=>true|false=>bB r i
theorem iP:∀(l:List Nat) (i:Nat),bB l i=true→i∈l
 | [],i,h=>by simp[bB]at h
 |x::r,i,h=>by
  simp only[bB]at h;split at h
  ·rename_i q;have:=Nat.eq_of_beq_eq_true q;simp[this]
  ·exact List.mem_cons_of_mem _ (iP r i h)
section
variable {P:Program} {ty:Nat→Option TI} {n:Nat} {o:Oper} {e:Env} {h:Heap} {K:AK}
def lW (P:Program) (f:Nat):Prop:=∃fn c,P.funcs[f]?=some fn∧fn.body=some c∧(fn.name== "runtime.NumGoroutine")=false
def aV (P:Program) (f:Nat) (args:List AV) (r:AV):Prop:=
 lW P f∧∀(g:Gh) (w:World) (vs:List Value),(∀b,g.own b=none)→(∀q,g.sown q=none)→vs.length=args.length→(∀(j:Nat) (v:Value) (x:AV),vs[j]?=some v→args[j]?=some x→aH g w (fun _=>False) none v x)→
  Calls P f vs.toArray w fun en w'=>∃v g',en=.returned v∧aH g' w' (fun _=>False) (some .ret) v r∧Ext g w g' w'
theorem kJ:∀(xs:List AV),AV.oq xs=true→∀(j:Nat) (x:AV),xs[j]?=some x→x.free=true
 | [],_,j,x,hx=>by simp at hx
 |y::r,h,j,x,hx=>by
  simp only[AV.oq,Bool.and_eq_true]at h
  cases j with
  |zero=>simp at hx;subst hx;exact h.1
  |succ j=>simp at hx;exact kJ r h.2 j x hx
theorem aH.I1 {g:Gh} {w:World} {dom dom':Nat→Prop} {ow:Option aY} {v:Value} {x:AV} (r:aH g w dom ow v x) (hx:x.free=true) (own':Nat→Option aY) (ow':Option aY) (sw':Nat→Option Nat:=g.sown):
 aH { g with own:=own',sown:=sw' } w dom' ow' v x:=by
 induction r generalizing ow' with
 |top=>exact .top _ _
 |p _ _ _ h=>exact .p _ _ _ h
 |c _ _ h1=>exact .c _ _ h1
 |cu=>exact .cu _
 |es _ a cap sz hs=>exact .es _ a cap sz hs
 |full=>simp[AV.free]at hx
 |own=>simp[AV.free]at hx
 |ptr=>simp[AV.free]at hx
 |vp _ a cs f hs hm hxx=>exact .vp _ a cs f hs hm hxx
 |agg _ vs cs hl h1 _ ih=>exact .agg _ vs cs hl h1 (fun j v c q1 q2=>ih j v c q1 q2 (kJ cs (by simpa[AV.free] using hx) j c q2) none)
 |cA _ vs cs hl _ ih=>exact .cA _ vs cs hl (fun j v c q1 q2=>ih j v c q1 q2 (kJ cs (by simpa[AV.free] using hx) j c q2) none)
 |ar=>simp[AV.free]at hx
 |ap=>simp[AV.free]at hx
 |v7 _ b v h=>exact .v7 _ b v h
 |fn _ f fs cs first caps h1 h2 _ _ ih1 ih2=>
  have hx:AV.oq first=true∧AV.oq caps=true:=by simpa[AV.free] using hx
  exact .fn _ f fs cs first caps h1 h2 (fun j v c q1 q2=>ih1 j v c q1 q2 (kJ first hx.1 j c q2) none) (fun j v c q1 q2=>ih2 j v c q1 q2 (kJ caps hx.2 j c q2) none)
theorem cp.called {g g':Gh} {w w':World} {a:Act} {e:Env} {h:Heap} (s:cp g w n a e h) (hx:Ext { g with own:=fun _=>none,sown:=fun _=>none } w g' w') (d:Nat):
 cp { pre:=g'.pre,own:=fun b=>if b<w.heap.size then g.own b else if b<w'.heap.size∧g'.own b=some .ret then some (.slot d) else none,ρ:=g.ρ,σ:=g'.σ,sown:=g.sown } w' n a e h∧
 Ext g w { pre:=g'.pre,own:=fun b=>if b<w.heap.size then g.own b else if b<w'.heap.size∧g'.own b=some .ret then some (.slot d) else none,ρ:=g.ρ,σ:=g'.σ,sown:=g.sown } w'∧
 ∀v r,aH g' w' (fun _=>False) (some .ret) v r→aH { pre:=g'.pre,own:=fun b=>if b<w.heap.size then g.own b else if b<w'.heap.size∧g'.own b=some .ret then some (.slot d) else none,ρ:=g.ρ,σ:=g'.σ,sown:=g.sown } w' (aF h) (some (.slot d)) v r:=by
 generalize hG:({ pre:=g'.pre,own:=fun b=>if b<w.heap.size then g.own b else if b<w'.heap.size∧g'.own b=some .ret then some (.slot d) else none,ρ:=g.ρ,σ:=g'.σ,sown:=g.sown }:Gh)=G;have Gpre:G.pre=g'.pre:=by rw[←hG]
 have Gρ:G.ρ=g.ρ:=by rw[←hG]
 have Gσ:G.σ=g'.σ:=by rw[←hG]
 have Gsown:G.sown=g.sown:=by rw[←hG]
 have hsσ:∀s k a,g.σ s k=some a→G.σ s k=some a:=fun s k a q=>by rw[Gσ];exact hx.tj.1 s k a q
 have Gold:∀b,b<w.heap.size→G.own b=g.own b:=fun b hb=>by rw[←hG];simp[hb]
 have Gnew:∀b,¬b<w.heap.size→G.own b=if b<w'.heap.size∧g'.own b=some .ret then some (.slot d) else none:=fun b hb=>by rw[←hG];simp[hb]
 have kept:∀b,b<w.heap.size→w'.heap[b]?=w.heap[b]?∧G.pre b=g.pre b:=fun b hb=>by
  obtain⟨q1,q2,_⟩:=hx.kept b hb rfl;exact⟨q1,by rw[Gpre];exact q2⟩
 have himm:∀b k v,bR g w b k=some v→bR G w' b k=some v:=fun b k v hv=>by
  have:=hx.bR b k v hv;simp only[cI]at this ⊢;rw[Gpre];exact this
 have up:∀{ow v x},aH g w (aF h) ow v x→aH G w' (aF h) ow v x:=fun r=>
  r.keep himm (fun l hl=>⟨hl,by rw[Gρ]⟩) (fun l cs E hl hb=>⟨cs,E,by rw[(kept _ (od hb)).1];exact hb,rfl⟩)
   (fun o b _ ho=>by have hb:=s.bnd b o ho;exact⟨(Gold b hb).trans ho,(kept b hb).2,(kept b hb).1⟩) (hsg:=hsσ)
 refine⟨⟨s.defers,s.size,fun i=>up (s.env i),⟨fun l x hxl=>?_,fun l x hxl hq=>?_,fun l x hxl hq=>?_⟩,fun b o2 hb=>?_⟩,⟨hx.size,hx.os,hx.out,himm,fun b hb ho=>⟨(kept b hb).1,(kept b hb).2,(Gold b hb).trans ho⟩,⟨hsσ,Gsown,fun s q k=>by rw[Gσ];exact hx.tj.2.2 s rfl k⟩,hx.frz',fun _ _=>by rw[Gρ],hx.siz⟩,fun v r hr=>?_⟩
 ·have eo:∀{ob},w.heap[g.ρ l]?=some ob→w'.heap[G.ρ l]?=some ob:=fun hb=>by rw[Gρ,(kept _ (od hb)).1];exact hb
  cases s.heap.obj l x hxl with
  |cells cs vs E hb hl hx' h1=>exact .cells cs vs E (eo hb) hl (fun j v c q1 q2=>up (hx' j v c q1 q2)) h1
  |arr xs vs E hb hl hx' h1=>exact .arr xs vs E (eo hb) hl (fun j v c q1 q2=>(hx' j v c q1 q2).mono himm hsσ) h1
  |bK gb gvs hgl=>exact gG.kP hgl (fun h1 hlt _=>⟨(kept gb hlt).1,(Gold gb hlt).trans h1⟩)
  |store T3 o3 sp3 nx3 z3 M3 hst=>exact .store T3 o3 sp3 nx3 z3 M3 (hst.mono himm (fun bb hb2=>⟨(Gold bb (s.bnd bb _ hb2)).trans hb2,(kept bb (s.bnd bb _ hb2)).1,(kept bb (s.bnd bb _ hb2)).2⟩) (by rw[Gsown];exact hst.sown) (hs:=hsσ) (he:=fun k=>by rw[Gσ];exact hx.tj.2.2 sp3 rfl k))
 ·have ho:=s.heap.own l x hxl hq
  rw[Gρ,Gold _ (s.bnd _ _ ho)];exact ho
 ·have ho:=s.heap.own l x hxl hq
  rw[Gρ,(kept _ (s.bnd _ _ ho)).2];exact s.heap.pre l x hxl hq
 ·by_cases hlt:b<w.heap.size
  ·exact Nat.lt_of_lt_of_le hlt hx.size
  ·rw[Gnew b hlt]at hb
   split at hb
   ·rename_i q;exact q.1
   ·cases hb
 ·have hi2:∀b k v,bR g' w' b k=some v→bR G w' b k=some v:=fun b k v hv=>by simp only[cI]at hv ⊢;rw[Gpre];exact hv
  have conv:∀{ow v x},ow=none→aH g' w' (fun _=>False) ow v x→aH G w' (aF h) ow v x:=fun q r=>
   r.keep hi2 (fun _ hf=>hf.elim) (fun _ _ _ hf=>hf.elim) (fun o b e1 _=>by rw[q]at e1;cases e1) (hsg:=fun s k a q=>by rw[Gσ];exact q)
  cases r with
  |so sz xs=>
   cases hr with
   |full _ a _ _ hz hp=>exact .full _ a sz xs hz (hp.mono hi2 (fun s k a q=>by show G.σ s k=some a;rw[Gσ];exact q))
   |own _ a cap _ _ cs E hz hp ho hpre hb hs=>
    have hge:¬a.block<w.heap.size:=fun hlt=>by rw[(hx.kept _ hlt rfl).2.2]at ho;cases ho
    have hlt':a.block<w'.heap.size:=by
     rcases Nat.lt_or_ge a.block w'.heap.size with q|q
     ·exact q
     ·rw[Array.getElem?_eq_none q]at hb;cases hb
    exact .own (.slot d) a cap sz xs cs E hz (hp.mono hi2 (fun s k a q=>by show G.σ s k=some a;rw[Gσ];exact q)) (by rw[Gnew _ hge,if_pos ⟨hlt',ho⟩]) (by rw[Gpre];exact hpre) hb hs
  |_=>exact(conv rfl (hr.bW (ow':=none) (fun _ _ q=>by cases q))).bW (fun _ _ q=>by cases q)
theorem xI {a:Act} {g:Gh} {w:World} {e':Env} {h':Heap} (s:cp g w n a e' h') (he:∀t∈slotsOf o,aL e' t=aL e t):∀(xs:List Operand) (ts:List Nat),(∀x∈xs,x∈o.op.operands)→
 (gI ty e xs ts).length=xs.length∧∀(j:Nat) (x:Operand) (y:AV),xs[j]?=some x→(gI ty e xs ts)[j]?=some y→∃ow,aH g w (aF h') ow (a.eval x) y
 | [],ts,_=>by simp[gI]
 |x::r,ts,hm=>by
  obtain⟨k1,k2⟩:=xI s he r ts.tail (fun x hx=>hm x (by simp[hx]));refine⟨by simp[gI,k1],fun j x' y hx hy=>?_⟩
  cases j with
  |zero=>
   simp only[gI,List.getElem?_cons_zero,Option.some.injEq]at hx hy;subst hx;obtain⟨ow,r1⟩:=s.cN he (hm x (by simp)) rfl;split at hy
   ·rename_i hn
    rw[hn]at r1;subst hy;generalize a.eval x=v at r1
    cases r1 with
    |cu=>cases MA ty (headD ts) with
     |true=>exact⟨none,.cu _⟩
     |false=>exact⟨none,.p _ _ _ (.nil _)⟩
   ·rename_i sz hn
    rw[hn]at r1;subst hy;generalize a.eval x=v at r1
    cases r1 with
    |es _ ad cap _ hs=>exact⟨none,.p _ _ _ (.sl ad cap sz [] (fun _ _=>undef) hs (Nat.zero_le _) (by simp) (by simp) (by simp))⟩
   ·rename_i sz xs hn
    rw[hn]at r1;subst hy;exact⟨none,r1.copy⟩
   ·rename_i cs hn
    rw[hn]at r1;subst hy;exact⟨_,uz _ r1⟩
   ·subst hy;exact⟨ow,r1⟩
  |succ j=>simp only[gI,List.getElem?_cons_succ]at hx hy;exact k2 j x' y hx hy
theorem yb {x:Operand} {as:List Operand} {ts:Array TypeId} (ho:o.op=.call { callee:=.value x,args:=⟨as⟩,argTypes:=ts }) {a:Act} {w:World} {f:Nat} {fs cs:List Value} (hx:a.eval x=.func (.func f) fs.toArray cs.toArray) (hb:lW P f):
 (execOp a.eval o).run P w=.ok (.enter f (fs++as.map a.eval++cs).toArray) w:=by
 obtain⟨fn,c,h1,h2,h3⟩:=hb;have hnn:¬fn.name= "runtime.NumGoroutine":=by simpa using h3
 simp[execOp,ho,resolve,hx,Deferred.ofValue,invoke,callFunc,h1,h2,hnn]
theorem vW {x:Operand} {name:String} {as:List Operand} {ts:Array TypeId} (ho:o.op=.call { callee:=.invoke x name,args:=⟨as⟩,argTypes:=ts }) {a:Act} {w:World} {f T:Nat} {v:Value} (hx:a.eval x=.iface T v) (hm:Kr P T name f) (hb:lW P f):
 (execOp a.eval o).run P w=.ok (.enter f (v::as.map a.eval).toArray) w:=by
 obtain⟨fn,c,h1,h2,h3⟩:=hb;have hnn:¬fn.name= "runtime.NumGoroutine":=by simpa using h3
 have hm':=hm v w;simp[execOp,ho,resolve,hx,invoke,callMethod,hm',callFunc,h1,h2,hnn];exact List.take_of_length_le (by simp)
end
end Go.AM
end
section
namespace Go.AM
section
variable {P:Program} {ty:Nat→Option TI} {n:Nat} {o:Oper} {e:Env} {h:Heap} {K:AK}
mutual
def AV.wv (σ:Nat→Nat):AV→AV
 |.agg cs=>.agg (AV.oQ σ cs)
 |.cA cs=>.cA (AV.oQ σ cs)
 |.fn f a b=>.fn f (AV.oQ σ a) (AV.oQ σ b)
 |.ptr l off=>.ptr (σ l) off
 |.ar l=>.ar (σ l)
 |.ap l i=>.ap (σ l) i
 |v=>v
def AV.oQ (σ:Nat→Nat):List AV→List AV
 | []=>[]
 |v::r=>AV.wv σ v::AV.oQ σ r
end
theorem jY (σ:Nat→Nat):∀(xs:List AV) (j:Nat),(AV.oQ σ xs)[j]?=(xs[j]?).map (AV.wv σ)
 | [],j=>by simp[AV.oQ]
 |x::r,0=>by simp[AV.oQ]
 |x::r,j+1=>by simp[AV.oQ,jY σ r j]
theorem fY (σ:Nat→Nat) (xs:List AV):(AV.oQ σ xs).length=xs.length:=by
 induction xs with
 |nil=>rfl
 |cons x r ih=>simp[AV.oQ,ih]
def br.wv (σ:Nat→Nat):br→br
 |.cells cs=>.cells (AV.oQ σ cs)
 |x=>x
theorem br.qz (σ:Nat→Nat) (x:br):(x.wv σ).dK=x.dK:=by cases x<;>rfl
theorem aH.wv {g g2:Gh} {w:World} {dom dom2:Nat→Prop} (σ:Nat→Nat) (d:Nat→Bool) (hi:∀b o v,bR g w b o=some v→bR g2 w b o=some v)
 (hd:∀l,dom l→d l=true→dom2 (σ l)∧g2.ρ (σ l)=g.ρ l) {ow ow2:Option aY} (ho:∀o b,ow=some o→g.own b=some o→∃o2,ow2=some o2∧g2.own b=some o2∧g2.pre b=g.pre b)
 {v:Value} {x:AV} (r:aH g w dom ow v x) (hx:x.within d=true) (hsg:∀s k a,g.σ s k=some a→g2.σ s k=some a:=by exact fun _ _ _ q=>q):aH g2 w dom2 ow2 v (x.wv σ):=by
 induction r generalizing ow2 with
 |top ow v=>exact .top _ _
 |p ow v x h=>exact .p _ _ _ (h.mono hi hsg)
 |c ow v h1=>exact .c _ _ h1
 |cu ow=>exact .cu _
 |es ow a cap sz hs=>exact .es _ a cap sz hs
 |full ow a sz xs hz h=>exact .full _ a sz xs hz (h.mono hi hsg)
 |own o a cap sz xs cs E hz h hw hp hb hs=>
  obtain⟨o2,rfl,h2,h3⟩:=ho o a.block rfl hw;exact .own o2 a cap sz xs cs E hz (h.mono hi hsg) h2 (h3.trans hp) hb hs
 |ptr ow l off h=>
  obtain⟨h1,h2⟩:=hd l h (by simpa[AV.within] using hx);rw[←h2];exact .ptr _ _ off h1
 |vp ow a cs f hs hm hxx=>exact .vp _ a cs f hs (fun i y h=>⟨hi _ _ _ (hm i y h).1,(hm i y h).2⟩) (fun i y h=>(hxx i y h).mono hi hsg)
 |agg ow vs cs hl h1 _ ih=>
  refine .agg _ vs _ (by rw[fY];exact hl) h1 (fun j v c q1 q2=>?_);rw[jY]at q2
  cases hq:cs[j]? with
  |none=>simp[hq]at q2
  |some c0=>
   simp only[hq,Option.map_some,Option.some.injEq]at q2;subst q2;exact ih j v c0 q1 hq (fun _ _ h=>by cases h) (bZ d cs (by simpa[AV.within] using hx) j c0 hq)
 |cA ow vs cs hl _ ih=>
  refine .cA _ vs _ (by rw[fY];exact hl) (fun j v c q1 q2=>?_);rw[jY]at q2
  cases hq:cs[j]? with
  |none=>simp[hq]at q2
  |some c0=>
   simp only[hq,Option.map_some,Option.some.injEq]at q2;subst q2;exact ih j v c0 q1 hq (fun _ _ h=>by cases h) (bZ d cs (by simpa[AV.within] using hx) j c0 hq)
 |ar ow l m h hn=>
  obtain⟨h1,h2⟩:=hd l h (by simpa[AV.within] using hx);rw[←h2]at hn ⊢;exact .ar _ _ m h1 hn
 |ap ow l i h=>obtain⟨h1,h2⟩:=hd l h (by simpa[AV.within] using hx);rw[←h2];exact .ap _ _ i h1
 |v7 ow b v h=>exact .v7 _ b v h
 |fn ow f fs cs first caps h1 h2 _ _ ih1 ih2=>
  have hx:AV.dB d first=true∧AV.dB d caps=true:=by simpa[AV.within] using hx
  refine .fn _ f fs cs _ _ (by rw[fY];exact h1) (by rw[fY];exact h2) (fun j v c q1 q2=>?_) (fun j v c q1 q2=>?_)
  ·rw[jY]at q2
   cases hq:first[j]? with
   |none=>simp[hq]at q2
   |some c0=>
    simp only[hq,Option.map_some,Option.some.injEq]at q2;subst q2;exact ih1 j v c0 q1 hq (fun _ _ h=>by cases h) (bZ d first hx.1 j c0 hq)
  ·rw[jY]at q2
   cases hq:caps[j]? with
   |none=>simp[hq]at q2
   |some c0=>
    simp only[hq,Option.map_some,Option.some.injEq]at q2;subst q2;exact ih2 j v c0 q1 hq (fun _ _ h=>by cases h) (bZ d caps hx.2 j c0 hq)
mutual
theorem w9 (d:Nat→Bool) (hd:∀l,d l=true):∀(x:AV),x.within d=true
 |.agg cs=>by simp only[AV.within];exact jX d hd cs
 |.cA cs=>by simp only[AV.within];exact jX d hd cs
 |.fn f a b=>by simp only[AV.within,Bool.and_eq_true];exact⟨jX d hd a,jX d hd b⟩
 |.ptr l off=>by simp[AV.within,hd]
 |.ar l=>by simp[AV.within,hd]
 |.ap l i=>by simp[AV.within,hd]
 |.v7 _=>rfl
 |.top=>rfl
 |.p _=>rfl
 |.c _=>rfl
 |.cu=>rfl
 |.es _=>rfl
 |.so _ _=>rfl
 |.vp _=>rfl
theorem jX (d:Nat→Bool) (hd:∀l,d l=true):∀(xs:List AV),AV.dB d xs=true
 | []=>rfl
 |x::r=>by simp only[AV.dB,Bool.and_eq_true];exact⟨w9 d hd x,jX d hd r⟩
end
def fR:List Nat→Nat→Nat→Nat
 | [],_,l=>l
 |x::r,k,l=>match Nat.beq x l with|true=>bP+k|false=>fR r (k+1) l
def ef (R:List Nat) (B:Nat) (l:Nat):Nat:=match Nat.ble bP l with|true=>R.getD (l-bP) 0|false=>B+l
def oC (h:Heap) (σ:Nat→Nat) (d:Nat→Bool):List Nat→Nat→Option Heap
 | [],_=>some []
 |x::r,k=>match aG h x with
  |some ob=>match ob.within d,oC h σ d r (k+1) with
   |true,some hh=>some ((bP+k,ob.wv σ)::hh)
   |_,_=>none
  |none=>none
def nodupB:List Nat→Bool
 | []=>true
 |x::r=>!(bB r x)&&nodupB r
def aO:Heap→List Nat
 | []=>[]
 |(l,_)::r=>l::aO r
def ox (h:Heap) (B m:Nat):List Nat→Bool
 | []=>true
 |l::r=>(match Nat.ble bP l with|true=>Nat.blt (l-bP) m|false=>fh h (B+l))&&ox h B m r
def kB (ks:List Nat):Nat→Bool
 |0=>true
 |k+1=>bB ks (bP+k)&&kB ks k
def dR (R:List Nat) (B:Nat):Heap→Heap
 | []=>[]
 |(l,x)::r=>(ef R B l,x.wv (ef R B))::dR R B r
def fK (hs:Heap):Heap→Bool
 | []=>true
 |(l,ob)::r=>(match ob with
  |.bK b _=>(match aG hs l with|some (.bK b' _)=>Nat.beq b b'|_=>false)
  |_=>true)&&fK hs r
theorem Ao {hs:Heap}:∀{h':Heap},fK hs h'=true→∀{l b:Nat} {vs:List Value},aG h' l=some (.bK b vs)→∃vs',aG hs l=some (.bK b vs')
 | [],_,l,b,vs,hl=>by simp[aG]at hl
 |(k,ob)::r,hg,l,b,vs,hl=>by
  simp only[fK,Bool.and_eq_true]at hg
  by_cases e1:k=l
  ·subst e1
   rw[aP]at hl;cases hl;have h1:=hg.1;simp only at h1;split at h1
   ·rename_i b' vs' hq
    have:=Nat.eq_of_beq_eq_true h1;subst this;exact⟨vs',hq⟩
   ·cases h1
  ·rw[aT e1]at hl
   exact Ao hg.2 hl
def av (P:Program) (f:Nat) (args:List AV) (hs:Heap) (r:AV) (h':Heap):Prop:=
 (lW P f∧fK hs h'=true)∧∀(g:Gh) (w:World) (vs:List Value),gj g w hs→(∀b ow,g.own b=some ow→b<w.heap.size)→vs.length=args.length→(∀(j:Nat) (v:Value) (x:AV),vs[j]?=some v→args[j]?=some x→aH g w (aF hs) none v x)→
   Calls P f vs.toArray w fun en w'=>∃v g',en=.returned v∧aH g' w' (aF h') (some .ret) v r∧gj g' w' h'∧(∀b ow,g'.own b=some ow→b<w'.heap.size)∧Ext g w g' w'
inductive dj (P:Program) (f:Nat) (args:List AV) (h:Heap) (K:List Nat→Heap→AV→Prop):Prop
 |pure (r:AV) (hf:AV.oq args=true) (s:aV P f args r) (hk:K [] [] r)
 |mem (R:List Nat) (B:Nat) (hs:Heap) (r:AV) (h':Heap) (h1:(AV.dB (bB R) args&&nodupB R)=true) (h2:oC h (fR R 0) (bB R) R 0=some hs) (s:av P f (AV.oQ (fR R 0) args) hs r h')
  (h3:(nodupB (aO h')&&ox h B R.length (aO h')&&kB (aO h') R.length)=true) (hk:K R (dR R B h') (r.wv (ef R B)))
end
end Go.AM
end
section
namespace Go.AM
section
variable {P:Program} {ty:Nat→Option TI} {n:Nat} {o:Oper} {e:Env} {h:Heap} {K:AK}
theorem oZ (l:List Nat) (i:Nat):bB l i=true↔i∈l:=by
 refine⟨iP l i,fun hi=>?_⟩
 induction l with
 |nil=>cases hi
 |cons x r ih=>
  simp only[bB]
  by_cases q:x=i
  ·subst q;simp
  ·rw[beq_false q]
   rcases List.mem_cons.1 hi with rfl|hi
   ·exact absurd rfl q
   ·exact ih hi
theorem mo:∀{R:List Nat},nodupB R=true→R.Nodup
 | [],_=>List.nodup_nil
 |x::r,h=>by
  simp only[nodupB,Bool.and_eq_true,Bool.not_eq_true']at h;refine List.nodup_cons.2 ⟨fun hm=>?_,mo h.2⟩;rw[(oZ r x).2 hm]at h;cases h.1
theorem jh:∀(R:List Nat) (k j l:Nat),R.Nodup→R[j]?=some l→fR R k l=bP+(k+j)
 | [],k,j,l,_,hj=>by simp at hj
 |x::r,k,0,l,_,hj=>by simp at hj;subst hj;simp[fR]
 |x::r,k,j+1,l,hn,hj=>by
  simp at hj;have hne:x≠l:=fun q=>by subst q;exact(List.nodup_cons.1 hn).1 (List.mem_of_getElem? hj)
  simp only[fR,beq_false hne];rw[jh r (k+1) j l (List.nodup_cons.1 hn).2 hj];omega
theorem qn {σ:Nat→Nat} {d:Nat→Bool}:∀(R:List Nat) (k:Nat) (hs:Heap),oC h σ d R k=some hs→
 (∀x ob,aG hs x=some ob→∃j l ob0,x=bP+(k+j)∧R[j]?=some l∧aG h l=some ob0∧ob0.within d=true∧ob=ob0.wv σ)∧
 (∀(j l:Nat),R[j]?=some l→∃ob0,aG h l=some ob0∧aG hs (bP+(k+j))=some (ob0.wv σ))
 | [],k,hs,hh=>by
   simp[oC]at hh;subst hh;exact⟨fun x ob q=>by simp[aG]at q,fun j l q=>by simp at q⟩
 |x0::r,k,hs,hh=>by
  simp only[oC]at hh;split at hh
  ·rename_i ob0 hob
   split at hh
   ·rename_i h1 hw hs1
    cases hh;obtain⟨i1,i2⟩:=qn r (k+1) h1 hs1;refine⟨fun x ob q=>?_,fun j l q=>?_⟩
    ·by_cases e1:bP+k=x
     ·subst e1;rw[aP]at q;cases q
      exact⟨0,x0,ob0,by omega,rfl,hob,hw,rfl⟩
     ·rw[aT e1]at q
      obtain⟨j,l,ob1,q1,q2,q3,q4,q5⟩:=i1 x ob q;exact⟨j+1,l,ob1,by omega,by simpa using q2,q3,q4,q5⟩
    ·cases j with
     |zero=>simp at q;subst q;exact⟨ob0,hob,by rw[Nat.add_zero,aP]⟩
     |succ j=>
      simp at q;obtain⟨ob1,q1,q2⟩:=i2 j l q;refine⟨ob1,q1,?_⟩;rw[aT (by omega),←q2];congr 1;omega
   ·cases hh
  ·cases hh
theorem nZ:∀(L:Heap) (x:Nat),x∉aO L→aG L x=none
 | [],x,_=>rfl
 |(k,v)::r,x,hx=>by
  simp only[aO,List.mem_cons,not_or]at hx;rw[aT (fun q=>hx.1 q.symm)];exact nZ r x hx.2
theorem eM:∀(L:Heap) (x:Nat) (ob:br),aG L x=some ob→x∈aO L
 | [],x,ob,hx=>by simp[aG]at hx
 |(k,v)::r,x,ob,hx=>by
  simp only[aO,List.mem_cons]
  by_cases q:k=x
  ·exact .inl q.symm
  ·rw[aT q]at hx;exact .inr (eM r x ob hx)
theorem dO:∀(L:Heap) (x:Nat),x∈aO L→∃ob,aG L x=some ob
 | [],x,hx=>by cases hx
 |(k,v)::r,x,hx=>by
  by_cases q:k=x
  ·subst q;exact⟨v,aP _ _ _⟩
  ·rw[aT q]
   simp only[aO,List.mem_cons]at hx;rcases hx with rfl|hx
   ·exact absurd rfl q
   ·exact dO r x hx
theorem oz:∀(L H:Heap) (x:Nat),(aO L).Nodup→aG (L.reverse++H) x=match aG L x with|some ob=>some ob|none=>aG H x
 | [],H,x,_=>rfl
 |(k,v)::r,H,x,hn=>by
  simp only[aO]at hn;rw[List.reverse_cons,List.append_assoc,oz r _ x (List.nodup_cons.1 hn).2]
  by_cases q:k=x
  ·subst q
   rw[nZ r k (List.nodup_cons.1 hn).1,aP];show aG ((k,v)::H) k=some v;rw[aP]
  ·rw[aT q]
   cases aG r x with
   |some ob=>rfl
   |none=>show aG ((k,v)::H) x=aG H x;rw[aT q]
theorem Al {B m:Nat}:∀(ks:List Nat),ox h B m ks=true→∀l∈ks,(bP≤l∧l-bP<m)∨(l<bP∧fh h (B+l)=true)
 | [],_,l,hl=>by cases hl
 |k::r,hc,l,hl=>by
  simp only[ox,Bool.and_eq_true]at hc;rcases List.mem_cons.1 hl with rfl|hl
  ·have h1:=hc.1
   split at h1
   ·rename_i q
    left;exact⟨by rw[Nat.ble_eq]at q;exact q,by rw[Nat.blt_eq]at h1;exact h1⟩
   ·rename_i q
    right
    refine⟨?_,h1⟩;rcases Nat.lt_or_ge l bP with q'|q'
    ·exact q'
    ·rw[Nat.ble_eq_true_of_le q']at q;cases q
  ·exact Al r hc.2 l hl
theorem vu {ks:List Nat}:∀(m:Nat),kB ks m=true→∀k,k<m→bP+k∈ks
 |0,_,k,hk=>by omega
 |m+1,hc,k,hk=>by
  simp only[kB,Bool.and_eq_true]at hc
  by_cases q:k=m
  ·subst q;exact iP _ _ hc.1
  ·exact vu m hc.2 k (by omega)
theorem eY {R:List Nat} {B:Nat}:∀(L:Heap),aO (dR R B L)=(aO L).map (ef R B)
 | []=>rfl
 |(k,v)::r=>by simp[dR,aO,eY r]
theorem qY {f:Nat→Nat}:∀(l:List Nat),l.Nodup→(∀a∈l,∀b∈l,f a=f b→a=b)→(l.map f).Nodup
 | [],_,_=>List.nodup_nil
 |x::r,hn,hi=>by
  refine List.nodup_cons.2 ⟨fun hm=>?_,qY r (List.nodup_cons.1 hn).2 (fun a ha b hb=>hi a (by simp[ha]) b (by simp[hb]))⟩;obtain⟨y,hy,he⟩:=List.mem_map.1 hm;have:=hi y (by simp[hy]) x (by simp) he;subst this;exact(List.nodup_cons.1 hn).1 hy
theorem mM {R:List Nat} {B:Nat}:∀(L:Heap) (x:Nat) (ob:br),aG (dR R B L) x=some ob→∃l ob0,l∈aO L∧x=ef R B l∧((∀a∈aO L,∀b∈aO L,ef R B a=ef R B b→a=b)→aG L l=some ob0∧ob=ob0.wv (ef R B))
 | [],x,ob,hx=>by simp[dR,aG]at hx
 |(k,v)::r,x,ob,hx=>by
  simp only[dR]at hx
  by_cases q:ef R B k=x
  ·subst q
   rw[aP]at hx;cases hx;exact⟨k,v,by simp[aO],rfl,fun _=>⟨aP _ _ _,rfl⟩⟩
  ·rw[aT q]at hx
   obtain⟨l,ob0,h1,h2,h3⟩:=mM r x ob hx;refine⟨l,ob0,by simp[aO,h1],h2,fun hi=>?_⟩;have hkl:k≠l:=fun e1=>by subst e1;exact q h2.symm
   rw[aT hkl];exact h3 (fun a ha b hb=>hi a (by simp[aO,ha]) b (by simp[aO,hb]))
def cw (R:List Nat):Option aY→Option aY
 |some (.obj l)=>if l∈R then some (.obj (fR R 0 l)) else none
 |some (.cell l j)=>if l∈R then some (.cell (fR R 0 l) j) else none
 |_=>none
def kF (R:List Nat) (B d:Nat) (h':Heap):Option aY→Option aY
 |some (.obj l)=>if l∈aO h' then some (.obj (ef R B l)) else none
 |some (.cell l j)=>if l∈aO h' then some (.cell (ef R B l) j) else none
 |some .ret=>some (.slot d)
 |_=>none
def sV (R:List Nat):Option Nat→Option Nat
 |some l=>if l∈R then some (fR R 0 l) else none
 |none=>none
def Gh.jg (g:Gh) (R:List Nat):Gh:={ pre:=g.pre,own:=fun b=>cw R (g.own b),ρ:=fun l=>g.ρ (R.getD (l-bP) 0),σ:=g.σ,sown:=fun s=>sV R (g.sown s) }
theorem wS {R:List Nat} {j l:Nat} (h:R[j]?=some l):R.getD j 0=l:=by simp[List.getD,h]
theorem aH.jg {g:Gh} {w:World} {R:List Nat} {hs:Heap} (hn:R.Nodup) (hsub:oC h (fR R 0) (bB R) R 0=some hs) {ow ow2:Option aY} (ho:∀q,ow=some q→ow2=cw R (some q)∧ow2≠none) {v:Value} {x:AV} (r:aH g w (aF h) ow v x) (hx:x.within (bB R)=true):
 aH (g.jg R) w (aF hs) ow2 v (x.wv (fR R 0)):=by
 obtain⟨s1,s2⟩:=qn R 0 hs hsub;refine aH.wv (g:=g) (g2:=g.jg R) (fR R 0) (bB R) (fun _ _ _ q=>q) (fun l _ hl=>?_) (fun q b e1 e2=>?_) r hx
 ·obtain⟨j,hj⟩:=List.getElem?_of_mem (iP R l hl)
  rw[jh R 0 j l hn hj];obtain⟨ob0,q1,q2⟩:=s2 j l hj;refine⟨by unfold aF;rw[q2];rfl,?_⟩;show g.ρ (R.getD (bP+(0+j)-bP) 0)=g.ρ l;rw[show bP+(0+j)-bP=j by omega,wS hj]
 ·obtain⟨h1,h2⟩:=ho q e1
  cases hq:ow2 with
  |none=>exact absurd hq h2
  |some q2=>
   refine⟨q2,rfl,?_,rfl⟩;show cw R (g.own b)=some q2;rw[e2,←h1,hq]
theorem gj.jg {g:Gh} {w:World} {R:List Nat} {hs:Heap} (hr:gj g w h) (hn:R.Nodup) (hsub:oC h (fR R 0) (bB R) R 0=some hs):gj (g.jg R) w hs:=by
 obtain⟨s1,s2⟩:=qn R 0 hs hsub
 have ρe:∀{j l:Nat},R[j]?=some l→(g.jg R).ρ (bP+(0+j))=g.ρ l:=fun {j l} hj=>by
  show g.ρ (R.getD (bP+(0+j)-bP) 0)=g.ρ l;rw[show bP+(0+j)-bP=j by omega,wS hj]
 refine⟨fun x ob hx=>?_,fun x ob hx hs=>?_,fun x ob hx hs=>?_⟩
 ·obtain⟨j,l,ob0,rfl,q2,q3,q4,rfl⟩:=s1 x ob hx
  have hm:l∈R:=List.mem_of_getElem? q2
  cases hr.obj l ob0 q3 with
  |cells cs vs E hb hl hxx h1=>
   refine .cells _ vs E (by rw[ρe q2];exact hb) (by rw[fY];exact hl) (fun i v c q5 q6=>?_) h1;rw[jY]at q6
   cases hq:cs[i]? with
   |none=>simp[hq]at q6
   |some c0=>
    simp only[hq,Option.map_some,Option.some.injEq]at q6;subst q6;refine aH.jg hn hsub (fun q e1=>?_) (hxx i v c0 q5 hq) (bZ _ cs (by simpa[br.within] using q4) i c0 hq);cases e1;simp[cw,hm,jh R 0 j l hn q2]
  |arr xs vs E hb hl hxx h1=>exact .arr xs vs E (by rw[ρe q2];exact hb) hl hxx h1
  |store T3 o3 sp3 nx3 z3 M3 hst=>exact .store T3 o3 sp3 nx3 z3 M3 (hst.mono (fun _ _ _ q=>q) (fun bb hb2=>⟨by show cw R (g.own bb)=_;rw[hb2];simp[cw,hm,jh R 0 j l hn q2],rfl,rfl⟩) (by show sV R (g.sown sp3)=_;rw[hst.sown];simp[sV,hm,jh R 0 j l hn q2]))
  |bK gb gvs hgl=>exact gG.kP hgl (fun h1 _ _=>⟨rfl,by show cw R (g.own gb)=none;rw[h1];rfl⟩)
 ·obtain⟨j,l,ob0,rfl,q2,q3,q4,rfl⟩:=s1 x ob hx
  have hm:l∈R:=List.mem_of_getElem? q2;rw[ρe q2];show cw R (g.own (g.ρ l))=_;rw[hr.own l ob0 q3 (by rw[←br.qz];exact hs)];simp[cw,hm,jh R 0 j l hn q2]
 ·obtain⟨j,l,ob0,rfl,q2,q3,q4,rfl⟩:=s1 x ob hx
  rw[ρe q2];exact hr.pre l ob0 q3 (by rw[←br.qz];exact hs)
theorem cp.GQ {g g':Gh} {w w':World} {a:Act} {e:Env} {h:Heap} (s:cp g w n a e h) {R:List Nat} {hs h':Heap} {B:Nat} (d:Nat) (hn:R.Nodup) (hsub:oC h (fR R 0) (bB R) R 0=some hs)
 (hx:Ext (g.jg R) w g' w') (hr:gj g' w' h') (hbn:∀b ow,g'.own b=some ow→b<w'.heap.size)
 (c1:(aO h').Nodup) (c2:ox h B R.length (aO h')=true) (c3:kB (aO h') R.length=true) (hglob:fK hs h'=true):
 ∃G,cp G w' n a e ((dR R B h').reverse++h)∧Ext g w G w'∧∀v r,aH g' w' (aF h') (some .ret) v r→aH G w' (aF ((dR R B h').reverse++h)) (some (.slot d)) v (r.wv (ef R B)):=by
 obtain⟨s1,s2⟩:=qn R 0 hs hsub;have ck:=Al _ c2;have ak:=vu _ c3
 have ofB1:∀{j l:Nat},R[j]?=some l→ef R B (bP+j)=l:=fun {j l} hj=>by
  unfold ef;rw[show Nat.ble bP (bP+j)=true from Nat.ble_eq_true_of_le (by omega)];rw[show bP+j-bP=j by omega];exact wS hj
 have ofB2:∀{l:Nat},l<bP→ef R B l=B+l:=fun {l} hl=>by
  unfold ef
  cases hq:Nat.ble bP l with
  |false=>rfl
  |true=>rw[Nat.ble_eq]at hq;omega
 have Rdom:∀{j l:Nat},R[j]?=some l→aF h l:=fun {j l} hj=>by
  obtain⟨ob0,q1,_⟩:=s2 j l hj;simp[aF,q1]
 have big:∀l∈aO h',bP≤l→∃l0,R[l-bP]?=some l0∧l=bP+(l-bP):=fun l hl hb=>by
  rcases ck l hl with⟨q1,q2⟩|⟨q1,_⟩
  ·exact⟨R[l-bP],List.getElem?_eq_getElem q2,by omega⟩
  ·omega
 have small:∀l∈aO h',l<bP→aG h (B+l)=none∧B+l<bP:=fun l hl hb=>by
  rcases ck l hl with⟨q1,q2⟩|⟨_,q2⟩
  ·omega
  ·exact nU q2
 have inj:∀x∈aO h',∀y∈aO h',ef R B x=ef R B y→x=y:=by
  intro x hx y hy he
  by_cases bx:bP≤x
  ·obtain⟨lx,x1,x2⟩:=big x hx bx
   rw[x2,ofB1 x1]at he
   by_cases bY:bP≤y
   ·obtain⟨ly,y1,y2⟩:=big y hy bY
    rw[y2,ofB1 y1]at he;subst he;have h1:=(List.getElem?_eq_some_iff.1 x1)
    have h2:=(List.getElem?_eq_some_iff.1 y1)
    have:=(List.getElem_inj (h₀:=h1.1) (h₁:=h2.1) hn).1 (h1.2.trans h2.2.symm);omega
   ·exfalso
    rw[ofB2 (by omega)]at he;have:=Rdom x1;rw[he]at this;simp[aF,(small y hy (by omega)).1]at this
  ·rw[ofB2 (by omega)]at he
   by_cases bY:bP≤y
   ·exfalso
    obtain⟨ly,y1,y2⟩:=big y hy bY;rw[y2,ofB1 y1]at he;have:=Rdom y1;rw[←he]at this;simp[aF,(small x hx (by omega)).1]at this
   ·rw[ofB2 (by omega)]at he;omega
 have kn:(aO (dR R B h')).Nodup:=by rw[eY];exact qY _ c1 inj
 have hH:∀x,aG ((dR R B h').reverse++h) x=match aG (dR R B h') x with|some ob=>some ob|none=>aG h x:=fun x=>oz _ _ x kn
 have hHnew:∀l ob,aG h' l=some ob→aG ((dR R B h').reverse++h) (ef R B l)=some (ob.wv (ef R B)):=by
  intro l ob hl;obtain⟨ob1,q1⟩:=dO (dR R B h') (ef R B l) (by rw[eY];exact List.mem_map.2 ⟨l,eM _ _ _ hl,rfl⟩);obtain⟨l2,ob2,q2,q3,q4⟩:=mM _ _ _ q1;obtain⟨q5,q6⟩:=q4 inj;have:=inj l (eM _ _ _ hl) l2 q2 q3;subst this;rw[hl]at q5;cases q5;rw[hH,q1,q6]
 have hHold:∀x,(∀l∈aO h',x≠ef R B l)→aG ((dR R B h').reverse++h) x=aG h x:=by
  intro x hx;rw[hH,nZ];rw[eY];intro hm;obtain⟨l,h1,h2⟩:=List.mem_map.1 hm;exact hx l h1 h2.symm
 have hdomH:∀x,aF h x→aF ((dR R B h').reverse++h) x:=by
  intro x hx;unfold aF at hx ⊢;rw[hH]
  cases aG (dR R B h') x with
  |some ob=>rfl
  |none=>exact hx
 -- the ghost
 let G:Gh:={ pre:=g'.pre,own:=fun b=>if b<w.heap.size∧(g.jg R).own b=none then g.own b else kF R B d h' (g'.own b),
             ρ:=fun l=>if l∈R then g.ρ l else if B≤l∧l-B∈aO h'∧l-B<bP then g'.ρ (l-B) else g.ρ l,σ:=g'.σ,sown:=g.sown }
 have Gpre:G.pre=g'.pre:=rfl;have Gown:∀b,G.own b=if b<w.heap.size∧(g.jg R).own b=none then g.own b else kF R B d h' (g'.own b):=fun _=>rfl
 have Gρ:∀l,G.ρ l=if l∈R then g.ρ l else if B≤l∧l-B∈aO h'∧l-B<bP then g'.ρ (l-B) else g.ρ l:=fun _=>rfl
 have Gσ:G.σ=g'.σ:=rfl;have Gsown:G.sown=g.sown:=rfl;generalize G=G at Gpre Gown Gρ Gσ Gsown;have hs1:∀s k a,g.σ s k=some a→G.σ s k=some a:=fun s k a q=>by rw[Gσ];exact hx.tj.1 s k a q
 have hs2:∀s k a,g'.σ s k=some a→G.σ s k=some a:=fun s k a q=>by rw[Gσ];exact q
 have Gρold:∀l,aF h l→G.ρ l=g.ρ l:=by
  intro l hl;rw[Gρ];split
  ·rfl
  ·split
   ·rename_i q
    have:=(small (l-B) q.2.1 q.2.2).1;rw[show B+(l-B)=l by omega]at this;simp[aF,this]at hl
   ·rfl
 have Gρnew:∀l,l∈aO h'→G.ρ (ef R B l)=g'.ρ l:=by
  intro l hl
  by_cases hb:bP≤l
  ·obtain⟨l0,q1,q2⟩:=big l hl hb
   rw[show ef R B l=l0 by rw[q2];exact ofB1 q1,Gρold l0 (Rdom q1),hx.ρk l hb];show _=g.ρ (R.getD (l-bP) 0);rw[wS q1]
  ·rw[ofB2 (by omega),Gρ]
   have hnew:=small l hl (by omega)
   have hnR:B+l∉R:=fun hm=>by
    obtain⟨j,hj⟩:=List.getElem?_of_mem hm;have:=Rdom hj;simp[aF,hnew.1]at this
   rw[if_neg hnR,if_pos ⟨by omega,by rw[show B+l-B=l by omega];exact⟨hl,by omega⟩⟩,show B+l-B=l by omega]
 have kept:∀b,b<w.heap.size→(g.jg R).own b=none→w'.heap[b]?=w.heap[b]?∧G.pre b=g.pre b∧G.own b=g.own b:=by
  intro b hb ho;obtain⟨q1,q2,q3⟩:=hx.kept b hb ho;exact⟨q1,by rw[Gpre];exact q2,by rw[Gown,if_pos ⟨hb,ho⟩]⟩
 have lendSlot:∀b i,g.own b=some (.slot i)→(g.jg R).own b=none:=fun b i ho=>by
  show cw R (g.own b)=none;rw[ho];rfl
 have himm:∀b k v,bR g w b k=some v→bR G w' b k=some v:=fun b k v hv=>by
  have:=hx.bR b k v hv;simp only[cI]at this ⊢;rw[Gpre];exact this
 have hownG:∀b q,g'.own b=some q→G.own b=kF R B d h' (some q):=by
  intro b q hq;rw[Gown];split
  ·rename_i hc
   have:=(hx.kept b hc.1 hc.2).2.2;rw[hq]at this;cases this
  ·rw[hq]
 -- values of the caller
 have up:∀{ow v x},(∀q b,ow=some q→g.own b=some q→(g.jg R).own b=none)→aH g w (aF h) ow v x→aH G w' (aF ((dR R B h').reverse++h)) ow v x:=fun hq r=>
  r.keep himm (fun l hl=>⟨hdomH l hl,Gρold l hl⟩) (fun l cs E hl hb=>hx.siz _ cs E hb)
   (fun q b e1 ho=>by
     have hb:=s.bnd b q ho;obtain⟨k1,k2,k3⟩:=kept b hb (hq q b e1 ho);exact⟨k3.trans ho,k2,k1⟩) (hsg:=hs1)
 -- values of the callee
 have down:∀{ow ow2 v x},(∀q,ow=some q→ow2=kF R B d h' (some q)∧ow2≠none)→aH g' w' (aF h') ow v x→aH G w' (aF ((dR R B h').reverse++h)) ow2 v (x.wv (ef R B)):=fun {ow ow2 v x} hq r=>by
  refine aH.wv (g:=g') (g2:=G) (ef R B) (fun _=>true) (fun b k v hv=>by simp only[cI]at hv ⊢;rw[Gpre];exact hv) (fun l hl _=>?_) (fun q b e1 ho=>?_) r (w9 _ (fun _=>rfl) x) (hsg:=hs2)
  ·unfold aF at hl
   obtain⟨ob,hob⟩:=Option.isSome_iff_exists.1 hl;exact⟨by unfold aF;rw[hHnew l ob hob];rfl,Gρnew l (eM _ _ _ hob)⟩
  ·obtain⟨k1,k2⟩:=hq q e1
   cases hq2:ow2 with
   |none=>exact absurd hq2 k2
   |some q2=>exact⟨q2,rfl,by rw[hownG b q ho,←k1,hq2],by rw[Gpre]⟩
 refine⟨G,⟨s.defers,s.size,fun i=>up (fun q b e1 ho=>by cases e1;exact lendSlot b i ho) (s.env i),⟨fun x ob hxo=>?_,fun x ob hxo hsl=>?_,fun x ob hxo hsl=>?_⟩,fun b q hq=>?_⟩,?_,fun v r hv=>?_⟩
 · -- objects
  rw[hH]at hxo
  cases hb:aG (dR R B h') x with
  |some ob1=>
   rw[hb]at hxo;cases hxo;obtain⟨l,ob0,q1,q2,q3⟩:=mM _ _ _ hb;obtain⟨q4,q5⟩:=q3 inj;subst q2;subst q5;have hkl:=eM _ _ _ q4
   cases hr.obj l ob0 q4 with
   |cells cs vs E hb' hl hxx h1=>
    refine .cells _ vs E (by rw[Gρnew l hkl];exact hb') (by rw[fY];exact hl) (fun i v c q5 q6=>?_) h1;rw[jY]at q6
    cases hq:cs[i]? with
    |none=>simp[hq]at q6
    |some c0=>
     simp only[hq,Option.map_some,Option.some.injEq]at q6;subst q6;refine down (fun q e1=>?_) (hxx i v c0 q5 hq);cases e1;simp[kF,hkl]
   |arr xs vs E hb' hl hxx h1=>exact .arr xs vs E (by rw[Gρnew l hkl];exact hb') hl (fun i v c q5 q6=>(hxx i v c q5 q6).mono (fun b k v hv=>by simp only[cI]at hv ⊢;rw[Gpre];exact hv) hs2) h1
   |store T3 o3 sp3 nx3 z3 M3 hst=>
    refine .store T3 o3 sp3 nx3 z3 M3 (hst.mono (fun b k v hv=>by simp only[cI]at hv ⊢;rw[Gpre];exact hv) (fun bb hb2=>⟨by rw[hownG bb _ hb2];simp[kF,hkl],rfl,by rw[Gpre]⟩) ?_ (hs:=hs2) (he:=fun k=>by rw[Gσ]));have q9:=hst.sown;rw[hx.tj.2.1]at q9;replace q9:sV R (g.sown sp3)=some l:=q9;rw[Gsown]
    cases hq8:g.sown sp3 with
    |none=>rw[hq8]at q9;cases q9
    |some l8=>
     rw[hq8]at q9;simp only[sV]at q9;split at q9
     ·rename_i hm8
      obtain⟨j8,hj8⟩:=List.getElem?_of_mem hm8;rw[jh R 0 j8 l8 hn hj8]at q9;cases q9;rw[Nat.zero_add,ofB1 hj8]
     ·cases q9
   |bK gb gvs hgl=>
    refine gG.kP hgl (fun h1 hlt _=>?_);obtain⟨vs',hq⟩:=Ao hglob q4;obtain⟨j,l0,ob0,e1,e2,e3,e4,e5⟩:=s1 _ _ hq
    cases ob0 with
    |bK b0 vs0=>
     simp only[br.wv,br.bK.injEq]at e5;obtain⟨rfl,_⟩:=e5
     cases s.heap.obj l0 _ e3 with
     |bK _ _ hg0=>
      obtain⟨g1,E0,fr0,g2⟩:=hg0;have hk:=kept gb (Array.getElem?_eq_some_iff.1 g2).1 (by show cw R (g.own gb)=none;rw[g1];rfl);exact⟨rfl,hk.2.2.trans g1⟩
    |_=>simp[br.wv]at e5
  |none=>
   rw[hb]at hxo;have hdx:aF h x:=by simp[aF,hxo]
   have hnR:x∉R:=fun hm=>by
    obtain⟨j,hj⟩:=List.getElem?_of_mem hm;have hk:=ak j (List.getElem?_eq_some_iff.1 hj).1;obtain⟨ob2,q1⟩:=dO h' _ hk;have:=hHnew _ _ q1;rw[ofB1 hj,hH,hb]at this;have h2:x∈aO (dR R B h'):=by rw[eY];exact List.mem_map.2 ⟨_,hk,ofB1 hj⟩
    obtain⟨ob3,q3⟩:=dO _ _ h2;rw[hb]at q3;cases q3
   have hlo:ob.dK=true→(g.jg R).own (g.ρ x)=none:=fun hsl=>by
    show cw R (g.own (g.ρ x))=none;rw[s.heap.own x ob hxo hsl];simp[cw,hnR]
   have eo:ob.dK=true→w'.heap[G.ρ x]?=w.heap[g.ρ x]?:=fun hsl=>by rw[Gρold x hdx];exact(kept _ (s.bnd _ _ (s.heap.own x ob hxo hsl)) (hlo hsl)).1
   cases s.heap.obj x ob hxo with
   |cells cs vs E hb' hl hxx h1=>
    refine .cells cs vs E ((eo rfl).trans hb') hl (fun i v c q5 q6=>up (fun q b e1 ho=>?_) (hxx i v c q5 q6)) h1;cases e1;show cw R (g.own b)=none;rw[ho];simp[cw,hnR]
   |arr xs vs E hb' hl hxx h1=>exact .arr xs vs E ((eo rfl).trans hb') hl (fun i v c q5 q6=>(hxx i v c q5 q6).mono himm hs1) h1
   |store T3 o3 sp3 nx3 z3 M3 hst=>exact .store T3 o3 sp3 nx3 z3 M3 (hst.mono himm (fun bb hb2=>by have hk:=kept bb (s.bnd _ _ hb2) (by show cw R (g.own bb)=none;rw[hb2];simp[cw,hnR]);exact⟨hk.2.2.trans hb2,hk.1,hk.2.1⟩) (by rw[Gsown];exact hst.sown) (hs:=hs1) (he:=fun k=>by rw[Gσ];exact hx.tj.2.2 sp3 (by show sV R (g.sown sp3)=none;rw[hst.sown];simp[sV,hnR]) k))
   |bK gb gvs hgl=>exact gG.kP hgl (fun h1 hlt _=>by have hk:=kept gb hlt (by show cw R (g.own gb)=none;rw[h1];rfl);exact⟨hk.1,hk.2.2.trans h1⟩)
 ·rw[hH]at hxo
  cases hb:aG (dR R B h') x with
  |some ob1=>
   obtain⟨l,ob0,q1,q2,q3⟩:=mM _ _ _ hb;obtain⟨q4,q5⟩:=q3 inj;subst q2;have hkl:=eM _ _ _ q4;rw[hb]at hxo;cases hxo;rw[Gρnew l hkl,hownG _ _ (hr.own l ob0 q4 (by rw[q5,br.qz]at hsl;exact hsl))];simp[kF,hkl]
  |none=>
   rw[hb]at hxo;have hdx:aF h x:=by simp[aF,hxo]
   have hnR:x∉R:=fun hm=>by
    obtain⟨j,hj⟩:=List.getElem?_of_mem hm;have hk:=ak j (List.getElem?_eq_some_iff.1 hj).1;have h2:x∈aO (dR R B h'):=by rw[eY];exact List.mem_map.2 ⟨_,hk,ofB1 hj⟩
    obtain⟨ob3,q3⟩:=dO _ _ h2;rw[hb]at q3;cases q3
   have ho:=s.heap.own x ob hxo hsl
   have hlo:(g.jg R).own (g.ρ x)=none:=by
    show cw R (g.own (g.ρ x))=none;rw[ho];simp[cw,hnR]
   rw[Gρold x hdx,(kept _ (s.bnd _ _ ho) hlo).2.2];exact ho
 ·rw[hH]at hxo
  cases hb:aG (dR R B h') x with
  |some ob1=>
   obtain⟨l,ob0,q1,q2,q3⟩:=mM _ _ _ hb;obtain⟨q4,q5⟩:=q3 inj;subst q2;have hkl:=eM _ _ _ q4;rw[hb]at hxo;cases hxo;rw[Gρnew l hkl,Gpre];exact hr.pre l ob0 q4 (by rw[q5,br.qz]at hsl;exact hsl)
  |none=>
   rw[hb]at hxo;have hdx:aF h x:=by simp[aF,hxo]
   have hnR:x∉R:=fun hm=>by
    obtain⟨j,hj⟩:=List.getElem?_of_mem hm;have hk:=ak j (List.getElem?_eq_some_iff.1 hj).1;have h2:x∈aO (dR R B h'):=by rw[eY];exact List.mem_map.2 ⟨_,hk,ofB1 hj⟩
    obtain⟨ob3,q3⟩:=dO _ _ h2;rw[hb]at q3;cases q3
   have ho:=s.heap.own x ob hxo hsl
   have hlo:(g.jg R).own (g.ρ x)=none:=by
    show cw R (g.own (g.ρ x))=none;rw[ho];simp[cw,hnR]
   rw[Gρold x hdx,(kept _ (s.bnd _ _ ho) hlo).2.1];exact s.heap.pre x ob hxo hsl
 ·rw[Gown]at hq
  split at hq
  ·rename_i hc;exact Nat.lt_of_lt_of_le hc.1 hx.size
  ·cases hg:g'.own b with
   |none=>rw[hg]at hq;simp[kF]at hq
   |some q'=>exact hbn b q' hg
 ·refine⟨hx.size,hx.os,hx.out,himm,fun b hb ho=>?_,⟨hs1,Gsown,fun s q k=>by rw[Gσ];exact hx.tj.2.2 s (by show sV R (g.sown s)=none;rw[q];rfl) k⟩,hx.frz',fun l hl=>?_,hx.siz⟩
  ·have hlo:(g.jg R).own b=none:=by
    show cw R (g.own b)=none;rw[ho];rfl
   obtain⟨k1,k2,k3⟩:=kept b hb hlo;exact⟨k1,k2,k3.trans ho⟩
  ·rw[Gρ]
   split
   ·rfl
   ·split
    ·rename_i q
     have:=(small (l-B) q.2.1 q.2.2).2;omega
    ·rfl
 ·exact down (fun q e1=>by cases e1;simp[kF]) hv
end
end Go.AM
end
