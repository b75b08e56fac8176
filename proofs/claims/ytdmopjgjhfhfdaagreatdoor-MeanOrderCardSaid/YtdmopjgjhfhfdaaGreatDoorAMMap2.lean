/- Part of a machine over plain values. No conditions. -/
import Derived.Test.YtdmopjgjhfhfdaaGreatDoorAMMap
import Derived.Laws.MakeOwn
namespace Go.AM
section
variable {P:Program} {ty:Nat→Option TI} {n:Nat} {o:Oper} {e:Env} {h:Heap} {K:AK}
theorem aIndex_sound (hty:TyOK P ty) (hd:∀d,o.dst=some d→d<n) {t:Nat} {x ix:Operand} (ho:o.op=.index t x ix) (hk:aIndex ty o t (ev e x) (ev e ix) K):∃f,K f∧OpOK P n o e h f:=by
 have m1:x∈o.op.operands:=by simp[ho,Op.operands]
 have m2:ix∈o.op.operands:=by simp[ho,Op.operands]
 unfold aIndex at hk;split at hk
 ·rename_i i hi
  split at hk
  ·rename_i s0 k m hde hx hix
   have hu:=(hty t i hi).und;rw[hde]at hu;obtain⟨_,⟨h0,hlt⟩,rfl,hk⟩:=hk;refine ret_sound hd hk fun e' h' he g w a s=>?_;obtain⟨_,r1⟩:=s.evo he m1 hx;obtain⟨_,r2⟩:=s.evo he m2 hix;refine⟨_,?_,fun d _=>.p _ _ _ (.i _ _)⟩;have hlt':m.toNat<s0.size:=by omega
   have hg:s0[m.toNat]?=some s0[m.toNat]:=getElem?_pos s0 m.toNat hlt';simp[execOp,ho,Instr.index,r1.str,r2.int,asIntOf,run_underlying hu,h0,hg]
  ·exact hk.elim
 ·exact hk.elim
theorem aMin_sound (hd:∀d,o.dst=some d→d<n) {x y:Operand} {ts:Array TypeId} (ho:o.op=.call { callee:=.builtin .min,args:=⟨[x,y]⟩,argTypes:=ts })
 (hk:match ev e x,ev e y with
 |.p (.i k a),.p (.i k' b)=>match decide (k=k') with
  |true=>ret o (.p (.i k (if b<a then b else a))) K
  |false=>AStuck "min"
 |_,_=>AStuck "min"):∃f,K f∧OpOK P n o e h f:=by
 have m1:x∈o.op.operands:=by simp[ho,Op.operands,Call.operands]
 have m2:y∈o.op.operands:=by simp[ho,Op.operands,Call.operands]
 split at hk
 ·rename_i k a1 k' b1 hx hy
  split at hk
  ·rename_i hkk
   have hkk:=of_decide_eq_true hkk;subst hkk;refine ret_sound hd hk fun e' h' he g w a s=>?_;obtain⟨_,r1⟩:=s.evo he m1 hx;obtain⟨_,r2⟩:=s.evo he m2 hy;refine⟨_,?_,fun d _=>.p _ _ _ (.i _ _)⟩;obtain⟨cs,hcs⟩:=run_builtin_call (P:=P) ho a w;rw[hcs];simp[builtin,Builtin.min_,r1.int,r2.int,Builtin.min2]
  ·exact hk.elim
 ·exact hk.elim
theorem aMax_sound (hd:∀d,o.dst=some d→d<n) {x y:Operand} {ts:Array TypeId} (ho:o.op=.call { callee:=.builtin .max,args:=⟨[x,y]⟩,argTypes:=ts })
 (hk:match ev e x,ev e y with
 |.p (.i k a),.p (.i k' b)=>match decide (k=k') with
  |true=>ret o (.p (.i k (if a<b then b else a))) K
  |false=>AStuck "max"
 |_,_=>AStuck "max"):∃f,K f∧OpOK P n o e h f:=by
 have m1:x∈o.op.operands:=by simp[ho,Op.operands,Call.operands]
 have m2:y∈o.op.operands:=by simp[ho,Op.operands,Call.operands]
 split at hk
 ·rename_i k a1 k' b1 hx hy
  split at hk
  ·rename_i hkk
   have hkk:=of_decide_eq_true hkk;subst hkk;refine ret_sound hd hk fun e' h' he g w a s=>?_;obtain⟨_,r1⟩:=s.evo he m1 hx;obtain⟨_,r2⟩:=s.evo he m2 hy;refine⟨_,?_,fun d _=>.p _ _ _ (.i _ _)⟩;obtain⟨cs,hcs⟩:=run_builtin_call (P:=P) ho a w;rw[hcs];simp[builtin,Builtin.max_,r1.int,r2.int,Builtin.max2]
  ·exact hk.elim
 ·exact hk.elim
theorem aMax3_sound (hd:∀d,o.dst=some d→d<n) {x y z:Operand} {ts:Array TypeId} (ho:o.op=.call { callee:=.builtin .max,args:=⟨[x,y,z]⟩,argTypes:=ts })
 (hk:match ev e x,ev e y,ev e z with
 |.p (.i k a),.p (.i k' b),.p (.i k2 c)=>match decide (k=k'),decide (k=k2) with
  |true,true=>ret o (.p (.i k (imax (imax a b) c))) K
  |_,_=>AStuck "max"
 |_,_,_=>AStuck "max"):∃f,K f∧OpOK P n o e h f:=by
 have m1:x∈o.op.operands:=by simp[ho,Op.operands,Call.operands]
 have m2:y∈o.op.operands:=by simp[ho,Op.operands,Call.operands]
 have m3:z∈o.op.operands:=by simp[ho,Op.operands,Call.operands]
 split at hk
 ·rename_i k a1 k' b1 k2 c1 hx hy hz
  split at hk
  ·rename_i hkk hkk2
   have hkk:=of_decide_eq_true hkk;have hkk2:=of_decide_eq_true hkk2;subst hkk;subst hkk2;refine ret_sound hd hk fun e' h' he g w a s=>?_;obtain⟨_,r1⟩:=s.evo he m1 hx;obtain⟨_,r2⟩:=s.evo he m2 hy;obtain⟨_,r3⟩:=s.evo he m3 hz;refine⟨_,?_,fun d _=>.p _ _ _ (.i _ _)⟩;obtain⟨cs,hcs⟩:=run_builtin_call (P:=P) ho a w;rw[hcs];simp only[builtin,Builtin.max_,imax];simp[r1.int,r2.int,r3.int,Builtin.max2]
   by_cases q:a1<b1<;>simp[q]
  ·exact hk.elim
 ·exact hk.elim
theorem aMakeSlice_sound (hty:TyOK P ty) (hd:∀d,o.dst=some d→d<n) {t:Nat} {x y:Operand} (ho:o.op=.makeSlice t x y) (hk:aMakeSlice ty o h t (ev e x) (ev e y) K):∃f,K f∧OpOK P n o e h f:=by
 have m1:x∈o.op.operands:=by simp[ho,Op.operands]
 have m2:y∈o.op.operands:=by simp[ho,Op.operands]
 unfold aMakeSlice at hk;split at hk
 ·rename_i i d hi hdd
  split at hk
  ·rename_i el hde
   have hu:=(hty t i hi).und;rw[hde]at hu;split at hk
   ·rename_i j hj
    split at hk
    ·rename_i z k1 x1 k2 y1 hz hx hy hfr hag hby
     have hby:j.bytes≠0:=fun q=>by rw[q]at hby;cases hby
     obtain⟨⟨rfl,h0,hmax⟩,hk⟩:=hk;obtain⟨hrd,hdb⟩:=freshId_spec hfr;refine⟨_,hk,fun e' h' he hl g w a s=>?_⟩;have hl0:hget h' d=none:=by rw[hl d (by simp)];exact hrd
     obtain⟨_,r1⟩:=s.evo he m1 hx;obtain⟨_,r2⟩:=s.evo he m2 hy;obtain⟨m,rfl⟩:∃m:Nat,x1=m:=⟨x1.toNat,by omega⟩
     have hmb:m*j.bytes≤140737488355328:=by omega
     have hm1:m≤140737488355328:=Nat.le_trans (Nat.le_mul_of_pos_right m (Nat.pos_of_ne_zero hby)) hmb;obtain⟨zv,z1,z2,z3⟩:=zeroPV_spec hty hj hz (imm g w) w;obtain⟨inf,zv',f1,f2,f3,f4,f5,f6⟩:=(hty el j hj).inf
     have hzv:zv'=zv:=by
      have:(zeroValue el).run P w=.ok zv' w:=by simp[zeroValue,typeInfo,f1,f4]
      rw[z1]at this;cases this;rfl
     subst hzv
     have hnag:zv'.cells=#[zv']:=by
      obtain⟨inf',z',e1,e2,e3⟩:=(hty el j hj).noz hag;rw[f1]at e1;cases e1;rw[f4]at e2;cases e2;exact e3
     have hs1:inf.size=1:=by rw[f2,←f6,←f5,hnag];rfl
     have hone:zv'.oneCell'=true:=by
      have:=(hty el j hj).one zv' (by rw[←f5,hnag];simp);exact this
     have hr:(execOp a.eval o).run P w=.ok (.value (.slice (some ⟨w.heap.size,0,none⟩) m m)) (World.push w (.cells (Array.replicate m zv') el (0,0))):=by
      have hbi:(inf.bytes:Int)*(m:Int)≤281474976710656:=by rw[f3,Int.mul_comm];omega
      have hmk:=run_make (P:=P) w t el inf zv' hu f1 f4 k1 k2 m m (by omega) (by omega) hbi (by omega)
      have hcells:madeCells zv'.cells ((m:Int).toNat*inf.size)=Array.replicate m zv':=by
       rw[hs1,hnag]
       apply Array.ext
       ·simp[madeCells]
       ·intro q q1 q2
        simp[madeCells,Nat.mod_one]
      rw[hcells]at hmk;simp only[execOp,ho,r1.int,r2.int,Sem.run_bind,hmk,Result.andThen_ok,Sem.run_pure];simp only[Int.toNat_natCast];rfl
     refine Oper.wp_value hr ⟨g.newObj w.heap.size d,?_,Ext.push (fun b hb=>by simp[Gh.newObj,Nat.ne_of_lt hb]) (fun a=>frozen_push a) (fun l hl=>newObj_ρ hdb l hl)⟩;rw[hdd];simp only[List.reverse_cons,List.reverse_nil,List.nil_append,List.cons_append];have hob:(World.push w (.cells (Array.replicate m zv') el (0,0))).heap[(g.newObj w.heap.size d).ρ d]?=some (.cells (Array.replicate m zv') el (0,0)):=by simp[Gh.newObj,push_new]
     have s':=s.pushObj hl0 (.cells (Array.replicate m zv') el (0,0)) (.arr (List.replicate m z)) (fun dom' hdm up=>.arr (List.replicate m z) (Array.replicate m zv') el hob (by simp) (fun q v y q1 q2=>by
      have e1:v=zv':=by rw[Array.getElem?_replicate]at q1;split at q1<;>simp_all
      have e2:y=z:=by rw[List.getElem?_replicate]at q2;split at q2<;>simp_all
      subst e1;subst e2;exact z2.push (fun b hb=>by simp[Gh.newObj,Nat.ne_of_lt hb])) (fun v hv=>by
      have e1:v=zv':=by simp at hv;exact hv.2
      subst e1;exact hone))
     rw[show((m:Int)).toNat=m by omega];refine s'.put (hd d hdd) ?_;have:w.heap.size=(g.newObj w.heap.size d).ρ d:=by simp[Gh.newObj]
     conv=>arg 5;rw[this]
     exact .ar _ _ _ (by simp[domOf,hget_self]) ⟨_,_,hob,by simp⟩
    ·exact hk.elim
   ·exact hk.elim
  ·exact hk.elim
 ·exact hk.elim
end
end Go.AM
namespace Go.AM
mutual
def AV.within (d:Nat→Bool):AV→Bool
 |.agg cs=>AV.withins d cs
 |.tup cs=>AV.withins d cs
 |.fn _ a b=>AV.withins d a&&AV.withins d b
 |.ptr l _=>d l
 |.ar l=>d l
 |.ap l _=>d l
 |_=>true
def AV.withins (d:Nat→Bool):List AV→Bool
 | []=>true
 |v::r=>AV.within d v&&AV.withins d r
end
theorem withins_get (d:Nat→Bool):∀(xs:List AV),AV.withins d xs=true→∀(j:Nat) (x:AV),xs[j]?=some x→x.within d=true
 | [],_,j,x,hx=>by simp at hx
 |y::r,h,j,x,hx=>by
  simp only[AV.withins,Bool.and_eq_true]at h
  cases j with
  |zero=>simp at hx;subst hx;exact h.1
  |succ j=>simp at hx;exact withins_get d r h.2 j x hx
theorem VRel.within {g:Gh} {w:World} {dom dom':Nat→Prop} {d:Nat→Bool} (hd:∀l,d l=true→dom' l) {ow:Option Owner} {v:Value} {x:AV} (r:VRel g w dom ow v x) (hx:x.within d=true):VRel g w dom' ow v x:=by
 induction r with
 |top=>exact .top _ _
 |p _ _ _ h=>exact .p _ _ _ h
 |c _ _ h1=>exact .c _ _ h1
 |nilS=>exact .nilS _
 |es _ a cap sz hs=>exact .es _ a cap sz hs
 |full _ a sz xs hz h=>exact .full _ a sz xs hz h
 |own o a cap sz xs cs E hz h ho hp hb hs=>exact .own o a cap sz xs cs E hz h ho hp hb hs
 |ptr _ l off h=>exact .ptr _ l off (hd l (by simpa[AV.within] using hx))
 |vp _ a cs f hs hm hxx=>exact .vp _ a cs f hs hm hxx
 |agg _ vs cs hl h1 _ ih=>exact .agg _ vs cs hl h1 (fun j v c q1 q2=>ih j v c q1 q2 (withins_get d cs (by simpa[AV.within] using hx) j c q2))
 |tup _ vs cs hl _ ih=>exact .tup _ vs cs hl (fun j v c q1 q2=>ih j v c q1 q2 (withins_get d cs (by simpa[AV.within] using hx) j c q2))
 |ar _ l m h hn=>exact .ar _ l m (hd l (by simpa[AV.within] using hx)) hn
 |ap _ l i h=>exact .ap _ l i (hd l (by simpa[AV.within] using hx))
 |ifc _ b v h=>exact .ifc _ b v h
 |fn _ f fs cs first caps h1 h2 _ _ ih1 ih2=>
  have hx:AV.withins d first=true∧AV.withins d caps=true:=by simpa[AV.within] using hx
  exact .fn _ f fs cs first caps h1 h2 (fun j v c q1 q2=>ih1 j v c q1 q2 (withins_get d first hx.1 j c q2)) (fun j v c q1 q2=>ih2 j v c q1 q2 (withins_get d caps hx.2 j c q2))
def AObj.within (d:Nat→Bool):AObj→Bool
 |.cells cs=>AV.withins d cs
 |_=>true
def memB (l:List Nat) (i:Nat):Bool:=match l with
 | []=>false
 |x::r=>match Nat.beq x i with|true=>true|false=>memB r i
theorem memB_mem:∀(l:List Nat) (i:Nat),memB l i=true→i∈l
 | [],i,h=>by simp[memB]at h
 |x::r,i,h=>by
  simp only[memB]at h;split at h
  ·rename_i q;have:=Nat.eq_of_beq_eq_true q;simp[this]
  ·exact List.mem_cons_of_mem _ (memB_mem r i h)
section
variable {P:Program} {ty:Nat→Option TI} {n:Nat} {o:Oper} {e:Env} {h:Heap} {K:AK}
def hasBody (P:Program) (f:Nat):Prop:=∃fn c,P.funcs[f]?=some fn∧fn.body=some c∧(fn.name== "runtime.NumGoroutine")=false
def APure (P:Program) (f:Nat) (args:List AV) (r:AV):Prop:=
 hasBody P f∧∀(g:Gh) (w:World) (vs:List Value),(∀b,g.own b=none)→(∀q,g.sown q=none)→vs.length=args.length→(∀(j:Nat) (v:Value) (x:AV),vs[j]?=some v→args[j]?=some x→VRel g w (fun _=>False) none v x)→
  Calls P f vs.toArray w fun en w'=>∃v g',en=.returned v∧VRel g' w' (fun _=>False) (some .ret) v r∧Ext g w g' w'
theorem frees_get:∀(xs:List AV),AV.frees xs=true→∀(j:Nat) (x:AV),xs[j]?=some x→x.free=true
 | [],_,j,x,hx=>by simp at hx
 |y::r,h,j,x,hx=>by
  simp only[AV.frees,Bool.and_eq_true]at h
  cases j with
  |zero=>simp at hx;subst hx;exact h.1
  |succ j=>simp at hx;exact frees_get r h.2 j x hx
theorem VRel.toFree {g:Gh} {w:World} {dom dom':Nat→Prop} {ow:Option Owner} {v:Value} {x:AV} (r:VRel g w dom ow v x) (hx:x.free=true) (own':Nat→Option Owner) (ow':Option Owner) (sw':Nat→Option Nat:=g.sown):
 VRel { g with own:=own',sown:=sw' } w dom' ow' v x:=by
 induction r generalizing ow' with
 |top=>exact .top _ _
 |p _ _ _ h=>exact .p _ _ _ h
 |c _ _ h1=>exact .c _ _ h1
 |nilS=>exact .nilS _
 |es _ a cap sz hs=>exact .es _ a cap sz hs
 |full=>simp[AV.free]at hx
 |own=>simp[AV.free]at hx
 |ptr=>simp[AV.free]at hx
 |vp _ a cs f hs hm hxx=>exact .vp _ a cs f hs hm hxx
 |agg _ vs cs hl h1 _ ih=>exact .agg _ vs cs hl h1 (fun j v c q1 q2=>ih j v c q1 q2 (frees_get cs (by simpa[AV.free] using hx) j c q2) none)
 |tup _ vs cs hl _ ih=>exact .tup _ vs cs hl (fun j v c q1 q2=>ih j v c q1 q2 (frees_get cs (by simpa[AV.free] using hx) j c q2) none)
 |ar=>simp[AV.free]at hx
 |ap=>simp[AV.free]at hx
 |ifc _ b v h=>exact .ifc _ b v h
 |fn _ f fs cs first caps h1 h2 _ _ ih1 ih2=>
  have hx:AV.frees first=true∧AV.frees caps=true:=by simpa[AV.free] using hx
  exact .fn _ f fs cs first caps h1 h2 (fun j v c q1 q2=>ih1 j v c q1 q2 (frees_get first hx.1 j c q2) none) (fun j v c q1 q2=>ih2 j v c q1 q2 (frees_get caps hx.2 j c q2) none)
theorem Sim.called {g g':Gh} {w w':World} {a:Act} {e:Env} {h:Heap} (s:Sim g w n a e h) (hx:Ext { g with own:=fun _=>none,sown:=fun _=>none } w g' w') (d:Nat):
 Sim { pre:=g'.pre,own:=fun b=>if b<w.heap.size then g.own b else if b<w'.heap.size∧g'.own b=some .ret then some (.slot d) else none,ρ:=g.ρ,σ:=g'.σ,sown:=g.sown } w' n a e h∧
 Ext g w { pre:=g'.pre,own:=fun b=>if b<w.heap.size then g.own b else if b<w'.heap.size∧g'.own b=some .ret then some (.slot d) else none,ρ:=g.ρ,σ:=g'.σ,sown:=g.sown } w'∧
 ∀v r,VRel g' w' (fun _=>False) (some .ret) v r→VRel { pre:=g'.pre,own:=fun b=>if b<w.heap.size then g.own b else if b<w'.heap.size∧g'.own b=some .ret then some (.slot d) else none,ρ:=g.ρ,σ:=g'.σ,sown:=g.sown } w' (domOf h) (some (.slot d)) v r:=by
 generalize hG:({ pre:=g'.pre,own:=fun b=>if b<w.heap.size then g.own b else if b<w'.heap.size∧g'.own b=some .ret then some (.slot d) else none,ρ:=g.ρ,σ:=g'.σ,sown:=g.sown }:Gh)=G;have Gpre:G.pre=g'.pre:=by rw[←hG]
 have Gρ:G.ρ=g.ρ:=by rw[←hG]
 have Gσ:G.σ=g'.σ:=by rw[←hG]
 have Gsown:G.sown=g.sown:=by rw[←hG]
 have hsσ:∀s k a,g.σ s k=some a→G.σ s k=some a:=fun s k a q=>by rw[Gσ];exact hx.frz.1 s k a q
 have Gold:∀b,b<w.heap.size→G.own b=g.own b:=fun b hb=>by rw[←hG];simp[hb]
 have Gnew:∀b,¬b<w.heap.size→G.own b=if b<w'.heap.size∧g'.own b=some .ret then some (.slot d) else none:=fun b hb=>by rw[←hG];simp[hb]
 have kept:∀b,b<w.heap.size→w'.heap[b]?=w.heap[b]?∧G.pre b=g.pre b:=fun b hb=>by
  obtain⟨q1,q2,_⟩:=hx.kept b hb rfl;exact⟨q1,by rw[Gpre];exact q2⟩
 have himm:∀b k v,imm g w b k=some v→imm G w' b k=some v:=fun b k v hv=>by
  have:=hx.imm b k v hv;simp only[imm_eq]at this ⊢;rw[Gpre];exact this
 have up:∀{ow v x},VRel g w (domOf h) ow v x→VRel G w' (domOf h) ow v x:=fun r=>
  r.keep himm (fun l hl=>⟨hl,by rw[Gρ]⟩) (fun l cs E hl hb=>⟨cs,E,by rw[(kept _ (get_lt hb)).1];exact hb,rfl⟩)
   (fun o b _ ho=>by have hb:=s.bnd b o ho;exact⟨(Gold b hb).trans ho,(kept b hb).2,(kept b hb).1⟩) (hsg:=hsσ)
 refine⟨⟨s.defers,s.size,fun i=>up (s.env i),⟨fun l x hxl=>?_,fun l x hxl hq=>?_,fun l x hxl hq=>?_⟩,fun b o2 hb=>?_⟩,⟨hx.size,hx.os,hx.out,himm,fun b hb ho=>⟨(kept b hb).1,(kept b hb).2,(Gold b hb).trans ho⟩,⟨hsσ,Gsown,fun s q k=>by rw[Gσ];exact hx.frz.2.2 s rfl k⟩,hx.frz',fun _ _=>by rw[Gρ],hx.siz⟩,fun v r hr=>?_⟩
 ·have eo:∀{ob},w.heap[g.ρ l]?=some ob→w'.heap[G.ρ l]?=some ob:=fun hb=>by rw[Gρ,(kept _ (get_lt hb)).1];exact hb
  cases s.heap.obj l x hxl with
  |cells cs vs E hb hl hx' h1=>exact .cells cs vs E (eo hb) hl (fun j v c q1 q2=>up (hx' j v c q1 q2)) h1
  |arr xs vs E hb hl hx' h1=>exact .arr xs vs E (eo hb) hl (fun j v c q1 q2=>(hx' j v c q1 q2).mono himm hsσ) h1
  |glob gb gvs hgl=>exact ORel.globM hgl (fun h1 hlt _=>⟨(kept gb hlt).1,(Gold gb hlt).trans h1⟩)
  |store T3 o3 sp3 nx3 z3 M3 hst=>exact .store T3 o3 sp3 nx3 z3 M3 (hst.mono himm (fun bb hb2=>⟨(Gold bb (s.bnd bb _ hb2)).trans hb2,(kept bb (s.bnd bb _ hb2)).1,(kept bb (s.bnd bb _ hb2)).2⟩) (by rw[Gsown];exact hst.sown) (hs:=hsσ) (he:=fun k=>by rw[Gσ];exact hx.frz.2.2 sp3 rfl k))
 ·have ho:=s.heap.own l x hxl hq
  rw[Gρ,Gold _ (s.bnd _ _ ho)];exact ho
 ·have ho:=s.heap.own l x hxl hq
  rw[Gρ,(kept _ (s.bnd _ _ ho)).2];exact s.heap.pre l x hxl hq
 ·by_cases hlt:b<w.heap.size
  ·exact Nat.lt_of_lt_of_le hlt hx.size
  ·rw[Gnew b hlt]at hb
   split at hb
   ·rename_i q;exact q.1
   ·cases hb
 ·have hi2:∀b k v,imm g' w' b k=some v→imm G w' b k=some v:=fun b k v hv=>by simp only[imm_eq]at hv ⊢;rw[Gpre];exact hv
  have conv:∀{ow v x},ow=none→VRel g' w' (fun _=>False) ow v x→VRel G w' (domOf h) ow v x:=fun q r=>
   r.keep hi2 (fun _ hf=>hf.elim) (fun _ _ _ hf=>hf.elim) (fun o b e1 _=>by rw[q]at e1;cases e1) (hsg:=fun s k a q=>by rw[Gσ];exact q)
  cases r with
  |so sz xs=>
   cases hr with
   |full _ a _ _ hz hp=>exact .full _ a sz xs hz (hp.mono hi2 (fun s k a q=>by show G.σ s k=some a;rw[Gσ];exact q))
   |own _ a cap _ _ cs E hz hp ho hpre hb hs=>
    have hge:¬a.block<w.heap.size:=fun hlt=>by rw[(hx.kept _ hlt rfl).2.2]at ho;cases ho
    have hlt':a.block<w'.heap.size:=by
     rcases Nat.lt_or_ge a.block w'.heap.size with q|q
     ·exact q
     ·rw[Array.getElem?_eq_none q]at hb;cases hb
    exact .own (.slot d) a cap sz xs cs E hz (hp.mono hi2 (fun s k a q=>by show G.σ s k=some a;rw[Gσ];exact q)) (by rw[Gnew _ hge,if_pos ⟨hlt',ho⟩]) (by rw[Gpre];exact hpre) hb hs
  |_=>exact(conv rfl (hr.anyOwner (ow':=none) (fun _ _ q=>by cases q))).anyOwner (fun _ _ q=>by cases q)
theorem argOf_spec {a:Act} {g:Gh} {w:World} {e':Env} {h':Heap} (s:Sim g w n a e' h') (he:∀t∈slotsOf o,eget e' t=eget e t):∀(xs:List Operand) (ts:List Nat),(∀x∈xs,x∈o.op.operands)→
 (argOf ty e xs ts).length=xs.length∧∀(j:Nat) (x:Operand) (y:AV),xs[j]?=some x→(argOf ty e xs ts)[j]?=some y→∃ow,VRel g w (domOf h') ow (a.eval x) y
 | [],ts,_=>by simp[argOf]
 |x::r,ts,hm=>by
  obtain⟨k1,k2⟩:=argOf_spec s he r ts.tail (fun x hx=>hm x (by simp[hx]));refine⟨by simp[argOf,k1],fun j x' y hx hy=>?_⟩
  cases j with
  |zero=>
   simp only[argOf,List.getElem?_cons_zero,Option.some.injEq]at hx hy;subst hx;obtain⟨ow,r1⟩:=s.evo he (hm x (by simp)) rfl;split at hy
   ·rename_i hn
    rw[hn]at r1;subst hy;generalize a.eval x=v at r1
    cases r1 with
    |nilS=>cases keepN ty (headD ts) with
     |true=>exact⟨none,.nilS _⟩
     |false=>exact⟨none,.p _ _ _ (.nil _)⟩
   ·rename_i sz hn
    rw[hn]at r1;subst hy;generalize a.eval x=v at r1
    cases r1 with
    |es _ ad cap _ hs=>exact⟨none,.p _ _ _ (.sl ad cap sz [] (fun _ _=>undef) hs (Nat.zero_le _) (by simp) (by simp) (by simp))⟩
   ·rename_i sz xs hn
    rw[hn]at r1;subst hy;exact⟨none,r1.copy⟩
   ·rename_i cs hn
    rw[hn]at r1;subst hy;exact⟨_,aggTy_rel _ r1⟩
   ·subst hy;exact⟨ow,r1⟩
  |succ j=>simp only[argOf,List.getElem?_cons_succ]at hx hy;exact k2 j x' y hx hy
theorem run_call_value {x:Operand} {as:List Operand} {ts:Array TypeId} (ho:o.op=.call { callee:=.value x,args:=⟨as⟩,argTypes:=ts }) {a:Act} {w:World} {f:Nat} {fs cs:List Value} (hx:a.eval x=.func (.func f) fs.toArray cs.toArray) (hb:hasBody P f):
 (execOp a.eval o).run P w=.ok (.enter f (fs++as.map a.eval++cs).toArray) w:=by
 obtain⟨fn,c,h1,h2,h3⟩:=hb;have hnn:¬fn.name= "runtime.NumGoroutine":=by simpa using h3
 simp[execOp,ho,resolve,hx,Deferred.ofValue,invoke,callFunc,h1,h2,hnn]
theorem run_call_invoke {x:Operand} {name:String} {as:List Operand} {ts:Array TypeId} (ho:o.op=.call { callee:=.invoke x name,args:=⟨as⟩,argTypes:=ts }) {a:Act} {w:World} {f T:Nat} {v:Value} (hx:a.eval x=.iface T v) (hm:Meth P T name f) (hb:hasBody P f):
 (execOp a.eval o).run P w=.ok (.enter f (v::as.map a.eval).toArray) w:=by
 obtain⟨fn,c,h1,h2,h3⟩:=hb;have hnn:¬fn.name= "runtime.NumGoroutine":=by simpa using h3
 have hm':=hm v w;simp[execOp,ho,resolve,hx,invoke,callMethod,hm',callFunc,h1,h2,hnn];exact List.take_of_length_le (by simp)
end
end Go.AM
namespace Go.AM
section
variable {P:Program} {ty:Nat→Option TI} {n:Nat} {o:Oper} {e:Env} {h:Heap} {K:AK}
mutual
def AV.ren (σ:Nat→Nat):AV→AV
 |.agg cs=>.agg (AV.rens σ cs)
 |.tup cs=>.tup (AV.rens σ cs)
 |.fn f a b=>.fn f (AV.rens σ a) (AV.rens σ b)
 |.ptr l off=>.ptr (σ l) off
 |.ar l=>.ar (σ l)
 |.ap l i=>.ap (σ l) i
 |v=>v
def AV.rens (σ:Nat→Nat):List AV→List AV
 | []=>[]
 |v::r=>AV.ren σ v::AV.rens σ r
end
theorem rens_get (σ:Nat→Nat):∀(xs:List AV) (j:Nat),(AV.rens σ xs)[j]?=(xs[j]?).map (AV.ren σ)
 | [],j=>by simp[AV.rens]
 |x::r,0=>by simp[AV.rens]
 |x::r,j+1=>by simp[AV.rens,rens_get σ r j]
theorem rens_length (σ:Nat→Nat) (xs:List AV):(AV.rens σ xs).length=xs.length:=by
 induction xs with
 |nil=>rfl
 |cons x r ih=>simp[AV.rens,ih]
def AObj.ren (σ:Nat→Nat):AObj→AObj
 |.cells cs=>.cells (AV.rens σ cs)
 |x=>x
theorem AObj.solid_ren (σ:Nat→Nat) (x:AObj):(x.ren σ).solid=x.solid:=by cases x<;>rfl
theorem VRel.ren {g g2:Gh} {w:World} {dom dom2:Nat→Prop} (σ:Nat→Nat) (d:Nat→Bool) (hi:∀b o v,imm g w b o=some v→imm g2 w b o=some v)
 (hd:∀l,dom l→d l=true→dom2 (σ l)∧g2.ρ (σ l)=g.ρ l) {ow ow2:Option Owner} (ho:∀o b,ow=some o→g.own b=some o→∃o2,ow2=some o2∧g2.own b=some o2∧g2.pre b=g.pre b)
 {v:Value} {x:AV} (r:VRel g w dom ow v x) (hx:x.within d=true) (hsg:∀s k a,g.σ s k=some a→g2.σ s k=some a:=by exact fun _ _ _ q=>q):VRel g2 w dom2 ow2 v (x.ren σ):=by
 induction r generalizing ow2 with
 |top ow v=>exact .top _ _
 |p ow v x h=>exact .p _ _ _ (h.mono hi hsg)
 |c ow v h1=>exact .c _ _ h1
 |nilS ow=>exact .nilS _
 |es ow a cap sz hs=>exact .es _ a cap sz hs
 |full ow a sz xs hz h=>exact .full _ a sz xs hz (h.mono hi hsg)
 |own o a cap sz xs cs E hz h hw hp hb hs=>
  obtain⟨o2,rfl,h2,h3⟩:=ho o a.block rfl hw;exact .own o2 a cap sz xs cs E hz (h.mono hi hsg) h2 (h3.trans hp) hb hs
 |ptr ow l off h=>
  obtain⟨h1,h2⟩:=hd l h (by simpa[AV.within] using hx);rw[←h2];exact .ptr _ _ off h1
 |vp ow a cs f hs hm hxx=>exact .vp _ a cs f hs (fun i y h=>⟨hi _ _ _ (hm i y h).1,(hm i y h).2⟩) (fun i y h=>(hxx i y h).mono hi hsg)
 |agg ow vs cs hl h1 _ ih=>
  refine .agg _ vs _ (by rw[rens_length];exact hl) h1 (fun j v c q1 q2=>?_);rw[rens_get]at q2
  cases hq:cs[j]? with
  |none=>simp[hq]at q2
  |some c0=>
   simp only[hq,Option.map_some,Option.some.injEq]at q2;subst q2;exact ih j v c0 q1 hq (fun _ _ h=>by cases h) (withins_get d cs (by simpa[AV.within] using hx) j c0 hq)
 |tup ow vs cs hl _ ih=>
  refine .tup _ vs _ (by rw[rens_length];exact hl) (fun j v c q1 q2=>?_);rw[rens_get]at q2
  cases hq:cs[j]? with
  |none=>simp[hq]at q2
  |some c0=>
   simp only[hq,Option.map_some,Option.some.injEq]at q2;subst q2;exact ih j v c0 q1 hq (fun _ _ h=>by cases h) (withins_get d cs (by simpa[AV.within] using hx) j c0 hq)
 |ar ow l m h hn=>
  obtain⟨h1,h2⟩:=hd l h (by simpa[AV.within] using hx);rw[←h2]at hn ⊢;exact .ar _ _ m h1 hn
 |ap ow l i h=>obtain⟨h1,h2⟩:=hd l h (by simpa[AV.within] using hx);rw[←h2];exact .ap _ _ i h1
 |ifc ow b v h=>exact .ifc _ b v h
 |fn ow f fs cs first caps h1 h2 _ _ ih1 ih2=>
  have hx:AV.withins d first=true∧AV.withins d caps=true:=by simpa[AV.within] using hx
  refine .fn _ f fs cs _ _ (by rw[rens_length];exact h1) (by rw[rens_length];exact h2) (fun j v c q1 q2=>?_) (fun j v c q1 q2=>?_)
  ·rw[rens_get]at q2
   cases hq:first[j]? with
   |none=>simp[hq]at q2
   |some c0=>
    simp only[hq,Option.map_some,Option.some.injEq]at q2;subst q2;exact ih1 j v c0 q1 hq (fun _ _ h=>by cases h) (withins_get d first hx.1 j c0 hq)
  ·rw[rens_get]at q2
   cases hq:caps[j]? with
   |none=>simp[hq]at q2
   |some c0=>
    simp only[hq,Option.map_some,Option.some.injEq]at q2;subst q2;exact ih2 j v c0 q1 hq (fun _ _ h=>by cases h) (withins_get d caps hx.2 j c0 hq)
mutual
theorem within_all (d:Nat→Bool) (hd:∀l,d l=true):∀(x:AV),x.within d=true
 |.agg cs=>by simp only[AV.within];exact withins_all d hd cs
 |.tup cs=>by simp only[AV.within];exact withins_all d hd cs
 |.fn f a b=>by simp only[AV.within,Bool.and_eq_true];exact⟨withins_all d hd a,withins_all d hd b⟩
 |.ptr l off=>by simp[AV.within,hd]
 |.ar l=>by simp[AV.within,hd]
 |.ap l i=>by simp[AV.within,hd]
 |.ifc _=>rfl
 |.top=>rfl
 |.p _=>rfl
 |.c _=>rfl
 |.nilS=>rfl
 |.es _=>rfl
 |.so _ _=>rfl
 |.vp _=>rfl
theorem withins_all (d:Nat→Bool) (hd:∀l,d l=true):∀(xs:List AV),AV.withins d xs=true
 | []=>rfl
 |x::r=>by simp only[AV.withins,Bool.and_eq_true];exact⟨within_all d hd x,withins_all d hd r⟩
end
def toBig:List Nat→Nat→Nat→Nat
 | [],_,l=>l
 |x::r,k,l=>match Nat.beq x l with|true=>bigId+k|false=>toBig r (k+1) l
def ofBig (R:List Nat) (B:Nat) (l:Nat):Nat:=match Nat.ble bigId l with|true=>R.getD (l-bigId) 0|false=>B+l
def subH (h:Heap) (σ:Nat→Nat) (d:Nat→Bool):List Nat→Nat→Option Heap
 | [],_=>some []
 |x::r,k=>match hget h x with
  |some ob=>match ob.within d,subH h σ d r (k+1) with
   |true,some hh=>some ((bigId+k,ob.ren σ)::hh)
   |_,_=>none
  |none=>none
def nodupB:List Nat→Bool
 | []=>true
 |x::r=>!(memB r x)&&nodupB r
def keysOf:Heap→List Nat
 | []=>[]
 |(l,_)::r=>l::keysOf r
def newCk (h:Heap) (B m:Nat):List Nat→Bool
 | []=>true
 |l::r=>(match Nat.ble bigId l with|true=>Nat.blt (l-bigId) m|false=>freshId h (B+l))&&newCk h B m r
def allKeys (ks:List Nat):Nat→Bool
 |0=>true
 |k+1=>memB ks (bigId+k)&&allKeys ks k
def backH (R:List Nat) (B:Nat):Heap→Heap
 | []=>[]
 |(l,x)::r=>(ofBig R B l,x.ren (ofBig R B))::backH R B r
def globB (hs:Heap):Heap→Bool
 | []=>true
 |(l,ob)::r=>(match ob with
  |.glob b _=>(match hget hs l with|some (.glob b' _)=>Nat.beq b b'|_=>false)
  |_=>true)&&globB hs r
theorem globB_get {hs:Heap}:∀{h':Heap},globB hs h'=true→∀{l b:Nat} {vs:List Value},hget h' l=some (.glob b vs)→∃vs',hget hs l=some (.glob b vs')
 | [],_,l,b,vs,hl=>by simp[hget]at hl
 |(k,ob)::r,hg,l,b,vs,hl=>by
  simp only[globB,Bool.and_eq_true]at hg
  by_cases e1:k=l
  ·subst e1
   rw[hget_self]at hl;cases hl;have h1:=hg.1;simp only at h1;split at h1
   ·rename_i b' vs' hq
    have:=Nat.eq_of_beq_eq_true h1;subst this;exact⟨vs',hq⟩
   ·cases h1
  ·rw[hget_ne e1]at hl
   exact globB_get hg.2 hl
def AMem (P:Program) (f:Nat) (args:List AV) (hs:Heap) (r:AV) (h':Heap):Prop:=
 (hasBody P f∧globB hs h'=true)∧∀(g:Gh) (w:World) (vs:List Value),HRel g w hs→(∀b ow,g.own b=some ow→b<w.heap.size)→vs.length=args.length→(∀(j:Nat) (v:Value) (x:AV),vs[j]?=some v→args[j]?=some x→VRel g w (domOf hs) none v x)→
   Calls P f vs.toArray w fun en w'=>∃v g',en=.returned v∧VRel g' w' (domOf h') (some .ret) v r∧HRel g' w' h'∧(∀b ow,g'.own b=some ow→b<w'.heap.size)∧Ext g w g' w'
inductive pcall (P:Program) (f:Nat) (args:List AV) (h:Heap) (K:List Nat→Heap→AV→Prop):Prop
 |pure (r:AV) (hf:AV.frees args=true) (s:APure P f args r) (hk:K [] [] r)
 |mem (R:List Nat) (B:Nat) (hs:Heap) (r:AV) (h':Heap) (h1:(AV.withins (memB R) args&&nodupB R)=true) (h2:subH h (toBig R 0) (memB R) R 0=some hs) (s:AMem P f (AV.rens (toBig R 0) args) hs r h')
  (h3:(nodupB (keysOf h')&&newCk h B R.length (keysOf h')&&allKeys (keysOf h') R.length)=true) (hk:K R (backH R B h') (r.ren (ofBig R B)))
end
end Go.AM
namespace Go.AM
section
variable {P:Program} {ty:Nat→Option TI} {n:Nat} {o:Oper} {e:Env} {h:Heap} {K:AK}
theorem memB_iff (l:List Nat) (i:Nat):memB l i=true↔i∈l:=by
 refine⟨memB_mem l i,fun hi=>?_⟩
 induction l with
 |nil=>cases hi
 |cons x r ih=>
  simp only[memB]
  by_cases q:x=i
  ·subst q;simp
  ·rw[beq_false q]
   rcases List.mem_cons.1 hi with rfl|hi
   ·exact absurd rfl q
   ·exact ih hi
theorem nodupB_spec:∀{R:List Nat},nodupB R=true→R.Nodup
 | [],_=>List.nodup_nil
 |x::r,h=>by
  simp only[nodupB,Bool.and_eq_true,Bool.not_eq_true']at h;refine List.nodup_cons.2 ⟨fun hm=>?_,nodupB_spec h.2⟩;rw[(memB_iff r x).2 hm]at h;cases h.1
theorem toBig_get:∀(R:List Nat) (k j l:Nat),R.Nodup→R[j]?=some l→toBig R k l=bigId+(k+j)
 | [],k,j,l,_,hj=>by simp at hj
 |x::r,k,0,l,_,hj=>by simp at hj;subst hj;simp[toBig]
 |x::r,k,j+1,l,hn,hj=>by
  simp at hj;have hne:x≠l:=fun q=>by subst q;exact(List.nodup_cons.1 hn).1 (List.mem_of_getElem? hj)
  simp only[toBig,beq_false hne];rw[toBig_get r (k+1) j l (List.nodup_cons.1 hn).2 hj];omega
theorem subH_spec {σ:Nat→Nat} {d:Nat→Bool}:∀(R:List Nat) (k:Nat) (hs:Heap),subH h σ d R k=some hs→
 (∀x ob,hget hs x=some ob→∃j l ob0,x=bigId+(k+j)∧R[j]?=some l∧hget h l=some ob0∧ob0.within d=true∧ob=ob0.ren σ)∧
 (∀(j l:Nat),R[j]?=some l→∃ob0,hget h l=some ob0∧hget hs (bigId+(k+j))=some (ob0.ren σ))
 | [],k,hs,hh=>by
   simp[subH]at hh;subst hh;exact⟨fun x ob q=>by simp[hget]at q,fun j l q=>by simp at q⟩
 |x0::r,k,hs,hh=>by
  simp only[subH]at hh;split at hh
  ·rename_i ob0 hob
   split at hh
   ·rename_i h1 hw hs1
    cases hh;obtain⟨i1,i2⟩:=subH_spec r (k+1) h1 hs1;refine⟨fun x ob q=>?_,fun j l q=>?_⟩
    ·by_cases e1:bigId+k=x
     ·subst e1;rw[hget_self]at q;cases q
      exact⟨0,x0,ob0,by omega,rfl,hob,hw,rfl⟩
     ·rw[hget_ne e1]at q
      obtain⟨j,l,ob1,q1,q2,q3,q4,q5⟩:=i1 x ob q;exact⟨j+1,l,ob1,by omega,by simpa using q2,q3,q4,q5⟩
    ·cases j with
     |zero=>simp at q;subst q;exact⟨ob0,hob,by rw[Nat.add_zero,hget_self]⟩
     |succ j=>
      simp at q;obtain⟨ob1,q1,q2⟩:=i2 j l q;refine⟨ob1,q1,?_⟩;rw[hget_ne (by omega),←q2];congr 1;omega
   ·cases hh
  ·cases hh
theorem hget_none_of:∀(L:Heap) (x:Nat),x∉keysOf L→hget L x=none
 | [],x,_=>rfl
 |(k,v)::r,x,hx=>by
  simp only[keysOf,List.mem_cons,not_or]at hx;rw[hget_ne (fun q=>hx.1 q.symm)];exact hget_none_of r x hx.2
theorem hget_key:∀(L:Heap) (x:Nat) (ob:AObj),hget L x=some ob→x∈keysOf L
 | [],x,ob,hx=>by simp[hget]at hx
 |(k,v)::r,x,ob,hx=>by
  simp only[keysOf,List.mem_cons]
  by_cases q:k=x
  ·exact .inl q.symm
  ·rw[hget_ne q]at hx;exact .inr (hget_key r x ob hx)
theorem hget_of_key:∀(L:Heap) (x:Nat),x∈keysOf L→∃ob,hget L x=some ob
 | [],x,hx=>by cases hx
 |(k,v)::r,x,hx=>by
  by_cases q:k=x
  ·subst q;exact⟨v,hget_self _ _ _⟩
  ·rw[hget_ne q]
   simp only[keysOf,List.mem_cons]at hx;rcases hx with rfl|hx
   ·exact absurd rfl q
   ·exact hget_of_key r x hx
theorem hget_rev_append:∀(L H:Heap) (x:Nat),(keysOf L).Nodup→hget (L.reverse++H) x=match hget L x with|some ob=>some ob|none=>hget H x
 | [],H,x,_=>rfl
 |(k,v)::r,H,x,hn=>by
  simp only[keysOf]at hn;rw[List.reverse_cons,List.append_assoc,hget_rev_append r _ x (List.nodup_cons.1 hn).2]
  by_cases q:k=x
  ·subst q
   rw[hget_none_of r k (List.nodup_cons.1 hn).1,hget_self];show hget ((k,v)::H) k=some v;rw[hget_self]
  ·rw[hget_ne q]
   cases hget r x with
   |some ob=>rfl
   |none=>show hget ((k,v)::H) x=hget H x;rw[hget_ne q]
theorem newCk_mem {B m:Nat}:∀(ks:List Nat),newCk h B m ks=true→∀l∈ks,(bigId≤l∧l-bigId<m)∨(l<bigId∧freshId h (B+l)=true)
 | [],_,l,hl=>by cases hl
 |k::r,hc,l,hl=>by
  simp only[newCk,Bool.and_eq_true]at hc;rcases List.mem_cons.1 hl with rfl|hl
  ·have h1:=hc.1
   split at h1
   ·rename_i q
    left;exact⟨by rw[Nat.ble_eq]at q;exact q,by rw[Nat.blt_eq]at h1;exact h1⟩
   ·rename_i q
    right
    refine⟨?_,h1⟩;rcases Nat.lt_or_ge l bigId with q'|q'
    ·exact q'
    ·rw[Nat.ble_eq_true_of_le q']at q;cases q
  ·exact newCk_mem r hc.2 l hl
theorem allKeys_mem {ks:List Nat}:∀(m:Nat),allKeys ks m=true→∀k,k<m→bigId+k∈ks
 |0,_,k,hk=>by omega
 |m+1,hc,k,hk=>by
  simp only[allKeys,Bool.and_eq_true]at hc
  by_cases q:k=m
  ·subst q;exact memB_mem _ _ hc.1
  ·exact allKeys_mem m hc.2 k (by omega)
theorem keysOf_back {R:List Nat} {B:Nat}:∀(L:Heap),keysOf (backH R B L)=(keysOf L).map (ofBig R B)
 | []=>rfl
 |(k,v)::r=>by simp[backH,keysOf,keysOf_back r]
theorem nodup_map_inj {f:Nat→Nat}:∀(l:List Nat),l.Nodup→(∀a∈l,∀b∈l,f a=f b→a=b)→(l.map f).Nodup
 | [],_,_=>List.nodup_nil
 |x::r,hn,hi=>by
  refine List.nodup_cons.2 ⟨fun hm=>?_,nodup_map_inj r (List.nodup_cons.1 hn).2 (fun a ha b hb=>hi a (by simp[ha]) b (by simp[hb]))⟩;obtain⟨y,hy,he⟩:=List.mem_map.1 hm;have:=hi y (by simp[hy]) x (by simp) he;subst this;exact(List.nodup_cons.1 hn).1 hy
theorem hget_back {R:List Nat} {B:Nat}:∀(L:Heap) (x:Nat) (ob:AObj),hget (backH R B L) x=some ob→∃l ob0,l∈keysOf L∧x=ofBig R B l∧((∀a∈keysOf L,∀b∈keysOf L,ofBig R B a=ofBig R B b→a=b)→hget L l=some ob0∧ob=ob0.ren (ofBig R B))
 | [],x,ob,hx=>by simp[backH,hget]at hx
 |(k,v)::r,x,ob,hx=>by
  simp only[backH]at hx
  by_cases q:ofBig R B k=x
  ·subst q
   rw[hget_self]at hx;cases hx;exact⟨k,v,by simp[keysOf],rfl,fun _=>⟨hget_self _ _ _,rfl⟩⟩
  ·rw[hget_ne q]at hx
   obtain⟨l,ob0,h1,h2,h3⟩:=hget_back r x ob hx;refine⟨l,ob0,by simp[keysOf,h1],h2,fun hi=>?_⟩;have hkl:k≠l:=fun e1=>by subst e1;exact q h2.symm
   rw[hget_ne hkl];exact h3 (fun a ha b hb=>hi a (by simp[keysOf,ha]) b (by simp[keysOf,hb]))
def lendOwn (R:List Nat):Option Owner→Option Owner
 |some (.obj l)=>if l∈R then some (.obj (toBig R 0 l)) else none
 |some (.cell l j)=>if l∈R then some (.cell (toBig R 0 l) j) else none
 |_=>none
def backOwn (R:List Nat) (B d:Nat) (h':Heap):Option Owner→Option Owner
 |some (.obj l)=>if l∈keysOf h' then some (.obj (ofBig R B l)) else none
 |some (.cell l j)=>if l∈keysOf h' then some (.cell (ofBig R B l) j) else none
 |some .ret=>some (.slot d)
 |_=>none
def lendS (R:List Nat):Option Nat→Option Nat
 |some l=>if l∈R then some (toBig R 0 l) else none
 |none=>none
def Gh.lend (g:Gh) (R:List Nat):Gh:={ pre:=g.pre,own:=fun b=>lendOwn R (g.own b),ρ:=fun l=>g.ρ (R.getD (l-bigId) 0),σ:=g.σ,sown:=fun s=>lendS R (g.sown s) }
theorem getD_of {R:List Nat} {j l:Nat} (h:R[j]?=some l):R.getD j 0=l:=by simp[List.getD,h]
theorem VRel.lend {g:Gh} {w:World} {R:List Nat} {hs:Heap} (hn:R.Nodup) (hsub:subH h (toBig R 0) (memB R) R 0=some hs) {ow ow2:Option Owner} (ho:∀q,ow=some q→ow2=lendOwn R (some q)∧ow2≠none) {v:Value} {x:AV} (r:VRel g w (domOf h) ow v x) (hx:x.within (memB R)=true):
 VRel (g.lend R) w (domOf hs) ow2 v (x.ren (toBig R 0)):=by
 obtain⟨s1,s2⟩:=subH_spec R 0 hs hsub;refine VRel.ren (g:=g) (g2:=g.lend R) (toBig R 0) (memB R) (fun _ _ _ q=>q) (fun l _ hl=>?_) (fun q b e1 e2=>?_) r hx
 ·obtain⟨j,hj⟩:=List.getElem?_of_mem (memB_mem R l hl)
  rw[toBig_get R 0 j l hn hj];obtain⟨ob0,q1,q2⟩:=s2 j l hj;refine⟨by unfold domOf;rw[q2];rfl,?_⟩;show g.ρ (R.getD (bigId+(0+j)-bigId) 0)=g.ρ l;rw[show bigId+(0+j)-bigId=j by omega,getD_of hj]
 ·obtain⟨h1,h2⟩:=ho q e1
  cases hq:ow2 with
  |none=>exact absurd hq h2
  |some q2=>
   refine⟨q2,rfl,?_,rfl⟩;show lendOwn R (g.own b)=some q2;rw[e2,←h1,hq]
theorem HRel.lend {g:Gh} {w:World} {R:List Nat} {hs:Heap} (hr:HRel g w h) (hn:R.Nodup) (hsub:subH h (toBig R 0) (memB R) R 0=some hs):HRel (g.lend R) w hs:=by
 obtain⟨s1,s2⟩:=subH_spec R 0 hs hsub
 have ρe:∀{j l:Nat},R[j]?=some l→(g.lend R).ρ (bigId+(0+j))=g.ρ l:=fun {j l} hj=>by
  show g.ρ (R.getD (bigId+(0+j)-bigId) 0)=g.ρ l;rw[show bigId+(0+j)-bigId=j by omega,getD_of hj]
 refine⟨fun x ob hx=>?_,fun x ob hx hs=>?_,fun x ob hx hs=>?_⟩
 ·obtain⟨j,l,ob0,rfl,q2,q3,q4,rfl⟩:=s1 x ob hx
  have hm:l∈R:=List.mem_of_getElem? q2
  cases hr.obj l ob0 q3 with
  |cells cs vs E hb hl hxx h1=>
   refine .cells _ vs E (by rw[ρe q2];exact hb) (by rw[rens_length];exact hl) (fun i v c q5 q6=>?_) h1;rw[rens_get]at q6
   cases hq:cs[i]? with
   |none=>simp[hq]at q6
   |some c0=>
    simp only[hq,Option.map_some,Option.some.injEq]at q6;subst q6;refine VRel.lend hn hsub (fun q e1=>?_) (hxx i v c0 q5 hq) (withins_get _ cs (by simpa[AObj.within] using q4) i c0 hq);cases e1;simp[lendOwn,hm,toBig_get R 0 j l hn q2]
  |arr xs vs E hb hl hxx h1=>exact .arr xs vs E (by rw[ρe q2];exact hb) hl hxx h1
  |store T3 o3 sp3 nx3 z3 M3 hst=>exact .store T3 o3 sp3 nx3 z3 M3 (hst.mono (fun _ _ _ q=>q) (fun bb hb2=>⟨by show lendOwn R (g.own bb)=_;rw[hb2];simp[lendOwn,hm,toBig_get R 0 j l hn q2],rfl,rfl⟩) (by show lendS R (g.sown sp3)=_;rw[hst.sown];simp[lendS,hm,toBig_get R 0 j l hn q2]))
  |glob gb gvs hgl=>exact ORel.globM hgl (fun h1 _ _=>⟨rfl,by show lendOwn R (g.own gb)=none;rw[h1];rfl⟩)
 ·obtain⟨j,l,ob0,rfl,q2,q3,q4,rfl⟩:=s1 x ob hx
  have hm:l∈R:=List.mem_of_getElem? q2;rw[ρe q2];show lendOwn R (g.own (g.ρ l))=_;rw[hr.own l ob0 q3 (by rw[←AObj.solid_ren];exact hs)];simp[lendOwn,hm,toBig_get R 0 j l hn q2]
 ·obtain⟨j,l,ob0,rfl,q2,q3,q4,rfl⟩:=s1 x ob hx
  rw[ρe q2];exact hr.pre l ob0 q3 (by rw[←AObj.solid_ren];exact hs)
theorem Sim.calledM {g g':Gh} {w w':World} {a:Act} {e:Env} {h:Heap} (s:Sim g w n a e h) {R:List Nat} {hs h':Heap} {B:Nat} (d:Nat) (hn:R.Nodup) (hsub:subH h (toBig R 0) (memB R) R 0=some hs)
 (hx:Ext (g.lend R) w g' w') (hr:HRel g' w' h') (hbn:∀b ow,g'.own b=some ow→b<w'.heap.size)
 (c1:(keysOf h').Nodup) (c2:newCk h B R.length (keysOf h')=true) (c3:allKeys (keysOf h') R.length=true) (hglob:globB hs h'=true):
 ∃G,Sim G w' n a e ((backH R B h').reverse++h)∧Ext g w G w'∧∀v r,VRel g' w' (domOf h') (some .ret) v r→VRel G w' (domOf ((backH R B h').reverse++h)) (some (.slot d)) v (r.ren (ofBig R B)):=by
 obtain⟨s1,s2⟩:=subH_spec R 0 hs hsub;have ck:=newCk_mem _ c2;have ak:=allKeys_mem _ c3
 have ofB1:∀{j l:Nat},R[j]?=some l→ofBig R B (bigId+j)=l:=fun {j l} hj=>by
  unfold ofBig;rw[show Nat.ble bigId (bigId+j)=true from Nat.ble_eq_true_of_le (by omega)];rw[show bigId+j-bigId=j by omega];exact getD_of hj
 have ofB2:∀{l:Nat},l<bigId→ofBig R B l=B+l:=fun {l} hl=>by
  unfold ofBig
  cases hq:Nat.ble bigId l with
  |false=>rfl
  |true=>rw[Nat.ble_eq]at hq;omega
 have Rdom:∀{j l:Nat},R[j]?=some l→domOf h l:=fun {j l} hj=>by
  obtain⟨ob0,q1,_⟩:=s2 j l hj;simp[domOf,q1]
 have big:∀l∈keysOf h',bigId≤l→∃l0,R[l-bigId]?=some l0∧l=bigId+(l-bigId):=fun l hl hb=>by
  rcases ck l hl with⟨q1,q2⟩|⟨q1,_⟩
  ·exact⟨R[l-bigId],List.getElem?_eq_getElem q2,by omega⟩
  ·omega
 have small:∀l∈keysOf h',l<bigId→hget h (B+l)=none∧B+l<bigId:=fun l hl hb=>by
  rcases ck l hl with⟨q1,q2⟩|⟨_,q2⟩
  ·omega
  ·exact freshId_spec q2
 have inj:∀x∈keysOf h',∀y∈keysOf h',ofBig R B x=ofBig R B y→x=y:=by
  intro x hx y hy he
  by_cases bx:bigId≤x
  ·obtain⟨lx,x1,x2⟩:=big x hx bx
   rw[x2,ofB1 x1]at he
   by_cases bY:bigId≤y
   ·obtain⟨ly,y1,y2⟩:=big y hy bY
    rw[y2,ofB1 y1]at he;subst he;have h1:=(List.getElem?_eq_some_iff.1 x1)
    have h2:=(List.getElem?_eq_some_iff.1 y1)
    have:=(List.getElem_inj (h₀:=h1.1) (h₁:=h2.1) hn).1 (h1.2.trans h2.2.symm);omega
   ·exfalso
    rw[ofB2 (by omega)]at he;have:=Rdom x1;rw[he]at this;simp[domOf,(small y hy (by omega)).1]at this
  ·rw[ofB2 (by omega)]at he
   by_cases bY:bigId≤y
   ·exfalso
    obtain⟨ly,y1,y2⟩:=big y hy bY;rw[y2,ofB1 y1]at he;have:=Rdom y1;rw[←he]at this;simp[domOf,(small x hx (by omega)).1]at this
   ·rw[ofB2 (by omega)]at he;omega
 have kn:(keysOf (backH R B h')).Nodup:=by rw[keysOf_back];exact nodup_map_inj _ c1 inj
 have hH:∀x,hget ((backH R B h').reverse++h) x=match hget (backH R B h') x with|some ob=>some ob|none=>hget h x:=fun x=>hget_rev_append _ _ x kn
 have hHnew:∀l ob,hget h' l=some ob→hget ((backH R B h').reverse++h) (ofBig R B l)=some (ob.ren (ofBig R B)):=by
  intro l ob hl;obtain⟨ob1,q1⟩:=hget_of_key (backH R B h') (ofBig R B l) (by rw[keysOf_back];exact List.mem_map.2 ⟨l,hget_key _ _ _ hl,rfl⟩);obtain⟨l2,ob2,q2,q3,q4⟩:=hget_back _ _ _ q1;obtain⟨q5,q6⟩:=q4 inj;have:=inj l (hget_key _ _ _ hl) l2 q2 q3;subst this;rw[hl]at q5;cases q5;rw[hH,q1,q6]
 have hHold:∀x,(∀l∈keysOf h',x≠ofBig R B l)→hget ((backH R B h').reverse++h) x=hget h x:=by
  intro x hx;rw[hH,hget_none_of];rw[keysOf_back];intro hm;obtain⟨l,h1,h2⟩:=List.mem_map.1 hm;exact hx l h1 h2.symm
 have hdomH:∀x,domOf h x→domOf ((backH R B h').reverse++h) x:=by
  intro x hx;unfold domOf at hx ⊢;rw[hH]
  cases hget (backH R B h') x with
  |some ob=>rfl
  |none=>exact hx
 -- the ghost
 let G:Gh:={ pre:=g'.pre,own:=fun b=>if b<w.heap.size∧(g.lend R).own b=none then g.own b else backOwn R B d h' (g'.own b),
             ρ:=fun l=>if l∈R then g.ρ l else if B≤l∧l-B∈keysOf h'∧l-B<bigId then g'.ρ (l-B) else g.ρ l,σ:=g'.σ,sown:=g.sown }
 have Gpre:G.pre=g'.pre:=rfl;have Gown:∀b,G.own b=if b<w.heap.size∧(g.lend R).own b=none then g.own b else backOwn R B d h' (g'.own b):=fun _=>rfl
 have Gρ:∀l,G.ρ l=if l∈R then g.ρ l else if B≤l∧l-B∈keysOf h'∧l-B<bigId then g'.ρ (l-B) else g.ρ l:=fun _=>rfl
 have Gσ:G.σ=g'.σ:=rfl;have Gsown:G.sown=g.sown:=rfl;generalize G=G at Gpre Gown Gρ Gσ Gsown;have hs1:∀s k a,g.σ s k=some a→G.σ s k=some a:=fun s k a q=>by rw[Gσ];exact hx.frz.1 s k a q
 have hs2:∀s k a,g'.σ s k=some a→G.σ s k=some a:=fun s k a q=>by rw[Gσ];exact q
 have Gρold:∀l,domOf h l→G.ρ l=g.ρ l:=by
  intro l hl;rw[Gρ];split
  ·rfl
  ·split
   ·rename_i q
    have:=(small (l-B) q.2.1 q.2.2).1;rw[show B+(l-B)=l by omega]at this;simp[domOf,this]at hl
   ·rfl
 have Gρnew:∀l,l∈keysOf h'→G.ρ (ofBig R B l)=g'.ρ l:=by
  intro l hl
  by_cases hb:bigId≤l
  ·obtain⟨l0,q1,q2⟩:=big l hl hb
   rw[show ofBig R B l=l0 by rw[q2];exact ofB1 q1,Gρold l0 (Rdom q1),hx.ρk l hb];show _=g.ρ (R.getD (l-bigId) 0);rw[getD_of q1]
  ·rw[ofB2 (by omega),Gρ]
   have hnew:=small l hl (by omega)
   have hnR:B+l∉R:=fun hm=>by
    obtain⟨j,hj⟩:=List.getElem?_of_mem hm;have:=Rdom hj;simp[domOf,hnew.1]at this
   rw[if_neg hnR,if_pos ⟨by omega,by rw[show B+l-B=l by omega];exact⟨hl,by omega⟩⟩,show B+l-B=l by omega]
 have kept:∀b,b<w.heap.size→(g.lend R).own b=none→w'.heap[b]?=w.heap[b]?∧G.pre b=g.pre b∧G.own b=g.own b:=by
  intro b hb ho;obtain⟨q1,q2,q3⟩:=hx.kept b hb ho;exact⟨q1,by rw[Gpre];exact q2,by rw[Gown,if_pos ⟨hb,ho⟩]⟩
 have lendSlot:∀b i,g.own b=some (.slot i)→(g.lend R).own b=none:=fun b i ho=>by
  show lendOwn R (g.own b)=none;rw[ho];rfl
 have himm:∀b k v,imm g w b k=some v→imm G w' b k=some v:=fun b k v hv=>by
  have:=hx.imm b k v hv;simp only[imm_eq]at this ⊢;rw[Gpre];exact this
 have hownG:∀b q,g'.own b=some q→G.own b=backOwn R B d h' (some q):=by
  intro b q hq;rw[Gown];split
  ·rename_i hc
   have:=(hx.kept b hc.1 hc.2).2.2;rw[hq]at this;cases this
  ·rw[hq]
 -- values of the caller
 have up:∀{ow v x},(∀q b,ow=some q→g.own b=some q→(g.lend R).own b=none)→VRel g w (domOf h) ow v x→VRel G w' (domOf ((backH R B h').reverse++h)) ow v x:=fun hq r=>
  r.keep himm (fun l hl=>⟨hdomH l hl,Gρold l hl⟩) (fun l cs E hl hb=>hx.siz _ cs E hb)
   (fun q b e1 ho=>by
     have hb:=s.bnd b q ho;obtain⟨k1,k2,k3⟩:=kept b hb (hq q b e1 ho);exact⟨k3.trans ho,k2,k1⟩) (hsg:=hs1)
 -- values of the callee
 have down:∀{ow ow2 v x},(∀q,ow=some q→ow2=backOwn R B d h' (some q)∧ow2≠none)→VRel g' w' (domOf h') ow v x→VRel G w' (domOf ((backH R B h').reverse++h)) ow2 v (x.ren (ofBig R B)):=fun {ow ow2 v x} hq r=>by
  refine VRel.ren (g:=g') (g2:=G) (ofBig R B) (fun _=>true) (fun b k v hv=>by simp only[imm_eq]at hv ⊢;rw[Gpre];exact hv) (fun l hl _=>?_) (fun q b e1 ho=>?_) r (within_all _ (fun _=>rfl) x) (hsg:=hs2)
  ·unfold domOf at hl
   obtain⟨ob,hob⟩:=Option.isSome_iff_exists.1 hl;exact⟨by unfold domOf;rw[hHnew l ob hob];rfl,Gρnew l (hget_key _ _ _ hob)⟩
  ·obtain⟨k1,k2⟩:=hq q e1
   cases hq2:ow2 with
   |none=>exact absurd hq2 k2
   |some q2=>exact⟨q2,rfl,by rw[hownG b q ho,←k1,hq2],by rw[Gpre]⟩
 refine⟨G,⟨s.defers,s.size,fun i=>up (fun q b e1 ho=>by cases e1;exact lendSlot b i ho) (s.env i),⟨fun x ob hxo=>?_,fun x ob hxo hsl=>?_,fun x ob hxo hsl=>?_⟩,fun b q hq=>?_⟩,?_,fun v r hv=>?_⟩
 · -- objects
  rw[hH]at hxo
  cases hb:hget (backH R B h') x with
  |some ob1=>
   rw[hb]at hxo;cases hxo;obtain⟨l,ob0,q1,q2,q3⟩:=hget_back _ _ _ hb;obtain⟨q4,q5⟩:=q3 inj;subst q2;subst q5;have hkl:=hget_key _ _ _ q4
   cases hr.obj l ob0 q4 with
   |cells cs vs E hb' hl hxx h1=>
    refine .cells _ vs E (by rw[Gρnew l hkl];exact hb') (by rw[rens_length];exact hl) (fun i v c q5 q6=>?_) h1;rw[rens_get]at q6
    cases hq:cs[i]? with
    |none=>simp[hq]at q6
    |some c0=>
     simp only[hq,Option.map_some,Option.some.injEq]at q6;subst q6;refine down (fun q e1=>?_) (hxx i v c0 q5 hq);cases e1;simp[backOwn,hkl]
   |arr xs vs E hb' hl hxx h1=>exact .arr xs vs E (by rw[Gρnew l hkl];exact hb') hl (fun i v c q5 q6=>(hxx i v c q5 q6).mono (fun b k v hv=>by simp only[imm_eq]at hv ⊢;rw[Gpre];exact hv) hs2) h1
   |store T3 o3 sp3 nx3 z3 M3 hst=>
    refine .store T3 o3 sp3 nx3 z3 M3 (hst.mono (fun b k v hv=>by simp only[imm_eq]at hv ⊢;rw[Gpre];exact hv) (fun bb hb2=>⟨by rw[hownG bb _ hb2];simp[backOwn,hkl],rfl,by rw[Gpre]⟩) ?_ (hs:=hs2) (he:=fun k=>by rw[Gσ]));have q9:=hst.sown;rw[hx.frz.2.1]at q9;replace q9:lendS R (g.sown sp3)=some l:=q9;rw[Gsown]
    cases hq8:g.sown sp3 with
    |none=>rw[hq8]at q9;cases q9
    |some l8=>
     rw[hq8]at q9;simp only[lendS]at q9;split at q9
     ·rename_i hm8
      obtain⟨j8,hj8⟩:=List.getElem?_of_mem hm8;rw[toBig_get R 0 j8 l8 hn hj8]at q9;cases q9;rw[Nat.zero_add,ofB1 hj8]
     ·cases q9
   |glob gb gvs hgl=>
    refine ORel.globM hgl (fun h1 hlt _=>?_);obtain⟨vs',hq⟩:=globB_get hglob q4;obtain⟨j,l0,ob0,e1,e2,e3,e4,e5⟩:=s1 _ _ hq
    cases ob0 with
    |glob b0 vs0=>
     simp only[AObj.ren,AObj.glob.injEq]at e5;obtain⟨rfl,_⟩:=e5
     cases s.heap.obj l0 _ e3 with
     |glob _ _ hg0=>
      obtain⟨g1,E0,fr0,g2⟩:=hg0;have hk:=kept gb (Array.getElem?_eq_some_iff.1 g2).1 (by show lendOwn R (g.own gb)=none;rw[g1];rfl);exact⟨rfl,hk.2.2.trans g1⟩
    |_=>simp[AObj.ren]at e5
  |none=>
   rw[hb]at hxo;have hdx:domOf h x:=by simp[domOf,hxo]
   have hnR:x∉R:=fun hm=>by
    obtain⟨j,hj⟩:=List.getElem?_of_mem hm;have hk:=ak j (List.getElem?_eq_some_iff.1 hj).1;obtain⟨ob2,q1⟩:=hget_of_key h' _ hk;have:=hHnew _ _ q1;rw[ofB1 hj,hH,hb]at this;have h2:x∈keysOf (backH R B h'):=by rw[keysOf_back];exact List.mem_map.2 ⟨_,hk,ofB1 hj⟩
    obtain⟨ob3,q3⟩:=hget_of_key _ _ h2;rw[hb]at q3;cases q3
   have hlo:ob.solid=true→(g.lend R).own (g.ρ x)=none:=fun hsl=>by
    show lendOwn R (g.own (g.ρ x))=none;rw[s.heap.own x ob hxo hsl];simp[lendOwn,hnR]
   have eo:ob.solid=true→w'.heap[G.ρ x]?=w.heap[g.ρ x]?:=fun hsl=>by rw[Gρold x hdx];exact(kept _ (s.bnd _ _ (s.heap.own x ob hxo hsl)) (hlo hsl)).1
   cases s.heap.obj x ob hxo with
   |cells cs vs E hb' hl hxx h1=>
    refine .cells cs vs E ((eo rfl).trans hb') hl (fun i v c q5 q6=>up (fun q b e1 ho=>?_) (hxx i v c q5 q6)) h1;cases e1;show lendOwn R (g.own b)=none;rw[ho];simp[lendOwn,hnR]
   |arr xs vs E hb' hl hxx h1=>exact .arr xs vs E ((eo rfl).trans hb') hl (fun i v c q5 q6=>(hxx i v c q5 q6).mono himm hs1) h1
   |store T3 o3 sp3 nx3 z3 M3 hst=>exact .store T3 o3 sp3 nx3 z3 M3 (hst.mono himm (fun bb hb2=>by have hk:=kept bb (s.bnd _ _ hb2) (by show lendOwn R (g.own bb)=none;rw[hb2];simp[lendOwn,hnR]);exact⟨hk.2.2.trans hb2,hk.1,hk.2.1⟩) (by rw[Gsown];exact hst.sown) (hs:=hs1) (he:=fun k=>by rw[Gσ];exact hx.frz.2.2 sp3 (by show lendS R (g.sown sp3)=none;rw[hst.sown];simp[lendS,hnR]) k))
   |glob gb gvs hgl=>exact ORel.globM hgl (fun h1 hlt _=>by have hk:=kept gb hlt (by show lendOwn R (g.own gb)=none;rw[h1];rfl);exact⟨hk.1,hk.2.2.trans h1⟩)
 ·rw[hH]at hxo
  cases hb:hget (backH R B h') x with
  |some ob1=>
   obtain⟨l,ob0,q1,q2,q3⟩:=hget_back _ _ _ hb;obtain⟨q4,q5⟩:=q3 inj;subst q2;have hkl:=hget_key _ _ _ q4;rw[hb]at hxo;cases hxo;rw[Gρnew l hkl,hownG _ _ (hr.own l ob0 q4 (by rw[q5,AObj.solid_ren]at hsl;exact hsl))];simp[backOwn,hkl]
  |none=>
   rw[hb]at hxo;have hdx:domOf h x:=by simp[domOf,hxo]
   have hnR:x∉R:=fun hm=>by
    obtain⟨j,hj⟩:=List.getElem?_of_mem hm;have hk:=ak j (List.getElem?_eq_some_iff.1 hj).1;have h2:x∈keysOf (backH R B h'):=by rw[keysOf_back];exact List.mem_map.2 ⟨_,hk,ofB1 hj⟩
    obtain⟨ob3,q3⟩:=hget_of_key _ _ h2;rw[hb]at q3;cases q3
   have ho:=s.heap.own x ob hxo hsl
   have hlo:(g.lend R).own (g.ρ x)=none:=by
    show lendOwn R (g.own (g.ρ x))=none;rw[ho];simp[lendOwn,hnR]
   rw[Gρold x hdx,(kept _ (s.bnd _ _ ho) hlo).2.2];exact ho
 ·rw[hH]at hxo
  cases hb:hget (backH R B h') x with
  |some ob1=>
   obtain⟨l,ob0,q1,q2,q3⟩:=hget_back _ _ _ hb;obtain⟨q4,q5⟩:=q3 inj;subst q2;have hkl:=hget_key _ _ _ q4;rw[hb]at hxo;cases hxo;rw[Gρnew l hkl,Gpre];exact hr.pre l ob0 q4 (by rw[q5,AObj.solid_ren]at hsl;exact hsl)
  |none=>
   rw[hb]at hxo;have hdx:domOf h x:=by simp[domOf,hxo]
   have hnR:x∉R:=fun hm=>by
    obtain⟨j,hj⟩:=List.getElem?_of_mem hm;have hk:=ak j (List.getElem?_eq_some_iff.1 hj).1;have h2:x∈keysOf (backH R B h'):=by rw[keysOf_back];exact List.mem_map.2 ⟨_,hk,ofB1 hj⟩
    obtain⟨ob3,q3⟩:=hget_of_key _ _ h2;rw[hb]at q3;cases q3
   have ho:=s.heap.own x ob hxo hsl
   have hlo:(g.lend R).own (g.ρ x)=none:=by
    show lendOwn R (g.own (g.ρ x))=none;rw[ho];simp[lendOwn,hnR]
   rw[Gρold x hdx,(kept _ (s.bnd _ _ ho) hlo).2.1];exact s.heap.pre x ob hxo hsl
 ·rw[Gown]at hq
  split at hq
  ·rename_i hc;exact Nat.lt_of_lt_of_le hc.1 hx.size
  ·cases hg:g'.own b with
   |none=>rw[hg]at hq;simp[backOwn]at hq
   |some q'=>exact hbn b q' hg
 ·refine⟨hx.size,hx.os,hx.out,himm,fun b hb ho=>?_,⟨hs1,Gsown,fun s q k=>by rw[Gσ];exact hx.frz.2.2 s (by show lendS R (g.sown s)=none;rw[q];rfl) k⟩,hx.frz',fun l hl=>?_,hx.siz⟩
  ·have hlo:(g.lend R).own b=none:=by
    show lendOwn R (g.own b)=none;rw[ho];rfl
   obtain⟨k1,k2,k3⟩:=kept b hb hlo;exact⟨k1,k2,k3.trans ho⟩
  ·rw[Gρ]
   split
   ·rfl
   ·split
    ·rename_i q
     have:=(small (l-B) q.2.1 q.2.2).2;omega
    ·rfl
 ·exact down (fun q e1=>by cases e1;simp[backOwn]) hv
end
end Go.AM
namespace Go.AM
section
variable {P:Program} {ty:Nat→Option TI} {n:Nat} {o:Oper} {e:Env} {h:Heap} {K:AK}
theorem retM_iff {o:Oper} {rd:List Nat} {hw:Heap} {v:AV} {K:AK} (hk:retM o rd hw v K):K (match o.dst with|some d=>⟨rd,[(d,v)],hw⟩|none=>⟨rd,[],hw⟩):=by
 unfold retM at hk
 cases hd:o.dst<;>simp only[hd,AV.force_eq]at hk<;>exact hk
def layPre (g:Gh) (w:World) (b:Nat):Nat:=match g.own b with
 |some (.obj _)=>(match w.heap[b]? with|some (.cells c _ _)=>c.size|_=>g.pre b)
 |_=>g.pre b
def Gh.lay (g:Gh) (w:World):Gh:=⟨layPre g w,fun _=>none,g.ρ,g.σ,fun _=>none⟩
theorem imm_show {g:Gh} {w:World} {b k:Nat} {v:Value} (hv:imm g w b k=some v):imm (g.lay w) w b k=some v:=by
 have hc:=imm_cell hv;simp only[imm_eq]at hv ⊢
 have hk:k<(g.lay w).pre b:=by
  show k<layPre g w b;unfold layPre;have hk0:k<g.pre b:=by split at hv;assumption;cases hv
  split
  ·split
   ·rename_i hb
    have:w.cell? ⟨b,k,none⟩=_:=cell?_of hb k;rw[hc]at this;exact(Array.getElem?_eq_some_iff.1 this.symm).1
   ·exact hk0
  ·exact hk0
 rw[if_pos hk];exact hc
theorem imm_shown {g:Gh} {w:World} {l:Nat} {vs:Array Value} {E:TypeId} (ho:g.own (g.ρ l)=some (.obj l)) (hb:w.heap[g.ρ l]?=some (.cells vs E (0,0))) {k:Nat} {v:Value} (hv:vs[k]?=some v):imm (g.lay w) w (g.ρ l) k=some v:=by
 simp only[imm_eq]
 have hk:k<(g.lay w).pre (g.ρ l):=by
  show k<layPre g w (g.ρ l);unfold layPre;rw[ho,hb];exact(Array.getElem?_eq_some_iff.1 hv).1
 rw[if_pos hk,cell?_of hb];exact hv
theorem oneCell_pv {M:Mm} {v:Value} {x:PV} (r:PRel M v x) (h1:v.oneCell'=true):x.cells=[x]:=by
 cases r<;>first|rfl|simp[Value.oneCell']at h1
theorem arr_show {g:Gh} {w:World} {h:Heap} (hr:HRel g w h) {l:Nat} {xs:List PV} (hl:hget h l=some (.arr xs)) {m:Nat} (hn:∃(cs:Array Value) (E:TypeId),w.heap[g.ρ l]?=some (.cells cs E (0,0))∧cs.size=m):
 PRel (imm (g.lay w) w) (.slice (some ⟨g.ρ l,0,none⟩) m m) (.sl 1 xs):=by
 obtain⟨cs,E,hb,rfl⟩:=hn
 cases hr.obj l _ hl with
 |arr _ vs E' hb' hlen hx h1=>
  rw[hb]at hb';cases hb';rw[hlen]
  have he:∀(j:Nat) (x:PV),xs[j]?=some x→∃v,cs[j]?=some v∧v.oneCell'=true∧PRel (imm g w) v x:=fun j x hj=>by
   have hjl:j<cs.size:=by rw[hlen];exact(List.getElem?_eq_some_iff.1 hj).1
   have hv:cs[j]?=some cs[j]:=Array.getElem?_eq_getElem hjl;exact⟨cs[j],hv,h1 _ (by simp),hx j _ x hv hj⟩
  refine .sl ⟨g.ρ l,0,none⟩ xs.length 1 xs (fun j _=>cs.getD j undef) (fun _=>rfl) (Nat.le_refl _) (fun x hxm=>?_) (fun j x hj i y hi=>?_) (fun j x hj i y hi=>?_)
  ·obtain⟨j,hj⟩:=List.getElem?_of_mem hxm
   obtain⟨v,q1,q2,q3⟩:=he j x hj;rw[oneCell_pv q3 q2];rfl
  ·obtain⟨v,q1,q2,q3⟩:=he j x hj
   rw[oneCell_pv q3 q2]at hi;have hi0:i=0:=by have:=(List.getElem?_eq_some_iff.1 hi).1;simp at this;exact this
   subst hi0;have e1:cs.getD j undef=v:=by simp[Array.getD_eq_getD_getElem?,q1]
   rw[e1];refine⟨?_,q2⟩;simp only[Nat.zero_add,Nat.mul_one,Nat.add_zero];exact imm_shown (hr.own l _ hl rfl) hb q1
  ·obtain⟨v,q1,q2,q3⟩:=he j x hj
   rw[oneCell_pv q3 q2]at hi;have hi0:i=0:=by have:=(List.getElem?_eq_some_iff.1 hi).1;simp at this;exact this
   subst hi0;simp at hi;subst hi;have e1:cs.getD j undef=v:=by simp[Array.getD_eq_getD_getElem?,q1]
   rw[e1];exact q3.mono fun _ _ _ hv=>imm_show hv
theorem subH_congr {σ:Nat→Nat} {d:Nat→Bool} {h':Heap}:∀(R:List Nat) (k:Nat),(∀l∈R,hget h' l=hget h l)→subH h' σ d R k=subH h σ d R k
 | [],k,_=>rfl
 |x::r,k,hh=>by simp only[subH,hh x (by simp),subH_congr r (k+1) (fun l hl=>hh l (by simp[hl]))]
theorem newCk_congr {B m:Nat} {R:List Nat} {h':Heap} {L:Heap} (hh:∀x∈keysOf (backH R B L),hget h' x=hget h x):∀(ks:List Nat),(∀k∈ks,k∈keysOf L)→newCk h B m ks=true→newCk h' B m ks=true
 | [],_,_=>rfl
 |l::r,hs,hc=>by
  simp only[newCk,Bool.and_eq_true]at hc ⊢;refine⟨?_,newCk_congr hh r (fun k hk=>hs k (by simp[hk])) hc.2⟩;have h1:=hc.1
  cases hb:Nat.ble bigId l with
  |true=>rw[hb]at h1;exact h1
  |false=>
   rw[hb]at h1
   have hx:B+l∈keysOf (backH R B L):=by
    rw[keysOf_back];exact List.mem_map.2 ⟨l,hs l (by simp),by simp[ofBig,hb]⟩
   show freshId h' (B+l)=true;have h1:freshId h (B+l)=true:=h1;unfold freshId at h1 ⊢;rw[hh _ hx];exact h1
theorem argOf_noSo (e:Env):∀(xs:List Operand) (ts:List Nat) (y:AV),y∈argOf ty e xs ts→∀sz l,y≠.so sz l
 | [],ts,y,hy=>by simp[argOf]at hy
 |x::r,ts,y,hy=>by
  simp only[argOf,List.mem_cons]at hy;rcases hy with rfl|hy
  ·intro sz l
   split
   ·split<;>(intro q;cases q)
   ·intro q;cases q
   ·intro q;cases q
   ·unfold aggTy;split
    ·split
     ·intro q;cases q
     ·intro q;cases q
    ·intro q;cases q
   ·rename_i hns _;intro q;exact hns sz l q
  ·exact argOf_noSo e r ts.tail y hy
theorem call_args {x:Operand} {as:List Operand} {ts:List Nat} {first caps:List AV} {fs cs:List Value} {g:Gh} {w:World} {a:Act} {e':Env} {h':Heap} (s:Sim g w n a e' h') (he:∀t∈slotsOf o,eget e' t=eget e t)
 (m2:∀y∈as,y∈o.op.operands) (h1:fs.length=first.length) (h2:cs.length=caps.length)
 (hf:∀(j:Nat) (v:Value) (c:AV),fs[j]?=some v→first[j]?=some c→VRel g w (domOf h') none v c) (hc:∀(j:Nat) (v:Value) (c:AV),cs[j]?=some v→caps[j]?=some c→VRel g w (domOf h') none v c):
 (fs++as.map a.eval++cs).length=(first++argOf ty e as ts++caps).length∧∀(j:Nat) (v:Value) (y:AV),(fs++as.map a.eval++cs)[j]?=some v→(first++argOf ty e as ts++caps)[j]?=some y→VRel g w (domOf h') none v y:=by
 obtain⟨k1,k2⟩:=argOf_spec (ty:=ty) s he as ts m2;refine⟨by simp[h1,h2,k1],fun j v y q1 q2=>?_⟩
 by_cases hj1:j<fs.length
 ·rw[List.append_assoc,List.getElem?_append_left hj1]at q1
  rw[List.append_assoc,List.getElem?_append_left (by omega)]at q2;exact hf j v y q1 q2
 ·by_cases hj2:j<fs.length+as.length
  ·rw[List.append_assoc,List.getElem?_append_right (by omega),List.getElem?_append_left (by simp;omega),List.getElem?_map]at q1
   rw[List.append_assoc,List.getElem?_append_right (by omega),List.getElem?_append_left (by omega),←h1]at q2
   cases hq:as[j-fs.length]? with
   |none=>simp[hq]at q1
   |some z=>
    simp only[hq,Option.map_some,Option.some.injEq]at q1;subst q1;obtain⟨_,hr⟩:=k2 _ z y hq q2;exact hr.anyOwner (argOf_noSo e as ts y (List.mem_of_getElem? q2))
  ·rw[List.getElem?_append_right (by simp;omega)]at q1
   rw[List.getElem?_append_right (by simp;omega)]at q2;refine hc (j-(fs++as.map a.eval).length) v y q1 ?_;rw[←q2];congr 1;simp[h1,k1]
theorem findM_mem {name:String} {f:Nat}:∀{l:List (String×Nat)},findM name l=some f→(name,f)∈l
 | [],h=>by cases h
 |(a,b)::r,h=>by
  rw[findM]at h;split at h
  ·rename_i q;cases h;rw[beq_iff_eq]at q;subst q;exact List.mem_cons_self ..
  ·exact List.mem_cons_of_mem _ (findM_mem h)
theorem methOf_spec (hty:TyOK P ty) {T f:Nat} {name:String} (h:methOf ty T name=some f):Meth P T name f:=by
 unfold methOf at h;split at h
 ·rename_i i hi;exact(hty T i hi).mth _ (findM_mem h)
 ·cases h
inductive IsCall (P:Program) (e:Env) (o:Oper) (as:List Operand) (ts:List Nat) (f:Nat) (first caps:List AV):Prop
 |value (x:Operand) (ho:o.op=.call { callee:=.value x,args:=⟨as⟩,argTypes:=⟨ts⟩ }) (hx:ev e x=.fn f first caps)
 |invoke (x:Operand) (name:String) (T:Nat) (y:PV) (ho:o.op=.call { callee:=.invoke x name,args:=⟨as⟩,argTypes:=⟨ts⟩ }) (hx:ev e x=.p (.ifv T y)) (hm:Meth P T name f) (h1:first=[.p y]) (h2:caps=[])
theorem IsCall.args {as:List Operand} {ts:List Nat} {f:Nat} {first caps:List AV} (hc:IsCall P e o as ts f first caps) (hb:hasBody P f) {g:Gh} {w:World} {a:Act} {e':Env} {h':Heap} (s:Sim g w n a e' h') (he:∀t∈slotsOf o,eget e' t=eget e t):
 ∃vs:List Value,(execOp a.eval o).run P w=.ok (.enter f vs.toArray) w∧vs.length=(first++argOf ty e as ts++caps).length∧∀(j:Nat) (v:Value) (y:AV),vs[j]?=some v→(first++argOf ty e as ts++caps)[j]?=some y→VRel g w (domOf h') none v y:=by
 cases hc with
 |value x ho hx=>
  have m1:x∈o.op.operands:=by simp[ho,Op.operands,Call.operands]
  have m2:∀y∈as,y∈o.op.operands:=fun y hy=>by simp[ho,Op.operands,Call.operands,hy]
  obtain⟨_,r1⟩:=s.evo he m1 hx;generalize hv:a.eval x=v at r1
  cases r1 with
  |fn _ _ fs cs _ _ h1 h2 hf hc=>
   obtain⟨k1,k2⟩:=call_args (ty:=ty) (x:=x) (ts:=ts) s he m2 h1 h2 hf hc;exact⟨_,run_call_value ho hv hb,k1,k2⟩
 |invoke x name T y ho hx hm h1 h2=>
  subst h1;subst h2;have m1:x∈o.op.operands:=by simp[ho,Op.operands,Call.operands]
  have m2:∀y∈as,y∈o.op.operands:=fun y hy=>by simp[ho,Op.operands,Call.operands,hy]
  obtain⟨_,r1⟩:=s.evo he m1 hx;generalize hv:a.eval x=v at r1
  cases r1 with
  |p _ _ _ hp=>
   cases hp with
   |ifv _ v1 _ hp1=>
    obtain⟨k1,k2⟩:=call_args (ty:=ty) (x:=x) (ts:=ts) (fs:=[v1]) (cs:=[]) (first:=[.p y]) (caps:=[]) s he m2 rfl rfl (fun j v c q1 q2=>by
     cases j with
     |zero=>simp only[List.getElem?_cons_zero,Option.some.injEq]at q1 q2;subst q1;subst q2;exact .p _ _ _ hp1
     |succ j=>simp at q1) (fun j v c q1 _=>by simp at q1)
    exact⟨_,by rw[run_call_invoke ho hv hm hb];simp,k1,k2⟩
theorem aCall_mem (hd:∀d,o.dst=some d→d<n) {as:List Operand} {ts:List Nat} {f:Nat} {first caps:List AV} (hx:IsCall P e o as ts f first caps) {K:AK}
 {R:List Nat} {B:Nat} {hs:Heap} {r:AV} {h2:Heap} (ck1:(AV.withins (memB R) (first++argOf ty e as ts++caps)&&nodupB R)=true) (hsub:subH h (toBig R 0) (memB R) R 0=some hs)
 (hcall0:AMem P f (AV.rens (toBig R 0) (first++argOf ty e as ts++caps)) hs r h2) (ck2:(nodupB (keysOf h2)&&newCk h B R.length (keysOf h2)&&allKeys (keysOf h2) R.length)=true) (hk:retM o R (backH R B h2) (r.ren (ofBig R B)) K):∃f,K f∧OpOK P n o e h f:=by
 obtain⟨⟨hb,hglob⟩,hcall⟩:=hcall0;simp only[Bool.and_eq_true]at ck1 ck2;obtain⟨ckw,ckn⟩:=ck1;obtain⟨⟨ck3,ck4⟩,ck5⟩:=ck2;refine⟨_,retM_iff hk,fun e' h' he hl g w a s=>?_⟩
 have hlR:∀l∈R,hget h' l=hget h l:=fun l hlR=>by
  cases hdst:o.dst<;>simp only[hdst]at hl<;>exact hl l (by simp[hlR])
 have keys:∀(L:Heap) (x:Nat),x∈keysOf L→x∈L.map (·.1):=by
  intro L
  induction L with
  |nil=>intro x hx;cases hx
  |cons p q ih=>
   obtain⟨k,v⟩:=p;intro x hx;simp only[keysOf,List.mem_cons]at hx;rcases hx with rfl|hx
   ·simp
   ·exact List.mem_cons_of_mem _ (ih x hx)
 have hlN:∀x∈keysOf (backH R B h2),hget h' x=hget h x:=fun x hxk=>by
  have:=keys _ x hxk
  cases hdst:o.dst<;>simp only[hdst]at hl<;>exact hl x (List.mem_append_right _ this)
 have hn:=nodupB_spec ckn;have hsub':subH h' (toBig R 0) (memB R) R 0=some hs:=by rw[subH_congr R 0 hlR];exact hsub
 have ck4':=newCk_congr hlN _ (fun _ q=>q) ck4;obtain⟨cvs,hrun,k1,k2⟩:=hx.args hb s he
 have hargs:=hcall (g.lend R) w cvs (s.heap.lend hn hsub') (fun b q hq=>by
  have hq:lendOwn R (g.own b)=some q:=hq
  cases hg:g.own b with
  |none=>rw[hg]at hq;simp[lendOwn]at hq
  |some q'=>exact s.bnd b q' hg) (by rw[k1,rens_length]) (fun j v y q1 q2=>by
  rw[rens_get]at q2
  cases hq:(first++argOf ty e as ts++caps)[j]? with
  |none=>rw[hq]at q2;cases q2
  |some c0=>
   rw[hq,Option.map_some,Option.some.injEq]at q2;subst q2;have hr0:=k2 j v c0 q1 hq;exact VRel.lend hn hsub' (fun q e1=>by cases e1) hr0 (withins_get _ _ ckw j c0 hq))
 simp only[Oper.wp,hrun,Oper.upon];refine hargs.mono ?_;rintro en w' ⟨v,g',rfl,hr,hH,hbn,hE⟩
 cases hdst:o.dst with
 |none=>
  obtain⟨G,q1,q2,_⟩:=s.calledM 0 hn hsub' hE hH hbn (nodupB_spec ck3) ck4' ck5 hglob;exact⟨G,q1,q2⟩
 |some d=>
  obtain⟨G,q1,q2,q3⟩:=s.calledM d hn hsub' hE hH hbn (nodupB_spec ck3) ck4' ck5 hglob;exact⟨G,q1.put (hd d hdst) (q3 v r hr),q2⟩
theorem aCall_sound (hd:∀d,o.dst=some d→d<n) {as:List Operand} {ts:List Nat} {f:Nat} {first caps:List AV} (hx:IsCall P e o as ts f first caps)
 (hk:pcall P f (first++argOf ty e as ts++caps) h fun rd hw r=>retM o rd hw r K):∃f,K f∧OpOK P n o e h f:=by
 rcases hk with⟨r,hfree,⟨hb,hcall⟩,hk⟩|⟨R,B,hs,r,h2,ck1,hsub,hcall,ck2,hk⟩
 ·refine⟨_,retM_iff hk,fun e' h' he _ g w a s=>?_⟩
  obtain⟨cvs,hrun,k1,k2⟩:=hx.args hb s he
  have hargs:=hcall { g with own:=fun _=>none,sown:=fun _=>none } w cvs (fun _=>rfl) (fun _=>rfl) k1 (fun j v y q1 q2=>by
   exact(k2 j v y q1 q2).toFree (frees_get _ hfree j y q2) _ none _)
  simp only[Oper.wp,hrun,Oper.upon];refine hargs.mono ?_;rintro en w' ⟨v,g',rfl,hr,hE⟩
  cases hdst:o.dst with
  |none=>
   obtain⟨q1,q2,_⟩:=s.called hE 0;exact⟨_,q1,q2⟩
  |some d=>
   obtain⟨q1,q2,q3⟩:=s.called hE d;exact⟨_,q1.put (hd d hdst) (q3 v r hr),q2⟩
 ·exact aCall_mem hd hx ck1 hsub hcall ck2 hk
end
end Go.AM
