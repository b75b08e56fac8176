/- Part of a machine over plain values. No conditions. -/
import Derived.Test.YtdmopjgjhfhfdaaGreatDoorAMRel
namespace Go.AM
def kdT (P:Program) (t:Nat):Option KD:=match P.underlying t,P.info? t with
 |some .bool,some _=>some .kb
 |some (.int k),some _=>some (.ki k)
 |some .string,some _=>some .ks
 |_,_=>none
def flatFields (P:Program):Nat→List Field→List KD→Bool
 |_,[],[]=>true
 |n,f::r,k::ks=>Nat.beq f.offset n&&(f.name != "_")&&(kdT P f.type==some k)&&Nat.beq (P.cellsOf f.type) 1&&flatFields P (n+1) r ks
 |_,_,_=>false
def eqOK (P:Program) (t:Nat) (ks:List KD):Bool:=!(P.eqGuardType P.depth t)&&(match P.underlying t with
 |some (.struct fs)=>!(P.stoodInHeld t)&&flatFields P 0 fs.toList ks
 |some (.array m el)=>Nat.beq (P.cellsOf el) 1&&Nat.beq ks.length m&&ks.all (fun k=>kdT P el==some k)
 |_=>false)
def Meth (P:Program) (T:Nat) (name:String) (f:Nat):Prop:=∀x w,(method (P.types.size+Made.depth) T x name).run P w=.ok (f,x) w
structure TyRow (P:Program) (t:Nat) (i:TI):Prop where
 und:P.underlying t=some i.desc
 inf:∃inf z,P.info? t=some inf∧inf.size=i.size∧inf.bytes=i.bytes∧inf.zero=some z∧z.cells.toList=i.zero∧i.zero.length=i.size
 one:∀v∈i.zero,v.oneCell'=true
 eqs:i.eqs=[]∨eqOK P t i.eqs=true
 agz:isAggD i.desc=true→∃inf z,P.info? t=some inf∧inf.zero=some z∧∃cs,z=.agg cs
 noz:isAggD i.desc=false→∃inf z,P.info? t=some inf∧inf.zero=some z∧z.cells=#[z]
 mth:∀p∈i.meth,Meth P t p.1 p.2
 plc:∀fs,i.desc=.struct fs→∃places,fs.toList.mapM (fun f=>(P.info? f.type).map fun i=>(f.offset,i.size))=some places
def TyOK (P:Program) (ty:Nat→Option TI):Prop:=∀t i,ty t=some i→TyRow P t i
theorem Oper.wp_value {P:Program} {o:Oper} {a:Act} {w w':World} {v:Value} {K:Act→World→Prop} {Q:Exit→Act→World→Prop}
 (hr:(execOp a.eval o).run P w=.ok (.value v) w') (h:K (a.put o.dst v) w'):o.wp P a w K Q:=by
 simp only[Oper.wp,hr,Oper.upon];exact h
theorem Oper.wp_skip {P:Program} {o:Oper} {a:Act} {w w':World} {K:Act→World→Prop} {Q:Exit→Act→World→Prop}
 (hr:(execOp a.eval o).run P w=.ok .skip w') (h:K (a.put o.dst undef) w'):o.wp P a w K Q:=by
 simp only[Oper.wp,hr,Oper.upon];exact h
def OpOK (P:Program) (n:Nat) (o:Oper) (e:Env) (h:Heap) (f:Eff):Prop:=
 ∀e' h',(∀t∈slotsOf o,eget e' t=eget e t)→(∀l∈f.rd++f.hw.map (·.1),hget h' l=hget h l)→
  ∀g w a,Sim g w n a e' h'→o.wp P a w (fun a' w'=>∃g',Sim g' w' n a' (f.ew.reverse++e') (f.hw.reverse++h')∧Ext g w g' w') (fun _ _ _=>False)
theorem beq_false {a b:Nat} (h:a≠b):Nat.beq a b=false:=by
 cases hb:Nat.beq a b with
 |false=>rfl
 |true=>exact absurd (Nat.eq_of_beq_eq_true hb) h
theorem beq_self (a:Nat):Nat.beq a a=true:=Nat.beq_refl a
theorem eget_self (d:Nat) (v:AV) (e:Env):eget ((d,v)::e) d=v:=by simp[eget]
theorem eget_ne {d i:Nat} (h:d≠i) (v:AV) (e:Env):eget ((d,v)::e) i=eget e i:=by simp[eget,beq_false h]
theorem hget_self (d:Nat) (v:AObj) (e:Heap):hget ((d,v)::e) d=some v:=by simp[hget]
theorem hget_ne {d i:Nat} (h:d≠i) (v:AObj) (e:Heap):hget ((d,v)::e) i=hget e i:=by simp[hget,beq_false h]
theorem Sim.put {g:Gh} {w:World} {n:Nat} {a:Act} {e:Env} {h:Heap} (s:Sim g w n a e h) {d:Nat} (hd:d<n) {v:Value} {x:AV}
 (r:VRel g w (domOf h) (some (.slot d)) v x):Sim g w n (a.put (some d) v) ((d,x)::e) h:=by
 refine⟨s.defers,by simp[Act.put,s.size],fun i=>?_,s.heap,s.bnd⟩
 by_cases hi:d=i
 ·subst hi
  rw[eget_self];have:(a.put (some d) v).tmps.getD d undef=v:=by simp[Act.put,s.size,hd]
  rw[this];exact r
 ·rw[eget_ne hi]
  have:(a.put (some d) v).tmps.getD i undef=a.tmps.getD i undef:=by simp[Act.put,Array.getD_eq_getD_getElem?,hi]
  rw[this];exact s.env i
theorem Sim.drew {g:Gh} {w:World} {n:Nat} {a:Act} {e:Env} {h:Heap} {k:Nat} (s:Sim g w n a e h):Sim g { w with drawn:=k } n a e h:=by
 have key:∀{ow v x},VRel g w (domOf h) ow v x→VRel g { w with drawn:=k } (domOf h) ow v x:=fun r=>
  VRel.keep (g:=g) (g':=g) (w:=w) (w':={ w with drawn:=k }) (fun _ _ _ h=>h) (fun l hl=>⟨hl,rfl⟩) (fun l cs E _ hb=>⟨cs,E,hb,rfl⟩) (fun o b _ ho=>⟨ho,rfl,rfl⟩) r
 refine⟨s.defers,s.size,fun i=>key (s.env i),⟨fun l o ho=>?_,s.heap.own,s.heap.pre⟩,s.bnd⟩
 cases s.heap.obj l o ho with
 |cells cs vs E hb hl hx h1=>exact .cells cs vs E hb hl (fun j v c h2 h3=>key (hx j v c h2 h3)) h1
 |arr xs vs E hb hl hx h1=>exact .arr xs vs E hb hl hx h1
 |glob gb gvs hgl=>exact .glob gb gvs hgl
 |store T3 o3 sp3 nx3 z3 M3 hst=>exact .store T3 o3 sp3 nx3 z3 M3 (hst.mono (fun _ _ _ q=>q) (fun _ q=>⟨q,rfl,rfl⟩) hst.sown)
theorem Ext.drew {g:Gh} {w:World} {k:Nat}:Ext g w g { w with drawn:=k }:=
 ⟨Nat.le_refl _,rfl,rfl,fun _ _ _ h=>h,fun _ _ ho=>⟨rfl,rfl,ho⟩,SgLe.of rfl rfl,fun _ _=>rfl,fun _ _=>rfl,fun b cs E hb=>⟨cs,E,hb,rfl⟩⟩
theorem constAV1_rel {g:Gh} {w:World} {dom:Nat→Prop} {ow:Option Owner} (v:Value):VRel g w dom ow v (constAV1 v):=by
 unfold constAV1;split<;>first|exact .p _ _ _ (.b _)|exact .p _ _ _ (.i _ _)|exact .p _ _ _ (.s _)|exact .nilS _|exact .p _ _ _ .nilp|exact .c _ _ rfl|exact .top _ _
theorem constAV1s_get:∀(l:List Value) (j:Nat),(constAV1s l)[j]?=(l[j]?).map constAV1
 | [],j=>by simp[constAV1s]
 |x::r,0=>by simp[constAV1s]
 |x::r,j+1=>by simp[constAV1s,constAV1s_get r j]
theorem constAV1s_length:∀(l:List Value),(constAV1s l).length=l.length
 | []=>rfl
 |_::r=>by simp[constAV1s,constAV1s_length r]
theorem oneCells_all:∀{l:List Value},oneCells l=true→∀v∈l,v.oneCell'=true
 | [],_,v,hv=>by cases hv
 |x::r,h,v,hv=>by
  simp only[oneCells,Bool.and_eq_true]at h;rcases List.mem_cons.1 hv with rfl|hv
  ·exact h.1
  ·exact oneCells_all h.2 v hv
theorem constAV_rel {g:Gh} {w:World} {dom:Nat→Prop} {ow:Option Owner} (v:Value):VRel g w dom ow v (constAV v):=by
 unfold constAV;split
 ·rename_i cs
  split
  ·rename_i hc
   refine .agg ow cs (constAV1s cs) (constAV1s_length cs).symm (oneCells_all hc) (fun j v c h1 h2=>?_);rw[constAV1s_get,h1]at h2;cases h2;exact constAV1_rel v
  ·exact .top _ _
 ·exact constAV1_rel _
theorem constAV_so {v:Value} {sz:Nat} {xs:List PV} (h:constAV v=.so sz xs):False:=by
 unfold constAV at h;split at h
 ·split at h<;>cases h
 ·unfold constAV1 at h;split at h<;>cases h
theorem Sim.ev {g:Gh} {w:World} {n:Nat} {a:Act} {e:Env} {h:Heap} (s:Sim g w n a e h) (x:Operand):∃ow,VRel g w (domOf h) ow (a.eval x) (ev e x):=by
 cases x with
 |tmp t=>exact⟨_,s.env t⟩
 |const v=>exact⟨none,constAV_rel v⟩
 |func f=>exact⟨none,.fn none f [] [] [] [] rfl rfl (fun j v c h=>by simp at h) (fun j v c h=>by simp at h)⟩
 |global b=>exact⟨none,.top _ _⟩
theorem ev_congr {o:Oper} {e e':Env} (h:∀t∈slotsOf o,eget e' t=eget e t) {x:Operand} (hx:x∈o.op.operands):ev e' x=ev e x:=by
 cases x with
 |tmp t=>exact h t (by simp only[slotsOf,List.mem_filterMap];exact⟨.tmp t,by simpa using hx,rfl⟩)
 |_=>rfl
theorem OpOK.ret {P:Program} {n:Nat} {o:Oper} {e:Env} {h:Heap} {rd:List Nat} {x:AV} (hd:∀d,o.dst=some d→d<n)
 (hx:∀e' h',(∀t∈slotsOf o,eget e' t=eget e t)→(∀l∈rd,hget h' l=hget h l)→∀g w a,Sim g w n a e' h'→
   ∃v,(execOp a.eval o).run P w=.ok (.value v) w∧∀d,o.dst=some d→VRel g w (domOf h') (some (.slot d)) v x):
 OpOK P n o e h (match o.dst with|some d=>⟨rd,[(d,x)],[]⟩|none=>⟨rd,[],[]⟩):=by
 intro e' h' he hh g w a s
 have hrd:∀l∈rd,hget h' l=hget h l:=by
  intro l hl
  cases hdst:o.dst<;>simp only[hdst]at hh<;>exact hh l (by simp[hl])
 obtain⟨v,hr,hv⟩:=hx e' h' he hrd g w a s;refine Oper.wp_value hr ⟨g,?_,Ext.refl _ _⟩
 cases hdst:o.dst with
 |none=>exact s
 |some d=>exact s.put (hd d hdst) (hv d hdst)
theorem ret_iff {o:Oper} {v:AV} {K:AK} (hk:ret o v K):K (match o.dst with|some d=>⟨[],[(d,v)],[]⟩|none=>⟨[],[],[]⟩):=by
 unfold ret at hk
 cases hd:o.dst<;>simp only[hd,AV.force_eq]at hk<;>exact hk
theorem retR_iff {o:Oper} {l:Nat} {v:AV} {K:AK} (hk:retR o l v K):K (match o.dst with|some d=>⟨[l],[(d,v)],[]⟩|none=>⟨[l],[],[]⟩):=by
 unfold retR at hk
 cases hd:o.dst<;>simp only[hd,AV.force_eq]at hk<;>exact hk
theorem ret_sound {P:Program} {n:Nat} {o:Oper} {e:Env} {h:Heap} {x:AV} {K:AK} (hd:∀d,o.dst=some d→d<n) (hk:Go.AM.ret o x K)
 (hx:∀e' h',(∀t∈slotsOf o,eget e' t=eget e t)→∀g w a,Sim g w n a e' h'→
   ∃v,(execOp a.eval o).run P w=.ok (.value v) w∧∀d,o.dst=some d→VRel g w (domOf h') (some (.slot d)) v x):∃f,K f∧OpOK P n o e h f:=
 ⟨_,ret_iff hk,OpOK.ret hd fun e' h' he _=>hx e' h' he⟩
theorem retR_sound {P:Program} {n:Nat} {o:Oper} {e:Env} {h:Heap} {l:Nat} {x:AV} {K:AK} (hd:∀d,o.dst=some d→d<n) (hk:Go.AM.retR o l x K)
 (hx:∀e' h',(∀t∈slotsOf o,eget e' t=eget e t)→hget h' l=hget h l→∀g w a,Sim g w n a e' h'→
   ∃v,(execOp a.eval o).run P w=.ok (.value v) w∧∀d,o.dst=some d→VRel g w (domOf h') (some (.slot d)) v x):∃f,K f∧OpOK P n o e h f:=
 ⟨_,retR_iff hk,OpOK.ret hd fun e' h' he hl=>hx e' h' he (hl l (by simp))⟩
end Go.AM
namespace Go.AM
theorem getAt_spec {α:Type}:∀(cs:List α) (off n:Nat) (l:List α),getAt cs off n=some l→l.length=n∧∀j,j<n→l[j]?=cs[off+j]?
 |_,_,0,l,h=>by simp[getAt]at h;subst h;simp
 | [],_,_+1,l,h=>by simp[getAt]at h
 |x::r,0,n+1,l,h=>by
  simp only[getAt]at h
  cases hg:getAt r 0 n with
  |none=>simp[hg]at h
  |some l1=>
   simp only[hg,Option.some.injEq]at h;subst h;obtain⟨h1,h2⟩:=getAt_spec r 0 n l1 hg;refine⟨by simp[h1],fun j hj=>?_⟩
   cases j with
   |zero=>simp
   |succ j=>have:=h2 j (by omega);simpa using this
 |x::r,o+1,n+1,l,h=>by
  simp only[getAt]at h;obtain⟨h1,h2⟩:=getAt_spec r o (n+1) l h;refine⟨h1,fun j hj=>?_⟩;rw[h2 j hj,show o+1+j=(o+j)+1 by omega];simp
theorem setAt_spec {α:Type}:∀(cs:List α) (off:Nat) (ys cs':List α),setAt cs off ys=some cs'→cs'.length=cs.length∧(ys≠[]→off+ys.length≤cs.length)∧
 ∀j,cs'[j]?=if off≤j∧j<off+ys.length then ys[j-off]? else cs[j]?
 |cs,off,[],cs',h=>by
  have:cs'=cs:=by cases cs<;>simpa[setAt] using h.symm
  subst this;refine⟨rfl,by simp,fun j=>?_⟩;rw[if_neg (by simp)]
 | [],off,y::ys,cs',h=>by simp[setAt]at h
 |x::r,0,y::ys,cs',h=>by
  simp only[setAt]at h
  cases hg:setAt r 0 ys with
  |none=>simp[hg]at h
  |some l1=>
   simp only[hg,Option.some.injEq]at h;subst h;obtain⟨h1,h2,h3⟩:=setAt_spec r 0 ys l1 hg;refine⟨by simp[h1],fun _=>?_,fun j=>?_⟩
   ·by_cases hy:ys=[]
    ·subst hy;simp
    ·have:=h2 hy;simp at this ⊢;omega
   ·cases j with
    |zero=>simp
    |succ j=>
     have:=h3 j;simp only[List.getElem?_cons_succ,List.length_cons,Nat.zero_le,true_and,Nat.zero_add,Nat.sub_zero]at this ⊢;rw[this]
     by_cases hj:j<ys.length
     ·rw[if_pos hj,if_pos (by omega)]
     ·rw[if_neg hj,if_neg (by omega)]
 |x::r,o+1,y::ys,cs',h=>by
  simp only[setAt]at h
  cases hg:setAt r o (y::ys) with
  |none=>simp[hg]at h
  |some l1=>
   simp only[hg,Option.some.injEq]at h;subst h;obtain⟨h1,h2,h3⟩:=setAt_spec r o (y::ys) l1 hg;refine⟨by simp[h1],fun hy=>by have:=h2 hy;simp at this ⊢;omega,fun j=>?_⟩
   cases j with
   |zero=>simp
   |succ j=>
    have:=h3 j;simp only[List.getElem?_cons_succ]at this ⊢;rw[this]
    by_cases hj:o≤j∧j<o+(y::ys).length
    ·rw[if_pos hj,if_pos (by omega)];congr 1;omega
    ·rw[if_neg hj,if_neg (by omega)]
theorem pCells_get:∀(xs:List PV) (j:Nat),(pCells xs)[j]?=(xs[j]?).map AV.p
 | [],j=>by simp[pCells]
 |x::r,0=>by simp[pCells]
 |x::r,j+1=>by simp[pCells,pCells_get r j]
theorem pCells_length (xs:List PV):(pCells xs).length=xs.length:=by
 induction xs with
 |nil=>rfl
 |cons x r ih=>simp[pCells,ih]
theorem copyAll_get:∀(xs:List AV) (j:Nat),(copyAll xs)[j]?=(xs[j]?).map AV.copy
 | [],j=>by simp[copyAll]
 |x::r,0=>by simp[copyAll]
 |x::r,j+1=>by simp[copyAll,copyAll_get r j]
theorem copyAll_length (xs:List AV):(copyAll xs).length=xs.length:=by
 induction xs with
 |nil=>rfl
 |cons x r ih=>simp[copyAll,ih]
theorem pure?_rel {g:Gh} {w:World} {dom:Nat→Prop} {ow:Option Owner} {v:Value} {x:AV} {z:Nat} {y:PV} (r:VRel g w dom ow v x) (h:x.pure? z=some y):PRel (imm g w) v y:=by
 cases r with
 |p _ _ _ h'=>simp[AV.pure?]at h;exact h ▸ h'
 |nilS=>
  simp only[AV.pure?,Option.some.injEq]at h;subst h
  cases z with
  |zero=>exact .nsl
  |succ z=>exact .nil _
 |es _ a cap sz hs=>simp[AV.pure?]at h;subst h;exact .sl a cap sz [] (fun _ _=>undef) hs (Nat.zero_le _) (by simp) (by simp) (by simp)
 |full _ a sz xs hz h'=>simp[AV.pure?]at h;exact h ▸ h'
 |vp _ a cs f hs hm hx=>simp[AV.pure?]at h;subst h;exact .bx a cs f hs hm hx
 |own o a cap sz xs cs E hz h'=>simp[AV.pure?]at h;exact h ▸ h'
 |_=>simp[AV.pure?]at h
theorem allPure_spec {g:Gh} {w:World} {dom:Nat→Prop}:∀(cs:List AV) (z:List Nat) (l:List PV),allPure cs z=some l→l.length=cs.length∧
 ∀(j:Nat) (v:Value) (ow:Option Owner) (c:AV) (y:PV),cs[j]?=some c→l[j]?=some y→VRel g w dom ow v c→PRel (imm g w) v y
 | [],z,l,h=>by simp[allPure]at h;subst h;simp
 |c::r,z,l,h=>by
  simp only[allPure]at h
  cases h1:c.pure? (headD z) with
  |none=>simp[h1]at h
  |some x=>
   cases h2:allPure r z.tail with
   |none=>simp[h1,h2]at h
   |some l1=>
    simp only[h1,h2,Option.some.injEq]at h;subst h;obtain⟨k1,k2⟩:=allPure_spec (g:=g) (w:=w) (dom:=dom) r z.tail l1 h2;refine⟨by simp[k1],fun j v ow c' y hc hy hr=>?_⟩
    cases j with
    |zero=>simp at hc hy;subst hc;subst hy;exact pure?_rel hr h1
    |succ j=>simp at hc hy;exact k2 j v ow c' y hc hy hr
theorem pureL_rel {g:Gh} {w:World} {dom:Nat→Prop} {ow:Option Owner} {v:Value} {x:AV} {z:List Nat} {y:PV} (r:VRel g w dom ow v x) (h:x.pureL z=some y):PRel (imm g w) v y:=by
 cases x with
 |agg cs=>
  cases r with
  |agg _ vs _ hl h1 hx=>
   simp only[AV.pureL]at h;split at h
   ·rename_i l hl2
    cases h;obtain⟨k1,k2⟩:=allPure_spec (g:=g) (w:=w) (dom:=dom) cs z l hl2;refine .agg vs l (hl.trans k1.symm) h1 fun j v y hv hy=>?_;have hj:j<cs.length:=by have:=(List.getElem?_eq_some_iff.1 hv).1;omega
    exact k2 j v none cs[j] y (by simp[hj]) hy (hx j v cs[j] hv (by simp[hj]))
   ·cases h
 |_=>exact pure?_rel (z:=headD z) r h
theorem aggTy_rel {ty:Nat→Option TI} {g:Gh} {w:World} {dom:Nat→Prop} {ow:Option Owner} {v:Value} {cs:List AV} (t:Nat) (r:VRel g w dom ow v (.agg cs)):VRel g w dom ow v (aggTy ty t cs):=by
 unfold aggTy;split
 ·rename_i i _
  split
  ·rename_i l hl
   exact .p _ _ _ (pureL_rel (z:=i.csz) r (by simp[AV.pureL,hl]))
  ·exact r
 ·exact r
theorem mkAgg_rel {g:Gh} {w:World} {dom:Nat→Prop} {ow:Option Owner} (vs:List Value) (cs:List AV) (z:List Nat) (hl:vs.length=cs.length) (h1:∀v∈vs,v.oneCell'=true)
 (hx:∀(j:Nat) (v:Value) (c:AV),vs[j]?=some v→cs[j]?=some c→∃ow',VRel g w dom ow' v c):VRel g w dom ow (.agg vs.toArray) (mkAgg cs z):=by
 unfold mkAgg
 cases h:allPure cs z with
 |some l=>
  obtain⟨k1,k2⟩:=allPure_spec (g:=g) (w:=w) (dom:=dom) cs z l h;refine .p _ _ _ (.agg vs l (hl.trans k1.symm) h1 fun j v y hv hy=>?_);have hj:j<cs.length:=by have:=(List.getElem?_eq_some_iff.1 hv).1;omega
  obtain⟨ow',hr⟩:=hx j v cs[j] hv (by simp[hj]);exact k2 j v ow' cs[j] y (by simp[hj]) hy hr
 |none=>
  refine .agg _ vs _ (by simp[copyAll_length,hl]) h1 fun j v c hv hc=>?_;rw[copyAll_get]at hc
  cases hcs:cs[j]? with
  |none=>simp[hcs]at hc
  |some c0=>
   simp only[hcs,Option.map_some,Option.some.injEq]at hc;subst hc;obtain⟨ow',hr⟩:=hx j v c0 hv hcs;exact hr.copy
theorem mkAggN_rel {g:Gh} {w:World} {dom:Nat→Prop} {ow:Option Owner} (vs:List Value) (cs:List AV) (z:List Nat) (hl:vs.length=cs.length) (h1:∀v∈vs,v.oneCell'=true)
 (hx:∀(j:Nat) (v:Value) (c:AV),vs[j]?=some v→cs[j]?=some c→∃ow',VRel g w dom ow' v c):VRel g w dom ow (.agg vs.toArray) (mkAggN cs z):=by
 unfold mkAggN;split
 ·refine .agg _ vs _ (by simp[copyAll_length,hl]) h1 fun j v c hv hc=>?_
  rw[copyAll_get]at hc
  cases hcs:cs[j]? with
  |none=>simp[hcs]at hc
  |some c0=>
   simp only[hcs,Option.map_some,Option.some.injEq]at hc;subst hc;obtain⟨ow',hr⟩:=hx j v c0 hv hcs;exact hr.copy
 ·exact mkAgg_rel vs cs z hl h1 hx
theorem cells?_rel {g:Gh} {w:World} {dom:Nat→Prop} {ow:Option Owner} {v:Value} {x:AV} {cs:List AV} (r:VRel g w dom ow v x) (h:x.cells?=some cs):
 v.cells.toList.length=cs.length∧(∀u∈v.cells.toList,u.oneCell'=true)∧
 ∀(j:Nat) (u:Value) (c:AV),v.cells.toList[j]?=some u→cs[j]?=some c→(cs=[x]∧j=0∧u=v∧c=x)∨VRel g w dom none u c:=by
 have one:∀{v:Value} {x:AV},v.oneCell'=true→(v.cells=#[v])→some [x]=some cs→v.cells.toList.length=cs.length∧(∀u∈v.cells.toList,u.oneCell'=true)∧
  ∀(j:Nat) (u:Value) (c:AV),v.cells.toList[j]?=some u→cs[j]?=some c→(cs=[x]∧j=0∧u=v∧c=x)∨VRel g w dom none u c:=by
  intro v x h1 hc hs;simp only[Option.some.injEq]at hs;subst hs;rw[hc];refine⟨rfl,by simpa using h1,fun j u c hu hcj=>.inl ?_⟩
  cases j with
  |zero=>simp at hu hcj;exact⟨rfl,rfl,hu.symm,hcj.symm⟩
  |succ j=>simp at hu
 cases r with
 |top=>simp[AV.cells?]at h
 |p _ _ y h'=>
  cases h' with
  |agg vs xs hl h1 hx=>
   simp only[AV.cells?,Option.some.injEq]at h;subst h;refine⟨by simp[Value.cells,pCells_length,hl],by simpa[Value.cells] using h1,fun j u c hu hc=>.inr ?_⟩;rw[pCells_get]at hc
   cases hxs:xs[j]? with
   |none=>simp[hxs]at hc
   |some y=>
    simp only[hxs,Option.map_some,Option.some.injEq]at hc;subst hc;exact .p _ _ _ (hx j u y (by simpa[Value.cells] using hu) hxs)
  |b x=>exact one rfl rfl h
  |i k n=>exact one rfl rfl h
  |s x=>exact one rfl rfl h
  |nil sz=>exact one rfl rfl h
  |sl a cap sz xs f=>exact one rfl rfl h
  |nilp=>exact one rfl rfl h
  |nsl=>exact one rfl rfl h
  |adr s k a C q=>exact one rfl rfl h
  |ads s k a n cap q hc=>exact one rfl rfl h
  |pa T o1 sz s k m c a C q=>exact one rfl rfl h
  |bx a cs f hs hm hx=>exact one rfl rfl h
  |ifv T v x hq=>exact one rfl rfl h
  |nifc=>exact one rfl rfl h
  |amp s k a C q=>exact one rfl rfl h
 |c _ _ h1=>exact one h1 (by cases v<;>first|rfl|simp[Value.oneCell']at h1) h
 |ifc _ b v h'=>exact one (ifc_cell h').1 (ifc_cell h').2 h
 |nilS=>exact one rfl rfl h
 |es=>exact one rfl rfl h
 |full=>exact one rfl rfl h
 |own=>exact one rfl rfl h
 |ptr=>exact one rfl rfl h
 |vp=>exact one rfl rfl h
 |agg _ vs cs' hl h1 hx=>
  simp only[AV.cells?,Option.some.injEq]at h;subst h;exact⟨by simp[Value.cells,hl],by simpa[Value.cells] using h1,fun j u c hu hc=>.inr (hx j u c (by simpa[Value.cells] using hu) hc)⟩
 |tup=>simp[AV.cells?]at h
 |ar=>exact one rfl rfl h
 |ap=>exact one rfl rfl h
 |fn=>exact one rfl rfl h
end Go.AM
namespace Go.AM
def World.push (w:World) (o:Obj):World:={ w with heap:=w.heap.push o }
theorem push_old {w:World} {o:Obj} {b:Nat} (h:b<w.heap.size):(World.push w o).heap[b]?=w.heap[b]?:=by
 show(w.heap.push o)[b]?=_;rw[Array.getElem?_push,if_neg (Nat.ne_of_lt h)]
theorem push_new {w:World} {o:Obj}:(World.push w o).heap[w.heap.size]?=some o:=by
 show(w.heap.push o)[w.heap.size]?=_;rw[Array.getElem?_push,if_pos rfl]
theorem push_size {w:World} {o:Obj}:(World.push w o).heap.size=w.heap.size+1:=by
 show(w.heap.push o).size=_;rw[Array.size_push]
theorem cell?_push_old {w:World} {o:Obj} {b i:Nat} (h:b<w.heap.size):(World.push w o).cell? ⟨b,i,none⟩=w.cell? ⟨b,i,none⟩:=by
 simp only[World.cell?,push_old h]
theorem cell?_lt {w:World} {b i:Nat} {v:Value} (h:w.cell? ⟨b,i,none⟩=some v):b<w.heap.size:=by
 rcases Nat.lt_or_ge b w.heap.size with h1|h1
 ·exact h1
 ·simp[World.cell?,Array.getElem?_eq_none h1]at h
def Gh.new (g:Gh) (B p:Nat) (o:Option Owner):Gh:=
 { pre:=fun b=>if b=B then p else g.pre b,own:=fun b=>if b=B then o else g.own b,ρ:=g.ρ,σ:=g.σ,sown:=g.sown }
def Gh.newObj (g:Gh) (B l:Nat):Gh:=
 { pre:=fun b=>if b=B then 0 else g.pre b,own:=fun b=>if b=B then some (.obj l) else g.own b,ρ:=fun k=>if k=l then B else g.ρ k,σ:=g.σ,sown:=g.sown }
theorem imm_lt {g:Gh} {w:World} {b o:Nat} {v:Value} (h:imm g w b o=some v):b<w.heap.size:=by
 simp only[imm_eq]at h;split at h
 ·exact cell?_lt h
 ·cases h
theorem imm_push {g g':Gh} {w:World} {ob:Obj} (hp:∀b,b<w.heap.size→g'.pre b=g.pre b) {b o:Nat} {v:Value} (h:imm g w b o=some v):imm g' (World.push w ob) b o=some v:=by
 have hb:=imm_lt h;simp only[imm_eq]at h ⊢;rw[hp b hb,cell?_push_old hb];exact h
theorem get_lt {w:World} {b:Nat} {x:Obj} (h:w.heap[b]?=some x):b<w.heap.size:=(Array.getElem?_eq_some_iff.1 h).1
theorem VRel.push {g g':Gh} {w:World} {ob:Obj} {dom dom':Nat→Prop} (hp:∀b,b<w.heap.size→g'.pre b=g.pre b∧g'.own b=g.own b)
 (hd:∀l,dom l→dom' l∧g'.ρ l=g.ρ l) (hbn:∀b o,g.own b=some o→b<w.heap.size)
 {ow:Option Owner} {v:Value} {x:AV} (r:VRel g w dom ow v x) (hsg:g'.σ=g.σ∧g'.sown=g.sown:=by exact⟨rfl,rfl⟩):VRel g' (World.push w ob) dom' ow v x:=
 r.keep (fun _ _ _ h=>imm_push (fun b hb=>(hp b hb).1) h) hd (fun l cs E h1 hb=>⟨cs,E,by rw[push_old (get_lt hb)];exact hb,rfl⟩)
  (fun o b _ ho=>by have:=hbn b o ho;exact⟨(hp b this).2.trans ho,(hp b this).1,push_old this⟩) (hsg:=fun s k a q=>by rw[hsg.1];exact q)
theorem PRel.push {g g':Gh} {w:World} {ob:Obj} (hp:∀b,b<w.heap.size→g'.pre b=g.pre b) {v:Value} {x:PV} (r:PRel (imm g w) v x) (hsg:g'.σ=g.σ:=by exact rfl):PRel (imm g' (World.push w ob)) v x:=
 r.mono (fun _ _ _ h=>imm_push hp h) (fun s k a q=>by show g'.σ s k=some a;rw[hsg];exact q)
theorem ORel.push {g g':Gh} {w:World} {ob:Obj} {dom dom':Nat→Prop} (hp:∀b,b<w.heap.size→g'.pre b=g.pre b∧g'.own b=g.own b)
 (hd:∀l,dom l→dom' l∧g'.ρ l=g.ρ l) (hbn:∀b o,g.own b=some o→b<w.heap.size)
 {l:Nat} (hdl:dom l) {o:AObj} (r:ORel g w dom l o) (hsg:g'.σ=g.σ∧g'.sown=g.sown:=by exact⟨rfl,rfl⟩):ORel g' (World.push w ob) dom' l o:=by
 have e:∀{x:Obj},w.heap[g.ρ l]?=some x→(World.push w ob).heap[g'.ρ l]?=some x:=fun h=>by rw[(hd l hdl).2,push_old (get_lt h)];exact h
 cases r with
 |cells cs vs E hb hlen hx h1=>exact .cells cs vs E (e hb) hlen (fun j v c a b=>(hx j v c a b).push hp hd hbn hsg) h1
 |arr xs vs E hb hlen hx h1=>exact .arr xs vs E (e hb) hlen (fun j v c a b=>(hx j v c a b).push (fun b hb=>(hp b hb).1) hsg.1) h1
 |glob gb gvs hgl=>exact ORel.globM hgl (fun h1 hlt _=>⟨push_old hlt,((hp gb hlt).2).trans h1⟩)
 |store T3 o3 sp3 nx3 z3 M3 hst=>exact .store T3 o3 sp3 nx3 z3 M3 (hst.mono (fun _ _ _ h=>imm_push (fun b hb=>(hp b hb).1) h) (fun bb hbb=>⟨((hp bb (hbn bb _ hbb)).2).trans hbb,push_old (hbn bb _ hbb),(hp bb (hbn bb _ hbb)).1⟩) (by rw[hsg.2];exact hst.sown) (fun s k a q=>by rw[hsg.1];exact q) (fun k=>by rw[hsg.1]))
theorem Sim.pushOwn {g:Gh} {w:World} {n:Nat} {a:Act} {e:Env} {h:Heap} (s:Sim g w n a e h) (ob:Obj) (p:Nat) (o:Option Owner):
 Sim (g.new w.heap.size p o) (World.push w ob) n a e h:=by
 have hp:∀b,b<w.heap.size→(g.new w.heap.size p o).pre b=g.pre b∧(g.new w.heap.size p o).own b=g.own b:=fun b hb=>by simp[Gh.new,Nat.ne_of_lt hb]
 have hd:∀l,domOf h l→domOf h l∧(g.new w.heap.size p o).ρ l=g.ρ l:=fun l hl=>⟨hl,rfl⟩
 refine⟨s.defers,s.size,fun i=>(s.env i).push hp hd s.bnd,⟨fun l x hx=>?_,fun l x hx hq=>?_,fun l x hx hq=>?_⟩,fun b x hx=>?_⟩
 ·have hdl:domOf h l:=by simp[domOf,hx]
  exact(s.heap.obj l x hx).push hp hd s.bnd hdl
 ·have this:=s.heap.own l x hx hq
  show(g.new w.heap.size p o).own (g.ρ l)=_;rw[(hp _ (s.bnd _ _ this)).2];exact this
 ·have this:=s.heap.own l x hx hq
  show(g.new w.heap.size p o).pre (g.ρ l)=_;rw[(hp _ (s.bnd _ _ this)).1];exact s.heap.pre l x hx hq
 ·rw[push_size]
  by_cases hb:b=w.heap.size
  ·omega
  ·have:(g.new w.heap.size p o).own b=g.own b:=by simp[Gh.new,hb]
   rw[this]at hx;have:=s.bnd b x hx;omega
theorem frozen_push {w:World} {cs:Array Value} {E:TypeId} (a:Addr):(World.push w (.cells cs E (0,0))).frozen? a=w.frozen? a:=by
 by_cases h:a.block=w.heap.size
 ·simp[World.frozen?,h,push_new]
 ·have:(World.push w (.cells cs E (0,0))).heap[a.block]?=w.heap[a.block]?:=by
   rcases Nat.lt_or_gt_of_ne h with h1|h1
   ·exact push_old h1
   ·rw[Array.getElem?_eq_none (by rw[push_size];omega),Array.getElem?_eq_none (by omega)]
  simp[World.frozen?,this]
theorem frozen_push_map {w:World} {es:Array MapEntry} {c:Nat} (a:Addr):(World.push w (.map es c)).frozen? a=w.frozen? a:=by
 by_cases h:a.block=w.heap.size
 ·simp[World.frozen?,h,push_new]
 ·have:(World.push w (.map es c)).heap[a.block]?=w.heap[a.block]?:=by
   rcases Nat.lt_or_gt_of_ne h with h1|h1
   ·exact push_old h1
   ·rw[Array.getElem?_eq_none (by rw[push_size];omega),Array.getElem?_eq_none (by omega)]
  simp[World.frozen?,this]
theorem Ext.push {g g':Gh} {w:World} {ob:Obj} (hp:∀b,b<w.heap.size→g'.pre b=g.pre b∧g'.own b=g.own b) (hf:∀a,(World.push w ob).frozen? a=w.frozen? a) (hρ:∀l,bigId≤l→g'.ρ l=g.ρ l) (hsg:g'.σ=g.σ∧g'.sown=g.sown:=by exact⟨rfl,rfl⟩):Ext g w g' (World.push w ob):=
 ⟨by rw[push_size];omega,rfl,rfl,fun _ _ _ h=>imm_push (fun b hb=>(hp b hb).1) h,
   fun b hb ho=>⟨push_old hb,(hp b hb).1,(hp b hb).2.trans ho⟩,SgLe.of hsg.1 hsg.2,fun a _=>hf a,hρ,fun b cs E hb=>⟨cs,E,by rw[push_old (Array.getElem?_eq_some_iff.1 hb).1];exact hb,rfl⟩⟩
theorem newObj_ρ {g:Gh} {B d:Nat} (hd:d<bigId) (l:Nat) (hl:bigId≤l):(g.newObj B d).ρ l=g.ρ l:=by
 have:l≠d:=by omega
 simp[Gh.newObj,this]
theorem freshId_spec {h:Heap} {d:Nat} (hf:freshId h d=true):hget h d=none∧d<bigId:=by
 unfold freshId at hf;split at hf
 ·rename_i hn;exact⟨hn,by rw[Nat.blt_eq]at hf;exact hf⟩
 ·cases hf
theorem Sim.pushObj {g:Gh} {w:World} {n:Nat} {a:Act} {e:Env} {h:Heap} (s:Sim g w n a e h) {d:Nat} (hd0:hget h d=none) (ob:Obj) (x:AObj)
 (hx:∀dom',(∀l,domOf h l→dom' l)→(∀{ow v y},VRel g w (domOf h) ow v y→VRel (g.newObj w.heap.size d) (World.push w ob) dom' ow v y)→ORel (g.newObj w.heap.size d) (World.push w ob) dom' d x):
 Sim (g.newObj w.heap.size d) (World.push w ob) n a e ((d,x)::h):=by
 have hne:∀l,domOf h l→l≠d:=fun l hl he=>by subst he;simp[domOf,hd0]at hl
 have hp:∀b,b<w.heap.size→(g.newObj w.heap.size d).pre b=g.pre b∧(g.newObj w.heap.size d).own b=g.own b:=fun b hb=>by simp[Gh.newObj,Nat.ne_of_lt hb]
 have hdm:∀l,domOf h l→domOf ((d,x)::h) l:=fun l hl=>by
  unfold domOf at hl ⊢;rw[hget_ne (fun e=>hne l hl e.symm)];exact hl
 have hd:∀l,domOf h l→domOf ((d,x)::h) l∧(g.newObj w.heap.size d).ρ l=g.ρ l:=fun l hl=>⟨hdm l hl,by simp[Gh.newObj,hne l hl]⟩
 refine⟨s.defers,s.size,fun i=>(s.env i).push hp hd s.bnd,⟨fun l y hy=>?_,fun l y hy hq=>?_,fun l y hy hq=>?_⟩,fun b y hy=>?_⟩
 ·by_cases e:d=l
  ·subst e
   rw[hget_self]at hy;cases hy;exact hx _ hdm (fun r=>r.push hp hd s.bnd)
  ·rw[hget_ne e]at hy
   have hdl:domOf h l:=by simp[domOf,hy]
   exact(s.heap.obj l y hy).push hp hd s.bnd hdl
 ·by_cases e:d=l
  ·subst e;simp[Gh.newObj]
  ·rw[hget_ne e]at hy
   have hdl:domOf h l:=by simp[domOf,hy]
   have this:=s.heap.own l y hy hq;rw[(hd l hdl).2,(hp _ (s.bnd _ _ this)).2];exact this
 ·by_cases e:d=l
  ·subst e;simp[Gh.newObj]
  ·rw[hget_ne e]at hy
   have hdl:domOf h l:=by simp[domOf,hy]
   have this:=s.heap.own l y hy hq;rw[(hd l hdl).2,(hp _ (s.bnd _ _ this)).1];exact s.heap.pre l y hy hq
 ·rw[push_size]
  by_cases hb:b=w.heap.size
  ·omega
  ·have:(g.newObj w.heap.size d).own b=g.own b:=by simp[Gh.newObj,hb]
   rw[this]at hy;have:=s.bnd b y hy;omega
def Gh.relabel (g:Gh) (b:Nat) (o:Owner):Gh:={ g with own:=fun b'=>if b'=b then some o else g.own b' }
theorem VRel.relabel {g:Gh} {w:World} {dom:Nat→Prop} {b:Nat} {o o':Owner} (hb:g.own b=some o) {ow:Option Owner} (hne:ow≠some o) {v:Value} {x:AV} (r:VRel g w dom ow v x):
 VRel (g.relabel b o') w dom ow v x:=
 VRel.keep (g:=g) (g':=g.relabel b o') (w:=w) (w':=w) (fun _ _ _ h=>h) (fun l hl=>⟨hl,rfl⟩) (fun l cs E _ h=>⟨cs,E,h,rfl⟩) (fun o1 b1 e1 h1=>by
  have:b1≠b:=fun e=>by subst e;rw[hb]at h1;cases h1;exact hne e1
  exact⟨by simp[Gh.relabel,this,h1],rfl,rfl⟩) r
theorem Ext.relabel {g:Gh} {w:World} {b:Nat} {o o':Owner} (hb:g.own b=some o):Ext g w (g.relabel b o') w:=
 ⟨Nat.le_refl _,rfl,rfl,fun _ _ _ h=>h,fun b1 _ ho=>⟨rfl,rfl,by
   have:b1≠b:=fun e=>by subst e;rw[hb]at ho;cases ho
   simp[Gh.relabel,this,ho]⟩,SgLe.of rfl rfl,fun _ _=>rfl,fun _ _=>rfl,fun b cs E hb=>⟨cs,E,hb,rfl⟩⟩
theorem HRel.relabel {g:Gh} {w:World} {h:Heap} (r:HRel g w h) {b t:Nat} {o':Owner} (hb:g.own b=some (.slot t)):HRel (g.relabel b o') w h:=by
 have hne:∀l x,hget h l=some x→x.solid=true→g.ρ l≠b:=fun l x hx hq e=>by have:=r.own l x hx hq;rw[e,hb]at this;cases this
 refine⟨fun l x hx=>?_,fun l x hx hq=>?_,fun l x hx hq=>r.pre l x hx hq⟩
 ·cases r.obj l x hx with
  |cells cs vs E hb' hl hx' h1=>exact .cells cs vs E hb' hl (fun j v c a b=>(hx' j v c a b).relabel hb (by simp)) h1
  |arr xs vs E hb' hl hx' h1=>exact .arr xs vs E hb' hl hx' h1
  |glob gb gvs hgl=>exact ORel.globM hgl (fun h1 _ _=>⟨rfl,by have hne:gb≠b:=(fun e=>by subst e;rw[hb]at h1;cases h1);simp[Gh.relabel,hne,h1]⟩)
  |store T3 o3 sp3 nx3 z3 M3 hst=>exact .store T3 o3 sp3 nx3 z3 M3 (hst.mono (fun _ _ _ q=>q) (fun bb hbb=>⟨by have hne:bb≠b:=(fun e=>by subst e;rw[hb]at hbb;cases hbb);simp[Gh.relabel,hne,hbb],rfl,rfl⟩) hst.sown)
 ·have:=r.own l x hx hq
  show(g.relabel b o').own (g.ρ l)=_;simp[Gh.relabel,hne l x hx hq,this]
end Go.AM
