/- Part of a machine over plain values. No conditions. -/
import Derived.Test.YtdmopjgjhfhfdaaGreatDoorAMMv
namespace Go.AM
def APan (P:Program) (f:Nat) (args:List AV) (hs:Heap) (v:Value):Prop:=
 hasBody P f∧∀(g:Gh) (w:World) (vs:List Value),HRel g w hs→(∀b ow,g.own b=some ow→b<w.heap.size)→vs.length=args.length→(∀(j:Nat) (v:Value) (x:AV),vs[j]?=some v→args[j]?=some x→VRel g w (domOf hs) none v x)→
  Calls P f vs.toArray w fun en w'=>en=.panicked [{ v:=v,recovered:=false }]∧∃g',Ext g w g' w'
inductive pcallP (P:Program) (KP:List Nat→Value→Prop) (f:Nat) (args:List AV) (h:Heap):Prop
 |mem (R:List Nat) (hs:Heap) (v:Value) (h1:(AV.withins (memB R) args&&nodupB R)=true) (h2:subH h (toBig R 0) (memB R) R 0=some hs) (s:APan P f (AV.rens (toBig R 0) args) hs v) (hk:KP R v)
def callX (P:Program) (KP:List Nat→Value→Prop) (f:Nat) (args:List AV) (h:Heap) (K:List Nat→Heap→AV→Prop):Prop:=pcall P f args h K∨pcallP P KP f args h
def PanQ (v:Value) (g:Gh) (a:Act) (w:World):Exit→Act→World→Prop:=fun x a' w'=>x=.panic [{ v:=v,recovered:=false }]∧a'=a∧∃g',Ext g w g' w'
def OpPan (P:Program) (n:Nat) (o:Oper) (e:Env) (h:Heap) (rd:List Nat) (v:Value):Prop:=
 ∀e' h',(∀t∈slotsOf o,eget e' t=eget e t)→(∀l∈rd,hget h' l=hget h l)→
  ∀g w a,Sim g w n a e' h'→o.wp P a w (fun _ _=>False) (PanQ v g a w)
section
variable {P:Program} {ty:Nat→Option TI} {n:Nat}
theorem ext_lend {g g':Gh} {w w':World} {R:List Nat} (hE:Ext (g.lend R) w g' w'):∃G,Ext g w G w':=by
 refine⟨{ pre:=g'.pre,own:=g.own,ρ:=g.ρ,σ:=g'.σ,sown:=g.sown },hE.size,hE.os,hE.out,fun b o v hv=>?_,fun b hb ho=>?_,⟨hE.frz.1,rfl,fun s q k=>hE.frz.2.2 s (by show lendS R (g.sown s)=none;rw[q];rfl) k⟩,hE.frz',fun _ _=>rfl,hE.siz⟩
 ·have:=hE.imm b o v hv
  exact this
 ·have:=hE.kept b hb (by show lendOwn R (g.own b)=none;rw[ho];rfl)
  exact⟨this.1,this.2.1,ho⟩
theorem aCall_pan {o:Oper} {e:Env} {h:Heap} {as:List Operand} {ts:List Nat} {f:Nat} {first caps:List AV} (hx:IsCall P e o as ts f first caps) {KP:List Nat→Value→Prop}
 (hk:pcallP P KP f (first++argOf ty e as ts++caps) h):∃rd v,KP rd v∧OpPan P n o e h rd v:=by
 obtain⟨R,hs,v,ck1,hsub,⟨hb,hcall⟩,hk⟩:=hk;refine⟨R,v,hk,fun e' h' he hl g w a s=>?_⟩;simp only[Bool.and_eq_true]at ck1;obtain⟨ckw,ckn⟩:=ck1;have hn:=nodupB_spec ckn;have hsub':subH h' (toBig R 0) (memB R) R 0=some hs:=by rw[subH_congr R 0 hl];exact hsub
 obtain⟨cvs,hrun,k1,k2⟩:=hx.args hb s he
 have hargs:=hcall (g.lend R) w cvs (s.heap.lend hn hsub') (fun b q hq=>by
  have hq:lendOwn R (g.own b)=some q:=hq
  cases hg:g.own b with
  |none=>rw[hg]at hq;simp[lendOwn]at hq
  |some q'=>exact s.bnd b q' hg) (by rw[k1,rens_length]) (fun j v y q1 q2=>by
  rw[rens_get]at q2
  cases hq:(first++argOf ty e as ts++caps)[j]? with
  |none=>rw[hq]at q2;cases q2
  |some c0=>
   rw[hq,Option.map_some,Option.some.injEq]at q2;subst q2;have hr0:=k2 j v c0 q1 hq;exact VRel.lend hn hsub' (fun q e1=>by cases e1) hr0 (withins_get _ _ ckw j c0 hq))
 simp only[Oper.wp,hrun,Oper.upon];refine hargs.mono ?_;rintro en w' ⟨rfl,g',hE⟩;exact⟨rfl,rfl,ext_lend hE⟩
theorem aopX_sound (hty:TyOK P ty) {mv:Nat→Bool} {o:Oper} {e:Env} {h:Heap} {K:AK} {KP:List Nat→Value→Prop} (hd:∀d,o.dst=some d→d<n) (hst:∀t x y,o.op=.store t x y→o.dst=none) (hst2:∀t m k v,o.op=.mapUpdate t m k v∨o.op=.insert t m k v→o.dst=none) (hk:aop ty (callX P KP) mv o e h K):(∃f,K f∧OpOK P n o e h f)∨(∃rd v,KP rd v∧OpPan P n o e h rd v):=by
 unfold aop at hk;split at hk
 ·exact .inl (aopD_sound hty hd hst hst2 hk)
 unfold aopO at hk;split at hk
 ·rename_i t ho;exact .inl (aMove_sound hd (.inl ho) hk)
 ·rename_i x hx ho;exact .inl (operand_sound hd (.inl ho) (fun t q=>hx t q) hk)
 ·rename_i t ho;exact .inl (aMove_sound hd (.inr ho) hk)
 ·rename_i x hx ho;exact .inl (operand_sound hd (.inr ho) (fun t q=>hx t q) hk)
 ·rename_i c x y ho
  split at hk
  ·rename_i gd hc;exact .inl (aPick_sound hd ho hc hk)
  ·exact hk.elim
 ·rename_i t ho;exact .inl (aAlloc_sound hty hd ho hk)
 ·rename_i t x ho;exact .inl (aBox_sound hd ho hk)
 ·rename_i t parts ho;exact .inl (aBuild_sound hty hd ho hk)
 ·rename_i t len parts ho;exact .inl (aBuildSlice_sound hty hd ho hk)
 ·rename_i t x ho;exact .inl (aLoad_sound hty hd ho hk)
 ·rename_i t x y ho;exact .inl (aStore_sound hty ho (hst _ _ _ ho) hk)
 ·rename_i x ho;exact .inl (aNil_sound hd ho hk)
 ·rename_i op t x t' ho
  split at hk
  ·rename_i b hx;exact .inl (aIfc_sound hty hd hx hk ho)
  ·exact hk.elim
 ·rename_i op t x y t' _ ho;exact .inl (aBin_sound hty hd ho hk)
 ·rename_i op t x ho;exact .inl (aUn_sound hd ho hk)
 ·rename_i src dst x ho;exact .inl (aConv_sound hty hd ho hk)
 ·rename_i f first caps ho;exact .inl (aFunc_sound hd ho hk)
 ·rename_i t st lo ho
  split at hk
  ·rename_i sz xs hx;exact .inl (aSliceO_sound hty hd ho hx hk)
  ·rename_i l sz m hx;exact .inl (aSliceT_sound hty hd ho hx hk)
  ·exact .inl (aSlice_sound hty hd ho hk)
 ·rename_i t st u ho
  split at hk
  ·rename_i l sz m hx;exact .inl (aSliceA_sound hty hd ho hx hk)
  ·rename_i l hx;exact .inl (aSliceR_sound hty hd ho hx hk)
  ·exact .inl (aSlice_sound hty hd ho hk)
 ·rename_i t x lo hi _ _ ho;exact .inl (aSlice_sound hty hd ho hk)
 ·rename_i s x f ho;exact .inl (aFieldAddr_sound hty hd ho hk)
 ·rename_i t x f ho
  exact .inl (aField_sound hty hd ho hk)
 ·rename_i t x ix ho;exact .inl (aIndexAddr_sound hty hd ho hk)
 ·rename_i x m ho;exact .inl (aExtract_sound hd ho hk)
 ·rename_i x t ts ho;exact .inl (aLen_sound hty hd ho hk)
 ·rename_i x y t t2 ho;exact .inl (aAppend_sound hty hd ho hk)
 ·rename_i x y ts ho;exact .inl (aMin_sound hd ho hk)
 ·rename_i x y ts ho;exact .inl (aMax_sound hd ho hk)
 ·rename_i x y z ts ho;exact .inl (aMax3_sound hd ho hk)
 ·rename_i x t ts ho;exact .inl (aClear_sound hty ho hk)
 ·rename_i x as ts ho
  split at hk
  ·rename_i f first caps hx;rcases hk with hk|hk
   ·exact .inl (aCall_sound hd (.value x ho hx) hk)
   ·exact .inr (aCall_pan (.value x ho hx) hk)
  ·exact hk.elim
 ·rename_i x name as ts ho
  split at hk
  ·rename_i T y hx
   split at hk
   ·rename_i f hm;rcases hk with hk|hk
    ·exact .inl (aCall_sound hd (.invoke x name T y ho hx (methOf_spec hty hm) rfl rfl) hk)
    ·exact .inr (aCall_pan (.invoke x name T y ho hx (methOf_spec hty hm) rfl rfl) hk)
   ·exact hk.elim
  ·exact hk.elim
 ·rename_i t ho;exact .inl (aMakeMap_sound hty hd ho hk)
 ·rename_i t m k ok ho;exact .inl (aLookup_sound hty hd ho hk)
 ·rename_i t m k v ho;exact .inl (aMapUpdate_sound hty (.inl ho) (hst2 _ _ _ _ (.inl ho)) hk)
 ·rename_i t m k v ho;exact .inl (aMapUpdate_sound hty (.inr ho) (hst2 _ _ _ _ (.inr ho)) hk)
 ·rename_i t x y ho;exact .inl (aMakeSlice_sound hty hd ho hk)
 ·rename_i t x ix ho;exact .inl (aIndex_sound hty hd ho hk)
 ·exact hk.elim
def QOfP (n:Nat) (K:Exit→Env→Heap→Prop) (KP:Value→Prop) (g0:Gh) (w0:World):Exit→Act→World→Prop:=fun x a w=>match x with
 |.panic chain=>a.defers=[]∧∃v,chain=[{ v:=v,recovered:=false }]∧KP v∧∃g,Ext g0 w0 g w
 |x=>∃g e h,K x e h∧Sim g w n a e h∧Ext g0 w0 g w
theorem PanQ.q {K:Exit→Env→Heap→Prop} {KP:Value→Prop} {v:Value} {g0 g:Gh} {w0 w:World} {a0:Act} (hd:a0.defers=[]) (hk:KP v) (hE:Ext g0 w0 g w) {x:Exit} {a:Act} {w':World} (h:PanQ v g a0 w x a w'):QOfP n K KP g0 w0 x a w':=by
 obtain⟨rfl,rfl,g',hE'⟩:=h;exact⟨hd,v,rfl,hk,g',hE.trans hE'⟩
theorem Oper.wp_pan {o:Oper} {a:Act} {w:World} {K:Act→World→Prop} {Q Q':Exit→Act→World→Prop} (hh:o.wp P a w (fun _ _=>False) Q) (hq:∀x a w,Q x a w→Q' x a w):o.wp P a w K Q':=by
 unfold Oper.wp at *;generalize (execOp a.eval o).run P w=r at *;unfold Oper.upon at *;split at hh
 ·exact hh.elim
 ·exact hh.elim
 ·exact hh.elim
 ·refine hh.mono ?_
  rintro en w' hen
  cases en with
  |returned v=>exact hen.elim
  |panicked c=>exact hq _ _ _ hen
  |outgrown=>
   obtain⟨a',w'',h⟩:=hen;exact⟨a',w'',hq _ _ _ h⟩
 ·exact hh.mono (fun v w' h=>h.elim)
 ·exact hq _ _ _ hh
 ·exact hh.elim
theorem aopsP_sound (hty:TyOK P ty) {ops:Array Oper} (hok:ops.toList.all (okOp n)=true) {K:Exit→Env→Heap→Prop} {KP:Value→Prop} {g0:Gh} {w0:World}:∀(l:List Oper) (k:Nat) (e:Env) (h:Heap) (g:Gh) (w:World) (a:Act),
 (∀j,j<l.length→l[j]?=ops[k+j]?)→aops ty (callX P fun _ v=>KP v) ops.toList l e h (fun e h=>K .normal e h)→Sim g w n a e h→Ext g0 w0 g w→wpOps P ops (QOfP n K KP g0 w0) (List.range' k l.length) a w
 | [],k,e,h,g,w,a,_,hk,s,hE=>⟨g,e,h,hk,s,hE⟩
 |o::r,k,e,h,g,w,a,hl,hk,s,hE=>by
  have ho:ops[k]?=some o:=by have:=hl 0 (by simp);simpa using this.symm
  have hmem:o∈ops.toList:=by rw[←Array.getElem?_toList]at ho;exact List.mem_of_getElem? ho
  have hoko:okOp n o=true:=List.all_eq_true.1 hok o hmem;have hrest:∀j,j<r.length→r[j]?=ops[k+1+j]?:=fun j hj=>by have:=hl (j+1) (by simp;omega);rw[show k+1+j=k+(j+1) by omega,←this];simp
  simp only[List.length_cons,List.range'_succ];rw[wpOps_cons];simp only[wpOp,ho];rw[aops_cons]at hk;rcases guard_sound hk s with⟨hw,e1,hk,hee⟩|⟨hw,e1,hk,hee⟩
  ·rw[if_pos hw]
   left
   have s1:=s.envEq hee;rcases aopX_sound hty (okOp_dst hoko) (okOp_store hoko) (okOp_map hoko) hk with⟨f,hk,hop⟩|⟨rd,v,hkp,hop⟩
   ·simp only[pushE_iff,pushH_iff]at hk
    refine Oper.wp_monoQ (Oper.wp_mono ?_ (hop e1 h (fun _ _=>rfl) (fun _ _=>rfl) g w a s1));rintro a' w' ⟨g',s',hE'⟩;exact aopsP_sound hty hok r (k+1) _ _ g' w' a' hrest hk s' (hE.trans hE')
   ·exact Oper.wp_pan (hop e1 h (fun _ _=>rfl) (fun _ _=>rfl) g w a s1) (fun x a w h=>h.q s.defers hkp hE)
  ·rw[if_neg (by rw[hw];simp)]
   have s1:=s.envEq hee;unfold putT at hk;split at hk
   ·rename_i d hd
    rw[hd];exact aopsP_sound hty hok r (k+1) _ _ g w _ hrest hk (s1.put (okOp_dst hoko d hd) VRel.und0) hE
   ·rename_i hd
    rw[hd];exact aopsP_sound hty hok r (k+1) _ _ g w _ hrest hk s1 hE
end
end Go.AM
namespace Go.AM
section
variable {P:Program} {ty:Nat→Option TI} {n:Nat}
def deadB (dl:List Nat) (o:Oper):Bool:=match dl with
 | []=>false
 |d::r=>o.after.toList.any fun x=>Region.binds .any x&&memB (d::r) x.on
theorem deadB_spec {dl:List Nat} {o:Oper} (h:deadB dl o=true):∃x∈o.after,Region.binds .any x=true∧x.on∈dl:=by
 unfold deadB at h;split at h
 ·cases h
 ·obtain⟨x,hx,hb⟩:=List.any_eq_true.1 h
  simp only[Bool.and_eq_true]at hb;exact⟨x,by simpa using hx,hb.1,memB_mem _ _ hb.2⟩
noncomputable def aopsD (ty:Nat→Option TI) (P:Program) (KP:Value→Prop) (all:List Oper) (l:List Oper):Nat→List Nat→Env→Heap→List (Option Eff)→(Env→Heap→List (Option Eff)→List Nat→Prop)→Prop:=
 @List.rec Oper (fun _=>Nat→List Nat→Env→Heap→List (Option Eff)→(Env→Heap→List (Option Eff)→List Nat→Prop)→Prop)
  (fun _ dl e h rs K=>K e h rs dl)
  (fun o _ ih i dl e h rs K=>match deadB dl o with
    |true=>ih (i+1) (i::dl) e h (some ⟨[],[],[]⟩::rs) K
    |false=>guardOf all o e (fun e=>putT o e fun e=>ih (i+1) dl e h (none::rs) K) fun e=>
     aop ty (callX P fun rd v=>KP v∧ih (i+1) (i::dl) e h (some ⟨rd,[],[]⟩::rs) K) (moved all) o e h fun f=>pushE f.ew e fun e=>pushH f.hw h fun h=>ih (i+1) dl e h (some f::rs) K) l
theorem aopsD_cons (KP:Value→Prop) (all:List Oper) (o:Oper) (r:List Oper) (i:Nat) (dl:List Nat) (e:Env) (h:Heap) (rs:List (Option Eff)) (K:Env→Heap→List (Option Eff)→List Nat→Prop):aopsD ty P KP all (o::r) i dl e h rs K=
 match deadB dl o with
  |true=>aopsD ty P KP all r (i+1) (i::dl) e h (some ⟨[],[],[]⟩::rs) K
  |false=>guardOf all o e (fun e=>putT o e fun e=>aopsD ty P KP all r (i+1) dl e h (none::rs) K) fun e=>
   aop ty (callX P fun rd v=>KP v∧aopsD ty P KP all r (i+1) (i::dl) e h (some ⟨rd,[],[]⟩::rs) K) (moved all) o e h fun f=>pushE f.ew e fun e=>pushH f.hw h fun h=>aopsD ty P KP all r (i+1) dl e h (some f::rs) K:=rfl
inductive PathX (P:Program) (n:Nat) (KP:Value→Prop) (all:List Oper):List Oper→Nat→List Nat→Env→Heap→List (Option Eff)→List Nat→Prop
 |nil (i:Nat) (dl:List Nat) (e:Env) (h:Heap):PathX P n KP all [] i dl e h [] dl
 |step (o:Oper) (r:List Oper) (i:Nat) (dl dl':List Nat) (e:Env) (h:Heap) (f:Option Eff) (fs:List (Option Eff)) (h0:StepOK P n all o e h f) (h1:PathX P n KP all r (i+1) dl ((wrE o f).reverse++e) ((wrH f).reverse++h) fs dl'):PathX P n KP all (o::r) i dl e h (f::fs) dl'
 |pan (o:Oper) (r:List Oper) (i:Nat) (dl dl':List Nat) (e:Env) (h:Heap) (rd:List Nat) (v:Value) (fs:List (Option Eff)) (hg:guardA all o e=some true) (hk:KP v) (hop:OpPan P n o e h rd v) (h1:PathX P n KP all r (i+1) (i::dl) e h fs dl'):PathX P n KP all (o::r) i dl e h (some ⟨rd,[],[]⟩::fs) dl'
 |dead (o:Oper) (r:List Oper) (i:Nat) (dl dl':List Nat) (e:Env) (h:Heap) (fs:List (Option Eff)) (h0:deadB dl o=true) (h1:PathX P n KP all r (i+1) (i::dl) e h fs dl'):PathX P n KP all (o::r) i dl e h (some ⟨[],[],[]⟩::fs) dl'
theorem OpPan.congr {o:Oper} {e e':Env} {h h':Heap} {rd:List Nat} {v:Value} (hp:OpPan P n o e h rd v) (he:∀t∈slotsOf o,eget e' t=eget e t) (hh:∀l∈rd,hget h' l=hget h l):OpPan P n o e' h' rd v:=
 fun e2 h2 he2 hh2=>hp e2 h2 (fun t ht=>(he2 t ht).trans (he t ht)) (fun l hl=>(hh2 l hl).trans (hh l hl))
theorem PathX.sub {KP:Value→Prop} {all:List Oper}:∀{l:List Oper} {i:Nat} {dl:List Nat} {e:Env} {h:Heap} {fs:List (Option Eff)} {dl':List Nat},PathX P n KP all l i dl e h fs dl'→(∀d∈dl,d∈dl')∧(∀d∈dl',d∈dl∨(i≤d∧d<i+l.length)):=by
 intro l i dl e h fs dl' hp
 induction hp with
 |nil=>exact⟨fun d h=>h,fun d h=>.inl h⟩
 |step o r i dl dl' e h f fs h0 h1 ih=>
  refine⟨ih.1,fun d hd=>?_⟩;rcases ih.2 d hd with q|q
  ·exact .inl q
  ·exact .inr (by simp only[List.length_cons];omega)
 |pan o r i dl dl' e h rd v fs hg hk hop h1 ih=>
  refine⟨fun d hd=>ih.1 d (by simp[hd]),fun d hd=>?_⟩;rcases ih.2 d hd with q|q
  ·rcases List.mem_cons.1 q with q|q
   ·exact .inr (by simp only[List.length_cons];omega)
   ·exact .inl q
  ·exact .inr (by simp only[List.length_cons];omega)
 |dead o r i dl dl' e h fs h0 h1 ih=>
  refine⟨fun d hd=>ih.1 d (by simp[hd]),fun d hd=>?_⟩;rcases ih.2 d hd with q|q
  ·rcases List.mem_cons.1 q with q|q
   ·exact .inr (by simp only[List.length_cons];omega)
   ·exact .inl q
  ·exact .inr (by simp only[List.length_cons];omega)
theorem PathX.lt {KP:Value→Prop} {all l:List Oper} {e:Env} {h:Heap} {fs:List (Option Eff)} {dl:List Nat} (hp:PathX P n KP all l 0 [] e h fs dl):∀i∈dl,i<l.length:=fun i hi=>by
 rcases hp.sub.2 i hi with q|q
 ·cases q
 ·omega
theorem PathX.plain {KP:Value→Prop} {all:List Oper}:∀{l:List Oper} {i:Nat} {dl:List Nat} {e:Env} {h:Heap} {fs:List (Option Eff)} {dl':List Nat},PathX P n KP all l i dl e h fs dl'→dl'=[]→Path P n all l e h fs:=by
 intro l i dl e h fs dl' hp
 induction hp with
 |nil i dl e h=>intro _;exact .nil e h
 |step o r i dl dl' e h f fs h0 h1 ih=>intro q;exact .cons o r e h f fs h0 (ih q)
 |pan o r i dl dl' e h rd v fs hg hk hop h1 ih=>intro q;have:=h1.sub.1 i (by simp);rw[q]at this;cases this
 |dead o r i dl dl' e h fs h0 h1 ih=>intro q;have:=h1.sub.1 i (by simp);rw[q]at this;cases this
theorem PathX.atK {KP:Value→Prop} {all:List Oper}:∀{l:List Oper} {k:Nat} {dl:List Nat} {e:Env} {h:Heap} {fs:List (Option Eff)} {dl':List Nat},PathX P n KP all l k dl e h fs dl'→(∀d∈dl,d<k)→∀(j:Nat) (o:Oper) (f:Option Eff),l[j]?=some o→fs[j]?=some f→
 (k+j∉dl'∧StepOK P n all o (envL (ewS l fs) (fun i=>decide (i<k+j)) k e) (heapL (hwS fs) (fun i=>decide (i<k+j)) k h) f)∨
 (∃rd v,k+j∈dl'∧f=some ⟨rd,[],[]⟩∧guardA all o (envL (ewS l fs) (fun i=>decide (i<k+j)) k e)=some true∧KP v∧OpPan P n o (envL (ewS l fs) (fun i=>decide (i<k+j)) k e) (heapL (hwS fs) (fun i=>decide (i<k+j)) k h) rd v)∨
 (∃x∈o.after,Region.binds .any x=true∧x.on∈dl'):=by
 intro l k dl e h fs dl' hp
 have stopE:∀(ws:List Env) (k m:Nat) (e:Env),m≤k→envL ws (fun i=>decide (i<m)) k e=e:=by
  intro ws
  induction ws with
  |nil=>intros;rfl
  |cons W r ih=>intro k m e hm;rw[envL];simp only[show ¬k<m by omega,decide_false,Bool.false_eq_true,if_false];exact ih _ _ _ (by omega)
 have stopH:∀(ws:List Heap) (k m:Nat) (e:Heap),m≤k→heapL ws (fun i=>decide (i<m)) k e=e:=by
  intro ws
  induction ws with
  |nil=>intros;rfl
  |cons W r ih=>intro k m e hm;rw[heapL];simp only[show ¬k<m by omega,decide_false,Bool.false_eq_true,if_false];exact ih _ _ _ (by omega)
 induction hp with
 |nil=>intro _ j o f ho;simp at ho
 |step o r k dl dl' e h f fs h0 h1 ih=>
  intro hdl j o' f' ho hf
  cases j with
  |zero=>
   simp at ho hf;subst ho;subst hf;rw[stopE _ k (k+0) _ (Nat.le_refl k),stopH _ k (k+0) _ (Nat.le_refl k)];refine .inl ⟨fun hk=>?_,h0⟩;rcases h1.sub.2 _ hk with q|q
   ·have:=hdl _ q;omega
   ·omega
  |succ j=>
   simp at ho hf;have:=ih (fun d hd=>by have:=hdl d hd;omega) j o' f' ho hf;simp only[ewS,hwS,List.zipWith_cons_cons,List.map_cons,envL,heapL];simp only[show k<k+(j+1) by omega,decide_true,if_true];rw[show k+(j+1)=k+1+j by omega];exact this
 |pan o r k dl dl' e h rd v fs hg hk hop h1 ih=>
  intro hdl j o' f' ho hf
  cases j with
  |zero=>
   simp at ho hf;subst ho;subst hf;rw[stopE _ k (k+0) _ (Nat.le_refl k),stopH _ k (k+0) _ (Nat.le_refl k)];exact .inr (.inl ⟨rd,v,h1.sub.1 k (by simp),rfl,hg,hk,hop⟩)
  |succ j=>
   simp at ho hf
   have:=ih (fun d hd=>by
    rcases List.mem_cons.1 hd with q|q
    ·omega
    ·have:=hdl d q;omega) j o' f' ho hf
   simp only[ewS,hwS,List.zipWith_cons_cons,List.map_cons,envL,heapL,wrE,wrH,List.reverse_nil,List.nil_append,ite_self];rw[show k+(j+1)=k+1+j by omega];exact this
 |dead o r k dl dl' e h fs h0 h1 ih=>
  intro hdl j o' f' ho hf
  cases j with
  |zero=>
   simp at ho hf;subst ho;subst hf;obtain⟨x,hx,hb,hxd⟩:=deadB_spec h0;exact .inr (.inr ⟨x,hx,hb,h1.sub.1 _ (by simp[hxd])⟩)
  |succ j=>
   simp at ho hf
   have:=ih (fun d hd=>by
    rcases List.mem_cons.1 hd with q|q
    ·omega
    ·have:=hdl d q;omega) j o' f' ho hf
   simp only[ewS,hwS,List.zipWith_cons_cons,List.map_cons,envL,heapL,wrE,wrH,List.reverse_nil,List.nil_append,ite_self];rw[show k+(j+1)=k+1+j by omega];exact this
theorem PathX.at {KP:Value→Prop} {all l:List Oper} {e:Env} {h:Heap} {fs:List (Option Eff)} {dl:List Nat} (hp:PathX P n KP all l 0 [] e h fs dl) (j:Nat) (o:Oper) (f:Option Eff) (ho:l[j]?=some o) (hf:fs[j]?=some f):
 (j∉dl∧StepOK P n all o (envL (ewS l fs) (fun i=>decide (i<j)) 0 e) (heapL (hwS fs) (fun i=>decide (i<j)) 0 h) f)∨
 (∃rd v,j∈dl∧f=some ⟨rd,[],[]⟩∧guardA all o (envL (ewS l fs) (fun i=>decide (i<j)) 0 e)=some true∧KP v∧OpPan P n o (envL (ewS l fs) (fun i=>decide (i<j)) 0 e) (heapL (hwS fs) (fun i=>decide (i<j)) 0 h) rd v)∨
 (∃x∈o.after,Region.binds .any x=true∧x.on∈dl):=by
 have:=hp.atK (fun d hd=>by cases hd) j o f ho hf;simpa only[Nat.zero_add] using this
theorem aopsD_path (hty:TyOK P ty) {KP:Value→Prop} {all:List Oper} {K:Env→Heap→List (Option Eff)→List Nat→Prop}:∀(l:List Oper) (i:Nat) (dl:List Nat) (e:Env) (h:Heap) (rs:List (Option Eff)) (e2:Env) (h2:Heap),(∀o∈l,okOp n o=true)→
 aopsD ty P KP all l i dl e h rs K→(∀i,eget e2 i=eget e i)→(∀i,hget h2 i=hget h i)→
 ∃fs e' h' dl',PathX P n KP all l i dl e2 h2 fs dl'∧fs.length=l.length∧K e' h' (fs.reverse++rs) dl'∧(∀i,eget e' i=eget (envL (ewS l fs) (fun _=>true) 0 e2) i)∧(∀i,hget h' i=hget (heapL (hwS fs) (fun _=>true) 0 h2) i)
 | [],i,dl,e,h,rs,e2,h2,_,hk,he,hh=>⟨[],e,h,dl,.nil i dl e2 h2,rfl,hk,fun i=>(he i).symm,fun i=>(hh i).symm⟩
 |o::r,i,dl,e,h,rs,e2,h2,hok,hk,he,hh=>by
  have envShift:∀(ws:List Env) (k k':Nat) (e:Env),envL ws (fun _=>true) k e=envL ws (fun _=>true) k' e:=by
   intro ws
   induction ws with
   |nil=>intros;rfl
   |cons W r ih=>intro k k' e;rw[envL,envL];exact ih _ _ _
  have heapShift:∀(ws:List Heap) (k k':Nat) (e:Heap),heapL ws (fun _=>true) k e=heapL ws (fun _=>true) k' e:=by
   intro ws
   induction ws with
   |nil=>intros;rfl
   |cons W r ih=>intro k k' e;rw[heapL,heapL];exact ih _ _ _
  have hoko:=hok o (by simp);rw[aopsD_cons]at hk
  cases hdd:deadB dl o with
  |true=>
   rw[hdd]at hk;obtain⟨fs,e',h',dl',q1,q2,q3,q4,q5⟩:=aopsD_path hty r _ _ _ _ _ e2 h2 (fun o' ho'=>hok o' (by simp[ho'])) hk he hh;refine⟨some ⟨[],[],[]⟩::fs,e',h',dl',.dead o r i dl dl' e2 h2 fs hdd q1,by simp[q2],by simpa using q3,fun i=>?_,fun i=>?_⟩
   ·rw[q4 i];simp only[ewS,List.zipWith_cons_cons,envL,wrE,List.reverse_nil,List.nil_append,ite_self];rw[envShift]
   ·rw[q5 i];simp only[hwS,List.map_cons,heapL,wrH,List.reverse_nil,List.nil_append,ite_self];rw[heapShift]
  |false=>
  rw[hdd]at hk;rcases guard_path hk with⟨hg,e1,hk,hee⟩|⟨hg,e1,hk,hee⟩
  ·rcases aopX_sound hty (okOp_dst hoko) (okOp_store hoko) (okOp_map hoko) hk with⟨f,hk,hop⟩|⟨rd,v,⟨hkp,hk⟩,hop⟩
   rotate_left
   ·have he12:∀i,eget e2 i=eget e1 i:=fun i=>(he i).trans (hee i).symm
    obtain⟨fs,e',h',dl',q1,q2,q3,q4,q5⟩:=aopsD_path hty r _ _ _ _ _ e2 h2 (fun o' ho'=>hok o' (by simp[ho'])) hk he12 hh;refine⟨some ⟨rd,[],[]⟩::fs,e',h',dl',.pan o r i dl dl' e2 h2 rd v fs (by rw[guardA_congr (fun i _=>he i)];exact hg) hkp (hop.congr (fun t _=>he12 t) (fun l _=>hh l)) q1,by simp[q2],by simpa using q3,fun i=>?_,fun i=>?_⟩
    ·rw[q4 i];simp only[ewS,List.zipWith_cons_cons,envL,wrE,List.reverse_nil,List.nil_append,ite_self];rw[envShift]
    ·rw[q5 i];simp only[hwS,List.map_cons,heapL,wrH,List.reverse_nil,List.nil_append,ite_self];rw[heapShift]
   simp only[pushE_iff,pushH_iff]at hk;have he12:∀i,eget e2 i=eget e1 i:=fun i=>(he i).trans (hee i).symm;obtain⟨fs,e',h',dl',q1,q2,q3,q4,q5⟩:=aopsD_path hty r _ _ _ _ _ (f.ew.reverse++e2) (f.hw.reverse++h2) (fun o' ho'=>hok o' (by simp[ho'])) hk (eget_append_congr _ he12) (hget_append_congr _ hh);have hst:StepOK P n all o e2 h2 (some f):=StepOK.congr (e:=e1) (h:=h) (f:=some f) ⟨by rw[guardA_congr (fun i _=>hee i)];exact hg,hop⟩ (fun i _=>he12 i) (fun i _=>hh i);refine⟨some f::fs,e',h',dl',.step o r i dl dl' e2 h2 (some f) fs hst q1,by simp[q2],by simpa using q3,fun i=>?_,fun i=>?_⟩
   ·rw[q4 i];simp only[ewS,List.zipWith_cons_cons,envL,if_true,wrE];rw[envShift]
   ·rw[q5 i];simp only[hwS,List.map_cons,heapL,if_true,wrH];rw[heapShift]
  ·have key:aopsD ty P KP all r (i+1) dl ((wrE o none).reverse++e1) h (none::rs) K:=by
    unfold putT at hk;simp only[wrE];split at hk
    ·rename_i d hd;simpa using hk
    ·rename_i hd;simpa using hk
   have he12:∀i,eget e2 i=eget e1 i:=fun i=>(he i).trans (hee i).symm;obtain⟨fs,e',h',dl',q1,q2,q3,q4,q5⟩:=aopsD_path hty r _ _ _ _ _ ((wrE o none).reverse++e2) h2 (fun o' ho'=>hok o' (by simp[ho'])) key (eget_append_congr _ he12) hh;have hst:StepOK P n all o e2 h2 none:=StepOK.congr (e:=e1) (h:=h) (f:=none) (by simp only[StepOK];rw[guardA_congr (fun i _=>hee i)];exact hg) (fun i _=>he12 i) (fun i _=>hh i);refine⟨none::fs,e',h',dl',.step o r i dl dl' e2 h2 none fs hst q1,by simp[q2],by simpa using q3,fun i=>?_,fun i=>?_⟩
   ·rw[q4 i];simp only[ewS,List.zipWith_cons_cons,envL,if_true];rw[envShift]
   ·rw[q5 i];simp only[hwS,List.map_cons,heapL,if_true,wrH,List.reverse_nil,List.nil_append];rw[heapShift]
theorem region_pan {ops:Array Oper} (hok:ops.toList.all (okOp n)=true) {e:Env} {h:Heap} {fs:List (Option Eff)} {dl:List Nat} {KP:Value→Prop} (hp:PathX P n KP ops.toList ops.toList 0 [] e h fs dl) (hlen:fs.length=ops.toList.length) (hind:indB ops.toList fs.reverse=true)
 {g0:Gh} {w0:World} {K:Exit→Env→Heap→Prop} (hne:∃i,i∈dl):
 ∀(fuel:Nat) (listed:Array Bool) (a:Act) (w:World),listed.size=ops.size→unl ops.size (fun i=>listed.getD i false)≤fuel→Closed ops.toList (fun i=>listed.getD i false)→(∀i∈dl,listed.getD i false=false)→
  (∃g,Sim g w n a (envL (ewS ops.toList fs) (fun i=>listed.getD i false) 0 e) (heapL (hwS fs) (fun i=>listed.getD i false) 0 h)∧Ext g0 w0 g w)→wpAny P .any ops (QOfP n K KP g0 w0) fuel listed a w:=by
 have hm:GoodM ops.toList (masks ops.toList []):=masks_good _ _ _ (fun j=>by simp) (fun j m i hj=>by simp at hj)
 -- all are listed where none is ready
 have done:∀(listed:Array Bool),listed.size=ops.size→Region.ready .any ops listed=[]→∀i,i<ops.size→listed.getD i false=true:=by
  intro listed hls hr i
  induction i using Nat.strongRecOn with
  |_ i ih=>
   intro hi
   cases hq:listed.getD i false with
   |true=>rfl
   |false=>
    exfalso;have ho:ops[i]?=some ops[i]:=by simp[hi]
    have hmem:i∈Region.ready .any ops listed:=by
     rw[mem_ready];refine⟨?_,ops[i],ho,fun x hx hb=>?_⟩
     ·rw[Array.getD_eq_getD_getElem?]at hq ⊢
      rw[Array.getElem?_eq_getElem (by omega)]at hq ⊢;simpa using hq
     ·have:=ind_back hind (by rw[Array.getElem?_toList];exact ho) hx hb
      exact ih x.on this (by omega)
    rw[hr]at hmem;cases hmem
 have final:∀(listed:Array Bool),listed.size=ops.size→Region.ready .any ops listed=[]→(∀i∈dl,listed.getD i false=false)→False:=by
  intro listed hls hr hd;obtain⟨i,hi⟩:=hne;have h1:=done listed hls hr i (by have:=hp.lt i hi;simp at this;exact this);rw[hd i hi]at h1;cases h1
 intro fuel
 induction fuel with
 |zero=>
  intro listed a w hls hf hc hdl hs
  have hr:Region.ready .any ops listed=[]:=by
   cases hq:Region.ready .any ops listed with
   |nil=>rfl
   |cons i r=>
    exfalso;have hmem:i∈Region.ready .any ops listed:=by rw[hq];simp
    obtain⟨h0,o,ho,_⟩:=mem_ready.1 hmem;have hi:i<ops.size:=(Array.getElem?_eq_some_iff.1 ho).1
    have h1:listed.getD i false=false:=by
     rw[Array.getD_eq_getD_getElem?]at h0 ⊢;rw[Array.getElem?_eq_getElem (by omega)]at h0 ⊢;simpa using h0
    have:i∈(List.range ops.size).filter fun i=>!listed.getD i false:=by simp only[List.mem_filter,List.mem_range,hi,true_and];rw[h1];rfl
    have:=List.length_pos_of_mem this;have hf0:((List.range ops.size).filter fun i=>!listed.getD i false).length≤0:=hf;omega
  exact(final listed hls hr hdl).elim
 |succ fuel ih=>
  intro listed a w hls hf hc hdl hs;refine⟨fun hr=>(final listed hls hr hdl).elim,fun i hi=>?_⟩;obtain⟨h0,o,ho,hpre⟩:=mem_ready.1 hi;have hil:i<ops.size:=(Array.getElem?_eq_some_iff.1 ho).1
  have hnl:listed.getD i false=false:=by
   rw[Array.getD_eq_getD_getElem?]at h0 ⊢;rw[Array.getElem?_eq_getElem (by omega)]at h0 ⊢;simpa using h0
  have ho':ops.toList[i]?=some o:=by simpa using ho
  have hfi:i<fs.length:=by rw[hlen];simpa using hil
  have hf':fs[i]?=some fs[i]:=by simp[hfi]
  generalize fs[i]=f at hf'
  -- the new set
  have hset:∀j,(listed.setIfInBounds i true).getD j false=if j=i then true else listed.getD j false:=by
   intro j
   by_cases q:j=i
   ·subst q;simp[hls,hil]
   ·rw[getD_set_ne false (Ne.symm q),if_neg q]
  have hls':(listed.setIfInBounds i true).size=ops.size:=by simp[hls]
  have hc':Closed ops.toList (fun j=>(listed.setIfInBounds i true).getD j false):=by
   intro j oj hoj hj x hx hb;simp only[hset]at hj ⊢
   by_cases q:j=i
   ·subst q
    rw[ho']at hoj;cases hoj;have:=hpre x hx hb;split
    ·rfl
    ·exact this
   ·rw[if_neg q]at hj
    have:=hc j oj hoj hj x hx hb;simp only at this;split
    ·rfl
    ·exact this
  have hf2:unl ops.size (fun j=>(listed.setIfInBounds i true).getD j false)≤fuel:=by
   have:unl ops.size (fun j=>(listed.setIfInBounds i true).getD j false)<unl ops.size (fun j=>listed.getD j false):=by
    exact filter_lt _ _ i hset hnl _ (by simpa using hil)
   omega
  -- agreement with the text's order
  have hst:=hp.at i o f (by simpa using ho') hf'
  have before:∀{j:Nat} {oj:Oper} {fj:Option Eff},j<i→ops.toList[j]?=some oj→fs[j]?=some fj→apartB ops.toList oj fj o f=true∨listed.getD j false=true:=by
   intro j oj fj hji hoj hfj;rcases ind_pair hind hji hoj ho' hfj hf' with⟨m,q1,q2⟩|q
   ·exact .inr (ready_anc hm hc ho' hpre m j q1 q2)
   ·exact .inl q
  have behind:∀{j:Nat} {oj:Oper} {fj:Option Eff},i<j→ops.toList[j]?=some oj→fs[j]?=some fj→apartB ops.toList o f oj fj=true∨listed.getD j false=false:=by
   intro j oj fj hij hoj hfj;rcases ind_pair hind hij ho' hoj hf' hfj with⟨m,q1,q2⟩|q
   ·right
    cases hq:listed.getD j false with
    |false=>rfl
    |true=>have:=closed_anc hm hc j hq m i q1 q2;simp only[hnl]at this;cases this
   ·exact .inl q
  have agE:∀t,t∈slotsOf o++guardSlot ops.toList o→eget (envL (ewS ops.toList fs) (fun i=>listed.getD i false) 0 e) t=eget (envL (ewS ops.toList fs) (fun j=>decide (j<i)) 0 e) t:=by
   intro t ht;refine envL_congr t _ _ _ 0 e e rfl (fun j W hj hx=>?_);obtain⟨oj,fj,hoj,hfj,rfl⟩:=ewS_get hj;obtain⟨y,hy,hyt⟩:=hx;have hkey:t∈(wrE oj fj).map (·.1):=List.mem_map.2 ⟨y,hy,hyt⟩;rw[Nat.zero_add];rcases Nat.lt_trichotomy j i with q|q|q
   ·rcases before q hoj hfj with hap|hl
    ·simp only[apartB,Bool.and_eq_true]at hap
     exact(disj_spec hap.1.1.1 hkey (List.mem_append_left _ ht)).elim
    ·rw[hl];simp[q]
   ·subst q;rw[hnl];simp
   ·rcases behind q hoj hfj with hap|hl
    ·simp only[apartB,Bool.and_eq_true]at hap
     exact(disj_spec hap.1.1.2 ht hkey).elim
    ·rw[hl];simp;omega
  have agH:∀l,l∈rdH f→hget (heapL (hwS fs) (fun i=>listed.getD i false) 0 h) l=hget (heapL (hwS fs) (fun j=>decide (j<i)) 0 h) l:=by
   intro l hl;refine heapL_congr l _ _ _ 0 h h rfl (fun j W hj hx=>?_);obtain⟨fj,hfj,rfl⟩:=hwS_get hj;have hjl:j<ops.toList.length:=by have:=(List.getElem?_eq_some_iff.1 hfj).1;omega
   have hoj:ops.toList[j]?=some ops.toList[j]:=List.getElem?_eq_getElem hjl;obtain⟨y,hy,hyt⟩:=hx;have hkey:l∈(wrH fj).map (·.1):=List.mem_map.2 ⟨y,hy,hyt⟩;rw[Nat.zero_add];rcases Nat.lt_trichotomy j i with q|q|q
   ·rcases before q hoj hfj with hap|hll
    ·simp only[apartB,Bool.and_eq_true]at hap
     exact(disj_spec hap.1.2 hkey hl).elim
    ·rw[hll];simp[q]
   ·subst q;rw[hnl];simp
   ·rcases behind q hoj hfj with hap|hll
    ·simp only[apartB,Bool.and_eq_true]at hap
     exact(disj_spec hap.2 hl hkey).elim
    ·rw[hll];simp;omega
  have hwrH:∀t,t∈(wrH f).map (·.1)→t∈rdH f:=by
   intro t ht
   cases f with
   |none=>simp[wrH]at ht
   |some f=>simp only[rdH,wrH]at *;exact List.mem_append_right _ ht
  -- the state behind it
  have ewi:(ewS ops.toList fs)[i]?=some (wrE o f):=by unfold ewS;rw[List.getElem?_zipWith,ho',hf']
  have hwi:(hwS fs)[i]?=some (wrH f):=by unfold hwS;rw[List.getElem?_map,hf'];rfl
  have newE:∀t,eget (envL (ewS ops.toList fs) (fun j=>(listed.setIfInBounds i true).getD j false) 0 e) t=eget ((wrE o f).reverse++envL (ewS ops.toList fs) (fun i=>listed.getD i false) 0 e) t:=by
   intro t
   by_cases hx:∃y∈wrE o f,y.1=t
   ·refine envL_last t i _ _ 0 e (wrE o f) _ ewi hx (by simp only[Nat.zero_add,hset];simp) (fun j W hij hj hxj=>?_)
    obtain⟨oj,fj,hoj,hfj,rfl⟩:=ewS_get hj;simp only[Nat.zero_add,hset];rw[if_neg (by omega)];rcases behind hij hoj hfj with hap|hl
    ·simp only[apartB,Bool.and_eq_true]at hap
     obtain⟨y,hy,hyt⟩:=hx;obtain⟨z,hz,hzt⟩:=hxj;exact(disj_spec hap.1.1.1 (List.mem_map.2 ⟨y,hy,hyt⟩) (List.mem_append_right _ (List.mem_map.2 ⟨z,hz,hzt⟩))).elim
    ·exact hl
   ·rw[eget_append_none _ _ _ (fun y hy q=>hx ⟨y,by simpa using hy,q⟩)]
    refine envL_congr t _ _ _ 0 e e rfl (fun j W hj hxj=>?_);simp only[Nat.zero_add,hset];split
    ·rename_i q;subst q;rw[ewi]at hj;cases hj;exact absurd hxj hx
    ·rfl
  have newH:∀t,hget (heapL (hwS fs) (fun j=>(listed.setIfInBounds i true).getD j false) 0 h) t=hget ((wrH f).reverse++heapL (hwS fs) (fun i=>listed.getD i false) 0 h) t:=by
   intro t
   by_cases hx:∃y∈wrH f,y.1=t
   ·refine heapL_last t i _ _ 0 h (wrH f) _ hwi hx (by simp only[Nat.zero_add,hset];simp) (fun j W hij hj hxj=>?_)
    obtain⟨fj,hfj,rfl⟩:=hwS_get hj;have hjl:j<ops.toList.length:=by have:=(List.getElem?_eq_some_iff.1 hfj).1;omega
    have hoj:ops.toList[j]?=some ops.toList[j]:=List.getElem?_eq_getElem hjl;simp only[Nat.zero_add,hset];rw[if_neg (by omega)];rcases behind hij hoj hfj with hap|hl
    ·simp only[apartB,Bool.and_eq_true]at hap
     obtain⟨y,hy,hyt⟩:=hx;obtain⟨z,hz,hzt⟩:=hxj;exact(disj_spec hap.2 (hwrH t (List.mem_map.2 ⟨y,hy,hyt⟩)) (List.mem_map.2 ⟨z,hz,hzt⟩)).elim
    ·exact hl
   ·rw[hget_append_none _ _ _ (fun y hy q=>hx ⟨y,by simpa using hy,q⟩)]
    refine heapL_congr t _ _ _ 0 h h rfl (fun j W hj hxj=>?_);simp only[Nat.zero_add,hset];split
    ·rename_i q;subst q;rw[hwi]at hj;cases hj;exact absurd hxj hx
    ·rfl
  obtain⟨g,s,hE⟩:=hs
  -- the guard
  have hguard:∀b,guardA ops.toList o (envL (ewS ops.toList fs) (fun i=>listed.getD i false) 0 e)=some b→Region.wanted o (yielded ops a.tmps)=b:=by
   intro b hb;unfold guardA at hb
   cases hgd:o.guard with
   |none=>simp[hgd]at hb;subst hb;simp[Region.wanted,hgd]
   |some x=>
    obtain⟨j,want⟩:=x;simp only[hgd]at hb;split at hb
    ·rename_i og hog
     split at hb
     ·rename_i d hd
      split at hb
      ·rename_i b0 hb0
       have hv:=s.env d;rw[hb0]at hv;have hy:=yielded_of (by simpa using hog) hd hv.bool;simp only[Option.some.injEq]at hb;subst hb;simp[Region.wanted,hgd,hy]
      ·rename_i hb0
       have hv:=s.env d;rw[hb0]at hv;have hy:=yielded_none (by simpa using hog) hd hv.isUndef;simp only[Option.some.injEq]at hb;subst hb;simp[Region.wanted,hgd,hy]
      ·cases hb
     ·cases hb
    ·cases hb
  rcases hst with⟨hnd,hst⟩|⟨rd,v,hin,rfl,hg1,hkp,hop⟩|⟨x,hx,hb,hxd⟩
  ·have hdl':∀j∈dl,(listed.setIfInBounds i true).getD j false=false:=fun j hj=>by
    have hji:j≠i:=fun q=>hnd (by rw[←q];exact hj);rw[hset,if_neg hji];exact hdl j hj
   have hst':StepOK P n ops.toList o (envL (ewS ops.toList fs) (fun i=>listed.getD i false) 0 e) (heapL (hwS fs) (fun i=>listed.getD i false) 0 h) f:=hst.congr agE agH;simp only[wpOp,ho]
   cases f with
   |none=>
    simp only[StepOK]at hst';rw[if_neg (by rw[hguard false hst'];simp)];refine ih _ _ _ hls' hf2 hc' hdl' ⟨g,?_,hE⟩;simp only[wrH,List.reverse_nil,List.nil_append]at newH
    have s2:Sim g w n (a.put o.dst undef) ((wrE o none).reverse++envL (ewS ops.toList fs) (fun i=>listed.getD i false) 0 e) (heapL (hwS fs) (fun i=>listed.getD i false) 0 h):=by
     cases hdst:o.dst with
     |none=>simp only[wrE,hdst];exact s
     |some d=>simp only[wrE,hdst];exact s.put (okOp_dst (List.all_eq_true.1 hok o (by rw[←Array.getElem?_toList]at ho;exact List.mem_of_getElem? ho)) d hdst) VRel.und0
    exact(s2.envEq newE).heapEq newH
   |some f=>
    obtain⟨hg1,hop⟩:=hst';rw[if_pos (hguard true hg1)]
    left
    refine Oper.wp_monoQ (Oper.wp_mono ?_ (hop _ _ (fun _ _=>rfl) (fun _ _=>rfl) g w a s));rintro a' w' ⟨g',s',hE'⟩;exact ih _ _ _ hls' hf2 hc' hdl' ⟨g',(s'.envEq newE).heapEq newH,hE.trans hE'⟩
  ·have hg2:guardA ops.toList o (envL (ewS ops.toList fs) (fun i=>listed.getD i false) 0 e)=some true:=by
    rw[guardA_congr (fun t ht=>agE t (List.mem_append_right _ ht))];exact hg1
   simp only[wpOp,ho];rw[if_pos (hguard true hg2)]
   left
   exact Oper.wp_pan (hop _ _ (fun t ht=>agE t (List.mem_append_left _ ht)) (fun l hl=>agH l (by simpa[rdH] using hl)) g w a s) (fun x a w h=>h.q s.defers hkp hE)
  ·have h1:=hpre x hx hb
   rw[hdl _ hxd]at h1;cases h1
end
end Go.AM
namespace Go.AM
section
variable {P:Program} {ty:Nat→Option TI} {n:Nat}
def AWpP (P:Program) (n:Nat) (KP:Value→Prop) (c:Code) (K:Exit→Env→Heap→Prop) (e:Env) (h:Heap):Prop:=
 ∀g0 w0 g w a,Sim g w n a e h→Ext g0 w0 g w→c.wp P (QOfP n K KP g0 w0) a w
def lpP (P:Program) (n:Nat) (KP:Value→Prop) (c:Code) (K:Exit→Env→Heap→Prop) (e:Env) (h:Heap):Prop:=AWpP P n KP (.loop c) K e h
noncomputable def awpP (ty:Nat→Option TI) (P:Program) (KP:Value→Prop) (lp:Code→(Exit→Env→Heap→Prop)→Env→Heap→Prop) (c:Code):(Exit→Env→Heap→Prop)→Env→Heap→Prop:=
 @Code.rec (fun _=>(Exit→Env→Heap→Prop)→Env→Heap→Prop)
  (fun K e h=>K .normal e h)
  (fun _ ops draw K e h=>match draw with
    |false=>aops ty (callX P fun _ v=>KP v) ops.toList ops.toList e h fun e h=>K .normal e h
    |true=>aopsD ty P KP ops.toList ops.toList 0 [] e h [] fun e h rs dl=>ANeed (indB ops.toList rs=true) (match dl with | []=>K .normal e h|_::_=>True))
  (fun _ _ iha ihb K e h=>iha (fun x e h=>match x with|.normal=>ihb K e h|x=>K x e h) e h)
  (fun c _ _ iha ihb K e h=>match ev e c with
    |.p (.b g)=>ASplit g (iha K e h) (ihb K e h)
    |_=>AStuck "cond")
  (fun id _ ih K e h=>ih (fun x e h=>match x with
    |.exit i=>match Nat.beq i id with|true=>K .normal e h|false=>K (.exit i) e h
    |x=>K x e h) e h)
  (fun c _ K e h=>lp c K e h)
  (fun _ _ _ _ _ _ _ _ _=>AStuck "rangeFunc")
  (fun id K e h=>K (.exit id) e h)
  (fun _ _ _ _ _=>AStuck "scope")
  (fun _ _ _ _=>AStuck "label")
  (fun _ _ _ _=>AStuck "goto")
  (fun K e h=>K .ret e h)
  (fun _ _ _ _=>AStuck "refuse") c
theorem wpOp_monoQ {ops:Array Oper} {Q Q':Exit→Act→World→Prop} (hq:∀x a w,Q x a w→Q' x a w) {i:Nat} {K K':Act→World→Prop} (hK:∀a w,K a w→K' a w) {a:Act} {w:World} (h:wpOp P ops Q i K a w):wpOp P ops Q' i K' a w:=by
 unfold wpOp at *;split
 ·rename_i ho;rw[ho]at h;exact hK _ _ h
 ·rename_i o ho
  rw[ho]at h;simp only at h;split
  ·rename_i hw
   rw[if_pos hw]at h;rcases h with h|⟨h,a',w',h'⟩
   ·left
    unfold Oper.wp at *;generalize (execOp a.eval o).run P w=r at *;unfold Oper.upon at *;split at h
    ·exact hK _ _ h
    ·exact hK _ _ h
    ·exact hK _ _ h
    ·refine h.mono ?_
     rintro en w' hen
     cases en with
     |returned v=>exact hK _ _ hen
     |panicked c=>exact hq _ _ _ hen
     |outgrown=>obtain⟨a',w'',h⟩:=hen;exact⟨a',w'',hq _ _ _ h⟩
    ·exact h.mono (fun v w' h=>hK _ _ h)
    ·exact hq _ _ _ h
    ·exact h.elim
   ·exact .inr ⟨h,a',w',hq _ _ _ h'⟩
  ·rename_i hw
   rw[if_neg hw]at h;exact hK _ _ h
theorem wpAny_monoQ {ops:Array Oper} {Q Q':Exit→Act→World→Prop} {md:Region.Mode} (hq:∀x a w,Q x a w→Q' x a w):∀(fuel:Nat) (listed:Array Bool) (a:Act) (w:World),wpAny P md ops Q fuel listed a w→wpAny P md ops Q' fuel listed a w
 |0,_,_,_,h=>⟨h.1,hq _ _ _ h.2⟩
 |fuel+1,_,_,_,h=>⟨fun hr=>hq _ _ _ (h.1 hr),fun i hi=>wpOp_monoQ hq (fun a w h=>wpAny_monoQ hq fuel _ a w h) (h.2 i hi)⟩
theorem awpP_sound (hty:TyOK P ty) (hmix:P.follows .mixedOrders=true) {KP:Value→Prop}:∀(c:Code) (K:Exit→Env→Heap→Prop) (e:Env) (h:Heap),codeOK n c=true→awpP ty P KP (lpP P n KP) c K e h→AWpP P n KP c K e h
 |.skip,K,e,h,_,hk=>fun g0 w0 g w a s hE=>wp_skip (Q:=QOfP n K KP g0 w0) ⟨g,e,h,hk,s,hE⟩
 |.region id ops false,K,e,h,hok,hk=>fun g0 w0 g w a s hE=>by
  refine wp_region ?_;rw[List.range_eq_range'];have:=aopsP_sound hty (by simpa[codeOK] using hok) ops.toList 0 e h g w a (fun j _=>by simp) hk s hE;simpa using this
 |.region id ops true,K,e,h,hok,hk=>fun g0 w0 g w a s hE=>by
  refine wp_region_any hmix ?_;have hok':ops.toList.all (okOp n)=true:=by simpa[codeOK] using hok
  obtain⟨fs,e',h',dl,q1,q2,⟨q3,q3'⟩,q4,q5⟩:=aopsD_path (n:=n) hty ops.toList 0 [] e h [] e h (fun o ho=>List.all_eq_true.1 hok' o ho) hk (fun _=>rfl) (fun _=>rfl);simp only[List.append_nil]at q3;have hz:∀i,(Array.replicate ops.size false).getD i false=false:=fun i=>by simp[Array.getD_eq_getD_getElem?,Array.getElem?_replicate];split<;>rfl
  have hnoneE:∀(ws:List Env) (k:Nat) (e:Env),envL ws (fun _=>false) k e=e:=by
   intro ws;induction ws with
   |nil=>intros;rfl
   |cons W r ih=>intro k e;rw[envL];simp only[Bool.false_eq_true,if_false];exact ih _ _
  have hnoneH:∀(ws:List Heap) (k:Nat) (e:Heap),heapL ws (fun _=>false) k e=e:=by
   intro ws;induction ws with
   |nil=>intros;rfl
   |cons W r ih=>intro k e;rw[heapL];simp only[Bool.false_eq_true,if_false];exact ih _ _
  have hunl:unl ops.size (fun i=>(Array.replicate ops.size false).getD i false)≤ops.size:=by
   unfold unl;simpa using List.length_filter_le (fun i=>!(Array.replicate ops.size false).getD i false) (List.range ops.size)
  cases dl with
  |nil=>
   have hw:=region_any hok' (q1.plain rfl) q2 q3 (g0:=g0) (w0:=w0) (K:=fun x e h=>match x with|.normal=>K .normal e h|_=>False) (fun e2 h2 r1 r2=>⟨e',h',q3',fun i=>(q4 i).trans (r1 i).symm,fun i=>(q5 i).trans (r2 i).symm⟩) ops.size (Array.replicate ops.size false) a { w with drawn:=w.drawn+1 } (by simp) hunl
    (by intro j o ho hj;simp only[hz]at hj;cases hj) ⟨g,by simp only[hz,hnoneE,hnoneH];exact s.drew,hE.trans Ext.drew⟩
   refine wpAny_monoQ (fun x a w hq=>?_) _ _ _ _ hw;obtain⟨g,e,h,hk,s,hE⟩:=hq
   cases x with
   |normal=>exact⟨g,e,h,hk,s,hE⟩
   |_=>exact hk.elim
  |cons d dl=>
   exact region_pan hok' q1 q2 q3 (g0:=g0) (w0:=w0) (K:=K) ⟨d,by simp⟩ ops.size (Array.replicate ops.size false) a { w with drawn:=w.drawn+1 } (by simp) hunl
    (by intro j o ho hj;simp only[hz]at hj;cases hj) (fun i _=>hz i) ⟨g,by simp only[hz,hnoneE,hnoneH];exact s.drew,hE.trans Ext.drew⟩
 |.seq x y,K,e,h,hok,hk=>fun g0 w0 g w a s hE=>by
  have hok:codeOK n x=true∧codeOK n y=true:=by simpa[codeOK] using hok
  refine wp_seq (wp_mono (awpP_sound hty hmix x _ e h hok.1 hk g0 w0 g w a s hE) ?_);intro ex a' w' hq
  cases ex with
  |normal=>
   obtain⟨g',e',h',hk',s',hE'⟩:=hq;exact awpP_sound hty hmix y K e' h' hok.2 hk' g0 w0 g' w' a' s' hE'
  |_=>exact hq
 |.cond c x y,K,e,h,hok,hk=>fun g0 w0 g w a s hE=>by
  have hok:codeOK n x=true∧codeOK n y=true:=by simpa[codeOK] using hok
  have hk:(match Go.AM.ev e c with|.p (.b g)=>ASplit g (awpP ty P KP (lpP P n KP) x K e h) (awpP ty P KP (lpP P n KP) y K e h)|_=>AStuck "cond"):=hk;split at hk
  ·rename_i b hb
   obtain⟨_,r⟩:=s.ev c;rw[hb]at r;refine wp_cond r.bool ?_
   cases b with
   |true=>exact awpP_sound hty hmix x K e h hok.1 hk g0 w0 g w a s hE
   |false=>exact awpP_sound hty hmix y K e h hok.2 hk g0 w0 g w a s hE
  ·exact hk.elim
 |.block id c,K,e,h,hok,hk=>fun g0 w0 g w a s hE=>by
  refine wp_block (wp_mono (awpP_sound hty hmix c _ e h (by simpa[codeOK] using hok) hk g0 w0 g w a s hE) ?_);intro ex a' w' hq
  cases ex with
  |exit i=>
   obtain⟨g',e',h',hk',s',hE'⟩:=hq;simp only[Exit.inBlock]
   by_cases q:i=id
   ·subst q
    rw[if_pos rfl];simp only[beq_self]at hk';exact⟨g',e',h',hk',s',hE'⟩
   ·rw[if_neg q]
    simp only[beq_false q]at hk';exact⟨g',e',h',hk',s',hE'⟩
  |_=>exact hq
 |.exit id,K,e,h,_,hk=>fun g0 w0 g w a s hE=>wp_exit (Q:=QOfP n K KP g0 w0) ⟨g,e,h,hk,s,hE⟩
 |.ret,K,e,h,_,hk=>fun g0 w0 g w a s hE=>wp_ret (Q:=QOfP n K KP g0 w0) ⟨g,e,h,hk,s,hE⟩
 |.loop c,K,e,h,_,hk=>hk
 |.rangeFunc ..,K,e,h,_,hk=>hk.elim
 |.scope _,K,e,h,_,hk=>hk.elim
 |.label _,K,e,h,_,hk=>hk.elim
 |.goto _,K,e,h,_,hk=>hk.elim
 |.refuse _,K,e,h,_,hk=>hk.elim
end
end Go.AM
namespace Go.AM
section
variable {P:Program} {ty:Nat→Option TI} {n:Nat}
theorem AWpP.fin (hty:TyOK P ty) (hmix:P.follows .mixedOrders=true) {KP:Value→Prop} {c:Code} {K:Exit→Env→Heap→Prop} {e:Env} {h:Heap} (hok:codeOK n c=true) (hk:awpP ty P KP (lpP P n KP) c K e h):AWpP P n KP c K e h:=awpP_sound hty hmix c K e h hok hk
theorem AWpP.mask {KP:Value→Prop} {c:Code} {K:Exit→Env→Heap→Prop} {lv ll:List Nat} {vals:List AV} {objs:List AObj} {e:Env} {h:Heap} (h0:Atv lv ll vals objs e h) (hk:AWpP P n KP c K (lv.zip vals) (ll.zip objs)):AWpP P n KP c K e h:=by
 intro g0 w0 g w a s hE;refine hk g0 w0 g w a ?_ hE;have:=s.mask (lv:=lv) (ll:=ll) h0.1 (by rw[h0.2.1];exact h0.2.2.1) h0.2.2.2;rw[h0.2.1]at this;exact this
theorem AWpP.loop {KP:Value→Prop} {c:Code} {K:Exit→Env→Heap→Prop} (Inv:Nat→Env→Heap→Prop) {m:Nat} {e:Env} {h:Heap} (h0:Inv m e h)
 (round:∀m e h,Inv m e h→AWpP P n KP c (fun x e' h'=>match x with|.normal=>∃m',m'<m∧Inv m' e' h'|x=>K x e' h') e h):AWpP P n KP (.loop c) K e h:=by
 intro g0 w0 g w a s hE
 let p:Act→World→Nat→Prop:=fun a w m=>∃g e h,Inv m e h∧Sim g w n a e h∧Ext g0 w0 g w
 have mu:∃μ:Act→World→Nat,∀a w,(∃m,p a w m)→p a w (μ a w)∧∀k,p a w k→μ a w≤k:=by
  exact⟨fun a w=>Classical.epsilon (fun m=>p a w m∧∀k,p a w k→m≤k),fun a w hx=>Classical.epsilon_spec (least_of _ hx)⟩
 obtain⟨μ,hμ⟩:=mu;refine wp_loop (fun a w=>∃m,p a w m) μ ⟨m,g,e,h,h0,s,hE⟩ (fun a w hx=>?_);obtain⟨⟨g1,e1,h1,hi,s1,hE1⟩,_⟩:=hμ a w hx;refine wp_mono (round _ e1 h1 hi g0 w0 g1 w a s1 hE1) ?_;intro ex a' w' hq
 cases ex with
 |normal=>
  obtain⟨g',e',h',⟨m',hlt,hi'⟩,s',hE'⟩:=hq;have hp:p a' w' m':=⟨g',e',h',hi',s',hE'⟩
  exact⟨⟨m',hp⟩,Nat.lt_of_le_of_lt ((hμ a' w' ⟨m',hp⟩).2 m' hp) hlt⟩
 |_=>exact hq
theorem loopPW {KP:Value→Prop} {c:Code} {K:Exit→Env→Heap→Prop} {σ:Type} (m:Nat) (lv ll:List Nat) (V:Nat→σ→List AV) (O:Nat→σ→List AObj) (Q:Nat→σ→Prop)
 {e:Env} {h:Heap} (s0:σ) (h0:Atv lv ll (V 0 s0) (O 0 s0) e h) (hQ:Q 0 s0)
 (round:∀k s,k≤m→Q k s→AWpP P n KP c (fun x e' h'=>match x with|.normal=>k<m∧∃s',Atv lv ll (V (k+1) s') (O (k+1) s') e' h'∧Q (k+1) s'|x=>K x e' h') (lv.zip (V k s)) (ll.zip (O k s))):lpP P n KP c K e h:=by
 have mask:∀{k s e h},Atv lv ll (V k s) (O k s) e h→∀g w a,Sim g w n a e h→Sim g w n a (lv.zip (V k s)) (ll.zip (O k s)):=by
  intro k s e h ha g w a hs;have:=hs.mask (lv:=lv) (ll:=ll) ha.1 (by rw[ha.2.1];exact ha.2.2.1) ha.2.2.2;rw[ha.2.1]at this;exact this
 refine AWpP.loop (K:=K) (fun q e h=>∃k s,q+k=m∧Q k s∧∀g w a,Sim g w n a e h→Sim g w n a (lv.zip (V k s)) (ll.zip (O k s))) (m:=m) ⟨0,s0,rfl,hQ,mask h0⟩ ?_;rintro q e h ⟨k,s,hk,hq,hsim⟩ g0 w0 g w a hs hE;refine wp_mono (round k s (by omega) hq g0 w0 g w a (hsim g w a hs) hE) ?_;intro ex a' w' hx
 cases ex with
 |normal=>
  obtain⟨g',e',h',⟨hlt,s',ha,hq'⟩,s'',hE'⟩:=hx;exact⟨g',e',h',⟨q-1,by omega,k+1,s',by omega,hq',mask ha⟩,s'',hE'⟩
 |_=>exact hx
theorem loopP (hty:TyOK P ty) (hmix:P.follows .mixedOrders=true) {KP:Value→Prop} {c:Code} (hok:codeOK n c=true) {K:Exit→Env→Heap→Prop} {σ:Type} (m:Nat) (lv ll:List Nat) (V:Nat→σ→List AV) (O:Nat→σ→List AObj) (Q:Nat→σ→Prop)
 {e:Env} {h:Heap} (s0:σ) (h0:Atv lv ll (V 0 s0) (O 0 s0) e h) (hQ:Q 0 s0)
 (round:∀k s,k≤m→Q k s→awpP ty P KP (lpP P n KP) c (fun x e' h'=>match x with|.normal=>k<m∧∃s',Atv lv ll (V (k+1) s') (O (k+1) s') e' h'∧Q (k+1) s'|x=>K x e' h') (lv.zip (V k s)) (ll.zip (O k s))):lpP P n KP c K e h:=
 loopPW m lv ll V O Q s0 h0 hQ fun k s hk hq=>awpP_sound hty hmix c _ _ _ hok (round k s hk hq)
theorem lpP_nil {KP:Value→Prop} {c:Code} {K:Exit→Env→Heap→Prop} {e:Env} {h:Heap} (i sz:Nat) (hi:eget e i=.nilS) (hk:lpP P n KP c K ((i,.so (sz+1) [])::e) h):lpP P n KP c K e h:=by
 intro g0 w0 g w a s hE;refine hk g0 w0 g w a ⟨s.defers,s.size,fun j=>?_,s.heap,s.bnd⟩ hE
 by_cases q:i=j
 ·subst q
  rw[eget_self];have:=s.env i;rw[hi]at this;generalize a.tmps.getD i undef=v at this;cases this;exact .full _ none (sz+1) [] (by omega) (.nil _)
 ·rw[eget_ne q];exact s.env j
theorem AWpP.plain {c:Code} {K:Exit→Env→Heap→Prop} {e:Env} {h:Heap} (hk:AWpP P n (fun _=>False) c K e h):AWp P n c K e h:=fun g0 w0 g w a s hE=>
 wp_mono (hk g0 w0 g w a s hE) fun x a w hq=>by
  cases x with
  |panic c=>obtain⟨_,_,_,hf,_⟩:=hq;exact hf.elim
  |_=>exact hq
def AMemO (P:Program) (f:Nat) (args:List AV) (hs:Heap) (o:Except Value (AV×Heap)):Prop:=match o with
 |.ok x=>AMem P f args hs x.1 x.2
 |.error v=>APan P f args hs v
theorem APan.intro {f:Nat} {fn:Func} {c:Code} {args:List AV} {hs:Heap} {v:Value} (hf:P.funcs[f]?=some fn) (hb:fn.body=some c) (hname:(fn.name== "runtime.NumGoroutine")=false)
 (hlen:args.length≤fn.ntmps) (hk:AWpP P fn.ntmps (fun v'=>v'=v) c (fun _ _ _=>False) (argEnv 0 args) hs):APan P f args hs v:=by
 refine⟨⟨fn,c,hf,hb,hname⟩,fun g w vs hH hbn hl hrel=>?_⟩;have s0:=Sim.start (fn:=fn) hlen hH hbn hl hrel;refine calls_of_wp hf hb (wp_mono (hk g w g w _ s0 (Ext.refl _ _)) ?_);intro x a w' hq
 cases x with
 |panic ch=>
  obtain⟨hd,v',rfl,rfl,g',hE⟩:=hq;exact⟨hd,rfl,g',hE⟩
 |_=>obtain⟨_,_,_,hf,_⟩:=hq;exact hf.elim
theorem AMemO.intro (hty:TyOK P ty) {f:Nat} {fn:Func} {c:Code} {args:List AV} {hs:Heap} {o:Except Value (AV×Heap)} (hf:P.funcs[f]?=some fn) (hb:fn.body=some c) (hname:(fn.name== "runtime.NumGoroutine")=false)
 (hlen:args.length≤fn.ntmps)
 (hk:AWpP P fn.ntmps (fun v=>match o with|.ok _=>False|.error v'=>v=v') c (fun x e h=>match o with|.ok y=>retKM ty fn.results.toList fn.resultTypes.toList y.1 y.2 x e h|.error _=>False) (argEnv 0 args) hs)
 (hr:∀r h',o=.ok (r,h')→(r.within (memB (keysOf h'))&&objsIn (memB (keysOf h')) h'&&globB hs h')=true):AMemO P f args hs o:=by
 cases o with
 |ok y=>exact AMem.introS hty hf hb hname hlen (hr y.1 y.2 rfl) hk.plain
 |error v=>exact APan.intro hf hb hname hlen hk
end
end Go.AM
namespace Go.AM
section
variable {P:Program} {ty:Nat→Option TI} {n:Nat}
theorem wpOps_app {ops:Array Oper} {Q:Exit→Act→World→Prop} (l2:List Nat):∀(l1:List Nat) (a:Act) (w:World),wpOps P ops (fun x a w=>match x with|.normal=>wpOps P ops Q l2 a w|x=>Q x a w) l1 a w→(∀a w,(match (Exit.outgrown) with|.normal=>wpOps P ops Q l2 a w|x=>Q x a w)→Q .outgrown a w)→wpOps P ops Q (l1++l2) a w
 | [],a,w,h,_=>h
 |i::r,a,w,h,ho=>by
  rw[List.cons_append,wpOps_cons];rw[wpOps_cons]at h;have hq:∀x a w,(match x with|.normal=>wpOps P ops Q l2 a w|x=>Q x a w)→(match x with|Exit.normal=>True|x=>Q x a w):=fun x a w hx=>by cases x<;>first|trivial|exact hx
  unfold wpOp at h ⊢;split
  ·rename_i hn;rw[hn]at h;exact wpOps_app l2 r a w h ho
  ·rename_i o hn
   rw[hn]at h;simp only at h;split
   ·rename_i hw
    rw[if_pos hw]at h;rcases h with h|⟨h,a',w',h'⟩
    ·left
     unfold Oper.wp at *;generalize (execOp a.eval o).run P w=rr at *;unfold Oper.upon at *;split at h
     ·exact wpOps_app l2 r _ _ h ho
     ·exact wpOps_app l2 r _ _ h ho
     ·exact wpOps_app l2 r _ _ h ho
     ·refine h.mono ?_
      rintro en w' hen
      cases en with
      |returned v=>exact wpOps_app l2 r _ _ hen ho
      |panicked c=>exact hen
      |outgrown=>obtain⟨a',w'',h⟩:=hen;exact⟨a',w'',h⟩
     ·exact h.mono (fun v w' h=>wpOps_app l2 r _ _ h ho)
     ·exact h
     ·exact h.elim
    ·exact .inr ⟨h,a',w',h'⟩
   ·rename_i hw
    rw[if_neg hw]at h;exact wpOps_app l2 r _ _ h ho
theorem wpOps_monoQ {ops:Array Oper} {Q Q':Exit→Act→World→Prop} (hq:∀x a w,Q x a w→Q' x a w):∀(l:List Nat) (a:Act) (w:World),wpOps P ops Q l a w→wpOps P ops Q' l a w
 | [],_,_,h=>hq _ _ _ h
 |i::r,a,w,h=>by rw[wpOps_cons]at h ⊢;exact wpOp_monoQ hq (fun a w h=>wpOps_monoQ hq r a w h) h
theorem AWpP.raise (hty:TyOK P ty) {KP:Value→Prop} {id:Nat} {ops:Array Oper} {K:Exit→Env→Heap→Prop} {e:Env} {h:Heap} (hok:ops.toList.all (okOp n)=true) (m:Nat) (T:TypeId) (ta tb:Nat) (o1 o2:Oper) (hsz:ops.size=m+2) (i1:ops[m]?=some o1) (i2:ops[m+1]?=some o2)
 (h1:o1.op=.makeInterface T (.tmp ta)) (hd1:o1.dst=some tb) (hg1:o1.guard=none) (h2:o2.op=.panic (.tmp tb)) (hg2:o2.guard=none) (hT:(match P.underlying T with|some (.interface _)=>false|some _=>true|none=>false)=true) (htb:tb<n)
 (hk:aops ty (callX P fun _ v=>KP v) ops.toList (ops.toList.take m) e h (fun e _=>∃v:Value,(∀g w dom ow u,VRel g w dom ow u (eget e ta)→u=v)∧KP (.iface T v))):AWpP P n KP (.region id ops false) K e h:=by
 intro g0 w0 g w a s hE;refine wp_region ?_
 have hr:List.range ops.size=List.range' 0 (ops.toList.take m).length++[m,m+1]:=by
  rw[hsz,List.range_eq_range',List.length_take,Array.length_toList,hsz,Nat.min_eq_left (by omega),show m+2=m+2 from rfl,←List.range'_append_1];simp[List.range']
 rw[hr];refine wpOps_app _ _ _ _ ?_ (fun a w h=>h)
 have key:=aopsP_sound (n:=n) hty hok (K:=fun x e h=>match x with|.normal=>∃v:Value,(∀g w dom ow u,VRel g w dom ow u (eget e ta)→u=v)∧KP (.iface T v)|_=>False) (KP:=KP) (g0:=g0) (w0:=w0) (ops.toList.take m) 0 e h g w a (fun j hj=>by
  rw[List.length_take]at hj;rw[List.getElem?_take_of_lt (by omega)];simp) hk s hE
 refine wpOps_monoQ (fun x a w hq=>?_) _ _ _ key
 cases x with
 |normal=>
  obtain⟨g,e,h,⟨v,hv,hkp⟩,s,hE⟩:=hq;have hu:=hv _ _ _ _ _ (s.env ta);have hsz:tb<a.tmps.size:=by have:=s.size;omega
  have e1:(execOp a.eval o1).run P w=.ok (.value (.iface T v)) w:=by
   have hev:a.eval (.tmp ta)=v:=hu;simp only[execOp,h1,Instr.makeInterface,hev]
   revert hT
   cases hd:P.underlying T with
   |none=>intro hT;cases hT
   |some d=>cases d<;>intro hT<;>first|(simp only[Sem.run_bind,underlying,run_program,Result.andThen_ok,hd];rfl)|cases (show false=true from hT)
  simp only[wpOps,i1,i2];rw[if_pos (by simp[Region.wanted,hg1])]
  left
  simp only[Oper.wp,e1,Oper.upon];rw[if_pos (by simp[Region.wanted,hg2])]
  left
  have hev2:(a.put o1.dst (.iface T v)).eval (.tmp tb)=.iface T v:=by
   simp[hd1,Act.put,Act.eval,hsz]
  have e2:(execOp (a.put o1.dst (.iface T v)).eval o2).run P w=.halt (.panic (.iface T v)) w:=by
   simp[execOp,h2,Instr.panic,hev2]
  simp only[e2];refine⟨?_,_,rfl,hkp,g,hE⟩;rw[hd1];exact s.defers
 |panic c=>exact hq
 |_=>obtain⟨_,_,_,hf,_⟩:=hq;exact hf.elim
end
end Go.AM
namespace Go.AM
theorem lpP_le {KP:Value→Prop} {P:Program} {n:Nat} {c:Code} {K:Exit→Env→Heap→Prop} {e:Env} {h:Heap} (l:Nat) {ob:AObj} (ob':AObj) (hl:hget h l=some ob) (hle:ObLe ob ob') (hk:lpP P n KP c K e ((l,ob')::h)):lpP P n KP c K e h:=by
 intro g0 w0 g w a s hE;refine hk g0 w0 g w a ⟨s.defers,s.size,fun j=>(s.env j).domUp (fun k hk=>(domOf_set hl k).2 hk),⟨fun k x hx=>?_,fun k x hx hq=>?_,fun k x hx hq=>?_⟩,s.bnd⟩ hE
 ·by_cases q:l=k
  ·subst q
   rw[hget_self]at hx;cases hx;have:=(s.heap.obj l ob hl).le hle
   cases this with
   |cells cs vs' E hb' hlen' hxx h1'=>exact .cells cs vs' E hb' hlen' (fun j u c q3 q4=>(hxx j u c q3 q4).domUp (fun k hk=>(domOf_set hl k).2 hk)) h1'
   |arr xs vs' E hb' hlen' hxx h1'=>exact .arr xs vs' E hb' hlen' hxx h1'
   |map kd xs es clock hb' hxx hc=>exact .map kd xs es clock hb' hxx hc
   |gr st sz xs hg=>exact .gr st sz xs hg
   |dead=>exact .dead
   |bld T E2 bs2 hbl=>exact .bld T E2 bs2 hbl
   |store T3 o3 sp3 nx3 z3 M3 hst=>exact .store T3 o3 sp3 nx3 z3 M3 hst
   |glob gb gvs hgl=>exact .glob gb gvs hgl
  ·rw[hget_ne q]at hx
   cases s.heap.obj k x hx with
   |cells cs vs' E hb' hlen' hxx h1'=>exact .cells cs vs' E hb' hlen' (fun j u c q3 q4=>(hxx j u c q3 q4).domUp (fun k hk=>(domOf_set hl k).2 hk)) h1'
   |arr xs vs' E hb' hlen' hxx h1'=>exact .arr xs vs' E hb' hlen' hxx h1'
   |map kd xs es clock hb' hxx hc=>exact .map kd xs es clock hb' hxx hc
   |gr st sz xs hg=>exact .gr st sz xs hg
   |dead=>exact .dead
   |bld T E2 bs2 hbl=>exact .bld T E2 bs2 hbl
   |store T3 o3 sp3 nx3 z3 M3 hst=>exact .store T3 o3 sp3 nx3 z3 M3 hst
   |glob gb gvs hgl=>exact .glob gb gvs hgl
 ·by_cases q:l=k
  ·subst q;rw[hget_self]at hx;cases hx;exact s.heap.own l ob hl (hle.solid hq)
  ·rw[hget_ne q]at hx;exact s.heap.own k x hx hq
 ·by_cases q:l=k
  ·subst q;rw[hget_self]at hx;cases hx;exact s.heap.pre l ob hl (hle.solid hq)
  ·rw[hget_ne q]at hx;exact s.heap.pre k x hx hq
end Go.AM
namespace Go.AM
def over (a:Act) (ds:List Deferred):Act:={ a with defers:=a.defers++ds }
theorem over_eval (a:Act) (ds:List Deferred):(over a ds).eval=a.eval:=by
 funext x
 cases x<;>rfl
theorem over_put (a:Act) (ds:List Deferred) (d:Option Tmp) (v:Value):(over a ds).put d v=over (a.put d v) ds:=by
 cases d<;>rfl
def QOv (ds:List Deferred) (Q:Exit→Act→World→Prop):Exit→Act→World→Prop:=fun x a w=>∃a0,a=over a0 ds∧Q x a0 w
theorem LetsOut.over {ds:List Deferred} {Q:Exit→Act→World→Prop} (h:LetsOut Q):LetsOut (QOv ds Q):=by
 obtain⟨a,w,h⟩:=h;exact⟨AM.over a ds,w,a,rfl,h⟩
theorem wpOps_over {P:Program} {ops:Array Oper} {Q:Exit→Act→World→Prop} (ds:List Deferred):∀(l:List Nat) (a:Act) (w:World),wpOps P ops Q l a w→wpOps P ops (QOv ds Q) l (over a ds) w
 | [],a,w,h=>⟨a,rfl,h⟩
 |i::r,a,w,h=>by
  unfold wpOps at h ⊢;split
  ·rename_i hn;rw[hn]at h;exact wpOps_over ds r a w h
  ·rename_i o hn
   rw[hn]at h;simp only at h;have ht:(over a ds).tmps=a.tmps:=rfl;rw[ht];split
   ·rename_i hw
    rw[if_pos hw]at h;rcases h with h|⟨h,h'⟩
    ·left
     unfold Oper.wp at *;rw[over_eval];generalize (execOp a.eval o).run P w=rr at *;unfold Oper.upon at *;split at h
     ·rw[over_put];exact wpOps_over ds r _ _ h
     ·rw[over_put];exact wpOps_over ds r _ _ h
     ·rename_i d w'
      have:=wpOps_over ds r _ _ h;rw[show({ over a ds with defers:=d::(over a ds).defers }:Act)=over { a with defers:=d::a.defers } ds from rfl,over_put];exact this
     ·refine h.mono ?_
      rintro en w' hen
      cases en with
      |returned v=>
       show wpOps P ops _ r ((over a ds).put o.dst v) w';rw[over_put];exact wpOps_over ds r _ _ hen
      |panicked c=>exact⟨a,rfl,hen⟩
      |outgrown=>exact LetsOut.over hen
     ·refine h.mono (fun v w' h=>?_)
      rw[over_put];exact wpOps_over ds r _ _ h
     ·exact⟨a,rfl,h⟩
     ·exact h.elim
    ·right
     refine⟨?_,LetsOut.over h'⟩;unfold Oper.asks at *;rw[over_eval];exact h
   ·rename_i hw
    rw[if_neg hw]at h;rw[over_put];exact wpOps_over ds r _ _ h
theorem wpOp_over {P:Program} {ops:Array Oper} {Q:Exit→Act→World→Prop} (ds:List Deferred) {i:Nat} {next next':Act→World→Prop} (hn':∀a w,next a w→next' (over a ds) w) (a:Act) (w:World) (h:wpOp P ops Q i next a w):wpOp P ops (QOv ds Q) i next' (over a ds) w:=by
 unfold wpOp at h ⊢;split
 ·rename_i hn;rw[hn]at h;exact hn' a w h
 ·rename_i o hn
  rw[hn]at h;simp only at h;have ht:(over a ds).tmps=a.tmps:=rfl;rw[ht];split
  ·rename_i hw
   rw[if_pos hw]at h;rcases h with h|⟨h,h'⟩
   ·left
    unfold Oper.wp at *;rw[over_eval];generalize (execOp a.eval o).run P w=rr at *;unfold Oper.upon at *;split at h
    ·rw[over_put];exact hn' _ _ h
    ·rw[over_put];exact hn' _ _ h
    ·rename_i d w'
     have:=hn' _ _ h;rw[show({ over a ds with defers:=d::(over a ds).defers }:Act)=over { a with defers:=d::a.defers } ds from rfl,over_put];exact this
    ·refine h.mono ?_
     rintro en w' hen
     cases en with
     |returned v=>
      show next' ((over a ds).put o.dst v) w';rw[over_put];exact hn' _ _ hen
     |panicked c=>exact⟨a,rfl,hen⟩
     |outgrown=>exact LetsOut.over hen
    ·refine h.mono (fun v w' h=>?_)
     rw[over_put];exact hn' _ _ h
    ·exact⟨a,rfl,h⟩
    ·exact h.elim
   ·right
    refine⟨?_,LetsOut.over h'⟩;unfold Oper.asks at *;rw[over_eval];exact h
  ·rename_i hw
   rw[if_neg hw]at h;rw[over_put];exact hn' _ _ h
theorem wpAny_over {P:Program} {md:Region.Mode} {ops:Array Oper} {Q:Exit→Act→World→Prop} (ds:List Deferred):∀(fuel:Nat) (listed:Array Bool) (a:Act) (w:World),wpAny P md ops Q fuel listed a w→wpAny P md ops (QOv ds Q) fuel listed (over a ds) w
 |0,_,a,_,h=>⟨h.1,a,rfl,h.2⟩
 |fuel+1,_,a,_,h=>⟨fun hr=>⟨a,rfl,h.1 hr⟩,fun i hi=>wpOp_over ds (fun a w h=>wpAny_over ds fuel _ a w h) _ _ (h.2 i hi)⟩
section
variable {P:Program} {ty:Nat→Option TI} {n:Nat}
def AWpO (P:Program) (n:Nat) (KP:Value→Prop) (ds:List Deferred) (c:Code) (K:Exit→Env→Heap→Prop) (e:Env) (h:Heap):Prop:=
 ∀g0 w0 g w a,Sim g w n a e h→Ext g0 w0 g w→c.wp P (QOv ds (QOfP n K KP g0 w0)) (over a ds) w
theorem awpO_sound (hty:TyOK P ty) (hmix:P.follows .mixedOrders=true) (ds:List Deferred) {KP:Value→Prop}:∀(c:Code) (K:Exit→Env→Heap→Prop) (e:Env) (h:Heap),codeOK n c=true→awpP ty P KP (fun _ _ _ _=>False) c K e h→AWpO P n KP ds c K e h
 |.skip,K,e,h,_,hk=>fun g0 w0 g w a s hE=>wp_skip (Q:=QOv ds (QOfP n K KP g0 w0)) ⟨a,rfl,g,e,h,hk,s,hE⟩
 |.region id ops false,K,e,h,hok,hk=>fun g0 w0 g w a s hE=>by
  refine wp_region ?_;rw[List.range_eq_range'];refine wpOps_over ds _ _ _ ?_;have:=aopsP_sound hty (by simpa[codeOK] using hok) ops.toList 0 e h g w a (fun j _=>by simp) hk s hE;simpa using this
 |.region id ops true,K,e,h,hok,hk=>fun g0 w0 g w a s hE=>by
  refine wp_region_any hmix (wpAny_over ds _ _ _ _ ?_);have hok':ops.toList.all (okOp n)=true:=by simpa[codeOK] using hok
  obtain⟨fs,e',h',dl,q1,q2,⟨q3,q3'⟩,q4,q5⟩:=aopsD_path (n:=n) hty ops.toList 0 [] e h [] e h (fun o ho=>List.all_eq_true.1 hok' o ho) hk (fun _=>rfl) (fun _=>rfl);simp only[List.append_nil]at q3;have hz:∀i,(Array.replicate ops.size false).getD i false=false:=fun i=>by simp[Array.getD_eq_getD_getElem?,Array.getElem?_replicate];split<;>rfl
  have hnoneE:∀(ws:List Env) (k:Nat) (e:Env),envL ws (fun _=>false) k e=e:=by
   intro ws;induction ws with
   |nil=>intros;rfl
   |cons W r ih=>intro k e;rw[envL];simp only[Bool.false_eq_true,if_false];exact ih _ _
  have hnoneH:∀(ws:List Heap) (k:Nat) (e:Heap),heapL ws (fun _=>false) k e=e:=by
   intro ws;induction ws with
   |nil=>intros;rfl
   |cons W r ih=>intro k e;rw[heapL];simp only[Bool.false_eq_true,if_false];exact ih _ _
  have hunl:unl ops.size (fun i=>(Array.replicate ops.size false).getD i false)≤ops.size:=by
   unfold unl;simpa using List.length_filter_le (fun i=>!(Array.replicate ops.size false).getD i false) (List.range ops.size)
  cases dl with
  |nil=>
   have hw:=region_any hok' (q1.plain rfl) q2 q3 (g0:=g0) (w0:=w0) (K:=fun x e h=>match x with|.normal=>K .normal e h|_=>False) (fun e2 h2 r1 r2=>⟨e',h',q3',fun i=>(q4 i).trans (r1 i).symm,fun i=>(q5 i).trans (r2 i).symm⟩) ops.size (Array.replicate ops.size false) a { w with drawn:=w.drawn+1 } (by simp) hunl
    (by intro j o ho hj;simp only[hz]at hj;cases hj) ⟨g,by simp only[hz,hnoneE,hnoneH];exact s.drew,hE.trans Ext.drew⟩
   refine wpAny_monoQ (fun x a w hq=>?_) _ _ _ _ hw;obtain⟨g,e,h,hk,s,hE⟩:=hq
   cases x with
   |normal=>exact⟨g,e,h,hk,s,hE⟩
   |_=>exact hk.elim
  |cons d dl=>
   exact region_pan hok' q1 q2 q3 (g0:=g0) (w0:=w0) (K:=K) ⟨d,by simp⟩ ops.size (Array.replicate ops.size false) a { w with drawn:=w.drawn+1 } (by simp) hunl
    (by intro j o ho hj;simp only[hz]at hj;cases hj) (fun i _=>hz i) ⟨g,by simp only[hz,hnoneE,hnoneH];exact s.drew,hE.trans Ext.drew⟩
 |.seq x y,K,e,h,hok,hk=>fun g0 w0 g w a s hE=>by
  have hok:codeOK n x=true∧codeOK n y=true:=by simpa[codeOK] using hok
  refine wp_seq (wp_mono (awpO_sound hty hmix ds x _ e h hok.1 hk g0 w0 g w a s hE) ?_);intro ex a' w' hq
  cases ex with
  |normal=>
   obtain⟨a',rfl,g',e',h',hk',s',hE'⟩:=hq;exact awpO_sound hty hmix ds y K e' h' hok.2 hk' g0 w0 g' w' a' s' hE'
  |_=>exact hq
 |.cond c x y,K,e,h,hok,hk=>fun g0 w0 g w a s hE=>by
  have hok:codeOK n x=true∧codeOK n y=true:=by simpa[codeOK] using hok
  have hk:(match Go.AM.ev e c with|.p (.b g)=>ASplit g (awpP ty P KP (fun _ _ _ _=>False) x K e h) (awpP ty P KP (fun _ _ _ _=>False) y K e h)|_=>AStuck "cond"):=hk;split at hk
  ·rename_i b hb
   obtain⟨_,r⟩:=s.ev c;rw[hb]at r;refine wp_cond (by rw[over_eval];exact r.bool) ?_
   cases b with
   |true=>exact awpO_sound hty hmix ds x K e h hok.1 hk g0 w0 g w a s hE
   |false=>exact awpO_sound hty hmix ds y K e h hok.2 hk g0 w0 g w a s hE
  ·exact hk.elim
 |.block id c,K,e,h,hok,hk=>fun g0 w0 g w a s hE=>by
  refine wp_block (wp_mono (awpO_sound hty hmix ds c _ e h (by simpa[codeOK] using hok) hk g0 w0 g w a s hE) ?_);intro ex a' w' hq
  cases ex with
  |exit i=>
   obtain⟨a',rfl,g',e',h',hk',s',hE'⟩:=hq;simp only[Exit.inBlock]
   by_cases q:i=id
   ·subst q
    rw[if_pos rfl];simp only[beq_self]at hk';exact⟨a',rfl,g',e',h',hk',s',hE'⟩
   ·rw[if_neg q]
    simp only[beq_false q]at hk';exact⟨a',rfl,g',e',h',hk',s',hE'⟩
  |_=>exact hq
 |.exit id,K,e,h,_,hk=>fun g0 w0 g w a s hE=>wp_exit (Q:=QOv ds (QOfP n K KP g0 w0)) ⟨a,rfl,g,e,h,hk,s,hE⟩
 |.ret,K,e,h,_,hk=>fun g0 w0 g w a s hE=>wp_ret (Q:=QOv ds (QOfP n K KP g0 w0)) ⟨a,rfl,g,e,h,hk,s,hE⟩
 |.loop c,K,e,h,_,hk=>hk.elim
 |.rangeFunc ..,K,e,h,_,hk=>hk.elim
 |.scope _,K,e,h,_,hk=>hk.elim
 |.label _,K,e,h,_,hk=>hk.elim
 |.goto _,K,e,h,_,hk=>hk.elim
 |.refuse _,K,e,h,_,hk=>hk.elim
end
end Go.AM
namespace Go.AM
section
variable {P:Program} {ty:Nat→Option TI} {n:Nat}
theorem done_rel (hty:TyOK P ty) {fn:Func} {r:AV} {h':Heap} (hr:(r.within (memB (keysOf h'))&&objsIn (memB (keysOf h')) h')=true) {g g1:Gh} {w w':World} {a':Act} {e1:Env} {h1:Heap} (s1:Sim g1 w' n a' e1 h1) (hE1:Ext g w g1 w')
 (hq:match resOf ty fn.results.toList fn.resultTypes.toList e1 h1 with|some v=>RetOK v r∧heapOK h1 h'|none=>False):∃v,(results fn a'.tmps).run P w'=.ok v w'∧
   (∃v1 g',Ending.returned v=.returned v1∧VRel g' w' (domOf h') (some .ret) v1 r∧HRel g' w' h'∧(∀b ow,g'.own b=some ow→b<w'.heap.size)∧Ext g w g' w'):=by
 simp only[Bool.and_eq_true]at hr;obtain⟨hr1,hr2⟩:=hr;split at hq
 ·rename_i x hx
  obtain⟨hq,hheap⟩:=hq;obtain⟨v,hrun,t,hv⟩:=resOf_rel (P:=P) hty s1 hx
  have hv:VRel g1 w' (domOf h1) (some (.slot t)) v r:=by
   rcases hq with rfl|rfl
   ·exact hv
   ·exact hv.copy
  have hdom:∀l,memB (keysOf h') l=true→domOf h' l:=fun l hl=>by
   obtain⟨ob,hob⟩:=hget_of_key h' l (memB_mem _ _ hl);unfold domOf;rw[hob];rfl
  let g':Gh:={ pre:=g1.pre,own:=fun b=>retOwn h' t (g1.own b),ρ:=g1.ρ,σ:=g1.σ,sown:=g1.sown }
  have conv:∀{ow:Option Owner} {u:Value} {y:AV},(∀q,ow=some q→retOwn h' t (some q)=some q)→VRel g1 w' (domOf h1) ow u y→y.within (memB (keysOf h'))=true→VRel g' w' (domOf h') ow u y:=by
   intro ow u y hq r0 hin;have r1:=r0.within (dom':=domOf h') hdom hin;exact VRel.keep (g:=g1) (g':=g') (w:=w') (w':=w') (fun _ _ _ hv=>hv) (fun l hl=>⟨hl,rfl⟩) (fun l cs E _ hb=>⟨cs,E,hb,rfl⟩) (fun q b e1 ho=>⟨by show retOwn h' t (g1.own b)=some q;rw[ho];exact hq q e1,rfl,rfl⟩) r1
  refine⟨v,hrun,v,g',rfl,?_,⟨fun l ob hl=>?_,fun l ob hl hsl=>?_,fun l ob hl hsl=>?_⟩,fun b q hq=>?_,?_⟩
  ·cases r with
   |so sz xs=>
    cases hv with
    |full _ a _ _ hz hp=>exact .full _ a sz xs hz hp
    |own _ a cap _ _ cs E hz hp ho hpre hb' hs'=>exact .own .ret a cap sz xs cs E hz hp (by show retOwn h' t (g1.own a.block)=_;rw[ho];simp[retOwn]) hpre hb' hs'
   |_=>exact(conv (ow:=none) (fun _ q=>by cases q) (hv.anyOwner (fun _ _ q=>by cases q)) hr1).anyOwner (fun _ _ q=>by cases q)
  ·obtain⟨ob0,q1,q2⟩:=heapOK_get h' hheap l ob hl
   have hin:=objsIn_get h' hr2 l ob hl;have hkl:=hget_key _ _ _ hl
   cases (s1.heap.obj l ob0 q1).le q2 with
   |cells cs vs' E hb' hlen' hxx h1'=>exact .cells cs vs' E hb' hlen' (fun j u c q3 q4=>conv (fun q e1=>by cases e1;simp[retOwn,hkl]) (hxx j u c q3 q4) (withins_get _ cs (by simpa[AObj.within] using hin) j c q4)) h1'
   |arr xs vs' E hb' hlen' hxx h1'=>exact .arr xs vs' E hb' hlen' hxx h1'
   |map kd xs es clock hb' hxx hc=>exact .map kd xs es clock hb' hxx hc
   |gr st sz xs hg=>exact .gr st sz xs hg
   |dead=>exact .dead
   |bld T E2 bs2 hbl=>exact ORel.bldM hbl rfl rfl (fun bb hb2=>⟨by show retOwn h' t (g1.own bb)=_;rw[hb2];simp[retOwn,hkl],rfl,rfl⟩)
   |store T3 o3 sp3 nx3 z3 M3 hst=>exact .store T3 o3 sp3 nx3 z3 M3 (hst.mono (fun _ _ _ q=>q) (fun bb hb2=>⟨by show retOwn h' t (g1.own bb)=_;rw[hb2];simp[retOwn,hkl],rfl,rfl⟩) hst.sown)
   |glob gb gvs hgl=>exact ORel.globM hgl (fun h1 _ _=>⟨rfl,by show retOwn h' t (g1.own gb)=none;rw[h1];rfl⟩)
  ·obtain⟨ob0,q1,q2⟩:=heapOK_get h' hheap l ob hl
   show retOwn h' t (g1.own (g1.ρ l))=_;rw[s1.heap.own l ob0 q1 (q2.solid hsl)];simp[retOwn,hget_key _ _ _ hl]
  ·obtain⟨ob0,q1,q2⟩:=heapOK_get h' hheap l ob hl
   exact s1.heap.pre l ob0 q1 (q2.solid hsl)
  ·have hq:retOwn h' t (g1.own b)=some q:=hq
   cases hg:g1.own b with
   |none=>rw[hg]at hq;simp[retOwn]at hq
   |some q'=>exact s1.bnd b q' hg
  ·exact⟨hE1.size,hE1.os,hE1.out,hE1.imm,fun b hb hn=>⟨(hE1.kept b hb hn).1,(hE1.kept b hb hn).2.1,by show retOwn h' t (g1.own b)=none;rw[(hE1.kept b hb hn).2.2];rfl⟩,hE1.frz,hE1.frz',hE1.ρk,hE1.siz⟩
 ·exact hq.elim
theorem AWp.andThen {c rest:Code} {K:Exit→Env→Heap→Prop} {e:Env} {h:Heap} (hk:AWp P n c K e h) {Q:Exit→Act→World→Prop} {g0 g:Gh} {w0 w:World} {a:Act} (s:Sim g w n a e h) (hE:Ext g0 w0 g w)
 (hn:∀g' w' a' e' h',K .normal e' h'→Sim g' w' n a' e' h'→Ext g0 w0 g' w'→rest.wp P Q a' w') (hx:∀x g' w' a' e' h',x≠.normal→K x e' h'→Sim g' w' n a' e' h'→Ext g0 w0 g' w'→Q x a' w'):(Code.seq c rest).wp P Q a w:=by
 refine wp_seq (wp_mono (hk g0 w0 g w a s hE) ?_);rintro x a' w' ⟨g',e',h',hk',s',hE'⟩
 cases x with
 |normal=>exact hn g' w' a' e' h' hk' s' hE'
 |_=>exact hx _ g' w' a' e' h' (by intro q;cases q) hk' s' hE'
theorem Sim.atv {g:Gh} {w:World} {a:Act} {e:Env} {h:Heap} (s:Sim g w n a e h) {lv ll:List Nat} {vals:List AV} {objs:List AObj} (ha:Atv lv ll vals objs e h):Sim g w n a (lv.zip vals) (ll.zip objs):=by
 have:=s.mask (lv:=lv) (ll:=ll) ha.1 (by rw[ha.2.1];exact ha.2.2.1) ha.2.2.2;rw[ha.2.1]at this;exact this
def QKeep (S:Nat→Prop) (a0:Act) (Q:Exit→Act→World→Prop):Exit→Act→World→Prop:=fun x a w=>Q x a w∧(x≠.outgrown→∀i,S i→a.tmps.getD i undef=a0.tmps.getD i undef)
theorem LetsOut.keep {S:Nat→Prop} {a0:Act} {Q:Exit→Act→World→Prop} (h:LetsOut Q):LetsOut (QKeep S a0 Q):=by
 obtain⟨a,w,h⟩:=h;exact⟨a,w,h,fun q=>absurd rfl q⟩
theorem keep_put {S:Nat→Prop} {a a0:Act} {d:Option Tmp} {v:Value} (hd:∀d',d=some d'→¬S d') (h:∀i,S i→a.tmps.getD i undef=a0.tmps.getD i undef):∀i,S i→(a.put d v).tmps.getD i undef=a0.tmps.getD i undef:=by
 intro i hi;rw[←h i hi]
 cases d with
 |none=>rfl
 |some d=>
  have:d≠i:=fun q=>hd d rfl (q ▸ hi);simp[Act.put,this]
theorem wpOps_keep {ops:Array Oper} {Q:Exit→Act→World→Prop} (S:Nat→Prop) (a0:Act):∀(l:List Nat) (a:Act) (w:World),(∀i∈l,∀o,ops[i]?=some o→∀d,o.dst=some d→¬S d)→(∀i,S i→a.tmps.getD i undef=a0.tmps.getD i undef)→wpOps P ops Q l a w→wpOps P ops (QKeep S a0 Q) l a w
 | [],a,w,_,hk,h=>⟨h,fun _=>hk⟩
 |i::r,a,w,hS,hk,h=>by
  unfold wpOps at h ⊢;have hSr:=fun j hj=>hS j (List.mem_cons_of_mem _ hj);split
  ·rename_i hn;rw[hn]at h;exact wpOps_keep S a0 r a w hSr hk h
  ·rename_i o hn
   have hSo:=hS i (by simp) o hn;rw[hn]at h;simp only at h;split
   ·rename_i hw
    rw[if_pos hw]at h;rcases h with h|⟨h,h'⟩
    ·left
     unfold Oper.wp at *;generalize (execOp a.eval o).run P w=rr at *;unfold Oper.upon at *;split at h
     ·exact wpOps_keep S a0 r _ _ hSr (keep_put hSo hk) h
     ·exact wpOps_keep S a0 r _ _ hSr (keep_put hSo hk) h
     ·exact wpOps_keep S a0 r _ _ hSr (keep_put hSo hk) h
     ·refine h.mono ?_
      rintro en w' hen
      cases en with
      |returned v=>exact wpOps_keep S a0 r _ _ hSr (keep_put hSo hk) hen
      |panicked c=>exact⟨hen,fun _=>hk⟩
      |outgrown=>exact LetsOut.keep hen
     ·refine h.mono (fun v w' h=>?_)
      exact wpOps_keep S a0 r _ _ hSr (keep_put hSo hk) h
     ·exact⟨h,fun _=>hk⟩
     ·exact h.elim
    ·exact .inr ⟨h,LetsOut.keep h'⟩
   ·rename_i hw
    rw[if_neg hw]at h;exact wpOps_keep S a0 r _ _ hSr (keep_put hSo hk) h
theorem AWpO.andThen {c rest:Code} {KP:Value→Prop} {ds:List Deferred} {K:Exit→Env→Heap→Prop} {e:Env} {h:Heap} (hk:AWpO P n KP ds c K e h) {Q:Exit→Act→World→Prop} {g0 g:Gh} {w0 w:World} {a:Act} (s:Sim g w n a e h) (hE:Ext g0 w0 g w) (hKP:∀v,¬KP v)
 (hn:∀g' w' a' e' h',K .normal e' h'→Sim g' w' n a' e' h'→Ext g0 w0 g' w'→rest.wp P Q (over a' ds) w') (hx:∀x g' w' a' e' h',x≠.normal→K x e' h'→Sim g' w' n a' e' h'→Ext g0 w0 g' w'→Q x (over a' ds) w'):(Code.seq c rest).wp P Q (over a ds) w:=by
 refine wp_seq (wp_mono (hk g0 w0 g w a s hE) ?_);rintro x a' w' ⟨a',rfl,hq⟩
 cases x with
 |normal=>
  obtain⟨g',e',h',hk',s',hE'⟩:=hq;exact hn g' w' a' e' h' hk' s' hE'
 |panic c=>exact absurd hq.2.choose_spec.2.1 (hKP _)
 |_=>
  obtain⟨g',e',h',hk',s',hE'⟩:=hq;exact hx _ g' w' a' e' h' (by intro q;cases q) hk' s' hE'
theorem AWpO.end {c:Code} {KP:Value→Prop} {ds:List Deferred} {K:Exit→Env→Heap→Prop} {e:Env} {h:Heap} (hk:AWpO P n KP ds c K e h) {Q:Exit→Act→World→Prop} {g0 g:Gh} {w0 w:World} {a:Act} (s:Sim g w n a e h) (hE:Ext g0 w0 g w) (hKP:∀v,¬KP v)
 (hx:∀x g' w' a' e' h',K x e' h'→Sim g' w' n a' e' h'→Ext g0 w0 g' w'→Q x (over a' ds) w'):c.wp P Q (over a ds) w:=by
 refine wp_mono (hk g0 w0 g w a s hE) ?_;rintro x a' w' ⟨a',rfl,hq⟩
 cases x with
 |panic c=>exact absurd hq.2.choose_spec.2.1 (hKP _)
 |_=>
  obtain⟨g',e',h',hk',s',hE'⟩:=hq;exact hx _ g' w' a' e' h' hk' s' hE'
end
end Go.AM
