/- Contracts, and the law, for every input. No conditions. -/
import Derived.Test.YtldppkdekklpkaaGreatDoorAMPan
import Derived.Test.YtldppkdekklpkaaGreatDoorChecked
import Derived.Test.YtldppkdekklpkaaGreatDoorTKD
import Derived.Test.YtldppkdekklpkaaGreatDoorTS2
import Derived.Lib.ParseIntB
import Derived.Lib.Strings
import Derived.Lib.Slices
import Derived.Lib.Walk
import Derived.Lib.Bytealg
set_option linter.all false
section
namespace Go.AM
section
variable {P:Program} {ty:Nat→Option TI} {n:Nat}
def deadB (dl:List Nat) (o:Oper):Bool:=match dl with
 | []=>false
 |d::r=>o.after.toList.any fun x=>Region.binds .any x&&memB (d::r) x.on
theorem deadB_spec {dl:List Nat} {o:Oper} (h:deadB dl o=true):∃x∈o.after,Region.binds .any x=true∧x.on∈dl:=by
 unfold deadB at h;split at h
 ·cases h
 ·obtain⟨x,hx,hb⟩:=List.any_eq_true.1 h
  simp only[Bool.and_eq_true]at hb;exact⟨x,by simpa using hx,hb.1,memB_mem _ _ hb.2⟩
noncomputable def aopsD (ty:Nat→Option TI) (P:Program) (KP:Value→Prop) (all:List Oper) (l:List Oper):Nat→List Nat→Env→Heap→List (Option Eff)→(Env→Heap→List (Option Eff)→List Nat→Prop)→Prop:=
 @List.rec Oper (fun _=>Nat→List Nat→Env→Heap→List (Option Eff)→(Env→Heap→List (Option Eff)→List Nat→Prop)→Prop)
  (fun _ dl e h rs K=>K e h rs dl)
  (fun o _ ih i dl e h rs K=>match deadB dl o with
    |true=>ih (i+1) (i::dl) e h (some ⟨[],[],[]⟩::rs) K
    |false=>guardOf all o e (fun e=>putT o e fun e=>ih (i+1) dl e h (none::rs) K) fun e=>
     aop ty (callX P fun rd v=>KP v∧ih (i+1) (i::dl) e h (some ⟨rd,[],[]⟩::rs) K) (moved all) o e h fun f=>pushE f.ew e fun e=>pushH f.hw h fun h=>ih (i+1) dl e h (some f::rs) K) l
theorem aopsD_cons (KP:Value→Prop) (all:List Oper) (o:Oper) (r:List Oper) (i:Nat) (dl:List Nat) (e:Env) (h:Heap) (rs:List (Option Eff)) (K:Env→Heap→List (Option Eff)→List Nat→Prop):aopsD ty P KP all (o::r) i dl e h rs K=
 match deadB dl o with
  |true=>aopsD ty P KP all r (i+1) (i::dl) e h (some ⟨[],[],[]⟩::rs) K
  |false=>guardOf all o e (fun e=>putT o e fun e=>aopsD ty P KP all r (i+1) dl e h (none::rs) K) fun e=>
   aop ty (callX P fun rd v=>KP v∧aopsD ty P KP all r (i+1) (i::dl) e h (some ⟨rd,[],[]⟩::rs) K) (moved all) o e h fun f=>pushE f.ew e fun e=>pushH f.hw h fun h=>aopsD ty P KP all r (i+1) dl e h (some f::rs) K:=rfl
inductive PathX (P:Program) (n:Nat) (KP:Value→Prop) (all:List Oper):List Oper→Nat→List Nat→Env→Heap→List (Option Eff)→List Nat→Prop
 |nil (i:Nat) (dl:List Nat) (e:Env) (h:Heap):PathX P n KP all [] i dl e h [] dl
 |step (o:Oper) (r:List Oper) (i:Nat) (dl dl':List Nat) (e:Env) (h:Heap) (f:Option Eff) (fs:List (Option Eff)) (h0:StepOK P n all o e h f) (h1:PathX P n KP all r (i+1) dl ((wrE o f).reverse++e) ((wrH f).reverse++h) fs dl'):PathX P n KP all (o::r) i dl e h (f::fs) dl'
 |pan (o:Oper) (r:List Oper) (i:Nat) (dl dl':List Nat) (e:Env) (h:Heap) (rd:List Nat) (v:Value) (fs:List (Option Eff)) (hg:guardA all o e=some true) (hk:KP v) (hop:OpPan P n o e h rd v) (h1:PathX P n KP all r (i+1) (i::dl) e h fs dl'):PathX P n KP all (o::r) i dl e h (some ⟨rd,[],[]⟩::fs) dl'
 |dead (o:Oper) (r:List Oper) (i:Nat) (dl dl':List Nat) (e:Env) (h:Heap) (fs:List (Option Eff)) (h0:deadB dl o=true) (h1:PathX P n KP all r (i+1) (i::dl) e h fs dl'):PathX P n KP all (o::r) i dl e h (some ⟨[],[],[]⟩::fs) dl'
theorem OpPan.congr {o:Oper} {e e':Env} {h h':Heap} {rd:List Nat} {v:Value} (hp:OpPan P n o e h rd v) (he:∀t∈slotsOf o,eget e' t=eget e t) (hh:∀l∈rd,hget h' l=hget h l):OpPan P n o e' h' rd v:=
 fun e2 h2 he2 hh2=>hp e2 h2 (fun t ht=>(he2 t ht).trans (he t ht)) (fun l hl=>(hh2 l hl).trans (hh l hl))
theorem PathX.sub {KP:Value→Prop} {all:List Oper}:∀{l:List Oper} {i:Nat} {dl:List Nat} {e:Env} {h:Heap} {fs:List (Option Eff)} {dl':List Nat},PathX P n KP all l i dl e h fs dl'→(∀d∈dl,d∈dl')∧(∀d∈dl',d∈dl∨(i≤d∧d<i+l.length)):=by
 intro l i dl e h fs dl' hp
 induction hp with
 |nil=>exact⟨fun d h=>h,fun d h=>.inl h⟩
 |step o r i dl dl' e h f fs h0 h1 ih=>
  refine⟨ih.1,fun d hd=>?_⟩;rcases ih.2 d hd with q|q
  ·exact .inl q
  ·exact .inr (by simp only[List.length_cons];omega)
 |pan o r i dl dl' e h rd v fs hg hk hop h1 ih=>
  refine⟨fun d hd=>ih.1 d (by simp[hd]),fun d hd=>?_⟩;rcases ih.2 d hd with q|q
  ·rcases List.mem_cons.1 q with q|q
   ·exact .inr (by simp only[List.length_cons];omega)
   ·exact .inl q
  ·exact .inr (by simp only[List.length_cons];omega)
 |dead o r i dl dl' e h fs h0 h1 ih=>
  refine⟨fun d hd=>ih.1 d (by simp[hd]),fun d hd=>?_⟩;rcases ih.2 d hd with q|q
  ·rcases List.mem_cons.1 q with q|q
   ·exact .inr (by simp only[List.length_cons];omega)
   ·exact .inl q
  ·exact .inr (by simp only[List.length_cons];omega)
theorem PathX.lt {KP:Value→Prop} {all l:List Oper} {e:Env} {h:Heap} {fs:List (Option Eff)} {dl:List Nat} (hp:PathX P n KP all l 0 [] e h fs dl):∀i∈dl,i<l.length:=fun i hi=>by
 rcases hp.sub.2 i hi with q|q
 ·cases q
 ·omega
theorem PathX.plain {KP:Value→Prop} {all:List Oper}:∀{l:List Oper} {i:Nat} {dl:List Nat} {e:Env} {h:Heap} {fs:List (Option Eff)} {dl':List Nat},PathX P n KP all l i dl e h fs dl'→dl'=[]→Path P n all l e h fs:=by
 intro l i dl e h fs dl' hp
 induction hp with
 |nil i dl e h=>intro _;exact .nil e h
 |step o r i dl dl' e h f fs h0 h1 ih=>intro q;exact .cons o r e h f fs h0 (ih q)
 |pan o r i dl dl' e h rd v fs hg hk hop h1 ih=>intro q;have:=h1.sub.1 i (by simp);rw[q]at this;cases this
 |dead o r i dl dl' e h fs h0 h1 ih=>intro q;have:=h1.sub.1 i (by simp);rw[q]at this;cases this
theorem PathX.atK {KP:Value→Prop} {all:List Oper}:∀{l:List Oper} {k:Nat} {dl:List Nat} {e:Env} {h:Heap} {fs:List (Option Eff)} {dl':List Nat},PathX P n KP all l k dl e h fs dl'→(∀d∈dl,d<k)→∀(j:Nat) (o:Oper) (f:Option Eff),l[j]?=some o→fs[j]?=some f→
 (k+j∉dl'∧StepOK P n all o (envL (ewS l fs) (fun i=>decide (i<k+j)) k e) (heapL (hwS fs) (fun i=>decide (i<k+j)) k h) f)∨
 (∃rd v,k+j∈dl'∧f=some ⟨rd,[],[]⟩∧guardA all o (envL (ewS l fs) (fun i=>decide (i<k+j)) k e)=some true∧KP v∧OpPan P n o (envL (ewS l fs) (fun i=>decide (i<k+j)) k e) (heapL (hwS fs) (fun i=>decide (i<k+j)) k h) rd v)∨
 (∃x∈o.after,Region.binds .any x=true∧x.on∈dl'):=by
 intro l k dl e h fs dl' hp
 have stopE:∀(ws:List Env) (k m:Nat) (e:Env),m≤k→envL ws (fun i=>decide (i<m)) k e=e:=by
  intro ws
  induction ws with
  |nil=>intros;rfl
  |cons W r ih=>intro k m e hm;rw[envL];simp only[show ¬k<m by omega,decide_false,Bool.false_eq_true,if_false];exact ih _ _ _ (by omega)
 have stopH:∀(ws:List Heap) (k m:Nat) (e:Heap),m≤k→heapL ws (fun i=>decide (i<m)) k e=e:=by
  intro ws
  induction ws with
  |nil=>intros;rfl
  |cons W r ih=>intro k m e hm;rw[heapL];simp only[show ¬k<m by omega,decide_false,Bool.false_eq_true,if_false];exact ih _ _ _ (by omega)
 induction hp with
 |nil=>intro _ j o f ho;simp at ho
 |step o r k dl dl' e h f fs h0 h1 ih=>
  intro hdl j o' f' ho hf
  cases j with
  |zero=>
   simp at ho hf;subst ho;subst hf;rw[stopE _ k (k+0) _ (Nat.le_refl k),stopH _ k (k+0) _ (Nat.le_refl k)];refine .inl ⟨fun hk=>?_,h0⟩;rcases h1.sub.2 _ hk with q|q
   ·have:=hdl _ q;omega
   ·omega
  |succ j=>
   simp at ho hf;have:=ih (fun d hd=>by have:=hdl d hd;omega) j o' f' ho hf;simp only[ewS,hwS,List.zipWith_cons_cons,List.map_cons,envL,heapL];simp only[show k<k+(j+1) by omega,decide_true,if_true];rw[show k+(j+1)=k+1+j by omega];exact this
 |pan o r k dl dl' e h rd v fs hg hk hop h1 ih=>
  intro hdl j o' f' ho hf
  cases j with
  |zero=>
   simp at ho hf;subst ho;subst hf;rw[stopE _ k (k+0) _ (Nat.le_refl k),stopH _ k (k+0) _ (Nat.le_refl k)];exact .inr (.inl ⟨rd,v,h1.sub.1 k (by simp),rfl,hg,hk,hop⟩)
  |succ j=>
   simp at ho hf
   have:=ih (fun d hd=>by
    rcases List.mem_cons.1 hd with q|q
    ·omega
    ·have:=hdl d q;omega) j o' f' ho hf
   simp only[ewS,hwS,List.zipWith_cons_cons,List.map_cons,envL,heapL,wrE,wrH,List.reverse_nil,List.nil_append,ite_self];rw[show k+(j+1)=k+1+j by omega];exact this
 |dead o r k dl dl' e h fs h0 h1 ih=>
  intro hdl j o' f' ho hf
  cases j with
  |zero=>
   simp at ho hf;subst ho;subst hf;obtain⟨x,hx,hb,hxd⟩:=deadB_spec h0;exact .inr (.inr ⟨x,hx,hb,h1.sub.1 _ (by simp[hxd])⟩)
  |succ j=>
   simp at ho hf
   have:=ih (fun d hd=>by
    rcases List.mem_cons.1 hd with q|q
    ·omega
    ·have:=hdl d q;omega) j o' f' ho hf
   simp only[ewS,hwS,List.zipWith_cons_cons,List.map_cons,envL,heapL,wrE,wrH,List.reverse_nil,List.nil_append,ite_self];rw[show k+(j+1)=k+1+j by omega];exact this
theorem PathX.at {KP:Value→Prop} {all l:List Oper} {e:Env} {h:Heap} {fs:List (Option Eff)} {dl:List Nat} (hp:PathX P n KP all l 0 [] e h fs dl) (j:Nat) (o:Oper) (f:Option Eff) (ho:l[j]?=some o) (hf:fs[j]?=some f):
 (j∉dl∧StepOK P n all o (envL (ewS l fs) (fun i=>decide (i<j)) 0 e) (heapL (hwS fs) (fun i=>decide (i<j)) 0 h) f)∨
 (∃rd v,j∈dl∧f=some ⟨rd,[],[]⟩∧guardA all o (envL (ewS l fs) (fun i=>decide (i<j)) 0 e)=some true∧KP v∧OpPan P n o (envL (ewS l fs) (fun i=>decide (i<j)) 0 e) (heapL (hwS fs) (fun i=>decide (i<j)) 0 h) rd v)∨
 (∃x∈o.after,Region.binds .any x=true∧x.on∈dl):=by
 have:=hp.atK (fun d hd=>by cases hd) j o f ho hf;simpa only[Nat.zero_add] using this
theorem aopsD_path (hty:TyOK P ty) {KP:Value→Prop} {all:List Oper} {K:Env→Heap→List (Option Eff)→List Nat→Prop}:∀(l:List Oper) (i:Nat) (dl:List Nat) (e:Env) (h:Heap) (rs:List (Option Eff)) (e2:Env) (h2:Heap),(∀o∈l,okOp n o=true)→
 aopsD ty P KP all l i dl e h rs K→(∀i,eget e2 i=eget e i)→(∀i,hget h2 i=hget h i)→
 ∃fs e' h' dl',PathX P n KP all l i dl e2 h2 fs dl'∧fs.length=l.length∧K e' h' (fs.reverse++rs) dl'∧(∀i,eget e' i=eget (envL (ewS l fs) (fun _=>true) 0 e2) i)∧(∀i,hget h' i=hget (heapL (hwS fs) (fun _=>true) 0 h2) i)
 | [],i,dl,e,h,rs,e2,h2,_,hk,he,hh=>⟨[],e,h,dl,.nil i dl e2 h2,rfl,hk,fun i=>(he i).symm,fun i=>(hh i).symm⟩
 |o::r,i,dl,e,h,rs,e2,h2,hok,hk,he,hh=>by
  have envShift:∀(ws:List Env) (k k':Nat) (e:Env),envL ws (fun _=>true) k e=envL ws (fun _=>true) k' e:=by
   intro ws
   induction ws with
   |nil=>intros;rfl
   |cons W r ih=>intro k k' e;rw[envL,envL];exact ih _ _ _
  have heapShift:∀(ws:List Heap) (k k':Nat) (e:Heap),heapL ws (fun _=>true) k e=heapL ws (fun _=>true) k' e:=by
   intro ws
   induction ws with
   |nil=>intros;rfl
   |cons W r ih=>intro k k' e;rw[heapL,heapL];exact ih _ _ _
  have hoko:=hok o (by simp);rw[aopsD_cons]at hk
  cases hdd:deadB dl o with
  |true=>
   rw[hdd]at hk;obtain⟨fs,e',h',dl',q1,q2,q3,q4,q5⟩:=aopsD_path hty r _ _ _ _ _ e2 h2 (fun o' ho'=>hok o' (by simp[ho'])) hk he hh;refine⟨some ⟨[],[],[]⟩::fs,e',h',dl',.dead o r i dl dl' e2 h2 fs hdd q1,by simp[q2],by simpa using q3,fun i=>?_,fun i=>?_⟩
   ·rw[q4 i];simp only[ewS,List.zipWith_cons_cons,envL,wrE,List.reverse_nil,List.nil_append,ite_self];rw[envShift]
   ·rw[q5 i];simp only[hwS,List.map_cons,heapL,wrH,List.reverse_nil,List.nil_append,ite_self];rw[heapShift]
  |false=>
  rw[hdd]at hk;rcases guard_path hk with⟨hg,e1,hk,hee⟩|⟨hg,e1,hk,hee⟩
  ·rcases aopX_sound hty (okOp_dst hoko) (okOp_store hoko) (okOp_map hoko) hk with⟨f,hk,hop⟩|⟨rd,v,⟨hkp,hk⟩,hop⟩
   rotate_left
   ·have he12:∀i,eget e2 i=eget e1 i:=fun i=>(he i).trans (hee i).symm
    obtain⟨fs,e',h',dl',q1,q2,q3,q4,q5⟩:=aopsD_path hty r _ _ _ _ _ e2 h2 (fun o' ho'=>hok o' (by simp[ho'])) hk he12 hh;refine⟨some ⟨rd,[],[]⟩::fs,e',h',dl',.pan o r i dl dl' e2 h2 rd v fs (by rw[guardA_congr (fun i _=>he i)];exact hg) hkp (hop.congr (fun t _=>he12 t) (fun l _=>hh l)) q1,by simp[q2],by simpa using q3,fun i=>?_,fun i=>?_⟩
    ·rw[q4 i];simp only[ewS,List.zipWith_cons_cons,envL,wrE,List.reverse_nil,List.nil_append,ite_self];rw[envShift]
    ·rw[q5 i];simp only[hwS,List.map_cons,heapL,wrH,List.reverse_nil,List.nil_append,ite_self];rw[heapShift]
   simp only[pushE_iff,pushH_iff]at hk;have he12:∀i,eget e2 i=eget e1 i:=fun i=>(he i).trans (hee i).symm;obtain⟨fs,e',h',dl',q1,q2,q3,q4,q5⟩:=aopsD_path hty r _ _ _ _ _ (f.ew.reverse++e2) (f.hw.reverse++h2) (fun o' ho'=>hok o' (by simp[ho'])) hk (eget_append_congr _ he12) (hget_append_congr _ hh);have hst:StepOK P n all o e2 h2 (some f):=StepOK.congr (e:=e1) (h:=h) (f:=some f) ⟨by rw[guardA_congr (fun i _=>hee i)];exact hg,hop⟩ (fun i _=>he12 i) (fun i _=>hh i);refine⟨some f::fs,e',h',dl',.step o r i dl dl' e2 h2 (some f) fs hst q1,by simp[q2],by simpa using q3,fun i=>?_,fun i=>?_⟩
   ·rw[q4 i];simp only[ewS,List.zipWith_cons_cons,envL,if_true,wrE];rw[envShift]
   ·rw[q5 i];simp only[hwS,List.map_cons,heapL,if_true,wrH];rw[heapShift]
  ·have key:aopsD ty P KP all r (i+1) dl ((wrE o none).reverse++e1) h (none::rs) K:=by
    unfold putT at hk;simp only[wrE];split at hk
    ·rename_i d hd;simpa using hk
    ·rename_i hd;simpa using hk
   have he12:∀i,eget e2 i=eget e1 i:=fun i=>(he i).trans (hee i).symm;obtain⟨fs,e',h',dl',q1,q2,q3,q4,q5⟩:=aopsD_path hty r _ _ _ _ _ ((wrE o none).reverse++e2) h2 (fun o' ho'=>hok o' (by simp[ho'])) key (eget_append_congr _ he12) hh;have hst:StepOK P n all o e2 h2 none:=StepOK.congr (e:=e1) (h:=h) (f:=none) (by simp only[StepOK];rw[guardA_congr (fun i _=>hee i)];exact hg) (fun i _=>he12 i) (fun i _=>hh i);refine⟨none::fs,e',h',dl',.step o r i dl dl' e2 h2 none fs hst q1,by simp[q2],by simpa using q3,fun i=>?_,fun i=>?_⟩
   ·rw[q4 i];simp only[ewS,List.zipWith_cons_cons,envL,if_true];rw[envShift]
   ·rw[q5 i];simp only[hwS,List.map_cons,heapL,if_true,wrH,List.reverse_nil,List.nil_append];rw[heapShift]
theorem region_pan {ops:Array Oper} (hok:ops.toList.all (okOp n)=true) {e:Env} {h:Heap} {fs:List (Option Eff)} {dl:List Nat} {KP:Value→Prop} (hp:PathX P n KP ops.toList ops.toList 0 [] e h fs dl) (hlen:fs.length=ops.toList.length) (hind:indB ops.toList fs.reverse=true)
 {g0:Gh} {w0:World} {K:Exit→Env→Heap→Prop} (hne:∃i,i∈dl):
 ∀(fuel:Nat) (listed:Array Bool) (a:Act) (w:World),listed.size=ops.size→unl ops.size (fun i=>listed.getD i false)≤fuel→Closed ops.toList (fun i=>listed.getD i false)→(∀i∈dl,listed.getD i false=false)→
  (∃g,Sim g w n a (envL (ewS ops.toList fs) (fun i=>listed.getD i false) 0 e) (heapL (hwS fs) (fun i=>listed.getD i false) 0 h)∧Ext g0 w0 g w)→wpAny P .any ops (QOfP n K KP g0 w0) fuel listed a w:=by
 have hm:GoodM ops.toList (masks ops.toList []):=masks_good _ _ _ (fun j=>by simp) (fun j m i hj=>by simp at hj)
 -- all are listed where none is ready
 have done:∀(listed:Array Bool),listed.size=ops.size→Region.ready .any ops listed=[]→∀i,i<ops.size→listed.getD i false=true:=by
  intro listed hls hr i
  induction i using Nat.strongRecOn with
  |_ i ih=>
   intro hi
   cases hq:listed.getD i false with
   |true=>rfl
   |false=>
    exfalso;have ho:ops[i]?=some ops[i]:=by simp[hi]
    have hmem:i∈Region.ready .any ops listed:=by
     rw[mem_ready];refine⟨?_,ops[i],ho,fun x hx hb=>?_⟩
     ·rw[Array.getD_eq_getD_getElem?]at hq ⊢
      rw[Array.getElem?_eq_getElem (by omega)]at hq ⊢;simpa using hq
     ·have:=ind_back hind (by rw[Array.getElem?_toList];exact ho) hx hb
      exact ih x.on this (by omega)
    rw[hr]at hmem;cases hmem
 have final:∀(listed:Array Bool),listed.size=ops.size→Region.ready .any ops listed=[]→(∀i∈dl,listed.getD i false=false)→False:=by
  intro listed hls hr hd;obtain⟨i,hi⟩:=hne;have h1:=done listed hls hr i (by have:=hp.lt i hi;simp at this;exact this);rw[hd i hi]at h1;cases h1
 intro fuel
 induction fuel with
 |zero=>
  intro listed a w hls hf hc hdl hs
  have hr:Region.ready .any ops listed=[]:=by
   cases hq:Region.ready .any ops listed with
   |nil=>rfl
   |cons i r=>
    exfalso;have hmem:i∈Region.ready .any ops listed:=by rw[hq];simp
    obtain⟨h0,o,ho,_⟩:=mem_ready.1 hmem;have hi:i<ops.size:=(Array.getElem?_eq_some_iff.1 ho).1
    have h1:listed.getD i false=false:=by
     rw[Array.getD_eq_getD_getElem?]at h0 ⊢;rw[Array.getElem?_eq_getElem (by omega)]at h0 ⊢;simpa using h0
    have:i∈(List.range ops.size).filter fun i=>!listed.getD i false:=by simp only[List.mem_filter,List.mem_range,hi,true_and];rw[h1];rfl
    have:=List.length_pos_of_mem this;have hf0:((List.range ops.size).filter fun i=>!listed.getD i false).length≤0:=hf;omega
  exact(final listed hls hr hdl).elim
 |succ fuel ih=>
  intro listed a w hls hf hc hdl hs;refine⟨fun hr=>(final listed hls hr hdl).elim,fun i hi=>?_⟩;obtain⟨h0,o,ho,hpre⟩:=mem_ready.1 hi;have hil:i<ops.size:=(Array.getElem?_eq_some_iff.1 ho).1
  have hnl:listed.getD i false=false:=by
   rw[Array.getD_eq_getD_getElem?]at h0 ⊢;rw[Array.getElem?_eq_getElem (by omega)]at h0 ⊢;simpa using h0
  have ho':ops.toList[i]?=some o:=by simpa using ho
  have hfi:i<fs.length:=by rw[hlen];simpa using hil
  have hf':fs[i]?=some fs[i]:=by simp[hfi]
  generalize fs[i]=f at hf'
  -- the new set
  have hset:∀j,(listed.setIfInBounds i true).getD j false=if j=i then true else listed.getD j false:=by
   intro j
   by_cases q:j=i
   ·subst q;simp[hls,hil]
   ·rw[getD_set_ne false (Ne.symm q),if_neg q]
  have hls':(listed.setIfInBounds i true).size=ops.size:=by simp[hls]
  have hc':Closed ops.toList (fun j=>(listed.setIfInBounds i true).getD j false):=by
   intro j oj hoj hj x hx hb;simp only[hset]at hj ⊢
   by_cases q:j=i
   ·subst q
    rw[ho']at hoj;cases hoj;have:=hpre x hx hb;split
    ·rfl
    ·exact this
   ·rw[if_neg q]at hj
    have:=hc j oj hoj hj x hx hb;simp only at this;split
    ·rfl
    ·exact this
  have hf2:unl ops.size (fun j=>(listed.setIfInBounds i true).getD j false)≤fuel:=by
   have:unl ops.size (fun j=>(listed.setIfInBounds i true).getD j false)<unl ops.size (fun j=>listed.getD j false):=by
    exact filter_lt _ _ i hset hnl _ (by simpa using hil)
   omega
  -- agreement with the text's order
  have hst:=hp.at i o f (by simpa using ho') hf'
  have before:∀{j:Nat} {oj:Oper} {fj:Option Eff},j<i→ops.toList[j]?=some oj→fs[j]?=some fj→apartB ops.toList oj fj o f=true∨listed.getD j false=true:=by
   intro j oj fj hji hoj hfj;rcases ind_pair hind hji hoj ho' hfj hf' with⟨m,q1,q2⟩|q
   ·exact .inr (ready_anc hm hc ho' hpre m j q1 q2)
   ·exact .inl q
  have behind:∀{j:Nat} {oj:Oper} {fj:Option Eff},i<j→ops.toList[j]?=some oj→fs[j]?=some fj→apartB ops.toList o f oj fj=true∨listed.getD j false=false:=by
   intro j oj fj hij hoj hfj;rcases ind_pair hind hij ho' hoj hf' hfj with⟨m,q1,q2⟩|q
   ·right
    cases hq:listed.getD j false with
    |false=>rfl
    |true=>have:=closed_anc hm hc j hq m i q1 q2;simp only[hnl]at this;cases this
   ·exact .inl q
  have agE:∀t,t∈slotsOf o++guardSlot ops.toList o→eget (envL (ewS ops.toList fs) (fun i=>listed.getD i false) 0 e) t=eget (envL (ewS ops.toList fs) (fun j=>decide (j<i)) 0 e) t:=by
   intro t ht;refine envL_congr t _ _ _ 0 e e rfl (fun j W hj hx=>?_);obtain⟨oj,fj,hoj,hfj,rfl⟩:=ewS_get hj;obtain⟨y,hy,hyt⟩:=hx;have hkey:t∈(wrE oj fj).map (·.1):=List.mem_map.2 ⟨y,hy,hyt⟩;rw[Nat.zero_add];rcases Nat.lt_trichotomy j i with q|q|q
   ·rcases before q hoj hfj with hap|hl
    ·simp only[apartB,Bool.and_eq_true]at hap
     exact(disj_spec hap.1.1.1 hkey (List.mem_append_left _ ht)).elim
    ·rw[hl];simp[q]
   ·subst q;rw[hnl];simp
   ·rcases behind q hoj hfj with hap|hl
    ·simp only[apartB,Bool.and_eq_true]at hap
     exact(disj_spec hap.1.1.2 ht hkey).elim
    ·rw[hl];simp;omega
  have agH:∀l,l∈rdH f→hget (heapL (hwS fs) (fun i=>listed.getD i false) 0 h) l=hget (heapL (hwS fs) (fun j=>decide (j<i)) 0 h) l:=by
   intro l hl;refine heapL_congr l _ _ _ 0 h h rfl (fun j W hj hx=>?_);obtain⟨fj,hfj,rfl⟩:=hwS_get hj;have hjl:j<ops.toList.length:=by have:=(List.getElem?_eq_some_iff.1 hfj).1;omega
   have hoj:ops.toList[j]?=some ops.toList[j]:=List.getElem?_eq_getElem hjl;obtain⟨y,hy,hyt⟩:=hx;have hkey:l∈(wrH fj).map (·.1):=List.mem_map.2 ⟨y,hy,hyt⟩;rw[Nat.zero_add];rcases Nat.lt_trichotomy j i with q|q|q
   ·rcases before q hoj hfj with hap|hll
    ·simp only[apartB,Bool.and_eq_true]at hap
     exact(disj_spec hap.1.2 hkey hl).elim
    ·rw[hll];simp[q]
   ·subst q;rw[hnl];simp
   ·rcases behind q hoj hfj with hap|hll
    ·simp only[apartB,Bool.and_eq_true]at hap
     exact(disj_spec hap.2 hl hkey).elim
    ·rw[hll];simp;omega
  have hwrH:∀t,t∈(wrH f).map (·.1)→t∈rdH f:=by
   intro t ht
   cases f with
   |none=>simp[wrH]at ht
   |some f=>simp only[rdH,wrH]at *;exact List.mem_append_right _ ht
  -- the state behind it
  have ewi:(ewS ops.toList fs)[i]?=some (wrE o f):=by unfold ewS;rw[List.getElem?_zipWith,ho',hf']
  have hwi:(hwS fs)[i]?=some (wrH f):=by unfold hwS;rw[List.getElem?_map,hf'];rfl
  have newE:∀t,eget (envL (ewS ops.toList fs) (fun j=>(listed.setIfInBounds i true).getD j false) 0 e) t=eget ((wrE o f).reverse++envL (ewS ops.toList fs) (fun i=>listed.getD i false) 0 e) t:=by
   intro t
   by_cases hx:∃y∈wrE o f,y.1=t
   ·refine envL_last t i _ _ 0 e (wrE o f) _ ewi hx (by simp only[Nat.zero_add,hset];simp) (fun j W hij hj hxj=>?_)
    obtain⟨oj,fj,hoj,hfj,rfl⟩:=ewS_get hj;simp only[Nat.zero_add,hset];rw[if_neg (by omega)];rcases behind hij hoj hfj with hap|hl
    ·simp only[apartB,Bool.and_eq_true]at hap
     obtain⟨y,hy,hyt⟩:=hx;obtain⟨z,hz,hzt⟩:=hxj;exact(disj_spec hap.1.1.1 (List.mem_map.2 ⟨y,hy,hyt⟩) (List.mem_append_right _ (List.mem_map.2 ⟨z,hz,hzt⟩))).elim
    ·exact hl
   ·rw[eget_append_none _ _ _ (fun y hy q=>hx ⟨y,by simpa using hy,q⟩)]
    refine envL_congr t _ _ _ 0 e e rfl (fun j W hj hxj=>?_);simp only[Nat.zero_add,hset];split
    ·rename_i q;subst q;rw[ewi]at hj;cases hj;exact absurd hxj hx
    ·rfl
  have newH:∀t,hget (heapL (hwS fs) (fun j=>(listed.setIfInBounds i true).getD j false) 0 h) t=hget ((wrH f).reverse++heapL (hwS fs) (fun i=>listed.getD i false) 0 h) t:=by
   intro t
   by_cases hx:∃y∈wrH f,y.1=t
   ·refine heapL_last t i _ _ 0 h (wrH f) _ hwi hx (by simp only[Nat.zero_add,hset];simp) (fun j W hij hj hxj=>?_)
    obtain⟨fj,hfj,rfl⟩:=hwS_get hj;have hjl:j<ops.toList.length:=by have:=(List.getElem?_eq_some_iff.1 hfj).1;omega
    have hoj:ops.toList[j]?=some ops.toList[j]:=List.getElem?_eq_getElem hjl;simp only[Nat.zero_add,hset];rw[if_neg (by omega)];rcases behind hij hoj hfj with hap|hl
    ·simp only[apartB,Bool.and_eq_true]at hap
     obtain⟨y,hy,hyt⟩:=hx;obtain⟨z,hz,hzt⟩:=hxj;exact(disj_spec hap.2 (hwrH t (List.mem_map.2 ⟨y,hy,hyt⟩)) (List.mem_map.2 ⟨z,hz,hzt⟩)).elim
    ·exact hl
   ·rw[hget_append_none _ _ _ (fun y hy q=>hx ⟨y,by simpa using hy,q⟩)]
    refine heapL_congr t _ _ _ 0 h h rfl (fun j W hj hxj=>?_);simp only[Nat.zero_add,hset];split
    ·rename_i q;subst q;rw[hwi]at hj;cases hj;exact absurd hxj hx
    ·rfl
  obtain⟨g,s,hE⟩:=hs
  -- the guard
  have hguard:∀b,guardA ops.toList o (envL (ewS ops.toList fs) (fun i=>listed.getD i false) 0 e)=some b→Region.wanted o (yielded ops a.tmps)=b:=by
   intro b hb;unfold guardA at hb
   cases hgd:o.guard with
   |none=>simp[hgd]at hb;subst hb;simp[Region.wanted,hgd]
   |some x=>
    obtain⟨j,want⟩:=x;simp only[hgd]at hb;split at hb
    ·rename_i og hog
     split at hb
     ·rename_i d hd
      split at hb
      ·rename_i b0 hb0
       have hv:=s.env d;rw[hb0]at hv;have hy:=yielded_of (by simpa using hog) hd hv.bool;simp only[Option.some.injEq]at hb;subst hb;simp[Region.wanted,hgd,hy]
      ·rename_i hb0
       have hv:=s.env d;rw[hb0]at hv;have hy:=yielded_none (by simpa using hog) hd hv.isUndef;simp only[Option.some.injEq]at hb;subst hb;simp[Region.wanted,hgd,hy]
      ·cases hb
     ·cases hb
    ·cases hb
  rcases hst with⟨hnd,hst⟩|⟨rd,v,hin,rfl,hg1,hkp,hop⟩|⟨x,hx,hb,hxd⟩
  ·have hdl':∀j∈dl,(listed.setIfInBounds i true).getD j false=false:=fun j hj=>by
    have hji:j≠i:=fun q=>hnd (by rw[←q];exact hj);rw[hset,if_neg hji];exact hdl j hj
   have hst':StepOK P n ops.toList o (envL (ewS ops.toList fs) (fun i=>listed.getD i false) 0 e) (heapL (hwS fs) (fun i=>listed.getD i false) 0 h) f:=hst.congr agE agH;simp only[wpOp,ho]
   cases f with
   |none=>
    simp only[StepOK]at hst';rw[if_neg (by rw[hguard false hst'];simp)];refine ih _ _ _ hls' hf2 hc' hdl' ⟨g,?_,hE⟩;simp only[wrH,List.reverse_nil,List.nil_append]at newH
    have s2:Sim g w n (a.put o.dst undef) ((wrE o none).reverse++envL (ewS ops.toList fs) (fun i=>listed.getD i false) 0 e) (heapL (hwS fs) (fun i=>listed.getD i false) 0 h):=by
     cases hdst:o.dst with
     |none=>simp only[wrE,hdst];exact s
     |some d=>simp only[wrE,hdst];exact s.put (okOp_dst (List.all_eq_true.1 hok o (by rw[←Array.getElem?_toList]at ho;exact List.mem_of_getElem? ho)) d hdst) VRel.und0
    exact(s2.envEq newE).heapEq newH
   |some f=>
    obtain⟨hg1,hop⟩:=hst';rw[if_pos (hguard true hg1)]
    left
    refine Oper.wp_monoQ (Oper.wp_mono ?_ (hop _ _ (fun _ _=>rfl) (fun _ _=>rfl) g w a s));rintro a' w' ⟨g',s',hE'⟩;exact ih _ _ _ hls' hf2 hc' hdl' ⟨g',(s'.envEq newE).heapEq newH,hE.trans hE'⟩
  ·have hg2:guardA ops.toList o (envL (ewS ops.toList fs) (fun i=>listed.getD i false) 0 e)=some true:=by
    rw[guardA_congr (fun t ht=>agE t (List.mem_append_right _ ht))];exact hg1
   simp only[wpOp,ho];rw[if_pos (hguard true hg2)]
   left
   exact Oper.wp_pan (hop _ _ (fun t ht=>agE t (List.mem_append_left _ ht)) (fun l hl=>agH l (by simpa[rdH] using hl)) g w a s) (fun x a w h=>h.q s.defers hkp hE)
  ·have h1:=hpre x hx hb
   rw[hdl _ hxd]at h1;cases h1
end
end Go.AM
end
section
namespace Go.AM
section
variable {P:Program} {ty:Nat→Option TI} {n:Nat}
noncomputable def awpP (ty:Nat→Option TI) (P:Program) (KP:Value→Prop) (lp:Code→(Exit→Env→Heap→Prop)→Env→Heap→Prop) (c:Code):(Exit→Env→Heap→Prop)→Env→Heap→Prop:=
 @Code.rec (fun _=>(Exit→Env→Heap→Prop)→Env→Heap→Prop)
  (fun K e h=>K .normal e h)
  (fun _ ops draw K e h=>match draw with
    |false=>aops ty (callX P fun _ v=>KP v) ops.toList ops.toList e h fun e h=>K .normal e h
    |true=>aopsD ty P KP ops.toList ops.toList 0 [] e h [] fun e h rs dl=>ANeed (indB ops.toList rs=true) (match dl with | []=>K .normal e h|_::_=>True))
  (fun _ _ iha ihb K e h=>iha (fun x e h=>match x with|.normal=>ihb K e h|x=>K x e h) e h)
  (fun c _ _ iha ihb K e h=>match ev e c with
    |.p (.b g)=>ASplit g (iha K e h) (ihb K e h)
    |_=>AStuck "cond")
  (fun id _ ih K e h=>ih (fun x e h=>match x with
    |.exit i=>match Nat.beq i id with|true=>K .normal e h|false=>K (.exit i) e h
    |x=>K x e h) e h)
  (fun c _ K e h=>lp c K e h)
  (fun _ _ _ _ _ _ _ _ _=>AStuck "rangeFunc")
  (fun id K e h=>K (.exit id) e h)
  (fun _ _ _ _ _=>AStuck "scope")
  (fun _ _ _ _=>AStuck "label")
  (fun _ _ _ _=>AStuck "goto")
  (fun K e h=>K .ret e h)
  (fun _ _ _ _=>AStuck "refuse") c
theorem wpOp_monoQ {ops:Array Oper} {Q Q':Exit→Act→World→Prop} (hq:∀x a w,Q x a w→Q' x a w) {i:Nat} {K K':Act→World→Prop} (hK:∀a w,K a w→K' a w) {a:Act} {w:World} (h:wpOp P ops Q i K a w):wpOp P ops Q' i K' a w:=by
 unfold wpOp at *;split
 ·rename_i ho;rw[ho]at h;exact hK _ _ h
 ·rename_i o ho
  rw[ho]at h;simp only at h;split
  ·rename_i hw
   rw[if_pos hw]at h;rcases h with h|⟨h,a',w',h'⟩
   ·left
    unfold Oper.wp at *;generalize (execOp a.eval o).run P w=r at *;unfold Oper.upon at *;split at h
    ·exact hK _ _ h
    ·exact hK _ _ h
    ·exact hK _ _ h
    ·refine h.mono ?_
     rintro en w' hen
     cases en with
     |returned v=>exact hK _ _ hen
     |panicked c=>exact hq _ _ _ hen
     |outgrown=>obtain⟨a',w'',h⟩:=hen;exact⟨a',w'',hq _ _ _ h⟩
    ·exact h.mono (fun v w' h=>hK _ _ h)
    ·exact hq _ _ _ h
    ·exact h.elim
   ·exact .inr ⟨h,a',w',hq _ _ _ h'⟩
  ·rename_i hw
   rw[if_neg hw]at h;exact hK _ _ h
theorem wpAny_monoQ {ops:Array Oper} {Q Q':Exit→Act→World→Prop} {md:Region.Mode} (hq:∀x a w,Q x a w→Q' x a w):∀(fuel:Nat) (listed:Array Bool) (a:Act) (w:World),wpAny P md ops Q fuel listed a w→wpAny P md ops Q' fuel listed a w
 |0,_,_,_,h=>⟨h.1,hq _ _ _ h.2⟩
 |fuel+1,_,_,_,h=>⟨fun hr=>hq _ _ _ (h.1 hr),fun i hi=>wpOp_monoQ hq (fun a w h=>wpAny_monoQ hq fuel _ a w h) (h.2 i hi)⟩
end
end Go.AM
end
section
namespace Go.AM
section
variable {P:Program} {ty:Nat→Option TI} {n:Nat}
end
end Go.AM
end
section
namespace Go.AM
section
variable {P:Program} {ty:Nat→Option TI} {n:Nat}
end
end Go.AM
end
section
open Go Go.AM Go.Proofs TK
set_option maxRecDepth 100000
namespace PA
theorem hmix:Tryz.prog.follows .mixedOrders=true:=by kernel_rfl
end PA
end
section
open Go Go.AM Go.Proofs TK
set_option maxRecDepth 100000
namespace PA
abbrev PR (α:Type):=Except Int (α×Nat)
section
variable {T:List Tk} {en:Int} {a:Nat} {α:Type} {e:α→AV}
end
end PA
end
section
open Go Go.AM Go.Proofs TK
set_option maxRecDepth 100000
namespace PA
section
variable {T:List Tk} {en:Int}
end
def leP (T:List Tk) (a:Nat) {α:Type} (x:PR α):Prop:=∀y a',x=.ok (y,a')→a≤a'∧a'≤T.length
def ltP (T:List Tk) (a:Nat) {α:Type} (x:PR α):Prop:=∀y a',x=.ok (y,a')→a<a'∧a'≤T.length
theorem ltP.le {T:List Tk} {a:Nat} {α:Type} {x:PR α} (h:ltP T a x):leP T a x:=fun y b e=>⟨by have:=h y b e;omega,(h y b e).2⟩
end PA
end
section
open Go Go.AM Go.Proofs TK
set_option maxRecDepth 100000
end
section
open Go Go.AM Go.Proofs TK TR
set_option maxRecDepth 100000
namespace PA
abbrev opn:ByteArray:=⟨#[40]⟩
end PA
end
section
open Go Go.AM Go.Proofs TK TR
set_option maxRecDepth 100000
end
section
open Go Go.AM Go.Proofs TK TR
set_option maxRecDepth 100000
end
section
open Go Go.AM Go.Proofs TK TR
set_option maxRecDepth 100000
namespace PA
section
variable {T:List Tk} {en:Int} {a:Nat} {α:Type} {e:α→AV}
end
end PA
end
section
open Go Go.AM Go.Proofs TK TR
set_option maxRecDepth 100000
end
section
open Go Go.AM Go.Proofs TK TR
set_option maxRecDepth 100000
end
section
open Go Go.AM Go.Proofs TK TR
set_option maxRecDepth 100000
namespace PA
section
variable {G:Nat} {tab:List Value} {T:List Tk} {en:Int} {a:Nat} {α:Type} {e:α→AV}
end
def numV (s:ByteArray):Int×Bool:=match Lib.parseIntB 64 s.data.toList with
 |.ok v=>(v,false)
 |.range=>(Lib.intSat 64 s.data.toList,true)
 |_=>(0,true)
def okN {α:Type} (x:Lib.NumEnd α):Bool:=match x with
 |.ok _=>true
 |.range=>true
 |_=>false
def PIC (G:Nat) (tab:List Value):Prop:=∀s:ByteArray,s.size≤5000→okN (Lib.parseIntB 64 s.data.toList)=true→AMem Tryz.prog 128 [.p (.s s),.p (.i .i64 10),.p (.i .i64 64)] [(1000000000,.glob G tab)] (.tup [.p (.i .i64 (numV s).1),.ifc (numV s).2]) [(1000000000,.glob G tab)]
structure TOK (T:List Tk):Prop where
 len:T.length≤4000
 num:∀t∈T,t.kind=4→∀pre:ByteArray,pre=⟨#[]⟩∨pre=⟨#[45]⟩→(pre++B t.text).size≤5000∧okN (Lib.parseIntB 64 (pre++B t.text).data.toList)=true
end PA
end
section
open Go Go.AM Go.Proofs TK TR
set_option maxRecDepth 100000
end
section
open Go Go.AM Go.Proofs TK TR
set_option maxRecDepth 100000
end
section
open Go Go.AM Go.Proofs
set_option maxRecDepth 100000
namespace TK
theorem hmix:Tryz.prog.follows .mixedOrders=true:=by kernel_rfl
theorem pure_of {f:Nat} {args:List AV} {vs:List Value} {r:Value} {y:PV} (hb:hasBody Tryz.prog f) (hv:∀g w us,us.length=args.length→(∀(j:Nat) (v:Value) (x:AV),us[j]?=some v→args[j]?=some x→VRel g w (fun _=>False) none v x)→us=vs)
 (hr:∀M,PRel M r y) (h:∀w,Calls Tryz.prog f vs.toArray w fun e w'=>e=.returned r∧w'=w):APure Tryz.prog f args (.p y):=by
 refine⟨hb,fun g w us hno hsw hl hrel=>?_⟩;obtain rfl:=hv g w us hl hrel;refine(h w).mono ?_;rintro e w' ⟨rfl,rfl⟩;exact⟨r,g,rfl,.p _ _ _ (hr _),Ext.refl g w'⟩
theorem vals2 {a b:PV} {x y:Value} (h1:∀M v,PRel M v a→v=x) (h2:∀M v,PRel M v b→v=y):∀(g:Gh) (w:World) (us:List Value),us.length=[AV.p a,AV.p b].length→(∀(j:Nat) (v:Value) (z:AV),us[j]?=some v→[AV.p a,AV.p b][j]?=some z→VRel g w (fun _=>False) none v z)→us=[x,y]:=by
 intro g w us hl hr
 match us,hl with
 | [u,v],_=>
   have q1:=(hr 0 u _ rfl rfl).pv;have q2:=(hr 1 v _ rfl rfl).pv;rw[h1 _ _ q1,h2 _ _ q2]
theorem body_of {f:Nat} {fn:Func} {c:Code} (hf:Tryz.prog.funcs[f]?=some fn) (hb:fn.body=some c) (hn:(fn.name== "runtime.NumGoroutine")=false):hasBody Tryz.prog f:=⟨fn,c,hf,hb,hn⟩
set_option maxHeartbeats 1000000 in
theorem idxByte_run (s:ByteArray) (c:Int) (w:World):
 Calls Tryz.prog 298 #[.string s,.int .u8 c] w fun e w'=>e=.returned (.int .i64 (Lib.indexByte s.data.toList c.toNat.toUInt8))∧w'=w:=by
 go_enter Tryz.func298,Tryz.ntmps298
 go_wp2
 rw[run_callFunc_extern Tryz.func314 (by kernel_rfl) (by kernel_rfl) (by kernel_rfl) (e:=Extern.BytealgIndexByte.indexByte) (by kernel_rfl),Lib.run_indexByteString];simp only[Result.andThen];rw[Oper.upon_value]
 go_wp2
 go_ret
 exact⟨rfl,rfl⟩
set_option maxHeartbeats 1000000 in
theorem count_run (s:ByteArray) (c:UInt8) (w:World):
 Calls Tryz.prog 284 #[.string s,.string ⟨#[c]⟩] w fun e w'=>e=.returned (.int .i64 (Lib.countByte s.data.toList c))∧w'=w:=by
 go_enter Tryz.func284,Tryz.ntmps284
 go_wp2
 rw[run_callFunc_extern Tryz.func306 (by kernel_rfl) (by kernel_rfl) (by kernel_rfl) (e:=Extern.BytealgCount.count) (by kernel_rfl),Lib.run_countString];simp only[Result.andThen];rw[Oper.upon_value]
 go_wp2
 go_ret
 exact⟨rfl,rfl⟩
theorem idxB0_spec (l:Bs) (c:UInt8):APure Tryz.prog 298 [.p (.s (B l)),.p (.i .u8 c.toNat)] (.p (.i .i64 (Lib.indexByte l c))):=by
 refine pure_of (vs:=[.string (B l),.int .u8 c.toNat]) (r:=.int .i64 (Lib.indexByte l c)) (body_of Tryz.func298 rfl (by rfl)) (vals2 (fun M v h=>by cases h;rfl) (fun M v h=>by cases h;rfl)) (fun M=>.i _ _) (fun w=>?_);have:=idxByte_run (B l) c.toNat w;rw[B_data]at this;simpa using this
theorem count_spec (l:Bs) (c:UInt8):APure Tryz.prog 284 [.p (.s (B l)),.p (.s (B [c]))] (.p (.i .i64 (Lib.countByte l c))):=by
 refine pure_of (vs:=[.string (B l),.string (B [c])]) (r:=.int .i64 (Lib.countByte l c)) (body_of Tryz.func284 rfl (by rfl)) (vals2 (fun M v h=>by cases h;rfl) (fun M v h=>by cases h;rfl)) (fun M=>.i _ _) (fun w=>?_);have:=count_run (B l) c w;rw[B_data]at this;exact this
theorem index0_spec (l:Bs) (c:UInt8):APure Tryz.prog 271 [.p (.s (B l)),.p (.s (B [c]))] (.p (.i .i64 (Lib.indexByte l c))):=by
 have h:=idxB0_spec l c
 by_cases hl:l=[c]
 ·subst hl
  rw[show Lib.indexByte [c] c=0 by simp[Lib.indexByte]];refine APure.intro (tyOf_ok Tryz.prog) hmix Tryz.func271 rfl (by rfl) (by kernel_rfl) (by show 2≤_;decide) rfl ?_;(conv=>whnf);refine ast (show((B [c]).toList==(B [c]).toList)=true by rw[B_beq];simp) ?_;(conv=>whnf);exact .inl rfl
 ·generalize Lib.indexByte l c=q at h
  refine APure.intro (tyOf_ok Tryz.prog) hmix Tryz.func271 rfl (by rfl) (by kernel_rfl) (by show 2≤_;decide) rfl ?_;(conv=>whnf);refine asf (show((B [c]).toList==(B l).toList)=false by rw[B_beq];simp only[beq_eq_false_iff_ne];exact fun h=>hl h.symm) ?_;(conv=>whnf);refine asix (l:=[c]) (k:=0) (c:=c) rfl rfl ?_;(conv=>whnf);refine apc h ?_;(conv=>whnf);exact .inl rfl
theorem index_spec (l:Bs) (c:UInt8):APure Tryz.prog 230 [.p (.s (B l)),.p (.s (B [c]))] (.p (.i .i64 (Lib.indexByte l c))):=by
 have h:=index0_spec l c;generalize Lib.indexByte l c=q at h;refine APure.intro (tyOf_ok Tryz.prog) hmix Tryz.func230 rfl (by rfl) (by kernel_rfl) (by show 2≤_;decide) rfl ?_;(conv=>whnf);refine apc h ?_;(conv=>whnf);exact .inl rfl
theorem containsB_spec (l:Bs) (c:UInt8):APure Tryz.prog 179 [.p (.s (B l)),.p (.s (B [c]))] (.p (.b (decide (Lib.indexByte l c≥0)))):=by
 have h:=index_spec l c;generalize Lib.indexByte l c=q at h;refine APure.intro (tyOf_ok Tryz.prog) hmix Tryz.func179 rfl (by rfl) (by kernel_rfl) (by show 2≤_;decide) rfl ?_;(conv=>whnf);refine apc h ?_;(conv=>whnf);exact .inl rfl
end TK
end
section
open Go Go.AM Go.Proofs
set_option maxRecDepth 100000
namespace TK
theorem idx_ge0 (l:Bs) (c:UInt8) (h:0<l.count c):∃m:Nat,Lib.indexByte l c=m∧m<l.length∧splitF c l=l.take m::splitF c (l.drop (m+1))∧(l.drop (m+1)).count c+1=l.count c:=by
 induction l with
 |nil=>simp at h
 |cons x r ih=>
  rw[show splitF c (x::r)=bif x==c then []::splitF c r else match splitF c r with|p::ps=>(x::p)::ps | []=>[[x]] from rfl];unfold Lib.indexByte
  cases hx:x==c with
  |true=>
   have e:=eq_of_beq hx;subst e;exact⟨0,by simp,by simp,by simp,by simp⟩
  |false=>
   have hne:x≠c:=by intro e;subst e;simp at hx
   have hc:r.count c=(x::r).count c:=by rw[List.count_cons_of_ne hne]
   obtain⟨m,h1,h2,h3,h4⟩:=ih (by omega);refine⟨m+1,?_,by simp;omega,?_,?_⟩
   ·rw[h1,if_neg (by simp),if_neg (by simp)];omega
   ·rw[h3];rfl
   ·simp only[List.drop_succ_cons];rw[←hc];exact h4
theorem split_none (l:Bs) (c:UInt8) (h:l.count c=0):splitF c l=[l]:=by
 induction l with
 |nil=>rfl
 |cons x r ih=>
  have hne:x≠c:=by intro e;subst e;simp at h
  have hx:(x==c)=false:=by simpa using hne
  rw[splitF,hx,ih (by rw[List.count_cons_of_ne hne]at h;exact h)];rfl
theorem split_len (l:Bs) (c:UInt8):(splitF c l).length=l.count c+1:=by
 induction l with
 |nil=>rfl
 |cons x r ih=>
  rw[splitF]
  cases hx:x==c with
  |true=>have e:=eq_of_beq hx;subst e;simp[ih]
  |false=>
   have hne:x≠c:=by intro e;subst e;simp at hx
   rw[List.count_cons_of_ne hne]
   cases hs:splitF c r with
   |nil=>rw[hs]at ih;simp at ih
   |cons p ps=>rw[hs]at ih;simpa using ih
theorem count_le' (l:Bs) (c:UInt8):l.count c≤l.length:=List.count_le_length
theorem set_mid {α:Type} (a:List α) (x y:α) (b:List α):(a++x::b).set a.length y=a++y::b:=by
 rw[List.set_append_right _ _ (Nat.le_refl _)];simp
theorem set_at {α:Type} (a:List α) (k:Nat) (h:a.length=k) (x y:α) (b:List α):(a++x::b).set k y=a++y::b:=by subst h;exact set_mid a x y b
theorem repl_succ (n:Nat) (h:0<n) (x:PV):List.replicate n x=x::List.replicate (n-1) x:=by
 obtain⟨m,rfl⟩:∃m,n=m+1:=⟨n-1,by omega⟩
 rfl
theorem genSplit_aux (l:Bs) (c:UInt8) (sep:ByteArray) (hl:l.length≤1048576) (RR:List Bs) (hRR:splitF c l=RR) (N:Nat) (hN:l.count c=N)
 (hc:APure Tryz.prog 284 [.p (.s (B l)),.p (.s sep)] (.p (.i .i64 N)))
 (hi:∀r,APure Tryz.prog 230 [.p (.s (B r)),.p (.s sep)] (.p (.i .i64 (Lib.indexByte r c))))
 (hse:(sep.toList==ByteArray.toList ⟨#[]⟩)=false) (hsz:sep.size=1):
 APure Tryz.prog 243 [.p (.s (B l)),.p (.s sep),.p (.i .i64 0),.p (.i .i64 (-1))] (.p (.sl 1 (RR.map eStr))):=by
 have hcl:=count_le' l c;have hR:=split_len l c;rw[hN]at hcl hR;refine APure.intro (tyOf_ok Tryz.prog) hmix Tryz.func243 rfl (by rfl) (by kernel_rfl) (by show 4≤_;decide) rfl ?_;(conv=>whnf);refine asf hse ?_;(conv=>whnf);refine apc hc ?_;(conv=>whnf);have e1:IntKind.i64.wrap ((N:Int)+1)=((N+1:Nat):Int):=by rw[wrap64 (by omega) (by omega)];omega
 have e2:(IntKind.i64.wrap (((B l).size:Int)+1))=((l.length+1:Nat):Int):=by rw[B_size,wrap64 (by omega) (by omega)];omega
 rw[e1,e2,if_neg (by omega)];refine aneed (show _∧_∧((N+1:Nat):Int)*((16:Nat):Int)≤140737488355328 from⟨rfl,by omega,by omega⟩) ?_;(conv=>whnf);have e3:IntKind.i64.wrap (((N+1:Nat):Int)-1)=(N:Int):=by rw[wrap64 (by omega) (by omega)];omega
 refine loopS (tyOf_ok _) hmix (by kernel_rfl) N [0,1,2,3,9,10] [31] (fun k (s:List Bs×Bs)=>[.p (.s (B s.2)),.p (.s sep),.p (.i .i64 0),.p (.i .i64 (IntKind.i64.wrap (((N+1:Nat):Int)-1))),.ar 31,.p (.i .i64 (ix k))])
  (fun k s=>[.arr (s.1.map eStr++List.replicate (N+1-k) (eStr []))]) (fun k s=>s.1.length=k∧RR=s.1++splitF c s.2∧k+s.2.count c=N∧s.2.length≤l.length) ([],l) ⟨rfl,rfl,rfl,rfl⟩ ⟨rfl,by simpa using hRR.symm,by simpa using hN,Nat.le_refl _⟩ ?_
 rintro k s hk ⟨q1,q2,q3,q4⟩;have hkx:ix k=(k:Int):=ix_eq (by omega);(conv=>whnf);refine asplit ?_ ?_<;>intro h1
 ·rw[e3,hkx]at h1
  have hk1:k<N:=by simpa using h1
  obtain⟨m,m1,m2,m3,m4⟩:=idx_ge0 s.2 c (by omega);have hq:=hi s.2;rw[m1]at hq;have u1:IntKind.i64.wrap ((m:Int)+0)=(m:Int):=by rw[wrap64 (by omega) (by omega)];omega
  have u2:IntKind.i64.wrap ((m:Int)+(sep.size:Int))=((m+1:Nat):Int):=by rw[hsz,wrap64 (by omega) (by omega)];omega
  have x1:(B s.2).extract (0:Int).toNat (IntKind.i64.wrap ((m:Int)+0)).toNat=B (s.2.take m):=by rw[u1,B_ext];simp
  have x2:(B s.2).extract (IntKind.i64.wrap ((m:Int)+(sep.size:Int))).toNat (((B s.2).size:Nat):Int).toNat=B (s.2.drop (m+1)):=by
   rw[u2,B_ext,B_size,Int.toNat_natCast,Int.toNat_natCast,List.take_of_length_le (by rw[List.length_drop];exact Nat.le_refl _)]
  (conv=>whnf);refine apc hq ?_;(conv=>whnf);refine aneed (by rw[u1,B_size];omega) ?_;rw[x1];(conv=>whnf);refine aneed (by rw[hkx];exact⟨by omega,by rw[List.length_append,List.length_map,List.length_replicate];omega⟩) ?_;(conv=>whnf);refine aneed (by rw[hkx,List.length_append,List.length_map,List.length_replicate];omega) ?_;(conv=>whnf);refine aneed (by rw[u2,B_size];omega) ?_;rw[x2];(conv=>whnf);refine⟨hk1,(s.1++[s.2.take m],s.2.drop (m+1)),⟨?_,rfl,rfl,rfl⟩,by simp[q1],by rw[q2,m3];simp,(by omega:k+1+(s.2.drop (m+1)).count c=N),by rw[List.length_drop];omega⟩;refine congrArg (fun z=>[some (AObj.arr z)]) ?_;show(s.1.map eStr++List.replicate (N+1-k) (eStr [])).set (ix k).toNat (eStr (s.2.take m))=(s.1++[s.2.take m]).map eStr++List.replicate (N+1-(k+1)) (eStr []);rw[hkx,repl_succ (N+1-k) (by omega),Int.toNat_natCast,set_at _ k (by simp[q1]),show N+1-k-1=N+1-(k+1) by omega];simp
 ·rw[e3,hkx]at h1
  have hk1:k=N:=by simp at h1;omega
  have c0:s.2.count c=0:=by omega
  have hkx2:IntKind.i64.wrap (ix k+1)=((k+1:Nat):Int):=by rw[hkx,wrap64 (by omega) (by omega)];omega
  rw[split_none s.2 c c0]at q2;(conv=>whnf);refine aneed (by rw[hkx];exact⟨by omega,by rw[List.length_append,List.length_map,List.length_replicate];omega⟩) ?_;(conv=>whnf);refine aneed (by rw[hkx,List.length_append,List.length_map,List.length_replicate];omega) ?_
  have hx:(s.1.map eStr++List.replicate (N+1-k) (eStr [])).set (ix k).toNat (eStr s.2)=RR.map eStr:=by
   rw[hkx,repl_succ (N+1-k) (by omega),Int.toNat_natCast,set_at _ k (by simp[q1]),show N+1-k-1=0 by omega,q2];simp
  conv=>whnf
  refine aneed (by
   show IntKind.i64.wrap (ix k+1)=(((s.1.map eStr++List.replicate (N+1-k) (eStr [])).set (ix k).toNat (eStr s.2)).length:Int)
   rw[hx,hkx2,List.length_map,←hRR,hR,hk1]) ?_
  (conv=>whnf);refine .inr (.inr ⟨?_,trivial⟩);exact congrArg (fun z=>some (AV.p (PV.sl 1 z))) hx
theorem genSplit_spec (l:Bs) (c:UInt8) (hl:l.length≤1048576):APure Tryz.prog 243 [.p (.s (B l)),.p (.s (B [c])),.p (.i .i64 0),.p (.i .i64 (-1))] (.p (.sl 1 ((splitF c l).map eStr))):=
 genSplit_aux l c (B [c]) hl _ rfl _ rfl (count_spec l c) (fun r=>index_spec r c) (by rw[show(⟨#[]⟩:ByteArray)=B [] from rfl,B_beq];rfl) rfl
end TK
end
