/- Part of a machine over plain values. No conditions. -/
import Derived.Test.YtldppkdekklpkaaGreatDoorAMDraw
set_option linter.all false
namespace Go.AM
section
variable {P:Program} {ty:Nat→Option TI} {n:Nat}
theorem disj_spec {a b:List Nat} (h:disj a b=true) {x:Nat} (h1:x∈a) (h2:x∈b):False:=by
 have:=List.all_eq_true.1 (List.all_eq_true.1 h x h1) x h2;simp at this
theorem fold_mask (acc:List Nat):∀(l:List Edge) (s i:Nat),(l.foldl (fun s x=>if Region.binds .any x then s |||2 ^ x.on |||(acc[x.on]?.getD 0) else s) s).testBit i=true→
 s.testBit i=true∨∃x∈l,Region.binds .any x=true∧(x.on=i∨∃m,acc[x.on]?=some m∧m.testBit i=true)
 | [],s,i,h=>.inl h
 |x::l,s,i,h=>by
  rw[List.foldl_cons]at h;rcases fold_mask acc l _ i h with h|⟨y,hy,hb⟩
  ·split at h
   ·rename_i hb
    simp only[Nat.testBit_or,Bool.or_eq_true]at h;rcases h with(h|h)|h
    ·exact .inl h
    ·rw[Nat.testBit_two_pow]at h;exact .inr ⟨x,by simp,hb,.inl (by simpa using h)⟩
    ·refine .inr ⟨x,by simp,hb,.inr ?_⟩
     cases hq:acc[x.on]? with
     |none=>simp[hq]at h
     |some m=>exact⟨m,rfl,by simpa[hq] using h⟩
   ·exact .inl h
  ·exact .inr ⟨y,by simp[hy],hb⟩
def GoodM (ops:List Oper) (ms:List Nat):Prop:=∀(j m i:Nat),ms[j]?=some m→m.testBit i=true→∃o x,ops[j]?=some o∧x∈o.after∧Region.binds .any x=true∧(x.on=i∨(x.on<j∧∃m',ms[x.on]?=some m'∧m'.testBit i=true))
theorem masks_good (ops:List Oper):∀(r:List Oper) (acc:List Nat),(∀j,r[j]?=ops[acc.length+j]?)→GoodM ops acc→GoodM ops (masks r acc)
 | [],acc,_,h=>h
 |o::r,acc,hr,h=>by
  rw[masks];refine masks_good ops r _ (fun j=>by have:=hr (j+1);simp at this;rw[this];simp;congr 1;omega) ?_;intro j m i hj hb
  by_cases hlt:j<acc.length
  ·rw[List.getElem?_append_left hlt]at hj
   obtain⟨o',x,h1,h2,h3,h4⟩:=h j m i hj hb;refine⟨o',x,h1,h2,h3,?_⟩;rcases h4 with h4|⟨h4,m',h5,h6⟩
   ·exact .inl h4
   ·exact .inr ⟨h4,m',by rw[List.getElem?_append_left (by omega)];exact h5,h6⟩
  ·rw[List.getElem?_append_right (by omega)]at hj
   have hj0:j=acc.length:=by
    have:=(List.getElem?_eq_some_iff.1 hj).1;simp at this;omega
   subst hj0;simp at hj;subst hj;rcases fold_mask acc _ _ _ hb with h0|⟨x,hx,hbx,hxx⟩
   ·simp at h0
   ·refine⟨o,x,by have:=hr 0;simpa using this.symm,by simpa using hx,hbx,?_⟩
    rcases hxx with hxx|⟨m',h5,h6⟩
    ·exact .inl hxx
    ·have:x.on<acc.length:=(List.getElem?_eq_some_iff.1 h5).1
     exact .inr ⟨this,m',by rw[List.getElem?_append_left this];exact h5,h6⟩
def Closed (ops:List Oper) (L:Nat→Bool):Prop:=∀j o,ops[j]?=some o→L j=true→∀x∈o.after,Region.binds .any x=true→L x.on=true
theorem closed_anc {ops:List Oper} {ms:List Nat} (hm:GoodM ops ms) {L:Nat→Bool} (hc:Closed ops L):∀(j:Nat),L j=true→∀m i,ms[j]?=some m→m.testBit i=true→L i=true:=by
 intro j
 induction j using Nat.strongRecOn with
 |_ j ih=>
  intro hj m i hmj hb;obtain⟨o,x,h1,h2,h3,h4⟩:=hm j m i hmj hb;have hx:=hc j o h1 hj x h2 h3;rcases h4 with rfl|⟨h4,m',h5,h6⟩
  ·exact hx
  ·exact ih x.on h4 hx m' i h5 h6
theorem ready_anc {ops:List Oper} {ms:List Nat} (hm:GoodM ops ms) {L:Nat→Bool} (hc:Closed ops L) {i:Nat} {o:Oper} (ho:ops[i]?=some o) (hr:∀x∈o.after,Region.binds .any x=true→L x.on=true) (m j:Nat) (hmi:ms[i]?=some m) (hb:m.testBit j=true):L j=true:=by
 obtain⟨o',x,h1,h2,h3,h4⟩:=hm i m j hmi hb;rw[ho]at h1;cases h1;have hx:=hr x h2 h3;rcases h4 with rfl|⟨h4,m',h5,h6⟩
 ·exact hx
 ·exact closed_anc hm hc x.on hx m' j h5 h6
theorem ind_pair {ops:List Oper} {fs:List (Option Eff)} (h:indB ops fs.reverse=true) {i j:Nat} (hij:i<j) {o1 o2:Oper} {f1 f2:Option Eff} (h1:ops[i]?=some o1) (h2:ops[j]?=some o2) (g1:fs[i]?=some f1) (g2:fs[j]?=some f2):
 (∃m,(masks ops [])[j]?=some m∧m.testBit i=true)∨apartB ops o1 f1 o2 f2=true:=by
 unfold indB at h;simp only[List.reverse_reverse,Bool.and_eq_true]at h;have h:=h.2
 have z1:((o1,f1),i)∈(ops.zip fs).zipIdx:=by
  rw[List.mem_zipIdx_iff_getElem?];simp[List.getElem?_zip_eq_some,h1,g1]
 have z2:((o2,f2),j)∈(ops.zip fs).zipIdx:=by
  rw[List.mem_zipIdx_iff_getElem?];simp[List.getElem?_zip_eq_some,h2,g2]
 have:=List.all_eq_true.1 (List.all_eq_true.1 h _ z1) _ z2;simp only[Bool.or_eq_true,Bool.not_eq_true']at this;rcases this with(this|this)|this
 ·have hh:Nat.blt i j=true:=by rw[Nat.blt_eq];exact hij
  rw[hh]at this;cases this
 ·left
  cases hq:(masks ops [])[j]? with
  |none=>simp[hq]at this
  |some m=>exact⟨m,rfl,by simpa[hq] using this⟩
 ·exact .inr this
theorem ind_back {ops:List Oper} {fs:List (Option Eff)} (h:indB ops fs.reverse=true) {i:Nat} {o:Oper} (ho:ops[i]?=some o) {x:Edge} (hx:x∈o.after) (hb:Region.binds .any x=true):x.on<i:=by
 unfold indB at h;simp only[Bool.and_eq_true]at h;have z:(o,i)∈ops.zipIdx:=by rw[List.mem_zipIdx_iff_getElem?];exact ho
 have:=List.all_eq_true.1 (List.all_eq_true.1 h.1 _ z) x (by simpa using hx);simp only[hb,Bool.not_true,Bool.false_or]at this;simpa using this
theorem ewS_get {l:List Oper} {fs:List (Option Eff)} {j:Nat} {W:Env} (h:(ewS l fs)[j]?=some W):∃o f,l[j]?=some o∧fs[j]?=some f∧W=wrE o f:=by
 unfold ewS at h;rw[List.getElem?_zipWith]at h
 cases ho:l[j]? with
 |none=>simp[ho]at h
 |some o=>
  cases hf:fs[j]? with
  |none=>simp[ho,hf]at h
  |some f=>simp[ho,hf]at h;exact⟨o,f,rfl,rfl,h.symm⟩
theorem hwS_get {fs:List (Option Eff)} {j:Nat} {W:Heap} (h:(hwS fs)[j]?=some W):∃f,fs[j]?=some f∧W=wrH f:=by
 unfold hwS at h;rw[List.getElem?_map]at h
 cases hf:fs[j]? with
 |none=>simp[hf]at h
 |some f=>simp[hf]at h;exact⟨f,rfl,h.symm⟩
def unl (n:Nat) (L:Nat→Bool):Nat:=((List.range n).filter fun i=>!L i).length
theorem filter_le (L L':Nat→Bool) (i:Nat) (h:∀j,L' j=if j=i then true else L j):∀(l:List Nat),(l.filter fun j=>!L' j).length≤(l.filter fun j=>!L j).length
 | []=>Nat.le_refl _
 |y::r=>by
  have ih:=filter_le L L' i h r;rw[List.filter_cons,List.filter_cons,h y]
  by_cases q:y=i
  ·rw[if_pos q]
   simp only[Bool.not_true,Bool.false_eq_true,if_false];split
   ·rw[List.length_cons];omega
   ·exact ih
  ·rw[if_neg q]
   split
   ·rw[List.length_cons,List.length_cons];omega
   ·exact ih
theorem filter_lt (L L':Nat→Bool) (i:Nat) (h:∀j,L' j=if j=i then true else L j) (hi:L i=false):∀(l:List Nat),i∈l→(l.filter fun j=>!L' j).length<(l.filter fun j=>!L j).length
 | [],hl=>by cases hl
 |y::r,hl=>by
  have hle:=filter_le L L' i h r;rw[List.filter_cons,List.filter_cons,h y]
  by_cases q:y=i
  ·subst q
   rw[if_pos rfl,hi];simp only[Bool.not_true,Bool.false_eq_true,if_false,Bool.not_false,if_true,List.length_cons];omega
  ·have ih:=filter_lt L L' i h hi r (by rcases List.mem_cons.1 hl with rfl|hl;exact absurd rfl q;exact hl)
   rw[if_neg q];split
   ·rw[List.length_cons,List.length_cons];omega
   ·exact ih
theorem inW_mem {i j:Nat}:∀{W:List (Nat×Nat)},inW i j W=true→(i,j)∈W
 | [],h=>by cases h
 |(a,b)::r,h=>by
  simp only[inW,Bool.or_eq_true,Bool.and_eq_true]at h;rcases h with⟨h1,h2⟩|h
  ·rw[Nat.eq_of_beq_eq_true h1,Nat.eq_of_beq_eq_true h2];exact List.mem_cons_self ..
  ·exact List.mem_cons_of_mem _ (inW_mem h)
theorem uniqW_spec:∀{W:List (Nat×Nat)},uniqW W=true→∀{i j j':Nat},(i,j)∈W→(i,j')∈W→j=j'
 | [],_,_,_,_,h,_=>by cases h
 |(a,b)::r,hu,i,j,j',h1,h2=>by
  simp only[uniqW,Bool.and_eq_true]at hu;obtain⟨u1,u2⟩:=hu
  have key:∀{k},(a,k)∈r→k=b:=fun hk=>by
   have:=List.all_eq_true.1 u1 _ hk;simp only[Nat.beq_refl,Bool.not_true,Bool.false_or]at this;exact Nat.eq_of_beq_eq_true this
  rcases List.mem_cons.1 h1 with h1|h1<;>rcases List.mem_cons.1 h2 with h2|h2
  ·cases h1;cases h2;rfl
  ·cases h1;exact(key h2).symm
  ·cases h2;exact key h1
  ·exact uniqW_spec u2 h1 h2
theorem apartB_W {all:List Oper} {o1 o2:Oper} {f1 f2:Option Eff} (h:apartB all o1 f1 o2 f2=true):apartW all o1 f1 o2 f2=true:=by
 simp only[apartB,apartW,Bool.and_eq_true]at h ⊢;exact h.1
theorem indB_W {ops:List Oper} {rs:List (Option Eff)} (h:indB ops rs=true):indW [] ops rs=true:=by
 unfold indB at h;unfold indW;simp only[Bool.and_eq_true]at h ⊢;refine⟨⟨h.1,rfl⟩,List.all_eq_true.2 fun x hx=>List.all_eq_true.2 fun y hy=>?_⟩;have:=List.all_eq_true.1 (List.all_eq_true.1 h.2 x hx) y hy;rw[this];rfl
theorem indW_pair {W:List (Nat×Nat)} {ops:List Oper} {fs:List (Option Eff)} (h:indW W ops fs.reverse=true) {i j:Nat} (hij:i<j) {o1 o2:Oper} {f1 f2:Option Eff} (h1:ops[i]?=some o1) (h2:ops[j]?=some o2) (g1:fs[i]?=some f1) (g2:fs[j]?=some f2):
 (∃m,(masks ops [])[j]?=some m∧m.testBit i=true)∨apartB ops o1 f1 o2 f2=true∨((i,j)∈W∧apartW ops o1 f1 o2 f2=true):=by
 unfold indW at h;simp only[List.reverse_reverse,Bool.and_eq_true]at h;have h:=h.2
 have z1:((o1,f1),i)∈(ops.zip fs).zipIdx:=by
  rw[List.mem_zipIdx_iff_getElem?];simp[List.getElem?_zip_eq_some,h1,g1]
 have z2:((o2,f2),j)∈(ops.zip fs).zipIdx:=by
  rw[List.mem_zipIdx_iff_getElem?];simp[List.getElem?_zip_eq_some,h2,g2]
 have:=List.all_eq_true.1 (List.all_eq_true.1 h _ z1) _ z2;simp only[Bool.or_eq_true,Bool.not_eq_true',Bool.and_eq_true]at this;rcases this with((this|this)|this)|this
 ·have hh:Nat.blt i j=true:=by rw[Nat.blt_eq];exact hij
  rw[hh]at this;cases this
 ·left
  cases hq:(masks ops [])[j]? with
  |none=>simp[hq]at this
  |some m=>exact⟨m,rfl,by simpa[hq] using this⟩
 ·exact .inr (.inl this)
 ·exact .inr (.inr ⟨inW_mem this.1,this.2⟩)
theorem indW_back {W:List (Nat×Nat)} {ops:List Oper} {fs:List (Option Eff)} (h:indW W ops fs.reverse=true) {i:Nat} {o:Oper} (ho:ops[i]?=some o) {x:Edge} (hx:x∈o.after) (hb:Region.binds .any x=true):x.on<i:=by
 unfold indW at h;simp only[Bool.and_eq_true]at h;have z:(o,i)∈ops.zipIdx:=by rw[List.mem_zipIdx_iff_getElem?];exact ho
 have:=List.all_eq_true.1 (List.all_eq_true.1 h.1.1 _ z) x (by simpa using hx);simp only[hb,Bool.not_true,Bool.false_or]at this;simpa using this
theorem indW_uniq {W:List (Nat×Nat)} {ops:List Oper} {rs:List (Option Eff)} (h:indW W ops rs=true):uniqW W=true:=by
 unfold indW at h;simp only[Bool.and_eq_true]at h;exact h.1.2
theorem region_anyW {W:List (Nat×Nat)} {ops:Array Oper} (hok:ops.toList.all (okOp n)=true) {e:Env} {h:Heap} {fs:List (Option Eff)} (hp:Path P n ops.toList ops.toList e h fs) (hlen:fs.length=ops.toList.length) (hind:indW W ops.toList fs.reverse=true)
 (hW:∀(i j:Nat) (o:Oper) (f fj:Option Eff),(i,j)∈W→ops.toList[i]?=some o→fs[i]?=some f→fs[j]?=some fj→i<j→wrH f=[]∧StepOK P n ops.toList o (envL (ewS ops.toList fs) (fun k=>decide (k<i)) 0 e) ((wrH fj).reverse++heapL (hwS fs) (fun k=>decide (k<i)) 0 h) f)
 {g0:Gh} {w0:World} {K:Exit→Env→Heap→Prop} (hK:∀e' h',(∀i,eget e' i=eget (envL (ewS ops.toList fs) (fun _=>true) 0 e) i)→(∀i,hget h' i=hget (heapL (hwS fs) (fun _=>true) 0 h) i)→∃e2 h2,K .normal e2 h2∧(∀i,eget e2 i=eget e' i)∧(∀i,hget h2 i=hget h' i)):
 ∀(fuel:Nat) (listed:Array Bool) (a:Act) (w:World),listed.size=ops.size→unl ops.size (fun i=>listed.getD i false)≤fuel→Closed ops.toList (fun i=>listed.getD i false)→
  (∃g,Sim g w n a (envL (ewS ops.toList fs) (fun i=>listed.getD i false) 0 e) (heapL (hwS fs) (fun i=>listed.getD i false) 0 h)∧Ext g0 w0 g w)→wpAny P .any ops (QOf n K g0 w0) fuel listed a w:=by
 have hm:GoodM ops.toList (masks ops.toList []):=masks_good _ _ _ (fun j=>by simp) (fun j m i hj=>by simp at hj)
 -- all are listed where none is ready
 have done:∀(listed:Array Bool),listed.size=ops.size→Region.ready .any ops listed=[]→∀i,i<ops.size→listed.getD i false=true:=by
  intro listed hls hr i
  induction i using Nat.strongRecOn with
  |_ i ih=>
   intro hi
   cases hq:listed.getD i false with
   |true=>rfl
   |false=>
    exfalso;have ho:ops[i]?=some ops[i]:=by simp[hi]
    have hmem:i∈Region.ready .any ops listed:=by
     rw[mem_ready];refine⟨?_,ops[i],ho,fun x hx hb=>?_⟩
     ·rw[Array.getD_eq_getD_getElem?]at hq ⊢
      rw[Array.getElem?_eq_getElem (by omega)]at hq ⊢;simpa using hq
     ·have:=indW_back hind (by rw[Array.getElem?_toList];exact ho) hx hb
      exact ih x.on this (by omega)
    rw[hr]at hmem;cases hmem
 have final:∀(listed:Array Bool) (a:Act) (w:World),listed.size=ops.size→Region.ready .any ops listed=[]→
  (∃g,Sim g w n a (envL (ewS ops.toList fs) (fun i=>listed.getD i false) 0 e) (heapL (hwS fs) (fun i=>listed.getD i false) 0 h)∧Ext g0 w0 g w)→QOf n K g0 w0 .normal a w:=by
  intro listed a w hls hr ⟨g,s,hE⟩;have hall:=done listed hls hr
  obtain⟨e2,h2,hk,q1,q2⟩:=hK (envL (ewS ops.toList fs) (fun i=>listed.getD i false) 0 e) (heapL (hwS fs) (fun i=>listed.getD i false) 0 h)
   (fun i=>envL_congr i _ _ _ 0 e e rfl (fun j W hj _=>by
     obtain⟨o,f,ho,_,_⟩:=ewS_get hj;have:j<ops.size:=by have:=(List.getElem?_eq_some_iff.1 ho).1;simpa using this
     simpa using hall j this))
   (fun i=>heapL_congr i _ _ _ 0 h h rfl (fun j W hj _=>by
     obtain⟨f,hf,_⟩:=hwS_get hj;have:j<ops.size:=by have:=(List.getElem?_eq_some_iff.1 hf).1;rw[hlen]at this;simpa using this
     simpa using hall j this))
  exact⟨g,e2,h2,hk,(s.envEq q1).heapEq q2,hE⟩
 intro fuel
 induction fuel with
 |zero=>
  intro listed a w hls hf hc hs
  have hr:Region.ready .any ops listed=[]:=by
   cases hq:Region.ready .any ops listed with
   |nil=>rfl
   |cons i r=>
    exfalso;have hmem:i∈Region.ready .any ops listed:=by rw[hq];simp
    obtain⟨h0,o,ho,_⟩:=mem_ready.1 hmem;have hi:i<ops.size:=(Array.getElem?_eq_some_iff.1 ho).1
    have h1:listed.getD i false=false:=by
     rw[Array.getD_eq_getD_getElem?]at h0 ⊢;rw[Array.getElem?_eq_getElem (by omega)]at h0 ⊢;simpa using h0
    have:i∈(List.range ops.size).filter fun i=>!listed.getD i false:=by simp only[List.mem_filter,List.mem_range,hi,true_and];rw[h1];rfl
    have:=List.length_pos_of_mem this;have hf0:((List.range ops.size).filter fun i=>!listed.getD i false).length≤0:=hf;omega
  exact⟨hr,final listed a w hls hr hs⟩
 |succ fuel ih=>
  intro listed a w hls hf hc hs;refine⟨fun hr=>final listed a w hls hr hs,fun i hi=>?_⟩;obtain⟨h0,o,ho,hpre⟩:=mem_ready.1 hi;have hil:i<ops.size:=(Array.getElem?_eq_some_iff.1 ho).1
  have hnl:listed.getD i false=false:=by
   rw[Array.getD_eq_getD_getElem?]at h0 ⊢;rw[Array.getElem?_eq_getElem (by omega)]at h0 ⊢;simpa using h0
  have ho':ops.toList[i]?=some o:=by simpa using ho
  have hfi:i<fs.length:=by rw[hlen];simpa using hil
  have hf':fs[i]?=some fs[i]:=by simp[hfi]
  generalize fs[i]=f at hf'
  -- the new set
  have hset:∀j,(listed.setIfInBounds i true).getD j false=if j=i then true else listed.getD j false:=by
   intro j
   by_cases q:j=i
   ·subst q;simp[hls,hil]
   ·rw[getD_set_ne false (Ne.symm q),if_neg q]
  have hls':(listed.setIfInBounds i true).size=ops.size:=by simp[hls]
  have hc':Closed ops.toList (fun j=>(listed.setIfInBounds i true).getD j false):=by
   intro j oj hoj hj x hx hb;simp only[hset]at hj ⊢
   by_cases q:j=i
   ·subst q
    rw[ho']at hoj;cases hoj;have:=hpre x hx hb;split
    ·rfl
    ·exact this
   ·rw[if_neg q]at hj
    have:=hc j oj hoj hj x hx hb;simp only at this;split
    ·rfl
    ·exact this
  have hf2:unl ops.size (fun j=>(listed.setIfInBounds i true).getD j false)≤fuel:=by
   have:unl ops.size (fun j=>(listed.setIfInBounds i true).getD j false)<unl ops.size (fun j=>listed.getD j false):=by
    exact filter_lt _ _ i hset hnl _ (by simpa using hil)
   omega
  -- agreement with the text's order
  have hst:=hp.at 0 i o f ho' hf';simp only[Nat.zero_add]at hst
  have before:∀{j:Nat} {oj:Oper} {fj:Option Eff},j<i→ops.toList[j]?=some oj→fs[j]?=some fj→apartW ops.toList oj fj o f=true∨listed.getD j false=true:=by
   intro j oj fj hji hoj hfj;rcases indW_pair hind hji hoj ho' hfj hf' with⟨m,q1,q2⟩|q|q
   ·exact .inr (ready_anc hm hc ho' hpre m j q1 q2)
   ·exact .inl (apartB_W q)
   ·exact .inl q.2
  have behind:∀{j:Nat} {oj:Oper} {fj:Option Eff},i<j→ops.toList[j]?=some oj→fs[j]?=some fj→(apartW ops.toList o f oj fj=true∧(disj (rdH f) ((wrH fj).map (·.1))=true∨(i,j)∈W))∨listed.getD j false=false:=by
   intro j oj fj hij hoj hfj;rcases indW_pair hind hij ho' hoj hf' hfj with⟨m,q1,q2⟩|q|q
   ·right
    cases hq:listed.getD j false with
    |false=>rfl
    |true=>have:=closed_anc hm hc j hq m i q1 q2;simp only[hnl]at this;cases this
   ·exact .inl ⟨apartB_W q,.inl (by simp only[apartB,Bool.and_eq_true]at q;exact q.2)⟩
   ·exact .inl ⟨q.2,.inr q.1⟩
  have agE:∀t,t∈slotsOf o++guardSlot ops.toList o→eget (envL (ewS ops.toList fs) (fun i=>listed.getD i false) 0 e) t=eget (envL (ewS ops.toList fs) (fun j=>decide (j<i)) 0 e) t:=by
   intro t ht;refine envL_congr t _ _ _ 0 e e rfl (fun j W hj hx=>?_);obtain⟨oj,fj,hoj,hfj,rfl⟩:=ewS_get hj;obtain⟨y,hy,hyt⟩:=hx;have hkey:t∈(wrE oj fj).map (·.1):=List.mem_map.2 ⟨y,hy,hyt⟩;rw[Nat.zero_add];rcases Nat.lt_trichotomy j i with q|q|q
   ·rcases before q hoj hfj with hap|hl
    ·simp only[apartW,Bool.and_eq_true]at hap
     exact(disj_spec hap.1.1 hkey (List.mem_append_left _ ht)).elim
    ·rw[hl];simp[q]
   ·subst q;rw[hnl];simp
   ·rcases behind q hoj hfj with⟨hap,_⟩|hl
    ·simp only[apartW,Bool.and_eq_true]at hap
     exact(disj_spec hap.1.2 ht hkey).elim
    ·rw[hl];simp;omega
  -- what it reads in memory,but for the writer of its pair
  have agL:∀(j:Nat) (fj:Option Eff),(i,j)∈W→fs[j]?=some fj→i<j→listed.getD j false=true→∀l,l∈rdH f→hget (heapL (hwS fs) (fun i=>listed.getD i false) 0 h) l=hget ((wrH fj).reverse++heapL (hwS fs) (fun j=>decide (j<i)) 0 h) l:=by
   intro j fj hjW hfj hij hlj l hl;have hwj:(hwS fs)[j]?=some (wrH fj):=by unfold hwS;rw[List.getElem?_map,hfj];rfl
   by_cases hx:∃y∈wrH fj,y.1=l
   ·refine heapL_last l j _ _ 0 h (wrH fj) _ hwj hx (by rw[Nat.zero_add];exact hlj) (fun k W' hjk hk hxk=>?_)
    obtain⟨fk,hfk,rfl⟩:=hwS_get hk;have hkl:k<ops.toList.length:=by have:=(List.getElem?_eq_some_iff.1 hfk).1;omega
    have hok2:ops.toList[k]?=some ops.toList[k]:=List.getElem?_eq_getElem hkl;obtain⟨y,hy,hyt⟩:=hxk;have hkey:l∈(wrH fk).map (·.1):=List.mem_map.2 ⟨y,hy,hyt⟩;rw[Nat.zero_add];rcases behind (by omega) hok2 hfk with⟨_,hap|hap⟩|hll
    ·exact(disj_spec hap hl hkey).elim
    ·have:=uniqW_spec (indW_uniq hind) hjW hap;omega
    ·exact hll
   ·rw[hget_append_none _ _ _ (fun y hy q=>hx ⟨y,by simpa using hy,q⟩)]
    refine heapL_congr l _ _ _ 0 h h rfl (fun k W' hk hxk=>?_);obtain⟨fk,hfk,rfl⟩:=hwS_get hk;have hkl:k<ops.toList.length:=by have:=(List.getElem?_eq_some_iff.1 hfk).1;omega
    have hok2:ops.toList[k]?=some ops.toList[k]:=List.getElem?_eq_getElem hkl;obtain⟨y,hy,hyt⟩:=hxk;have hkey:l∈(wrH fk).map (·.1):=List.mem_map.2 ⟨y,hy,hyt⟩;rw[Nat.zero_add];rcases Nat.lt_trichotomy k i with q|q|q
    ·rcases before q hok2 hfk with hap|hll
     ·simp only[apartW,Bool.and_eq_true]at hap
      exact(disj_spec hap.2 hkey hl).elim
     ·rw[hll];simp[q]
    ·subst q;rw[hnl];simp
    ·rcases behind q hok2 hfk with⟨_,hap|hap⟩|hll
     ·exact(disj_spec hap hl hkey).elim
     ·have ek:=uniqW_spec (indW_uniq hind) hjW hap
      subst ek;rw[hfj]at hfk;cases hfk;exact absurd ⟨y,hy,hyt⟩ hx
     ·rw[hll];simp;omega
  have agH:(∀(j:Nat) (fj:Option Eff),(i,j)∈W→fs[j]?=some fj→i<j→listed.getD j false=false)→∀l,l∈rdH f→hget (heapL (hwS fs) (fun i=>listed.getD i false) 0 h) l=hget (heapL (hwS fs) (fun j=>decide (j<i)) 0 h) l:=by
   intro hno l hl;refine heapL_congr l _ _ _ 0 h h rfl (fun j W' hj hx=>?_);obtain⟨fj,hfj,rfl⟩:=hwS_get hj;have hjl:j<ops.toList.length:=by have:=(List.getElem?_eq_some_iff.1 hfj).1;omega
   have hoj:ops.toList[j]?=some ops.toList[j]:=List.getElem?_eq_getElem hjl;obtain⟨y,hy,hyt⟩:=hx;have hkey:l∈(wrH fj).map (·.1):=List.mem_map.2 ⟨y,hy,hyt⟩;rw[Nat.zero_add];rcases Nat.lt_trichotomy j i with q|q|q
   ·rcases before q hoj hfj with hap|hll
    ·simp only[apartW,Bool.and_eq_true]at hap
     exact(disj_spec hap.2 hkey hl).elim
    ·rw[hll];simp[q]
   ·subst q;rw[hnl];simp
   ·rcases behind q hoj hfj with⟨_,hap|hap⟩|hll
    ·exact(disj_spec hap hl hkey).elim
    ·rw[hno j fj hap hfj q];simp;omega
    ·rw[hll];simp;omega
  have hwrH:∀t,t∈(wrH f).map (·.1)→t∈rdH f:=by
   intro t ht
   cases f with
   |none=>simp[wrH]at ht
   |some f=>simp only[rdH,wrH]at *;exact List.mem_append_right _ ht
  -- the state behind it
  have ewi:(ewS ops.toList fs)[i]?=some (wrE o f):=by unfold ewS;rw[List.getElem?_zipWith,ho',hf']
  have hwi:(hwS fs)[i]?=some (wrH f):=by unfold hwS;rw[List.getElem?_map,hf'];rfl
  have newE:∀t,eget (envL (ewS ops.toList fs) (fun j=>(listed.setIfInBounds i true).getD j false) 0 e) t=eget ((wrE o f).reverse++envL (ewS ops.toList fs) (fun i=>listed.getD i false) 0 e) t:=by
   intro t
   by_cases hx:∃y∈wrE o f,y.1=t
   ·refine envL_last t i _ _ 0 e (wrE o f) _ ewi hx (by simp only[Nat.zero_add,hset];simp) (fun j W hij hj hxj=>?_)
    obtain⟨oj,fj,hoj,hfj,rfl⟩:=ewS_get hj;simp only[Nat.zero_add,hset];rw[if_neg (by omega)];rcases behind hij hoj hfj with⟨hap,_⟩|hl
    ·simp only[apartW,Bool.and_eq_true]at hap
     obtain⟨y,hy,hyt⟩:=hx;obtain⟨z,hz,hzt⟩:=hxj;exact(disj_spec hap.1.1 (List.mem_map.2 ⟨y,hy,hyt⟩) (List.mem_append_right _ (List.mem_map.2 ⟨z,hz,hzt⟩))).elim
    ·exact hl
   ·rw[eget_append_none _ _ _ (fun y hy q=>hx ⟨y,by simpa using hy,q⟩)]
    refine envL_congr t _ _ _ 0 e e rfl (fun j W hj hxj=>?_);simp only[Nat.zero_add,hset];split
    ·rename_i q;subst q;rw[ewi]at hj;cases hj;exact absurd hxj hx
    ·rfl
  have newH:∀t,hget (heapL (hwS fs) (fun j=>(listed.setIfInBounds i true).getD j false) 0 h) t=hget ((wrH f).reverse++heapL (hwS fs) (fun i=>listed.getD i false) 0 h) t:=by
   intro t
   by_cases hx:∃y∈wrH f,y.1=t
   ·refine heapL_last t i _ _ 0 h (wrH f) _ hwi hx (by simp only[Nat.zero_add,hset];simp) (fun j W hij hj hxj=>?_)
    obtain⟨fj,hfj,rfl⟩:=hwS_get hj;have hjl:j<ops.toList.length:=by have:=(List.getElem?_eq_some_iff.1 hfj).1;omega
    have hoj:ops.toList[j]?=some ops.toList[j]:=List.getElem?_eq_getElem hjl;simp only[Nat.zero_add,hset];rw[if_neg (by omega)];rcases behind hij hoj hfj with⟨_,hap|hap⟩|hl
    ·obtain⟨y,hy,hyt⟩:=hx
     obtain⟨z,hz,hzt⟩:=hxj;exact(disj_spec hap (hwrH t (List.mem_map.2 ⟨y,hy,hyt⟩)) (List.mem_map.2 ⟨z,hz,hzt⟩)).elim
    ·obtain⟨y,hy,_⟩:=hx
     rw[(hW i j o f fj hap ho' hf' hfj hij).1]at hy;cases hy
    ·exact hl
   ·rw[hget_append_none _ _ _ (fun y hy q=>hx ⟨y,by simpa using hy,q⟩)]
    refine heapL_congr t _ _ _ 0 h h rfl (fun j W hj hxj=>?_);simp only[Nat.zero_add,hset];split
    ·rename_i q;subst q;rw[hwi]at hj;cases hj;exact absurd hxj hx
    ·rfl
  obtain⟨g,s,hE⟩:=hs
  have hst':StepOK P n ops.toList o (envL (ewS ops.toList fs) (fun i=>listed.getD i false) 0 e) (heapL (hwS fs) (fun i=>listed.getD i false) 0 h) f:=by
   by_cases hq:∃j fj,(i,j)∈W∧fs[j]?=some fj∧i<j∧listed.getD j false=true
   ·obtain⟨j,fj,q1,q2,q3,q4⟩:=hq
    exact((hW i j o f fj q1 ho' hf' q2 q3).2).congr agE (agL j fj q1 q2 q3 q4)
   ·refine hst.congr agE (agH fun j fj q1 q2 q3=>?_)
    cases hl:listed.getD j false with
    |false=>rfl
    |true=>exact absurd ⟨j,fj,q1,q2,q3,hl⟩ hq
  -- the guard
  have hguard:∀b,guardA ops.toList o (envL (ewS ops.toList fs) (fun i=>listed.getD i false) 0 e)=some b→Region.wanted o (yielded ops a.tmps)=b:=by
   intro b hb;unfold guardA at hb
   cases hgd:o.guard with
   |none=>simp[hgd]at hb;subst hb;simp[Region.wanted,hgd]
   |some x=>
    obtain⟨j,want⟩:=x;simp only[hgd]at hb;split at hb
    ·rename_i og hog
     split at hb
     ·rename_i d hd
      split at hb
      ·rename_i b0 hb0
       have hv:=s.env d;rw[hb0]at hv;have hy:=yielded_of (by simpa using hog) hd hv.bool;simp only[Option.some.injEq]at hb;subst hb;simp[Region.wanted,hgd,hy]
      ·rename_i hb0
       have hv:=s.env d;rw[hb0]at hv;have hy:=yielded_none (by simpa using hog) hd hv.isUndef;simp only[Option.some.injEq]at hb;subst hb;simp[Region.wanted,hgd,hy]
      ·cases hb
     ·cases hb
    ·cases hb
  simp only[wpOp,ho]
  cases f with
  |none=>
   simp only[StepOK]at hst';rw[if_neg (by rw[hguard false hst'];simp)];refine ih _ _ _ hls' hf2 hc' ⟨g,?_,hE⟩;simp only[wrH,List.reverse_nil,List.nil_append]at newH
   have s2:Sim g w n (a.put o.dst undef) ((wrE o none).reverse++envL (ewS ops.toList fs) (fun i=>listed.getD i false) 0 e) (heapL (hwS fs) (fun i=>listed.getD i false) 0 h):=by
    cases hdst:o.dst with
    |none=>simp only[wrE,hdst];exact s
    |some d=>simp only[wrE,hdst];exact s.put (okOp_dst (List.all_eq_true.1 hok o (by rw[←Array.getElem?_toList]at ho;exact List.mem_of_getElem? ho)) d hdst) VRel.und0
   exact(s2.envEq newE).heapEq newH
  |some f=>
   obtain⟨hg1,hop⟩:=hst';rw[if_pos (hguard true hg1)]
   left
   refine Oper.wp_monoQ (Oper.wp_mono ?_ (hop _ _ (fun _ _=>rfl) (fun _ _=>rfl) g w a s));rintro a' w' ⟨g',s',hE'⟩;exact ih _ _ _ hls' hf2 hc' ⟨g',(s'.envEq newE).heapEq newH,hE.trans hE'⟩
theorem region_any {ops:Array Oper} (hok:ops.toList.all (okOp n)=true) {e:Env} {h:Heap} {fs:List (Option Eff)} (hp:Path P n ops.toList ops.toList e h fs) (hlen:fs.length=ops.toList.length) (hind:indB ops.toList fs.reverse=true)
 {g0:Gh} {w0:World} {K:Exit→Env→Heap→Prop} (hK:∀e' h',(∀i,eget e' i=eget (envL (ewS ops.toList fs) (fun _=>true) 0 e) i)→(∀i,hget h' i=hget (heapL (hwS fs) (fun _=>true) 0 h) i)→∃e2 h2,K .normal e2 h2∧(∀i,eget e2 i=eget e' i)∧(∀i,hget h2 i=hget h' i)):
 ∀(fuel:Nat) (listed:Array Bool) (a:Act) (w:World),listed.size=ops.size→unl ops.size (fun i=>listed.getD i false)≤fuel→Closed ops.toList (fun i=>listed.getD i false)→
  (∃g,Sim g w n a (envL (ewS ops.toList fs) (fun i=>listed.getD i false) 0 e) (heapL (hwS fs) (fun i=>listed.getD i false) 0 h)∧Ext g0 w0 g w)→wpAny P .any ops (QOf n K g0 w0) fuel listed a w:=
 region_anyW hok hp hlen (indB_W hind) (fun _ _ _ _ _ q=>by cases q) hK
end
end Go.AM
