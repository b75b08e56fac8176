/- Part of a machine over plain values. No conditions. -/
import Derived.Test.YtdmopjgjhfhfdaaGreatDoorAMDraw
set_option linter.all false
set_option maxRecDepth 100000
namespace Go.AM
section
variable {P:Program} {ty:Nat->Option TI} {n:Nat}
theorem eX {a b:List Nat} (h:vB a b=true) {x:Nat} (h1:x∈a) (h2:x∈b):False:=by
 have:=List.all_eq_true.1 (List.all_eq_true.1 h x h1) x h2;simp at this
theorem Bd (acc:List Nat):∀(l:List Edge) (s i:Nat),(l.foldl (fun s x=>if Region.binds .any x then s |||2 ^ x.on |||(acc[x.on]?.getD 0) else s) s).testBit i=true->
 s.testBit i=true\/∃x∈l,Region.binds .any x=true/\(x.on=i\/∃m,acc[x.on]?=some m/\m.testBit i=true)
 | [],s,i,h=>.inl h
 |x::l,s,i,h=>by
  rw[List.foldl_cons]at h;rcases Bd acc l _ i h with h|⟨y,hy,hb⟩
  ·split at h
   ·rename_i hb
    simp only[Nat.testBit_or,Bool.or_eq_true]at h;rcases h with(h|h)|h
    ·exact .inl h
    ·rw[Nat.testBit_two_pow]at h;exact .inr ⟨x,by simp,hb,.inl (by simpa using h)⟩
    ·refine .inr ⟨x,by simp,hb,.inr ?_⟩
     cases hq:acc[x.on]? with
     |none=>simp[hq]at h
     |some m=>exact⟨m,rfl,by simpa[hq] using h⟩
   ·exact .inl h
  ·exact .inr ⟨y,by simp[hy],hb⟩
def Dq (ops:List Oper) (ms:List Nat):Prop:=∀(j m i:Nat),ms[j]?=some m->m.testBit i=true->∃o x,ops[j]?=some o/\x∈o.after/\Region.binds .any x=true/\(x.on=i\/(x.on<j/\∃m',ms[x.on]?=some m'/\m'.testBit i=true))
theorem zN (ops:List Oper):∀(r:List Oper) (acc:List Nat),(∀j,r[j]?=ops[acc.length+j]?)->Dq ops acc->Dq ops (masks r acc)
 | [],acc,_,h=>h
 |o::r,acc,hr,h=>by
  rw[masks];refine zN ops r _ (fun j=>by have:=hr (j+1);simp at this;rw[this];simp;congr 1;omega) ?_;intro j m i hj hb
  by_cases hlt:j<acc.length
  ·rw[List.getElem?_append_left hlt]at hj
   obtain⟨o',x,h1,h2,h3,h4⟩:=h j m i hj hb;refine⟨o',x,h1,h2,h3,?_⟩;rcases h4 with h4|⟨h4,m',h5,h6⟩
   ·exact .inl h4
   ·exact .inr ⟨h4,m',by rw[List.getElem?_append_left (by omega)];exact h5,h6⟩
  ·rw[List.getElem?_append_right (by omega)]at hj
   have hj0:j=acc.length:=by
    have:=(List.getElem?_eq_some_iff.1 hj).1;simp at this;omega
   subst hj0;simp at hj;subst hj;rcases Bd acc _ _ _ hb with h0|⟨x,hx,hbx,hxx⟩
   ·simp at h0
   ·refine⟨o,x,by have:=hr 0;simpa using this.symm,by simpa using hx,hbx,?_⟩
    rcases hxx with hxx|⟨m',h5,h6⟩
    ·exact .inl hxx
    ·have:x.on<acc.length:=(List.getElem?_eq_some_iff.1 h5).1
     exact .inr ⟨this,m',by rw[List.getElem?_append_left this];exact h5,h6⟩
def Cu (ops:List Oper) (L:Nat->Bool):Prop:=∀j o,ops[j]?=some o->L j=true->∀x∈o.after,Region.binds .any x=true->L x.on=true
theorem zR {ops:List Oper} {ms:List Nat} (hm:Dq ops ms) {L:Nat->Bool} (hc:Cu ops L):∀(j:Nat),L j=true->∀m i,ms[j]?=some m->m.testBit i=true->L i=true:=by
 intro j
 induction j using Nat.strongRecOn with
 |_ j ih=>
  intro hj m i hmj hb;obtain⟨o,x,h1,h2,h3,h4⟩:=hm j m i hmj hb;have hx:=hc j o h1 hj x h2 h3;rcases h4 with rfl|⟨h4,m',h5,h6⟩
  ·exact hx
  ·exact ih x.on h4 hx m' i h5 h6
theorem IL {ops:List Oper} {ms:List Nat} (hm:Dq ops ms) {L:Nat->Bool} (hc:Cu ops L) {i:Nat} {o:Oper} (ho:ops[i]?=some o) (hr:∀x∈o.after,Region.binds .any x=true->L x.on=true) (m j:Nat) (hmi:ms[i]?=some m) (hb:m.testBit j=true):L j=true:=by
 obtain⟨o',x,h1,h2,h3,h4⟩:=hm i m j hmi hb;rw[ho]at h1;cases h1;have hx:=hr x h2 h3;rcases h4 with rfl|⟨h4,m',h5,h6⟩
 ·exact hx
 ·exact zR hm hc x.on hx m' j h5 h6
theorem xz {l:List Oper} {fs:List (Option eB)} {j:Nat} {W:Env} (h:(xC l fs)[j]?=some W):∃o f,l[j]?=some o/\fs[j]?=some f/\W=yj o f:=by
 unfold xC at h;rw[List.getElem?_zipWith]at h
 cases ho:l[j]? with
 |none=>simp[ho]at h
 |some o=>
  cases hf:fs[j]? with
  |none=>simp[ho,hf]at h
  |some f=>simp[ho,hf]at h;exact⟨o,f,rfl,rfl,h.symm⟩
theorem rA {fs:List (Option eB)} {j:Nat} {W:Heap} (h:(vq fs)[j]?=some W):∃f,fs[j]?=some f/\W=rC f:=by
 unfold vq at h;rw[List.getElem?_map]at h
 cases hf:fs[j]? with
 |none=>simp[hf]at h
 |some f=>simp[hf]at h;exact⟨f,rfl,h.symm⟩
def PR (n:Nat) (L:Nat->Bool):Nat:=((List.range n).filter fun i=>!L i).length
theorem filter_le (L L':Nat->Bool) (i:Nat) (h:∀j,L' j=if j=i then true else L j):∀(l:List Nat),(l.filter fun j=>!L' j).length<=(l.filter fun j=>!L j).length
 | []=>Nat.le_refl _
 |y::r=>by
  have ih:=filter_le L L' i h r;rw[List.filter_cons,List.filter_cons,h y]
  by_cases q:y=i
  ·rw[if_pos q]
   simp only[Bool.not_true,Bool.false_eq_true,if_false];split
   ·rw[List.length_cons];omega
   ·exact ih
  ·rw[if_neg q]
   split
   ·rw[List.length_cons,List.length_cons];omega
   ·exact ih
theorem filter_lt (L L':Nat->Bool) (i:Nat) (h:∀j,L' j=if j=i then true else L j) (hi:L i=false):∀(l:List Nat),i∈l->(l.filter fun j=>!L' j).length<(l.filter fun j=>!L j).length
 | [],hl=>by cases hl
 |y::r,hl=>by
  have hle:=filter_le L L' i h r;rw[List.filter_cons,List.filter_cons,h y]
  by_cases q:y=i
  ·subst q
   rw[if_pos rfl,hi];simp only[Bool.not_true,Bool.false_eq_true,if_false,Bool.not_false,if_true,List.length_cons];omega
  ·have ih:=filter_lt L L' i h hi r (by rcases List.mem_cons.1 hl with rfl|hl;exact absurd rfl q;exact hl)
   rw[if_neg q];split
   ·rw[List.length_cons,List.length_cons];omega
   ·exact ih
theorem Hg {i j:Nat}:∀{W:List (Nat×Nat)},QC i j W=true->(i,j)∈W
 | [],h=>by cases h
 |(a,b)::r,h=>by
  simp only[QC,Bool.or_eq_true,Bool.and_eq_true]at h;rcases h with⟨h1,h2⟩|h
  ·rw[Nat.eq_of_beq_eq_true h1,Nat.eq_of_beq_eq_true h2];exact List.mem_cons_self ..
  ·exact List.mem_cons_of_mem _ (Hg h)
theorem su:∀{W:List (Nat×Nat)},D9 W=true->∀{i j j':Nat},(i,j)∈W->(i,j')∈W->j=j'
 | [],_,_,_,_,h,_=>by cases h
 |(a,b)::r,hu,i,j,j',h1,h2=>by
  simp only[D9,Bool.and_eq_true]at hu;obtain⟨u1,u2⟩:=hu
  have key:∀{k},(a,k)∈r->k=b:=fun hk=>by
   have:=List.all_eq_true.1 u1 _ hk;simp only[Nat.beq_refl,Bool.not_true,Bool.false_or]at this;exact Nat.eq_of_beq_eq_true this
  rcases List.mem_cons.1 h1 with h1|h1<;>rcases List.mem_cons.1 h2 with h2|h2
  ·cases h1;cases h2;rfl
  ·cases h1;exact(key h2).symm
  ·cases h2;exact key h1
  ·exact su u2 h1 h2
theorem Dy {all:List Oper} {o1 o2:Oper} {f1 f2:Option eB} (h:vh all o1 f1 o2 f2=true):lJ all o1 f1 o2 f2=true:=by
 simp only[vh,lJ,Bool.and_eq_true]at h ⊢;exact h.1
theorem ON {ops:List Oper} {rs:List (Option eB)} (h:JZ ops rs=true):xZ [] ops rs=true:=by
 unfold JZ at h;unfold xZ;simp only[Bool.and_eq_true]at h ⊢;refine⟨⟨h.1,rfl⟩,List.all_eq_true.2 fun x hx=>List.all_eq_true.2 fun y hy=>?_⟩;have:=List.all_eq_true.1 (List.all_eq_true.1 h.2 x hx) y hy;rw[this];rfl
theorem AT {W:List (Nat×Nat)} {ops:List Oper} {fs:List (Option eB)} (h:xZ W ops fs.reverse=true) {i j:Nat} (hij:i<j) {o1 o2:Oper} {f1 f2:Option eB} (h1:ops[i]?=some o1) (h2:ops[j]?=some o2) (g1:fs[i]?=some f1) (g2:fs[j]?=some f2):
 (∃m,(masks ops [])[j]?=some m/\m.testBit i=true)\/vh ops o1 f1 o2 f2=true\/((i,j)∈W/\lJ ops o1 f1 o2 f2=true):=by
 unfold xZ at h;simp only[List.reverse_reverse,Bool.and_eq_true]at h;have h:=h.2
 have z1:((o1,f1),i)∈(ops.zip fs).zipIdx:=by
  rw[List.mem_zipIdx_iff_getElem?];simp[List.getElem?_zip_eq_some,h1,g1]
 have z2:((o2,f2),j)∈(ops.zip fs).zipIdx:=by
  rw[List.mem_zipIdx_iff_getElem?];simp[List.getElem?_zip_eq_some,h2,g2]
 have:=List.all_eq_true.1 (List.all_eq_true.1 h _ z1) _ z2;simp only[Bool.or_eq_true,Bool.not_eq_true',Bool.and_eq_true]at this;rcases this with((this|this)|this)|this
 ·have hh:Nat.blt i j=true:=by rw[Nat.blt_eq];exact hij
  rw[hh]at this;cases this
 ·left
  cases hq:(masks ops [])[j]? with
  |none=>simp[hq]at this
  |some m=>exact⟨m,rfl,by simpa[hq] using this⟩
 ·exact .inr (.inl this)
 ·exact .inr (.inr ⟨Hg this.1,this.2⟩)
theorem IN {W:List (Nat×Nat)} {ops:List Oper} {fs:List (Option eB)} (h:xZ W ops fs.reverse=true) {i:Nat} {o:Oper} (ho:ops[i]?=some o) {x:Edge} (hx:x∈o.after) (hb:Region.binds .any x=true):x.on<i:=by
 unfold xZ at h;simp only[Bool.and_eq_true]at h;have z:(o,i)∈ops.zipIdx:=by rw[List.mem_zipIdx_iff_getElem?];exact ho
 have:=List.all_eq_true.1 (List.all_eq_true.1 h.1.1 _ z) x (by simpa using hx);simp only[hb,Bool.not_true,Bool.false_or]at this;simpa using this
theorem Bg {W:List (Nat×Nat)} {ops:List Oper} {rs:List (Option eB)} (h:xZ W ops rs=true):D9 W=true:=by
 unfold xZ at h;simp only[Bool.and_eq_true]at h;exact h.1.2
theorem DS {W:List (Nat×Nat)} {ops:Array Oper} (hok:ops.toList.all (oD n)=true) {e:Env} {h:Heap} {fs:List (Option eB)} (hp:Path P n ops.toList ops.toList e h fs) (hlen:fs.length=ops.toList.length) (hind:xZ W ops.toList fs.reverse=true)
 (hW:∀(i j:Nat) (o:Oper) (f fj:Option eB),(i,j)∈W->ops.toList[i]?=some o->fs[i]?=some f->fs[j]?=some fj->i<j->rC f=[]/\gu P n ops.toList o (fW (xC ops.toList fs) (fun k=>decide (k<i)) 0 e) ((rC fj).reverse++dz (vq fs) (fun k=>decide (k<i)) 0 h) f)
 {g0:Gh} {w0:World} {K:Exit->Env->Heap->Prop} (hK:∀e' h',(∀i,aL e' i=aL (fW (xC ops.toList fs) (fun _=>true) 0 e) i)->(∀i,aF h' i=aF (dz (vq fs) (fun _=>true) 0 h) i)->∃e2 h2,K .normal e2 h2/\(∀i,aL e2 i=aL e' i)/\(∀i,aF h2 i=aF h' i)):
 ∀(fuel:Nat) (listed:Array Bool) (a:Act) (w:World),listed.size=ops.size->PR ops.size (fun i=>listed.getD i false)<=fuel->Cu ops.toList (fun i=>listed.getD i false)->
  (∃g,cw g w n a (fW (xC ops.toList fs) (fun i=>listed.getD i false) 0 e) (dz (vq fs) (fun i=>listed.getD i false) 0 h)/\Ext g0 w0 g w)->wpAny P .any ops (C9 n K g0 w0) fuel listed a w:=by
 have hm:Dq ops.toList (masks ops.toList []):=zN _ _ _ (fun j=>by simp) (fun j m i hj=>by simp at hj)
 -- all are listed where none is ready
 have done:∀(listed:Array Bool),listed.size=ops.size->Region.ready .any ops listed=[]->∀i,i<ops.size->listed.getD i false=true:=by
  intro listed hls hr i
  induction i using Nat.strongRecOn with
  |_ i ih=>
   intro hi
   cases hq:listed.getD i false with
   |true=>rfl
   |false=>
    exfalso;have ho:ops[i]?=some ops[i]:=by simp[hi]
    have hmem:i∈Region.ready .any ops listed:=by
     rw[mem_ready];refine⟨?_,ops[i],ho,fun x hx hb=>?_⟩
     ·rw[Array.getD_eq_getD_getElem?]at hq ⊢
      rw[Array.getElem?_eq_getElem (by omega)]at hq ⊢;simpa using hq
     ·have:=IN hind (by rw[Array.getElem?_toList];exact ho) hx hb
      exact ih x.on this (by omega)
    rw[hr]at hmem;cases hmem
 have final:∀(listed:Array Bool) (a:Act) (w:World),listed.size=ops.size->Region.ready .any ops listed=[]->
  (∃g,cw g w n a (fW (xC ops.toList fs) (fun i=>listed.getD i false) 0 e) (dz (vq fs) (fun i=>listed.getD i false) 0 h)/\Ext g0 w0 g w)->C9 n K g0 w0 .normal a w:=by
  intro listed a w hls hr ⟨g,s,hE⟩;have hall:=done listed hls hr
  obtain⟨e2,h2,hk,q1,q2⟩:=hK (fW (xC ops.toList fs) (fun i=>listed.getD i false) 0 e) (dz (vq fs) (fun i=>listed.getD i false) 0 h)
   (fun i=>jH i _ _ _ 0 e e rfl (fun j W hj _=>by
     obtain⟨o,f,ho,_,_⟩:=xz hj;have:j<ops.size:=by have:=(List.getElem?_eq_some_iff.1 ho).1;simpa using this
     simpa using hall j this))
   (fun i=>gw i _ _ _ 0 h h rfl (fun j W hj _=>by
     obtain⟨f,hf,_⟩:=rA hj;have:j<ops.size:=by have:=(List.getElem?_eq_some_iff.1 hf).1;rw[hlen]at this;simpa using this
     simpa using hall j this))
  exact⟨g,e2,h2,hk,(s.uN q1).Cb q2,hE⟩
 intro fuel
 induction fuel with
 |zero=>
  intro listed a w hls hf hc hs
  have hr:Region.ready .any ops listed=[]:=by
   cases hq:Region.ready .any ops listed with
   |nil=>rfl
   |cons i r=>
    exfalso;have hmem:i∈Region.ready .any ops listed:=by rw[hq];simp
    obtain⟨h0,o,ho,_⟩:=mem_ready.1 hmem;have hi:i<ops.size:=(Array.getElem?_eq_some_iff.1 ho).1
    have h1:listed.getD i false=false:=by
     rw[Array.getD_eq_getD_getElem?]at h0 ⊢;rw[Array.getElem?_eq_getElem (by omega)]at h0 ⊢;simpa using h0
    have:i∈(List.range ops.size).filter fun i=>!listed.getD i false:=by simp only[List.mem_filter,List.mem_range,hi,true_and];rw[h1];rfl
    have:=List.length_pos_of_mem this;have hf0:((List.range ops.size).filter fun i=>!listed.getD i false).length<=0:=hf;omega
  exact⟨hr,final listed a w hls hr hs⟩
 |succ fuel ih=>
  intro listed a w hls hf hc hs;refine⟨fun hr=>final listed a w hls hr hs,fun i hi=>?_⟩;obtain⟨h0,o,ho,hpre⟩:=mem_ready.1 hi;have hil:i<ops.size:=(Array.getElem?_eq_some_iff.1 ho).1
  have hnl:listed.getD i false=false:=by
   rw[Array.getD_eq_getD_getElem?]at h0 ⊢;rw[Array.getElem?_eq_getElem (by omega)]at h0 ⊢;simpa using h0
  have ho':ops.toList[i]?=some o:=by simpa using ho
  have hfi:i<fs.length:=by rw[hlen];simpa using hil
  have hf':fs[i]?=some fs[i]:=by simp[hfi]
  generalize fs[i]=f at hf'
  -- the new set
  have hset:∀j,(listed.setIfInBounds i true).getD j false=if j=i then true else listed.getD j false:=by
   intro j
   by_cases q:j=i
   ·subst q;simp[hls,hil]
   ·rw[getD_set_ne false (Ne.symm q),if_neg q]
  have hls':(listed.setIfInBounds i true).size=ops.size:=by simp[hls]
  have hc':Cu ops.toList (fun j=>(listed.setIfInBounds i true).getD j false):=by
   intro j oj hoj hj x hx hb;simp only[hset]at hj ⊢
   by_cases q:j=i
   ·subst q
    rw[ho']at hoj;cases hoj;have:=hpre x hx hb;split
    ·rfl
    ·exact this
   ·rw[if_neg q]at hj
    have:=hc j oj hoj hj x hx hb;simp only at this;split
    ·rfl
    ·exact this
  have hf2:PR ops.size (fun j=>(listed.setIfInBounds i true).getD j false)<=fuel:=by
   have:PR ops.size (fun j=>(listed.setIfInBounds i true).getD j false)<PR ops.size (fun j=>listed.getD j false):=by
    exact filter_lt _ _ i hset hnl _ (by simpa using hil)
   omega
  -- agreement with the text's order
  have hst:=hp.at 0 i o f ho' hf';simp only[Nat.zero_add]at hst
  have before:∀{j:Nat} {oj:Oper} {fj:Option eB},j<i->ops.toList[j]?=some oj->fs[j]?=some fj->lJ ops.toList oj fj o f=true\/listed.getD j false=true:=by
   intro j oj fj hji hoj hfj;rcases AT hind hji hoj ho' hfj hf' with⟨m,q1,q2⟩|q|q
   ·exact .inr (IL hm hc ho' hpre m j q1 q2)
   ·exact .inl (Dy q)
   ·exact .inl q.2
  have behind:∀{j:Nat} {oj:Oper} {fj:Option eB},i<j->ops.toList[j]?=some oj->fs[j]?=some fj->(lJ ops.toList o f oj fj=true/\(vB (Nq f) ((rC fj).map (·.1))=true\/(i,j)∈W))\/listed.getD j false=false:=by
   intro j oj fj hij hoj hfj;rcases AT hind hij ho' hoj hf' hfj with⟨m,q1,q2⟩|q|q
   ·right
    cases hq:listed.getD j false with
    |false=>rfl
    |true=>have:=zR hm hc j hq m i q1 q2;simp only[hnl]at this;cases this
   ·exact .inl ⟨Dy q,.inl (by simp only[vh,Bool.and_eq_true]at q;exact q.2)⟩
   ·exact .inl ⟨q.2,.inr q.1⟩
  have agE:∀t,t∈slotsOf o++iW ops.toList o->aL (fW (xC ops.toList fs) (fun i=>listed.getD i false) 0 e) t=aL (fW (xC ops.toList fs) (fun j=>decide (j<i)) 0 e) t:=by
   intro t ht;refine jH t _ _ _ 0 e e rfl (fun j W hj hx=>?_);obtain⟨oj,fj,hoj,hfj,rfl⟩:=xz hj;obtain⟨y,hy,hyt⟩:=hx;have hkey:t∈(yj oj fj).map (·.1):=List.mem_map.2 ⟨y,hy,hyt⟩;rw[Nat.zero_add];rcases Nat.lt_trichotomy j i with q|q|q
   ·rcases before q hoj hfj with hap|hl
    ·simp only[lJ,Bool.and_eq_true]at hap
     exact(eX hap.1.1 hkey (List.mem_append_left _ ht)).elim
    ·rw[hl];simp[q]
   ·subst q;rw[hnl];simp
   ·rcases behind q hoj hfj with⟨hap,_⟩|hl
    ·simp only[lJ,Bool.and_eq_true]at hap
     exact(eX hap.1.2 ht hkey).elim
    ·rw[hl];simp;omega
  -- what it reads in memory,but for the writer of its pair
  have agL:∀(j:Nat) (fj:Option eB),(i,j)∈W->fs[j]?=some fj->i<j->listed.getD j false=true->∀l,l∈Nq f->aF (dz (vq fs) (fun i=>listed.getD i false) 0 h) l=aF ((rC fj).reverse++dz (vq fs) (fun j=>decide (j<i)) 0 h) l:=by
   intro j fj hjW hfj hij hlj l hl;have hwj:(vq fs)[j]?=some (rC fj):=by unfold vq;rw[List.getElem?_map,hfj];rfl
   by_cases hx:∃y∈rC fj,y.1=l
   ·refine xU l j _ _ 0 h (rC fj) _ hwj hx (by rw[Nat.zero_add];exact hlj) (fun k W' hjk hk hxk=>?_)
    obtain⟨fk,hfk,rfl⟩:=rA hk;have hkl:k<ops.toList.length:=by have:=(List.getElem?_eq_some_iff.1 hfk).1;omega
    have hok2:ops.toList[k]?=some ops.toList[k]:=List.getElem?_eq_getElem hkl;obtain⟨y,hy,hyt⟩:=hxk;have hkey:l∈(rC fk).map (·.1):=List.mem_map.2 ⟨y,hy,hyt⟩;rw[Nat.zero_add];rcases behind (by omega) hok2 hfk with⟨_,hap|hap⟩|hll
    ·exact(eX hap hl hkey).elim
    ·have:=su (Bg hind) hjW hap;omega
    ·exact hll
   ·rw[cX _ _ _ (fun y hy q=>hx ⟨y,by simpa using hy,q⟩)]
    refine gw l _ _ _ 0 h h rfl (fun k W' hk hxk=>?_);obtain⟨fk,hfk,rfl⟩:=rA hk;have hkl:k<ops.toList.length:=by have:=(List.getElem?_eq_some_iff.1 hfk).1;omega
    have hok2:ops.toList[k]?=some ops.toList[k]:=List.getElem?_eq_getElem hkl;obtain⟨y,hy,hyt⟩:=hxk;have hkey:l∈(rC fk).map (·.1):=List.mem_map.2 ⟨y,hy,hyt⟩;rw[Nat.zero_add];rcases Nat.lt_trichotomy k i with q|q|q
    ·rcases before q hok2 hfk with hap|hll
     ·simp only[lJ,Bool.and_eq_true]at hap
      exact(eX hap.2 hkey hl).elim
     ·rw[hll];simp[q]
    ·subst q;rw[hnl];simp
    ·rcases behind q hok2 hfk with⟨_,hap|hap⟩|hll
     ·exact(eX hap hl hkey).elim
     ·have ek:=su (Bg hind) hjW hap
      subst ek;rw[hfj]at hfk;cases hfk;exact absurd ⟨y,hy,hyt⟩ hx
     ·rw[hll];simp;omega
  have agH:(∀(j:Nat) (fj:Option eB),(i,j)∈W->fs[j]?=some fj->i<j->listed.getD j false=false)->∀l,l∈Nq f->aF (dz (vq fs) (fun i=>listed.getD i false) 0 h) l=aF (dz (vq fs) (fun j=>decide (j<i)) 0 h) l:=by
   intro hno l hl;refine gw l _ _ _ 0 h h rfl (fun j W' hj hx=>?_);obtain⟨fj,hfj,rfl⟩:=rA hj;have hjl:j<ops.toList.length:=by have:=(List.getElem?_eq_some_iff.1 hfj).1;omega
   have hoj:ops.toList[j]?=some ops.toList[j]:=List.getElem?_eq_getElem hjl;obtain⟨y,hy,hyt⟩:=hx;have hkey:l∈(rC fj).map (·.1):=List.mem_map.2 ⟨y,hy,hyt⟩;rw[Nat.zero_add];rcases Nat.lt_trichotomy j i with q|q|q
   ·rcases before q hoj hfj with hap|hll
    ·simp only[lJ,Bool.and_eq_true]at hap
     exact(eX hap.2 hkey hl).elim
    ·rw[hll];simp[q]
   ·subst q;rw[hnl];simp
   ·rcases behind q hoj hfj with⟨_,hap|hap⟩|hll
    ·exact(eX hap hl hkey).elim
    ·rw[hno j fj hap hfj q];simp;omega
    ·rw[hll];simp;omega
  have hwrH:∀t,t∈(rC f).map (·.1)->t∈Nq f:=by
   intro t ht
   cases f with
   |none=>simp[rC]at ht
   |some f=>simp only[Nq,rC]at *;exact List.mem_append_right _ ht
  -- the state behind it
  have ewi:(xC ops.toList fs)[i]?=some (yj o f):=by unfold xC;rw[List.getElem?_zipWith,ho',hf']
  have hwi:(vq fs)[i]?=some (rC f):=by unfold vq;rw[List.getElem?_map,hf'];rfl
  have newE:∀t,aL (fW (xC ops.toList fs) (fun j=>(listed.setIfInBounds i true).getD j false) 0 e) t=aL ((yj o f).reverse++fW (xC ops.toList fs) (fun i=>listed.getD i false) 0 e) t:=by
   intro t
   by_cases hx:∃y∈yj o f,y.1=t
   ·refine JE t i _ _ 0 e (yj o f) _ ewi hx (by simp only[Nat.zero_add,hset];simp) (fun j W hij hj hxj=>?_)
    obtain⟨oj,fj,hoj,hfj,rfl⟩:=xz hj;simp only[Nat.zero_add,hset];rw[if_neg (by omega)];rcases behind hij hoj hfj with⟨hap,_⟩|hl
    ·simp only[lJ,Bool.and_eq_true]at hap
     obtain⟨y,hy,hyt⟩:=hx;obtain⟨z,hz,hzt⟩:=hxj;exact(eX hap.1.1 (List.mem_map.2 ⟨y,hy,hyt⟩) (List.mem_append_right _ (List.mem_map.2 ⟨z,hz,hzt⟩))).elim
    ·exact hl
   ·rw[eU _ _ _ (fun y hy q=>hx ⟨y,by simpa using hy,q⟩)]
    refine jH t _ _ _ 0 e e rfl (fun j W hj hxj=>?_);simp only[Nat.zero_add,hset];split
    ·rename_i q;subst q;rw[ewi]at hj;cases hj;exact absurd hxj hx
    ·rfl
  have newH:∀t,aF (dz (vq fs) (fun j=>(listed.setIfInBounds i true).getD j false) 0 h) t=aF ((rC f).reverse++dz (vq fs) (fun i=>listed.getD i false) 0 h) t:=by
   intro t
   by_cases hx:∃y∈rC f,y.1=t
   ·refine xU t i _ _ 0 h (rC f) _ hwi hx (by simp only[Nat.zero_add,hset];simp) (fun j W hij hj hxj=>?_)
    obtain⟨fj,hfj,rfl⟩:=rA hj;have hjl:j<ops.toList.length:=by have:=(List.getElem?_eq_some_iff.1 hfj).1;omega
    have hoj:ops.toList[j]?=some ops.toList[j]:=List.getElem?_eq_getElem hjl;simp only[Nat.zero_add,hset];rw[if_neg (by omega)];rcases behind hij hoj hfj with⟨_,hap|hap⟩|hl
    ·obtain⟨y,hy,hyt⟩:=hx
     obtain⟨z,hz,hzt⟩:=hxj;exact(eX hap (hwrH t (List.mem_map.2 ⟨y,hy,hyt⟩)) (List.mem_map.2 ⟨z,hz,hzt⟩)).elim
    ·obtain⟨y,hy,_⟩:=hx
     rw[(hW i j o f fj hap ho' hf' hfj hij).1]at hy;cases hy
    ·exact hl
   ·rw[cX _ _ _ (fun y hy q=>hx ⟨y,by simpa using hy,q⟩)]
    refine gw t _ _ _ 0 h h rfl (fun j W hj hxj=>?_);simp only[Nat.zero_add,hset];split
    ·rename_i q;subst q;rw[hwi]at hj;cases hj;exact absurd hxj hx
    ·rfl
  obtain⟨g,s,hE⟩:=hs
  have hst':gu P n ops.toList o (fW (xC ops.toList fs) (fun i=>listed.getD i false) 0 e) (dz (vq fs) (fun i=>listed.getD i false) 0 h) f:=by
   by_cases hq:∃j fj,(i,j)∈W/\fs[j]?=some fj/\i<j/\listed.getD j false=true
   ·obtain⟨j,fj,q1,q2,q3,q4⟩:=hq
    exact((hW i j o f fj q1 ho' hf' q2 q3).2).congr agE (agL j fj q1 q2 q3 q4)
   ·refine hst.congr agE (agH fun j fj q1 q2 q3=>?_)
    cases hl:listed.getD j false with
    |false=>rfl
    |true=>exact absurd ⟨j,fj,q1,q2,q3,hl⟩ hq
  -- the guard
  have hguard:∀b,iP ops.toList o (fW (xC ops.toList fs) (fun i=>listed.getD i false) 0 e)=some b->Region.wanted o (yielded ops a.tmps)=b:=by
   intro b hb;unfold iP at hb
   cases hgd:o.guard with
   |none=>simp[hgd]at hb;subst hb;simp[Region.wanted,hgd]
   |some x=>
    obtain⟨j,want⟩:=x;simp only[hgd]at hb;split at hb
    ·rename_i og hog
     split at hb
     ·rename_i d hd
      split at hb
      ·rename_i b0 hb0
       have hv:=s.env d;rw[hb0]at hv;have hy:=zc (by simpa using hog) hd hv.bool;simp only[Option.some.injEq]at hb;subst hb;simp[Region.wanted,hgd,hy]
      ·rename_i hb0
       have hv:=s.env d;rw[hb0]at hv;have hy:=uK (by simpa using hog) hd hv.IB;simp only[Option.some.injEq]at hb;subst hb;simp[Region.wanted,hgd,hy]
      ·cases hb
     ·cases hb
    ·cases hb
  simp only[wpOp,ho]
  cases f with
  |none=>
   simp only[gu]at hst';rw[if_neg (by rw[hguard false hst'];simp)];refine ih _ _ _ hls' hf2 hc' ⟨g,?_,hE⟩;simp only[rC,List.reverse_nil,List.nil_append]at newH
   have s2:cw g w n (a.put o.dst undef) ((yj o none).reverse++fW (xC ops.toList fs) (fun i=>listed.getD i false) 0 e) (dz (vq fs) (fun i=>listed.getD i false) 0 h):=by
    cases hdst:o.dst with
    |none=>simp only[yj,hdst];exact s
    |some d=>simp only[yj,hdst];exact s.put (lN (List.all_eq_true.1 hok o (by rw[<-Array.getElem?_toList]at ho;exact List.mem_of_getElem? ho)) d hdst) aH.Pd
   exact(s2.uN newE).Cb newH
  |some f=>
   obtain⟨hg1,hop⟩:=hst';rw[if_pos (hguard true hg1)]
   left
   refine Oper.xS (Oper.wp_mono ?_ (hop _ _ (fun _ _=>rfl) (fun _ _=>rfl) g w a s));rintro a' w' ⟨g',s',hE'⟩;exact ih _ _ _ hls' hf2 hc' ⟨g',(s'.uN newE).Cb newH,hE.trans hE'⟩
end
end Go.AM
