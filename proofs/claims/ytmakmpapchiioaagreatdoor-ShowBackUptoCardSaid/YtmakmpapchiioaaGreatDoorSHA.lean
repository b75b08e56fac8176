/-
  DERIVED. Contracts of functions that the law reaches, and the law, for every input. No conditions.
-/
import Derived.Test.YtmakmpapchiioaaGreatDoorTK9
import Derived.Test.YtmakmpapchiioaaGreatDoorLS2
import Derived.Lib.Join
import Derived.Lib.ItoaNum
import Derived.Lib.ParseIntB
open Go Go.AM TK TR
set_option maxRecDepth 100000
namespace SH
abbrev TS:=Int×Bs
def kt (t:Tk):TS:=(t.kind,t.text)
abbrev bs (s:ByteArray):Bs:=s.data.toList
def softC (c:UInt8):Bool:=[32,10,40,41,44,58,59,91,93].contains c
def Soft:Bs→Prop
 | []=>True
 |c::_=>softC c=true
def sh:Bs→Bool
 | []=>false
 |c::_=>softC c
theorem soft_app {s r:Bs} (h:sh s=true):Soft (s++r):=by
 cases s with
 |nil=>cases h
 |cons c q=>exact h
structure Lx (e:Bool) (s:Bs) (ts:List TS):Prop where
 run:∀rest i out,(e=true→Soft rest)→∃o,readGo (s++rest) i out=readGo rest (i+s.length) (out++o)∧o.map kt=ts
theorem Lx.nil:Lx false [] []:=⟨fun rest i out _=>⟨[],by simp,rfl⟩⟩
theorem Lx.app {e e':Bool} {s s':Bs} {ts ts':List TS} (h:Lx e s ts) (h':Lx e' s' ts') (hs:e=true→sh s'=true):Lx e' (s++s') (ts++ts'):=⟨fun rest i out hr=>by
 obtain⟨o,h1,h2⟩:=h.run (s'++rest) i out (fun he=>soft_app (hs he))
 obtain⟨o',h3,h4⟩:=h'.run rest (i+s.length) (out++o) hr
 refine⟨o++o',?_,by rw[List.map_append,h2,h4]⟩
 rw[List.append_assoc,h1,h3,List.length_append,List.append_assoc,Nat.add_assoc]⟩
theorem Lx.soft {e:Bool} {s:Bs} {ts:List TS} (h:Lx e s ts):Lx true s ts:=⟨fun rest i out hr=>h.run rest i out (fun _=>hr rfl)⟩
theorem Lx.sp:Lx false [32] []:=⟨fun rest i out _=>⟨[],by
 rw[List.cons_append,readGo,show blankF 32=true by decide,cond_true,List.nil_append,List.append_nil];rfl,rfl⟩⟩
theorem Lx.nl:Lx false [10] []:=⟨fun rest i out _=>⟨[],by
 rw[List.cons_append,readGo,show blankF 10=true by decide,cond_true,List.nil_append,List.append_nil];rfl,rfl⟩⟩
theorem Lx.tok {e:Bool} {s:Bs} {k:Int} {x:Bs} (c:UInt8) (r:Bs) (hs:s=c::r) (hb:blankF c=false) (h35:(bi c==35)=false) (h:∀rest,(e=true→Soft rest)→nextF (s++rest)=(k,x,s.length)):Lx e s [(k,x)]:=⟨fun rest i out hr=>⟨[⟨k,x,i⟩],by
 have hn:=h rest hr
 subst hs
 rw[List.cons_append]at hn
 rw[List.cons_append,readGo,hb,cond_false,h35,cond_false]
 simp only
 rw[hn]
 simp only
 rw[show((c::r).length==0)=false from rfl,cond_false]
 congr 1
 simp,rfl⟩⟩
theorem soft_span {f:UInt8→Bool} (hf:∀c,softC c=true→f c=false) {rest:Bs} (h:Soft rest):spanF f rest=0:=by
 cases rest with
 |nil=>rfl
 |cons c r=>rw[spanF,hf c h];rfl
theorem soft_of (P:UInt8→Bool) (hp:[32,10,40,41,44,58,59,91,93].all P=true) (c:UInt8) (h:softC c=true):P c=true:=by
 unfold softC at h
 exact List.all_eq_true.1 hp c (by simpa using h)
theorem soft_part (c:UInt8) (h:softC c=true):partF c=false:=by
 have:=soft_of (fun c=>!partF c) (by decide +kernel) c h
 simpa using this
theorem soft_digit (c:UInt8) (h:softC c=true):digitF c=false:=by
 have:=soft_of (fun c=>!digitF c) (by decide +kernel) c h
 simpa using this
theorem span_all {f:UInt8→Bool} {rest:Bs} (hr:spanF f rest=0):∀(l:Bs),l.all f=true→spanF f (l++rest)=l.length
 | [],_=>by simpa using hr
 |c::r,h=>by
  simp only[List.all_cons,Bool.and_eq_true]at h
  rw[List.cons_append,spanF,h.1,cond_true,span_all hr r h.2];rfl
theorem next_name {s rest:Bs} (c:UInt8) (r:Bs) (hs:s=c::r) (hl:letterF c=true) (ha:s.all partF=true) (hr:Soft rest):
 nextF (s++rest)=((bif wordF s then (3,s,s.length) else bif lowF s then (1,s,s.length) else bif upF s then (2,s,s.length) else (0,[],0)):Int×Bs×Nat):=by
 have hsp:=span_all (soft_span soft_part hr) s ha
 subst hs
 rw[List.cons_append]at hsp ⊢
 unfold nextF
 simp only[hl,cond_true,hsp]
 rw[show c::(r++rest)=(c::r)++rest from rfl,List.take_append_of_le_length (Nat.le_refl _),List.take_length]
theorem letter_ok {c:UInt8} (h:letterF c=true):blankF c=false∧(bi c==35)=false:=by
 have:∀c:UInt8,letterF c=true→(blankF c||(bi c==35))=false:=c256 (fun c=>letterF c=true→(blankF c||(bi c==35))=false) (by decide +kernel)
 have:=this c h
 rw[Bool.or_eq_false_iff]at this
 exact this
theorem Lx.name {s:Bs} {k:Int} (c:UInt8) (r:Bs) (hs:s=c::r) (hl:letterF c=true) (ha:s.all partF=true)
 (hk:((bif wordF s then (3,s,s.length) else bif lowF s then (1,s,s.length) else bif upF s then (2,s,s.length) else (0,[],0)):Int×Bs×Nat)=(k,s,s.length)):Lx true s [(k,s)]:=
 Lx.tok c r hs (letter_ok hl).1 (letter_ok hl).2 (fun rest hr=>by rw[next_name c r hs hl ha (hr rfl),hk])
theorem name_parts {s:Bs} (h:nameF s=true):∃c r,s=c::r∧letterF c=true∧s.all partF=true:=by
 unfold nameF at h
 simp only[Bool.and_eq_true,Bool.not_eq_true',decide_eq_true_eq]at h
 obtain⟨h1,_,h2,h3⟩:=h
 cases s with
 |nil=>simp at h1
 |cons c r=>exact⟨c,r,rfl,h2,h3⟩
theorem Lx.lo {s:Bs} (h:lowF s=true):Lx true s [(1,s)]:=by
 have h0:=h
 unfold lowF at h
 simp only[Bool.and_eq_true,Bool.not_eq_true']at h
 obtain⟨c,r,h1,h2,h3⟩:=name_parts h.1
 exact Lx.name c r h1 h2 h3 (by rw[h.2.2,h0];rfl)
theorem up_low {s:Bs} (h:upF s=true):lowF s=false:=by
 unfold upF at h
 unfold lowF
 rw[Bool.and_eq_true]at h
 have:smallF (s.headD 0)=false:=by
  have h2:=h.2
  unfold capF at h2
  unfold smallF
  simp only[Bool.and_eq_true,decide_eq_true_eq]at h2
  rw[decide_eq_false (by omega)];rfl
 rw[this,Bool.false_and,Bool.and_false]
theorem words_small:wordsL.all (fun w=>!capF (w.headD 0))=true:=by decide +kernel
theorem up_word {s:Bs} (h:upF s=true):wordF s=false:=by
 cases hw:wordF s with
 |false=>rfl
 |true=>
  exfalso
  unfold wordF at hw
  unfold upF at h
  rw[Bool.and_eq_true]at h hw
  have:=List.all_eq_true.1 words_small s (by simpa using hw.2)
  rw[h.2]at this
  cases this
theorem Lx.up' {s:Bs} (h:upF s=true):Lx true s [(2,s)]:=by
 have h0:=h
 have h1:=h
 unfold upF at h
 rw[Bool.and_eq_true]at h
 obtain⟨c,r,q1,q2,q3⟩:=name_parts h.1
 exact Lx.name c r q1 q2 q3 (by rw[up_word h0,up_low h0,h1];rfl)
theorem Lx.up (s:Bs) (h:upF s=true):Lx true s [(2,s)]:=Lx.up' h
theorem words_letter:wordsL.all (fun w=>letterF (w.headD 0)&&w.all partF)=true:=by decide +kernel
theorem Lx.wd (s:Bs) (h:wordF s=true):Lx true s [(3,s)]:=by
 have h0:=h
 unfold wordF at h
 simp only[Bool.and_eq_true,Bool.not_eq_true']at h
 have:=List.all_eq_true.1 words_letter s (by simpa using h.2)
 rw[Bool.and_eq_true]at this
 cases s with
 |nil=>simp at h
 |cons c r=>exact Lx.name c r rfl this.1 this.2 (by rw[h0];rfl)
theorem Lx.sgn {e:Bool} (c:UInt8) (h:(signF [c]&&(!letterF c&&(!digitF c&&((!(bi c==34)&&(!blankF c&&!(bi c==35)))))))=true) (h2:∀d r',(e=true→Soft (d::r'))→signF [c,d]=false):Lx e [c] [(6,[c])]:=by
 simp only[Bool.and_eq_true,Bool.not_eq_true']at h
 obtain⟨h1,hl,hd,hq,hb,h35⟩:=h
 refine Lx.tok c [] rfl hb h35 (fun rest hr=>?_)
 unfold nextF
 simp only[List.cons_append,List.nil_append,hl,cond_false,hd,hq]
 cases rest with
 |nil=>simp[h1]
 |cons d r'=>
  rw[show(c::d::r').take 2=[c,d] from rfl,h2 d r' hr,Bool.and_false,cond_false,show(c::d::r').take 1=[c] from rfl,h1]
  rfl
theorem sign2 (c d:UInt8) (h:(c==61||c==45)=false∨d≠62):signF [c,d]=false:=by
 unfold signF
 have:([c,d]==([61,62]:Bs))=false∧([c,d]==([45,62]:Bs))=false:=by
  rcases h with h|h
  ·rw[Bool.or_eq_false_iff]at h
   constructor<;>simp only[List.cons_beq_cons,h.1,h.2,Bool.false_and]
  ·have hd:(d==62)=false:=by simpa using h
   constructor<;>simp only[List.cons_beq_cons,hd,Bool.false_and,Bool.and_false]
 rw[this.1,this.2];rfl
theorem Lx.sg (c:UInt8) (h:(signF [c]&&(!letterF c&&(!digitF c&&((!(bi c==34)&&(!blankF c&&!(bi c==35)))))))=true∧(c==61||c==45)=false):Lx false [c] [(6,[c])]:=
 Lx.sgn c h.1 (fun d _ _=>sign2 c d (.inl h.2))
theorem Lx.sg1 (c:UInt8) (h:(signF [c]&&(!letterF c&&(!digitF c&&((!(bi c==34)&&(!blankF c&&!(bi c==35)))))))=true):Lx true [c] [(6,[c])]:=
 Lx.sgn c h (fun d r' hr=>sign2 c d (.inr (by
  intro hd;subst hd
  have:=hr rfl
  revert this
  show softC 62=true→False
  decide)))
theorem Lx.ar:Lx false [61,62] [(6,[61,62])]:=Lx.tok 61 [62] rfl (by decide) (by decide) (fun rest _=>by
 unfold nextF
 simp only[List.cons_append,List.nil_append]
 rw[show letterF 61=false by decide,show digitF 61=false by decide,show(bi 61==34)=false by decide]
 simp only[cond_false]
 rw[show(61::62::rest).take 2=[61,62] from rfl,show signF [61,62]=true by decide]
 simp)
theorem Lx.tx {s:Bs} (h:s.length≤64):Lx false (quoteL s) [(5,s)]:=Lx.tok 34 _ rfl (by decide) (by decide) (fun rest _=>next_quote s rest h)
theorem dec_all:∀(m:Nat) (u:Nat),u≤m→(Lib.decDigits u).all digitF=true∧Lib.decDigits u≠[]
 |m,u,h=>by
  rw[Lib.decDigits]
  split
  ·rename_i h1
   refine⟨?_,by simp⟩
   have:∀u:Nat,u<10→[UInt8.ofNat (48+u)].all digitF=true:=by decide
   exact this u h1
  ·rename_i h1
   cases m with
   |zero=>omega
   |succ m=>
    have ih:=dec_all m (u/10) (by omega)
    refine⟨?_,by simp⟩
    have:∀u:Nat,u<10→[UInt8.ofNat (48+u)].all digitF=true:=by decide
    rw[List.all_append,ih.1,Bool.true_and]
    exact this (u % 10) (by omega)
theorem digit_ok {c:UInt8} (h:digitF c=true):letterF c=false∧blankF c=false∧(bi c==35)=false:=by
 have:∀c:UInt8,digitF c=true→(letterF c||(blankF c||(bi c==35)))=false:=c256 (fun c=>digitF c=true→(letterF c||(blankF c||(bi c==35)))=false) (by decide +kernel)
 have:=this c h
 rw[Bool.or_eq_false_iff,Bool.or_eq_false_iff]at this
 exact this
theorem Lx.dig {s:Bs} (h:s.all digitF=true) (hne:s≠[]):Lx true s [(4,s)]:=by
 cases s with
 |nil=>exact absurd rfl hne
 |cons c r=>
  have hc:digitF c=true:=by simp only[List.all_cons,Bool.and_eq_true]at h;exact h.1
  obtain⟨h1,h2,h3⟩:=digit_ok hc
  refine Lx.tok c r rfl h2 h3 (fun rest hr=>?_)
  have hsp:=span_all (soft_span soft_digit (hr rfl)) (c::r) h
  rw[List.cons_append]at hsp ⊢
  rw[nextF_cons _ c (r++rest) rfl,h1,cond_false,hc,cond_true,hsp]
  have hnone:pO (c::(r++rest))[(c::r).length]?=false:=by
   rw[show c::(r++rest)=(c::r)++rest from rfl,List.getElem?_append_right (Nat.le_refl _),Nat.sub_self]
   cases rest with
   |nil=>rfl
   |cons d r'=>exact soft_part d (hr rfl)
  rw[hnone,cond_false,show c::(r++rest)=(c::r)++rest from rfl,List.take_append_of_le_length (Nat.le_refl _),List.take_length]
def numT (v:Int):List TS:=bif decide (v<0) then [(6,[45]),(4,Lib.decDigits v.natAbs)] else [(4,Lib.decDigits v.toNat)]
theorem Lx.num (v:Int):Lx true (Lib.itoa v) (numT v):=by
 unfold Lib.itoa numT
 by_cases h:v<0
 ·rw[if_pos h,decide_eq_true h,cond_true]
  have hd:=dec_all _ v.natAbs (Nat.le_refl _)
  refine⟨fun rest i out hr=>?_⟩
  obtain⟨o',h3,h4⟩:=(Lx.dig hd.1 hd.2).run rest (i+1) (out++[⟨6,[45],i⟩]) hr
  refine⟨⟨6,[45],i⟩::o',?_,by rw[List.map_cons,h4];rfl⟩
  cases hs:Lib.decDigits v.natAbs with
  |nil=>exact absurd hs hd.2
  |cons c r=>
   have hc:digitF c=true:=by have:=hd.1;rw[hs]at this;simp only[List.all_cons,Bool.and_eq_true]at this;exact this.1
   have hn:nextF (45::(c::r++rest))=(6,[45],1):=by
    unfold nextF
    simp only
    rw[show letterF 45=false by decide,show digitF 45=false by decide,show(bi 45==34)=false by decide]
    simp only[cond_false]
    rw[show(45::(c::r++rest)).take 2=[45,c] from rfl,sign2 45 c (.inr (by intro e;subst e;revert hc;decide)),Bool.and_false,cond_false,show(45::(c::r++rest)).take 1=[45] from rfl,show signF [45]=true by decide]
    rfl
   rw[List.cons_append,readGo,show blankF 45=false by decide,cond_false,show(bi 45==35)=false by decide,cond_false]
   simp only
   rw[hn]
   simp only
   rw[show((1:Nat)==0)=false from rfl,cond_false,show 1-1=0 from rfl,List.drop_zero,←hs,h3,List.length_cons]
   congr 1
   ·omega
   ·simp
 ·rw[if_neg h,decide_eq_false h,cond_false]
  have hd:=dec_all _ v.toNat (Nat.le_refl _)
  exact Lx.dig hd.1 hd.2
end SH
open Go Go.AM TK TR
set_option maxRecDepth 100000
namespace SH
def sepT (t:TS):List (List TS)→List TS
 | []=>[]
 | [x]=>x
 |x::y::r=>x++t::sepT t (y::r)
theorem join2 (x y:Bs) (r:List Bs) (s:Bs):Lib.join (x::y::r) s=x++(s++Lib.join (y::r) s):=by
 rw[Lib.join_cons,Lib.join_cons,Lib.joinTail,List.map_cons,List.flatten_cons]
 simp[Lib.joinTail]
theorem lx_join {α:Type} {s:Bs} {t:TS} (hs:Lx false s [t]) (hss:sh s=true) (f:α→Bs) (g:α→List TS):∀(l:List α),(∀x∈l,Lx true (f x) (g x))→Lx true (Lib.join (l.map f) s) (sepT t (l.map g))
 | [],_=>Lx.nil.soft
 | [x],h=>by rw[List.map_cons,List.map_nil,Lib.join_one];exact h x (by simp)
 |x::y::r,h=>by
  rw[List.map_cons,List.map_cons,join2,List.map_cons,List.map_cons,sepT]
  have ih:=lx_join hs hss f g (y::r) (fun z hz=>h z (List.mem_cons_of_mem _ hz))
  rw[List.map_cons,List.map_cons]at ih
  refine Lx.app (h x (by simp)) (Lx.app hs ih (fun h=>by cases h)) (fun _=>?_)
  cases s with
  |nil=>cases hss
  |cons c q=>exact hss
def com (l:List Bs):Bs:=Lib.join l [44,32]
def comT (l:List (List TS)):List TS:=sepT (6,[44]) l
theorem lx_com {α:Type} (f:α→Bs) (g:α→List TS) (l:List α) (h:∀x∈l,Lx true (f x) (g x)):Lx true (com (l.map f)) (comT (l.map g)):=
 lx_join (show Lx false [44,32] [(6,[44])] from(Lx.app (Lx.sg 44 (by decide +kernel)) (Lx.sp) (fun h=>by cases h))) rfl f g l h
mutual
def txT:Ty→Bs
 |.mk k n xs=>bif k==1 then [105,110,116] else bif k==2 then [98,111,111,108] else bif k==3 then [116,101,120,116] else bif k==4 then [117,110,105,116] else bif k==5 then bs n else
  bif k==6 then (bif xs.length==0 then bs n else bs n++[40]++com (txTs xs)++[41]) else
  bif k==7 then (bif xs.length==0 then [63] else [102,110,40]++com (txTs xs).dropLast++[41,58,32]++(txTs xs).getLastD []) else
  bif k==8 then [82,101,102,40]++com (txTs xs)++[41] else bif k==9 then [67,101,108,108,40]++com (txTs xs)++[41] else [63]
def txTs:List Ty→List Bs
 | []=>[]
 |t::r=>txT t::txTs r
end
mutual
def tkT:Ty→List TS
 |.mk k n xs=>bif k==1 then [(3,[105,110,116])] else bif k==2 then [(3,[98,111,111,108])] else bif k==3 then [(3,[116,101,120,116])] else bif k==4 then [(3,[117,110,105,116])] else bif k==5 then [(bif isS n [115,101,108,102] then 3 else 1,bs n)] else
  bif k==6 then (2,bs n)::(bif xs.length==0 then [] else (6,[40])::(comT (tkTs xs)++[(6,[41])])) else
  bif k==7 then (3,[102,110])::(6,[40])::(comT (tkTs xs).dropLast++(6,[41])::(6,[58])::(tkTs xs).getLastD []) else
  bif k==8 then (2,[82,101,102])::(6,[40])::(comT (tkTs xs)++[(6,[41])]) else (2,[67,101,108,108])::(6,[40])::(comT (tkTs xs)++[(6,[41])])
def tkTs:List Ty→List (List TS)
 | []=>[]
 |t::r=>tkT t::tkTs r
end
theorem txTs_map (l:List Ty):txTs l=l.map txT:=by
 induction l with
 |nil=>rfl
 |cons t r ih=>simp[txTs,ih]
theorem tkTs_map (l:List Ty):tkTs l=l.map tkT:=by
 induction l with
 |nil=>rfl
 |cons t r ih=>simp[tkTs,ih]
theorem each_zero {α:Type} {φ:α→Int}:∀{l:List α},eachF φ l=0→∀x∈l,φ x=0
 | [],_=>by simp
 |y::r,h=>by
  rw[eachF]at h
  cases hy:φ y==0 with
  |true=>
   rw[hy,cond_true]at h
   intro x hx
   rcases List.mem_cons.1 hx with rfl|hx
   ·exact eq_of_beq hy
   ·exact each_zero h x hx
  |false=>rw[hy,cond_false]at h;rw[h]at hy;cases hy
theorem or_zero {l:List Int} (h:orF l=0):∀x∈l,x=0:=each_zero h
theorem bif0 {c:Bool} {x y:Int} (hx:x≠0) (h:(bif c then x else y)=0):c=false∧y=0:=by
 cases c with
 |true=>exact absurd h hx
 |false=>exact⟨rfl,h⟩
theorem bif1 {c:Bool} {x y:Int} (hy:y≠0) (h:(bif c then x else y)=0):c=true∧x=0:=by
 cases c with
 |true=>exact⟨rfl,h⟩
 |false=>exact absurd h hy
theorem bifz {x y:Int} (h:(bif x==0 then y else x)=0):x=0∧y=0:=by
 cases hx:x==0 with
 |true=>rw[hx]at h;exact⟨eq_of_beq hx,h⟩
 |false=>rw[hx,cond_false]at h;rw[h]at hx;cases hx
theorem rT_inv {k:Int} {n:ByteArray} {xs:List Ty} {lv:Nat} (h:rT (.mk k n xs) lv=0):(1≤k∧k≤9)∧xs.length≤7∧goodT k n xs.length=true∧∀x∈xs,rT x (lv+1)=0:=by
 rw[rT]at h
 obtain⟨_,h⟩:=bif0 (by decide) h
 obtain⟨h1,h⟩:=bif0 (by decide) h
 obtain⟨h2,h⟩:=bif0 (by decide) h
 obtain⟨h3,h⟩:=bif1 (by decide) h
 rw[rTs_each]at h
 rw[Bool.or_eq_false_iff,decide_eq_false_iff_not,decide_eq_false_iff_not]at h1
 exact⟨by omega,by have:=of_decide_eq_false h2;omega,h3,each_zero h⟩
theorem last_app {α:Type} {xs:List α} (h:xs≠[]):∃l t,xs=l++[t]:=⟨xs.dropLast,xs.getLast h,(List.dropLast_concat_getLast h).symm⟩
theorem getLastD_app {α:Type} (l:List α) (t d:α):(l++[t]).getLastD d=t:=by simp
theorem txT7 (n:ByteArray) (l:List Ty) (t:Ty):txT (.mk 7 n (l++[t]))=[102,110,40]++com (l.map txT)++[41,58,32]++txT t:=by
 rw[txT,txTs_map,List.map_append,List.map_cons,List.map_nil,List.dropLast_concat,getLastD_app]
 simp
theorem tkT7 (n:ByteArray) (l:List Ty) (t:Ty):tkT (.mk 7 n (l++[t]))=(3,[102,110])::(6,[40])::(comT (l.map tkT)++(6,[41])::(6,[58])::tkT t):=by
 rw[tkT,tkTs_map,List.map_append,List.map_cons,List.map_nil,List.dropLast_concat,getLastD_app]
 simp
theorem txT6 (n:ByteArray) (xs:List Ty):txT (.mk 6 n xs)=bif xs.length==0 then bs n else bs n++[40]++com (xs.map txT)++[41]:=by
 rw[txT,txTs_map];rfl
theorem tkT6 (n:ByteArray) (xs:List Ty):tkT (.mk 6 n xs)=(2,bs n)::(bif xs.length==0 then [] else (6,[40])::(comT (xs.map tkT)++[(6,[41])])):=by
 rw[tkT,tkTs_map];rfl
theorem isS_eq {s:ByteArray} {l:Bs} (h:isS s l=true):bs s=l:=eq_of_beq h
theorem isS_B {s:ByteArray} {l:Bs} (h:isS s l=true):s=B l:=by rw[B_of s];exact congrArg B (isS_eq h)
theorem Lx.cast {e:Bool} {s s':Bs} {ts ts':List TS} (h:Lx e s ts) (h1:s'=s) (h2:ts'=ts):Lx e s' ts':=by subst h1;subst h2;exact h
theorem lx_par {a b:Bs} {t u:List TS} (h:Lx true a t) (h2:Lx true b u):Lx false (a++[40]++b++[41]) (t++(6,[40])::(u++[(6,[41])])):=
 (((h.app (show Lx false [40] [(6,[40])] from(Lx.sg 40 (by decide +kernel))) (fun _=>rfl)).app h2 (fun h=>by cases h)).app (show Lx false [41] [(6,[41])] from(Lx.sg 41 (by decide +kernel))) (fun _=>rfl)).cast rfl (by simp)
theorem lx_T (t:Ty):∀lv,rT t lv=0→Lx true (txT t) (tkT t):=by
 refine Ty.ind (Q:=fun t=>∀lv,rT t lv=0→Lx true (txT t) (tkT t)) ?_ t
 intro k n xs ih lv h
 obtain⟨hk,hl,hg,hx⟩:=rT_inv h
 have ih:=fun x hx'=>ih x hx' _ (hx x hx')
 have hc:=lx_com txT tkT xs ih
 rcases (by omega:k=1∨k=2∨k=3∨k=4∨k=5∨k=6∨k=7∨k=8∨k=9) with rfl|rfl|rfl|rfl|rfl|rfl|rfl|rfl|rfl
 ·exact(show Lx true [105,110,116] [(3,[105,110,116])] from(Lx.wd [105,110,116] (by decide +kernel))).cast rfl rfl
 ·exact(show Lx true [98,111,111,108] [(3,[98,111,111,108])] from(Lx.wd [98,111,111,108] (by decide +kernel))).cast rfl rfl
 ·exact(show Lx true [116,101,120,116] [(3,[116,101,120,116])] from(Lx.wd [116,101,120,116] (by decide +kernel))).cast rfl rfl
 ·exact(show Lx true [117,110,105,116] [(3,[117,110,105,116])] from(Lx.wd [117,110,105,116] (by decide +kernel))).cast rfl rfl
 ·have hg:(xs.length==0&&(lowB n||isS n [115,101,108,102]))=true:=hg
  simp only[Bool.and_eq_true,Bool.or_eq_true]at hg
  have e1:txT (.mk 5 n xs)=bs n:=by rw[txT];rfl
  have e2:tkT (.mk 5 n xs)=[(bif isS n [115,101,108,102] then 3 else 1,bs n)]:=by rw[tkT];rfl
  rw[e1,e2]
  cases hs:isS n [115,101,108,102] with
  |true=>
   rw[isS_eq hs]
   exact(show Lx true [115,101,108,102] [(3,[115,101,108,102])] from(Lx.wd [115,101,108,102] (by decide +kernel)))
  |false=>
   rw[hs]at hg
   rcases hg.2 with q|q
   ·exact Lx.lo q
   ·cases q
 ·have hg:(upB n&&(!builtB n&&decide (xs.length≤6)))=true:=hg
  rw[Bool.and_eq_true]at hg
  rw[txT6,tkT6]
  cases hz:xs.length==0 with
  |true=>exact Lx.up' hg.1
  |false=>exact(lx_par (Lx.up' hg.1) hc).soft
 ·have hg:(decide (xs.length>0)&&isS n [])=true:=hg
  rw[Bool.and_eq_true]at hg
  obtain⟨l,t,rfl⟩:=last_app (xs:=xs) (by intro e;rw[e]at hg;exact absurd hg.1 (by decide))
  rw[txT7,tkT7]
  have hc:=lx_com txT tkT l (fun x hx=>ih x (by simp[hx]))
  exact((((show Lx false [102,110,40] [(3,[102,110]),(6,[40])] from(Lx.app (Lx.wd [102,110] (by decide +kernel)) (Lx.sg 40 (by decide +kernel)) (fun _=>rfl))).app hc (fun h=>by cases h)).app (show Lx false [41,58,32] [(6,[41]),(6,[58])] from(Lx.app (Lx.app (Lx.sg 41 (by decide +kernel)) (Lx.sg 58 (by decide +kernel)) (fun h=>by cases h)) (Lx.sp) (fun h=>by cases h))) (fun _=>rfl)).app (ih t (by simp)) (fun h=>by cases h)).cast rfl (by simp)
 ·have e1:txT (.mk 8 n xs)=[82,101,102]++[40]++com (xs.map txT)++[41]:=by rw[txT,txTs_map];rfl
  have e2:tkT (.mk 8 n xs)=[(2,[82,101,102])]++(6,[40])::(comT (xs.map tkT)++[(6,[41])]):=by rw[tkT,tkTs_map];rfl
  rw[e1,e2]
  exact(lx_par (show Lx true [82,101,102] [(2,[82,101,102])] from(Lx.up [82,101,102] (by decide +kernel))) hc).soft
 ·have e1:txT (.mk 9 n xs)=[67,101,108,108]++[40]++com (xs.map txT)++[41]:=by rw[txT,txTs_map];rfl
  have e2:tkT (.mk 9 n xs)=[(2,[67,101,108,108])]++(6,[40])::(comT (xs.map tkT)++[(6,[41])]):=by rw[tkT,tkTs_map];rfl
  rw[e1,e2]
  exact(lx_par (show Lx true [67,101,108,108] [(2,[67,101,108,108])] from(Lx.up [67,101,108,108] (by decide +kernel))) hc).soft
def quoB (s:Bs):Bs:=bif decide (s.length>64) then [63] else quoteL s
def booB (n:Int):Bs:=bif n==0 then [102,97,108,115,101] else [116,114,117,101]
mutual
def txP:Pt→Bs
 |.mk k m t xs=>bif k==1 then [95] else bif k==2 then bs t else bif k==3 then Lib.itoa m else bif k==4 then booB m else bif k==5 then quoB (bs t) else
  bif k==6 then (bif xs.length==0 then bs t else bs t++[40]++com (txPs xs)++[41]) else [63]
def txPs:List Pt→List Bs
 | []=>[]
 |t::r=>txP t::txPs r
end
mutual
def tkP:Pt→List TS
 |.mk k m t xs=>bif k==1 then [(6,[95])] else bif k==2 then [(1,bs t)] else bif k==3 then numT m else bif k==4 then [(3,booB m)] else bif k==5 then [(5,bs t)] else
  (2,bs t)::(bif xs.length==0 then [] else (6,[40])::(comT (tkPs xs)++[(6,[41])]))
def tkPs:List Pt→List (List TS)
 | []=>[]
 |t::r=>tkP t::tkPs r
end
theorem txPs_map (l:List Pt):txPs l=l.map txP:=by
 induction l with
 |nil=>rfl
 |cons t r ih=>simp[txPs,ih]
theorem tkPs_map (l:List Pt):tkPs l=l.map tkP:=by
 induction l with
 |nil=>rfl
 |cons t r ih=>simp[tkPs,ih]
theorem rPs_each:∀(l:List Pt),rPs l=eachF rP l
 | []=>by rw[rPs,eachF]
 |t::r=>by rw[rPs,eachF,rPs_each r]
theorem rP_inv {k m:Int} {t:ByteArray} {xs:List Pt} (h:rP (.mk k m t xs)=0):(k=5→t.size≤64)∧(1≤k∧k≤6)∧patText k t=true∧patNum k m=true∧(k≠6→xs=[])∧xs.length≤6∧∀x∈xs,rP x=0:=by
 rw[rP]at h
 obtain⟨h0,h⟩:=bif0 (by decide) h
 obtain⟨h1,h⟩:=bif0 (by decide) h
 obtain⟨h2,h⟩:=bif0 (by decide) h
 obtain⟨h3,h⟩:=bif0 (by decide) h
 rw[rPs_each]at h
 rw[Bool.or_eq_false_iff,decide_eq_false_iff_not,decide_eq_false_iff_not]at h1
 rw[Bool.or_eq_false_iff,Bool.or_eq_false_iff]at h2
 simp only[Bool.not_eq_false']at h2
 refine⟨fun hk=>?_,by omega,h2.1,h2.2.1,fun hk=>?_,by have:=of_decide_eq_false h3;omega,each_zero h⟩
 ·subst hk
  have:decide (t.size>64)=false:=by simpa using h0
  have:=of_decide_eq_false this
  omega
 ·have hk:(!(k==6))=true:=by simp[hk]
  have:=h2.2.2
  rw[hk,Bool.and_true]at this
  have:=of_decide_eq_false this
  exact List.eq_nil_of_length_eq_zero (by omega)
theorem lx_boo (m:Int):Lx true (booB m) [(3,booB m)]:=by
 unfold booB
 cases m==0 with
 |true=>exact(show Lx true [102,97,108,115,101] [(3,[102,97,108,115,101])] from(Lx.wd [102,97,108,115,101] (by decide +kernel)))
 |false=>exact(show Lx true [116,114,117,101] [(3,[116,114,117,101])] from(Lx.wd [116,114,117,101] (by decide +kernel)))
theorem lx_quo {s:Bs} (h:s.length≤64):Lx true (quoB s) [(5,s)]:=by
 unfold quoB
 rw[decide_eq_false (by omega),cond_false]
 exact(Lx.tx h).soft
theorem bs_size (s:ByteArray):(bs s).length=s.size:=by show s.data.toList.length=s.data.size;simp
theorem txP6 (m:Int) (n:ByteArray) (xs:List Pt):txP (.mk 6 m n xs)=bif xs.length==0 then bs n else bs n++[40]++com (xs.map txP)++[41]:=by
 rw[txP,txPs_map];rfl
theorem tkP6 (m:Int) (n:ByteArray) (xs:List Pt):tkP (.mk 6 m n xs)=(2,bs n)::(bif xs.length==0 then [] else (6,[40])::(comT (xs.map tkP)++[(6,[41])])):=by
 rw[tkP,tkPs_map];rfl
theorem lx_P (t:Pt):rP t=0→Lx true (txP t) (tkP t):=by
 refine Pt.ind (Q:=fun t=>rP t=0→Lx true (txP t) (tkP t)) ?_ t
 intro k m n xs ih h
 obtain⟨h5,hk,ht,hn,hx0,hl,hx⟩:=rP_inv h
 have ih:=fun x hx'=>ih x hx' (hx x hx')
 have hc:=lx_com txP tkP xs ih
 rcases (by omega:k=1∨k=2∨k=3∨k=4∨k=5∨k=6) with rfl|rfl|rfl|rfl|rfl|rfl
 ·have e1:txP (.mk 1 m n xs)=[95]:=by rw[txP];rfl
  have e2:tkP (.mk 1 m n xs)=[(6,[95])]:=by rw[tkP];rfl
  rw[e1,e2]
  exact(Lx.sg 95 (by decide +kernel)).soft
 ·have e1:txP (.mk 2 m n xs)=bs n:=by rw[txP];rfl
  have e2:tkP (.mk 2 m n xs)=[(1,bs n)]:=by rw[tkP];rfl
  rw[e1,e2]
  exact Lx.lo ht
 ·have e1:txP (.mk 3 m n xs)=Lib.itoa m:=by rw[txP];rfl
  have e2:tkP (.mk 3 m n xs)=numT m:=by rw[tkP];rfl
  rw[e1,e2]
  exact Lx.num m
 ·have e1:txP (.mk 4 m n xs)=booB m:=by rw[txP];rfl
  have e2:tkP (.mk 4 m n xs)=[(3,booB m)]:=by rw[tkP];rfl
  rw[e1,e2]
  exact lx_boo m
 ·have e1:txP (.mk 5 m n xs)=quoB (bs n):=by rw[txP];rfl
  have e2:tkP (.mk 5 m n xs)=[(5,bs n)]:=by rw[tkP];rfl
  rw[e1,e2]
  exact lx_quo (by rw[bs_size];exact h5 rfl)
 ·rw[txP6,tkP6]
  cases hz:xs.length==0 with
  |true=>exact Lx.up' ht
  |false=>exact(lx_par (Lx.up' ht) hc).soft
end SH
open Go Go.AM TK TR
set_option maxRecDepth 100000
namespace SH
def namesB (ns:List ByteArray) (ts:List Ty):Bs:=[40]++com (List.zipWith (fun s t=>bs s++[58,32]++txT t) ns ts)++[41]
def namesT (ns:List ByteArray) (ts:List Ty):List TS:=(6,[40])::(comT (List.zipWith (fun s t=>(1,bs s)::(6,[58])::tkT t) ns ts)++[(6,[41])])
def armsB (l:List Bs):Bs:=bif l.length==0 then [123,32,125] else [123,32]++Lib.join l [59,32]++[32,125]
def armsT (l:List (List TS)):List TS:=(6,[123])::(sepT (6,[59]) l++[(6,[125])])
def calledB (k:Int):Bs:=bif k==11 then [97,112,112,108,121] else bif k==15 then [115,101,110,100] else bif k==17 then [98,101,99,111,109,101] else bif k==19 then [102,97,105,108] else bif k==20 then [115,97,121] else
 bif k==21 then [99,101,108,108] else bif k==22 then [103,101,116] else bif k==23 then [112,117,116] else bif k==24 then [119,97,116,99,104] else [108,105,110,107]
def opT (s:Bs):TS:=(bif wordF s then 3 else 6,s)
def argsB (l:List Bs):Bs:=[40]++com l++[41]
def argsT (l:List (List TS)):List TS:=(6,[40])::(comT l++[(6,[41])])
mutual
def txE:Ex→Bs
 |.mk k m t ns ts xs ms _=>
  bif k==1 then [40,41] else bif k==2 then Lib.itoa m else bif k==3 then booB m else bif k==4 then quoB (bs t) else bif k==5 then bs t else
  bif k==6 then [108,101,116,32]++bs t++[32,61,32]++(txEs xs).getD 0 []++[32,105,110,32]++(txEs xs).getD 1 [] else
  bif k==7 then [105,102,32]++(txEs xs).getD 0 []++[32,116,104,101,110,32]++(txEs xs).getD 1 []++[32,101,108,115,101,32]++(txEs xs).getD 2 [] else
  bif k==8 then (bif xs.length==1 then [40,110,111,116,32]++(txEs xs).getD 0 []++[41] else [40]++(txEs xs).getD 0 []++[32]++bs t++[32]++(txEs xs).getD 1 []++[41]) else
  bif k==9 then bs t++argsB (txEs xs) else
  bif k==10 then [40,102,117,110,32]++namesB ns ts++[32,61,62,32]++(txEs xs).getD 0 []++[41] else
  bif k==12 then (bif xs.length==0 then bs t else bs t++argsB (txEs xs)) else
  bif k==13 then [109,97,116,99,104,32]++(txEs xs).getD 0 []++[32]++armsB (txAs ms) else
  bif k==14 then [115,112,97,119,110,32]++bs t++argsB (txEs xs) else
  bif k==16 then [115,101,108,102] else
  bif k==18 then (bif decide (m≥0) then [114,101,99,101,105,118,101,32]++armsB (txAs ms)++([32,97,102,116,101,114,32]++Lib.itoa m++[32,61,62,32]++(txEs xs).getD 0 []) else [114,101,99,101,105,118,101,32]++armsB (txAs ms)) else
  calledB k++argsB (txEs xs)
def txEs:List Ex→List Bs
 | []=>[]
 |t::r=>txE t::txEs r
def txAs:List Arm→List Bs
 | []=>[]
 |.mk p e::r=>(txP p++[32,61,62,32]++txE e)::txAs r
end
mutual
def tkE:Ex→List TS
 |.mk k m t ns ts xs ms _=>
  bif k==1 then [(6,[40]),(6,[41])] else bif k==2 then numT m else bif k==3 then [(3,booB m)] else bif k==4 then [(5,bs t)] else bif k==5 then [(1,bs t)] else
  bif k==6 then (3,[108,101,116])::(1,bs t)::(6,[61])::((tkEs xs).getD 0 []++(3,[105,110])::(tkEs xs).getD 1 []) else
  bif k==7 then (3,[105,102])::((tkEs xs).getD 0 []++(3,[116,104,101,110])::((tkEs xs).getD 1 []++(3,[101,108,115,101])::(tkEs xs).getD 2 [])) else
  bif k==8 then (bif xs.length==1 then (6,[40])::(3,[110,111,116])::((tkEs xs).getD 0 []++[(6,[41])]) else (6,[40])::((tkEs xs).getD 0 []++opT (bs t)::((tkEs xs).getD 1 []++[(6,[41])]))) else
  bif k==9 then (1,bs t)::argsT (tkEs xs) else
  bif k==10 then (6,[40])::(3,[102,117,110])::(namesT ns ts++(6,[61,62])::((tkEs xs).getD 0 []++[(6,[41])])) else
  bif k==12 then (2,bs t)::(bif xs.length==0 then [] else argsT (tkEs xs)) else
  bif k==13 then (3,[109,97,116,99,104])::((tkEs xs).getD 0 []++armsT (tkAs ms)) else
  bif k==14 then (3,[115,112,97,119,110])::(2,bs t)::argsT (tkEs xs) else
  bif k==16 then [(3,[115,101,108,102])] else
  bif k==18 then (3,[114,101,99,101,105,118,101])::(armsT (tkAs ms)++(bif decide (m≥0) then (3,[97,102,116,101,114])::(numT m++(6,[61,62])::(tkEs xs).getD 0 []) else [])) else
  (3,calledB k)::argsT (tkEs xs)
def tkEs:List Ex→List (List TS)
 | []=>[]
 |t::r=>tkE t::tkEs r
def tkAs:List Arm→List (List TS)
 | []=>[]
 |.mk p e::r=>(tkP p++(6,[61,62])::tkE e)::tkAs r
end
def txA (a:Arm):Bs:=txP a.pat++[32,61,62,32]++txE a.body
def tkA (a:Arm):List TS:=tkP a.pat++(6,[61,62])::tkE a.body
theorem txEs_map (l:List Ex):txEs l=l.map txE:=by
 induction l with
 |nil=>rfl
 |cons t r ih=>simp[txEs,ih]
theorem tkEs_map (l:List Ex):tkEs l=l.map tkE:=by
 induction l with
 |nil=>rfl
 |cons t r ih=>simp[tkEs,ih]
theorem txAs_map (l:List Arm):txAs l=l.map txA:=by
 induction l with
 |nil=>rfl
 |cons t r ih=>cases t with|mk p e=>rw[txAs,ih];rfl
theorem tkAs_map (l:List Arm):tkAs l=l.map tkA:=by
 induction l with
 |nil=>rfl
 |cons t r ih=>cases t with|mk p e=>rw[tkAs,ih];rfl
def Rt (e:Ex):Prop:=∃be,rE e be=0
def RA (a:Arm):Prop:=rP a.pat=0∧Rt a.body
def emp:ByteArray:=⟨#[]⟩
def opsW:List Bs:=splitF 32 opsC
inductive Shp:Ex→Prop
 |unit (p:Int):Shp (.mk 1 0 emp [] [] [] [] p)
 |int (m p:Int):Shp (.mk 2 m emp [] [] [] [] p)
 |bool (m p:Int) (h:m=0∨m=1):Shp (.mk 3 m emp [] [] [] [] p)
 |text (t:ByteArray) (p:Int) (h:t.size≤64):Shp (.mk 4 0 t [] [] [] [] p)
 |var (t:ByteArray) (p:Int) (h:lowB t=true):Shp (.mk 5 0 t [] [] [] [] p)
 |lett (t:ByteArray) (x y:Ex) (p:Int) (h:lowB t=true) (hx:Rt x) (hy:Rt y):Shp (.mk 6 0 t [] [] [x,y] [] p)
 |iff (x y z:Ex) (p:Int) (hx:Rt x) (hy:Rt y) (hz:Rt z):Shp (.mk 7 0 emp [] [] [x,y,z] [] p)
 |nott (x:Ex) (p:Int) (hx:Rt x):Shp (.mk 8 0 (B [110,111,116]) [] [] [x] [] p)
 |op (t:ByteArray) (x y:Ex) (p:Int) (h:bs t∈opsW) (hx:Rt x) (hy:Rt y):Shp (.mk 8 0 t [] [] [x,y] [] p)
 |call (t:ByteArray) (xs:List Ex) (p:Int) (h:lowB t=true) (hl:xs.length≤6) (hx:∀x∈xs,Rt x):Shp (.mk 9 0 t [] [] xs [] p)
 |func (ns:List ByteArray) (ts:List Ty) (x:Ex) (p:Int) (h:ns.length=ts.length) (hn:rNames ns=0) (ht:rTypes ts=0) (hx:Rt x):Shp (.mk 10 0 emp ns ts [x] [] p)
 |apply (x:Ex) (xs:List Ex) (p:Int) (hl:xs.length≤6) (h0:Rt x) (hx:∀x∈xs,Rt x):Shp (.mk 11 0 emp [] [] (x::xs) [] p)
 |make (t:ByteArray) (xs:List Ex) (p:Int) (h:upB t=true) (hl:xs.length≤6) (hx:∀x∈xs,Rt x):Shp (.mk 12 0 t [] [] xs [] p)
 |mat (x:Ex) (a:Arm) (ms:List Arm) (p:Int) (hl:ms.length≤11) (hx:Rt x) (ha:RA a) (hm:∀a∈ms,RA a):Shp (.mk 13 0 emp [] [] [x] (a::ms) p)
 |spawn (t:ByteArray) (xs:List Ex) (p:Int) (h:upB t=true) (hl:xs.length≤6) (hx:∀x∈xs,Rt x):Shp (.mk 14 0 t [] [] xs [] p)
 |self (p:Int):Shp (.mk 16 0 emp [] [] [] [] p)
 |become (xs:List Ex) (p:Int) (hl:xs.length≤6) (hx:∀x∈xs,Rt x):Shp (.mk 17 0 emp [] [] xs [] p)
 |recv (ms:List Arm) (p:Int) (hl:ms.length≤12) (hm:∀a∈ms,RA a):Shp (.mk 18 (-1) emp [] [] [] ms p)
 |after (m:Int) (x:Ex) (ms:List Arm) (p:Int) (h0:0≤m) (h1:m≤1000000) (hl:ms.length≤12) (hx:Rt x) (hm:∀a∈ms,RA a):Shp (.mk 18 m emp [] [] [x] ms p)
 |one (k:Int) (x:Ex) (p:Int) (hk:k=19∨k=20∨k=21∨k=22∨k=24∨k=25) (hx:Rt x):Shp (.mk k 0 emp [] [] [x] [] p)
 |two (k:Int) (x y:Ex) (p:Int) (hk:k=15∨k=23) (hx:Rt x) (hy:Rt y):Shp (.mk k 0 emp [] [] [x,y] [] p)
theorem rEs_zero:∀{l:List Ex} {be:Bool},rEs l be=0→∀x∈l,rE x be=0
 | [],_,_=>by simp
 |y::r,be,h=>by
  rw[rEs]at h
  obtain⟨h1,h2⟩:=bifz h
  intro x hx
  rcases List.mem_cons.1 hx with rfl|hx
  ·exact h1
  ·exact rEs_zero h2 x hx
theorem rAs_zero:∀{l:List Arm} {be:Bool},rAs l be=0→∀a∈l,rP a.pat=0∧rE a.body be=0
 | [],_,_=>by simp
 |.mk p e::r,be,h=>by
  rw[rAs]at h
  obtain⟨h1,h2⟩:=bifz h
  obtain⟨h3,h4⟩:=bifz h1
  intro x hx
  rcases List.mem_cons.1 hx with rfl|hx
  ·exact⟨h3,h4⟩
  ·exact rAs_zero h2 x hx
theorem rE_inv {k m:Int} {t:ByteArray} {ns:List ByteArray} {ts:List Ty} {xs:List Ex} {ms:List Arm} {p:Int} {be:Bool} (h:rE (.mk k m t ns ts xs ms p) be=0):
 ¬needsF k m xs.length<0∧tooF k xs.length ms.length t.size=false∧partsR k m t ns.length ts.length xs.length ms.length=true∧(k=10→ns.length=ts.length∧rNames ns=0∧rTypes ts=0)∧(∀x∈xs,Rt x)∧(∀a∈ms,RA a):=by
 rw[rE]at h
 obtain⟨h0,h⟩:=bif0 (by decide) h
 obtain⟨h1,h⟩:=bif0 (by decide) h
 obtain⟨h2,h⟩:=bif0 (by decide) h
 rw[Bool.or_eq_false_iff]at h2
 have h2:=h2.1
 simp only[Bool.not_eq_false']at h2
 have h0:=of_decide_eq_false h0
 cases hk:k==10 with
 |true=>
  rw[hk,cond_true]at h
  obtain⟨h3,h⟩:=bif0 (by decide) h
  obtain⟨h5,h⟩:=bifz h
  obtain⟨h4,h⟩:=bifz h
  simp only[Bool.not_eq_false',beq_iff_eq]at h3
  have h5:=or_zero h5
  exact⟨h0,h1,h2,fun _=>⟨h3,h5 _ (by simp),h5 _ (by simp)⟩,fun x hx=>⟨_,rEs_zero h4 x hx⟩,fun a ha=>⟨(rAs_zero h a ha).1,_,(rAs_zero h a ha).2⟩⟩
 |false=>
  rw[hk,cond_false]at h
  obtain⟨h4,h⟩:=bifz h
  exact⟨h0,h1,h2,fun e=>by simp[e]at hk,fun x hx=>⟨_,rEs_zero h4 x hx⟩,fun a ha=>⟨(rAs_zero h a ha).1,_,(rAs_zero h a ha).2⟩⟩
theorem list0 {α:Type} {xs:List α} (h:xs.length=0):xs=[]:=List.eq_nil_of_length_eq_zero h
theorem list1 {α:Type} {xs:List α} (h:xs.length=1):∃x,xs=[x]:=by
 match xs,h with | [x],_=>exact⟨x,rfl⟩
theorem list2 {α:Type} {xs:List α} (h:xs.length=2):∃x y,xs=[x,y]:=by
 match xs,h with | [x,y],_=>exact⟨x,y,rfl⟩
theorem list3 {α:Type} {xs:List α} (h:xs.length=3):∃x y z,xs=[x,y,z]:=by
 match xs,h with | [x,y,z],_=>exact⟨x,y,z,rfl⟩
theorem needs_k {k m:Int} {l:Nat} (h:¬needsF k m l<0):1≤k∧k≤25:=by
 by_cases h1:1≤k∧k≤25
 ·exact h1
 ·exfalso
  apply h
  have hne:∀j:Int,1≤j→j≤25→(k==j)=false:=fun j h2 h3=>by simp;omega
  unfold needsF
  simp only[hne _ (by decide:(1:Int)≤1) (by decide),hne 2 (by decide) (by decide),hne 3 (by decide) (by decide),hne 4 (by decide) (by decide),hne 5 (by decide) (by decide),hne 6 (by decide) (by decide),hne 7 (by decide) (by decide),hne 8 (by decide) (by decide),hne 9 (by decide) (by decide),hne 10 (by decide) (by decide),hne 11 (by decide) (by decide),hne 12 (by decide) (by decide),hne 13 (by decide) (by decide),hne 14 (by decide) (by decide),hne 15 (by decide) (by decide),hne 16 (by decide) (by decide),hne 17 (by decide) (by decide),hne 18 (by decide) (by decide),hne 19 (by decide) (by decide),hne 20 (by decide) (by decide),hne 21 (by decide) (by decide),hne 22 (by decide) (by decide),hne 23 (by decide) (by decide),hne 24 (by decide) (by decide),hne 25 (by decide) (by decide),Bool.or_false,cond_false]
  decide
theorem isS_emp {s:ByteArray} (h:isS s []=true):s=emp:=isS_B h
theorem shape (e:Ex) (h:Rt e):Shp e:=by
 obtain⟨be,h⟩:=h
 obtain⟨k,m,t,ns,ts,xs,ms,p⟩:=e
 obtain⟨h0,h1,h2,h3,hx,hm⟩:=rE_inv h
 have hk:=needs_k h0
 unfold partsR at h2
 simp only[Bool.and_eq_true]at h2
 obtain⟨ha,ht,hn,hms,hnt⟩:=h2
 have ha:=eq_of_beq ha
 unfold tooF at h1
 simp only[Bool.or_eq_false_iff]at h1
 obtain⟨g1,g2,g3⟩:=h1
 have g1:=of_decide_eq_false g1
 have g2:=of_decide_eq_false g2
 have g3:=of_decide_eq_false g3
 have nt:(k==10)=false→ns=[]∧ts=[]:=fun hk=>by
  rw[hk,Bool.false_or]at hnt
  have:=eq_of_beq hnt
  exact⟨list0 (by omega),list0 (by omega)⟩
 have nms:((ms.length==0)=true)→ms=[]:=fun q=>list0 (eq_of_beq q)
 rcases (by omega:k=1∨k=2∨k=3∨k=4∨k=5∨k=6∨k=7∨k=8∨k=9∨k=10∨k=11∨k=12∨k=13∨k=14∨k=15∨k=16∨k=17∨k=18∨k=19∨k=20∨k=21∨k=22∨k=23∨k=24∨k=25) with
  rfl|rfl|rfl|rfl|rfl|rfl|rfl|rfl|rfl|rfl|rfl|rfl|rfl|rfl|rfl|rfl|rfl|rfl|rfl|rfl|rfl|rfl|rfl|rfl|rfl
 ·obtain⟨rfl,rfl⟩:=nt rfl
  have ha:(xs.length:Int)=0:=ha
  obtain rfl:=list0 (xs:=xs) (by omega)
  obtain rfl:=isS_emp (s:=t) ht
  obtain rfl:m=0:=eq_of_beq (show(m==0)=true from hn)
  obtain rfl:=nms hms
  exact .unit p
 ·obtain⟨rfl,rfl⟩:=nt rfl
  have ha:(xs.length:Int)=0:=ha
  obtain rfl:=list0 (xs:=xs) (by omega)
  obtain rfl:=isS_emp (s:=t) ht
  obtain rfl:=nms hms
  exact .int m p
 ·obtain⟨rfl,rfl⟩:=nt rfl
  have ha:(xs.length:Int)=0:=ha
  obtain rfl:=list0 (xs:=xs) (by omega)
  obtain rfl:=isS_emp (s:=t) ht
  obtain rfl:=nms hms
  have hn:(m==0||m==1)=true:=hn
  exact .bool m p (by simpa using hn)
 ·obtain⟨rfl,rfl⟩:=nt rfl
  have ha:(xs.length:Int)=0:=ha
  obtain rfl:=list0 (xs:=xs) (by omega)
  obtain rfl:m=0:=eq_of_beq (show(m==0)=true from hn)
  obtain rfl:=nms hms
  exact .text t p (by omega)
 ·obtain⟨rfl,rfl⟩:=nt rfl
  have ha:(xs.length:Int)=0:=ha
  obtain rfl:=list0 (xs:=xs) (by omega)
  obtain rfl:m=0:=eq_of_beq (show(m==0)=true from hn)
  obtain rfl:=nms hms
  exact .var t p ht
 ·obtain⟨rfl,rfl⟩:=nt rfl
  have ha:(xs.length:Int)=2:=ha
  obtain⟨x,y,rfl⟩:=list2 (xs:=xs) (by omega)
  obtain rfl:m=0:=eq_of_beq (show(m==0)=true from hn)
  obtain rfl:=nms hms
  exact .lett t x y p ht (hx x (by simp)) (hx y (by simp))
 ·obtain⟨rfl,rfl⟩:=nt rfl
  have ha:(xs.length:Int)=3:=ha
  obtain⟨x,y,z,rfl⟩:=list3 (xs:=xs) (by omega)
  obtain rfl:=isS_emp (s:=t) ht
  obtain rfl:m=0:=eq_of_beq (show(m==0)=true from hn)
  obtain rfl:=nms hms
  exact .iff x y z p (hx x (by simp)) (hx y (by simp)) (hx z (by simp))
 ·obtain⟨rfl,rfl⟩:=nt rfl
  obtain rfl:m=0:=eq_of_beq (show(m==0)=true from hn)
  obtain rfl:=nms hms
  have ht:opF t xs.length=true:=ht
  unfold opF at ht
  cases hs:isS t [110,111,116] with
  |true=>
   rw[hs,cond_true]at ht
   obtain⟨x,rfl⟩:=list1 (xs:=xs) (by simpa using ht)
   obtain rfl:=isS_B hs
   exact .nott x p (hx x (by simp))
  |false=>
   rw[hs,cond_false,Bool.and_eq_true]at ht
   obtain⟨x,y,rfl⟩:=list2 (xs:=xs) (by simpa using ht.2)
   exact .op t x y p (by have q:=ht.1;rw[List.contains_iff_mem]at q;exact q) (hx x (by simp)) (hx y (by simp))
 ·obtain⟨rfl,rfl⟩:=nt rfl
  obtain rfl:m=0:=eq_of_beq (show(m==0)=true from hn)
  obtain rfl:=nms hms
  have g1:¬xs.length>6:=g1
  exact .call t xs p ht (by omega) hx
 ·have ha:(xs.length:Int)=1:=ha
  obtain⟨x,rfl⟩:=list1 (xs:=xs) (by omega)
  obtain rfl:=isS_emp (s:=t) ht
  obtain rfl:m=0:=eq_of_beq (show(m==0)=true from hn)
  obtain rfl:=nms hms
  obtain⟨q1,q2,q3⟩:=h3 rfl
  exact .func ns ts x p q1 q2 q3 (hx x (by simp))
 ·obtain⟨rfl,rfl⟩:=nt rfl
  obtain rfl:=isS_emp (s:=t) ht
  obtain rfl:m=0:=eq_of_beq (show(m==0)=true from hn)
  obtain rfl:=nms hms
  have g1:¬xs.length>7:=g1
  have ha:(xs.length:Int)=if (xs.length:Int)<1 then (1:Int) else (xs.length:Int):=ha
  cases xs with
  |nil=>simp at ha
  |cons x xs=>
   simp only[List.length_cons]at g1
   exact .apply x xs p (by omega) (hx x (by simp)) (fun y hy=>hx y (by simp[hy]))
 ·obtain⟨rfl,rfl⟩:=nt rfl
  obtain rfl:m=0:=eq_of_beq (show(m==0)=true from hn)
  obtain rfl:=nms hms
  have g1:¬xs.length>6:=g1
  exact .make t xs p ht (by omega) hx
 ·obtain⟨rfl,rfl⟩:=nt rfl
  have ha:(xs.length:Int)=1:=ha
  obtain⟨x,rfl⟩:=list1 (xs:=xs) (by omega)
  obtain rfl:=isS_emp (s:=t) ht
  obtain rfl:m=0:=eq_of_beq (show(m==0)=true from hn)
  have hms:(!(ms.length==0))=true:=hms
  cases ms with
  |nil=>cases hms
  |cons a ms=>
   simp only[List.length_cons]at g2
   exact .mat x a ms p (by omega) (hx x (by simp)) (hm a (by simp)) (fun y hy=>hm y (by simp[hy]))
 ·obtain⟨rfl,rfl⟩:=nt rfl
  obtain rfl:m=0:=eq_of_beq (show(m==0)=true from hn)
  obtain rfl:=nms hms
  have g1:¬xs.length>6:=g1
  exact .spawn t xs p ht (by omega) hx
 ·obtain⟨rfl,rfl⟩:=nt rfl
  have ha:(xs.length:Int)=2:=ha
  obtain⟨x,y,rfl⟩:=list2 (xs:=xs) (by omega)
  obtain rfl:=isS_emp (s:=t) ht
  obtain rfl:m=0:=eq_of_beq (show(m==0)=true from hn)
  obtain rfl:=nms hms
  exact .two 15 x y p (by decide) (hx x (by simp)) (hx y (by simp))
 ·obtain⟨rfl,rfl⟩:=nt rfl
  have ha:(xs.length:Int)=0:=ha
  obtain rfl:=list0 (xs:=xs) (by omega)
  obtain rfl:=isS_emp (s:=t) ht
  obtain rfl:m=0:=eq_of_beq (show(m==0)=true from hn)
  obtain rfl:=nms hms
  exact .self p
 ·obtain⟨rfl,rfl⟩:=nt rfl
  obtain rfl:=isS_emp (s:=t) ht
  obtain rfl:m=0:=eq_of_beq (show(m==0)=true from hn)
  obtain rfl:=nms hms
  have g1:¬xs.length>6:=g1
  exact .become xs p (by omega) hx
 ·obtain⟨rfl,rfl⟩:=nt rfl
  obtain rfl:=isS_emp (s:=t) ht
  have hn:(m==-1||plainF m)=true:=hn
  have ha:(xs.length:Int)=bif decide (m≥0) then 1 else 0:=ha
  by_cases h0:m≥0
  ·rw[decide_eq_true h0,cond_true]at ha
   obtain⟨x,rfl⟩:=list1 (xs:=xs) (by omega)
   have:plainF m=true:=by
    rw[Bool.or_eq_true]at hn
    rcases hn with q|q
    ·have:=eq_of_beq q;omega
    ·exact q
   unfold plainF at this
   simp only[Bool.and_eq_true,decide_eq_true_eq]at this
   exact .after m x ms p this.1 this.2 (by omega) (hx x (by simp)) hm
  ·rw[decide_eq_false h0,cond_false]at ha
   obtain rfl:=list0 (xs:=xs) (by omega)
   have:m=-1:=by
    rw[Bool.or_eq_true]at hn
    rcases hn with q|q
    ·exact eq_of_beq q
    ·unfold plainF at q
     simp only[Bool.and_eq_true,decide_eq_true_eq]at q
     omega
   subst this
   exact .recv ms p (by omega) hm
 ·obtain⟨rfl,rfl⟩:=nt rfl
  have ha:(xs.length:Int)=1:=ha
  obtain⟨x,rfl⟩:=list1 (xs:=xs) (by omega)
  obtain rfl:=isS_emp (s:=t) ht
  obtain rfl:m=0:=eq_of_beq (show(m==0)=true from hn)
  obtain rfl:=nms hms
  exact .one _ x p (by decide) (hx x (by simp))
 ·obtain⟨rfl,rfl⟩:=nt rfl
  have ha:(xs.length:Int)=1:=ha
  obtain⟨x,rfl⟩:=list1 (xs:=xs) (by omega)
  obtain rfl:=isS_emp (s:=t) ht
  obtain rfl:m=0:=eq_of_beq (show(m==0)=true from hn)
  obtain rfl:=nms hms
  exact .one _ x p (by decide) (hx x (by simp))
 ·obtain⟨rfl,rfl⟩:=nt rfl
  have ha:(xs.length:Int)=1:=ha
  obtain⟨x,rfl⟩:=list1 (xs:=xs) (by omega)
  obtain rfl:=isS_emp (s:=t) ht
  obtain rfl:m=0:=eq_of_beq (show(m==0)=true from hn)
  obtain rfl:=nms hms
  exact .one _ x p (by decide) (hx x (by simp))
 ·obtain⟨rfl,rfl⟩:=nt rfl
  have ha:(xs.length:Int)=1:=ha
  obtain⟨x,rfl⟩:=list1 (xs:=xs) (by omega)
  obtain rfl:=isS_emp (s:=t) ht
  obtain rfl:m=0:=eq_of_beq (show(m==0)=true from hn)
  obtain rfl:=nms hms
  exact .one _ x p (by decide) (hx x (by simp))
 ·obtain⟨rfl,rfl⟩:=nt rfl
  have ha:(xs.length:Int)=2:=ha
  obtain⟨x,y,rfl⟩:=list2 (xs:=xs) (by omega)
  obtain rfl:=isS_emp (s:=t) ht
  obtain rfl:m=0:=eq_of_beq (show(m==0)=true from hn)
  obtain rfl:=nms hms
  exact .two 23 x y p (by decide) (hx x (by simp)) (hx y (by simp))
 ·obtain⟨rfl,rfl⟩:=nt rfl
  have ha:(xs.length:Int)=1:=ha
  obtain⟨x,rfl⟩:=list1 (xs:=xs) (by omega)
  obtain rfl:=isS_emp (s:=t) ht
  obtain rfl:m=0:=eq_of_beq (show(m==0)=true from hn)
  obtain rfl:=nms hms
  exact .one _ x p (by decide) (hx x (by simp))
 ·obtain⟨rfl,rfl⟩:=nt rfl
  have ha:(xs.length:Int)=1:=ha
  obtain⟨x,rfl⟩:=list1 (xs:=xs) (by omega)
  obtain rfl:=isS_emp (s:=t) ht
  obtain rfl:m=0:=eq_of_beq (show(m==0)=true from hn)
  obtain rfl:=nms hms
  exact .one _ x p (by decide) (hx x (by simp))
end SH
open Go Go.AM TK TR
set_option maxRecDepth 100000
namespace SH
theorem lx_args {a:Bs} {t:List TS} (h:Lx true a t) {l:List Ex} (hl:∀x∈l,Lx true (txE x) (tkE x)):Lx true (a++argsB (txEs l)) (t++argsT (tkEs l)):=by
 have:=(lx_par h (lx_com txE tkE l hl)).soft
 refine this.cast ?_ ?_
 ·rw[argsB,txEs_map];rw[List.append_assoc,List.append_assoc,←List.append_assoc]
 ·rw[argsT,tkEs_map]
theorem lx_names (ns:List ByteArray) (ts:List Ty) (hn:∀s∈ns,lowB s=true) (ht:∀t∈ts,rT t 1=0):Lx false (namesB ns ts) (namesT ns ts):=by
 have hz:∀(ns:List ByteArray) (ts:List Ty),(∀s∈ns,lowB s=true)→(∀t∈ts,rT t 1=0)→Lx true (com (List.zipWith (fun s t=>bs s++[58,32]++txT t) ns ts)) (comT (List.zipWith (fun s t=>(1,bs s)::(6,[58])::tkT t) ns ts)):=by
  intro ns ts hn ht
  have:=lx_com (fun x:ByteArray×Ty=>bs x.1++[58,32]++txT x.2) (fun x:ByteArray×Ty=>(1,bs x.1)::(6,[58])::tkT x.2) (List.zip ns ts) (fun x hx=>by
   have h1:=List.of_mem_zip hx
   exact(((Lx.lo (hn _ h1.1)).app (show Lx false [58,32] [(6,[58])] from(Lx.app (Lx.sg 58 (by decide +kernel)) (Lx.sp) (fun h=>by cases h))) (fun _=>rfl)).app (lx_T _ _ (ht _ h1.2)) (fun h=>by cases h)).cast rfl (by simp))
  rw[List.map_zip_eq_zipWith,List.map_zip_eq_zipWith]at this
  exact this
 exact(((show Lx false [40] [(6,[40])] from(Lx.sg 40 (by decide +kernel))).app (hz ns ts hn ht) (fun h=>by cases h)).app (show Lx false [41] [(6,[41])] from(Lx.sg 41 (by decide +kernel))) (fun _=>rfl)).cast rfl (by simp[namesT])
theorem names_low {l:List ByteArray} (h:rNames l=0):l.length≤6∧∀s∈l,lowB s=true:=by
 unfold rNames at h
 obtain⟨h1,h2⟩:=bif0 (by decide) h
 refine⟨by have:=of_decide_eq_false h1;omega,fun s hs=>?_⟩
 have:=each_zero h2 s hs
 unfold whenF at this
 have:=(bif0 (by decide) this).1
 simpa using this
theorem lx_arms (l:List Arm) (h:∀a∈l,Lx true (txA a) (tkA a)):Lx false (armsB (txAs l)) (armsT (tkAs l)):=by
 rw[txAs_map,tkAs_map]
 unfold armsB armsT
 cases l with
 |nil=>exact(show Lx false [123,32,125] [(6,[123]),(6,[125])] from(Lx.app (Lx.app (Lx.sg 123 (by decide +kernel)) (Lx.sp) (fun h=>by cases h)) (Lx.sg 125 (by decide +kernel)) (fun h=>by cases h))).cast rfl rfl
 |cons a r=>
  have:=lx_join (t:=(6,[59])) (show Lx false [59,32] [(6,[59])] from(Lx.app (Lx.sg 59 (by decide +kernel)) (Lx.sp) (fun h=>by cases h))) rfl txA tkA (a::r) h
  exact(((show Lx false [123,32] [(6,[123])] from(Lx.app (Lx.sg 123 (by decide +kernel)) (Lx.sp) (fun h=>by cases h))).app this (fun h=>by cases h)).app (show Lx false [32,125] [(6,[125])] from(Lx.app (Lx.sp) (Lx.sg 125 (by decide +kernel)) (fun h=>by cases h))) (fun _=>rfl)).cast rfl (by simp)
theorem lx_called (k:Int):Lx true (calledB k) [(3,calledB k)]:=by
 unfold calledB
 cases k==11 with
 |true=>exact(show Lx true [97,112,112,108,121] [(3,[97,112,112,108,121])] from(Lx.wd [97,112,112,108,121] (by decide +kernel)))
 |false=>
 cases k==15 with
 |true=>exact(show Lx true [115,101,110,100] [(3,[115,101,110,100])] from(Lx.wd [115,101,110,100] (by decide +kernel)))
 |false=>
 cases k==17 with
 |true=>exact(show Lx true [98,101,99,111,109,101] [(3,[98,101,99,111,109,101])] from(Lx.wd [98,101,99,111,109,101] (by decide +kernel)))
 |false=>
 cases k==19 with
 |true=>exact(show Lx true [102,97,105,108] [(3,[102,97,105,108])] from(Lx.wd [102,97,105,108] (by decide +kernel)))
 |false=>
 cases k==20 with
 |true=>exact(show Lx true [115,97,121] [(3,[115,97,121])] from(Lx.wd [115,97,121] (by decide +kernel)))
 |false=>
 cases k==21 with
 |true=>exact(show Lx true [99,101,108,108] [(3,[99,101,108,108])] from(Lx.wd [99,101,108,108] (by decide +kernel)))
 |false=>
 cases k==22 with
 |true=>exact(show Lx true [103,101,116] [(3,[103,101,116])] from(Lx.wd [103,101,116] (by decide +kernel)))
 |false=>
 cases k==23 with
 |true=>exact(show Lx true [112,117,116] [(3,[112,117,116])] from(Lx.wd [112,117,116] (by decide +kernel)))
 |false=>
 cases k==24 with
 |true=>exact(show Lx true [119,97,116,99,104] [(3,[119,97,116,99,104])] from(Lx.wd [119,97,116,99,104] (by decide +kernel)))
 |false=>exact(show Lx true [108,105,110,107] [(3,[108,105,110,107])] from(Lx.wd [108,105,110,107] (by decide +kernel)))
theorem lx_op {s:Bs} (h:s∈opsW):Lx true s [opT s]:=by
 have hm:opsW=[[43],[45],[42],[47],[37],[60],[61],[94],[97,110,100],[111,114]]:=by decide +kernel
 rw[hm]at h
 simp only[List.mem_cons,List.not_mem_nil,or_false]at h
 rcases h with rfl|rfl|rfl|rfl|rfl|rfl|rfl|rfl|rfl|rfl
 ·exact(show Lx false [43] [(6,[43])] from(Lx.sg 43 (by decide +kernel))).soft.cast rfl (by decide +kernel)
 ·exact(show Lx true [45] [(6,[45])] from(Lx.sg1 45 (by decide +kernel))).soft.cast rfl (by decide +kernel)
 ·exact(show Lx false [42] [(6,[42])] from(Lx.sg 42 (by decide +kernel))).soft.cast rfl (by decide +kernel)
 ·exact(show Lx false [47] [(6,[47])] from(Lx.sg 47 (by decide +kernel))).soft.cast rfl (by decide +kernel)
 ·exact(show Lx false [37] [(6,[37])] from(Lx.sg 37 (by decide +kernel))).soft.cast rfl (by decide +kernel)
 ·exact(show Lx false [60] [(6,[60])] from(Lx.sg 60 (by decide +kernel))).soft.cast rfl (by decide +kernel)
 ·exact(show Lx true [61] [(6,[61])] from(Lx.sg1 61 (by decide +kernel))).soft.cast rfl (by decide +kernel)
 ·exact(show Lx false [94] [(6,[94])] from(Lx.sg 94 (by decide +kernel))).soft.cast rfl (by decide +kernel)
 ·exact(show Lx true [97,110,100] [(3,[97,110,100])] from(Lx.wd [97,110,100] (by decide +kernel))).soft.cast rfl (by decide +kernel)
 ·exact(show Lx true [111,114] [(3,[111,114])] from(Lx.wd [111,114] (by decide +kernel))).soft.cast rfl (by decide +kernel)
theorem lx_E (e:Ex):Rt e→Lx true (txE e) (tkE e):=by
 refine Ex.ind (Q:=fun e=>Rt e→Lx true (txE e) (tkE e)) ?_ e
 intro k n t ns ts xs ms p ih1 ih2 h
 have hA:∀a∈ms,RA a→Lx true (txA a) (tkA a):=fun a ha hr=>((((lx_P _ hr.1).app (show Lx false [32,61,62,32] [(6,[61,62])] from(Lx.app (Lx.app (Lx.sp) (Lx.ar) (fun h=>by cases h)) (Lx.sp) (fun h=>by cases h))) (fun _=>rfl)).app (ih2 a ha hr.2) (fun h=>by cases h)).cast rfl (by simp[tkA]))
 have sp:Lx false [32] []:=Lx.sp
 have cl:=(show Lx false [41] [(6,[41])] from(Lx.sg 41 (by decide +kernel)))
 have hs:=shape _ h
 clear h
 cases hs with
 |unit=>exact(show Lx false [40,41] [(6,[40]),(6,[41])] from(Lx.app (Lx.sg 40 (by decide +kernel)) (Lx.sg 41 (by decide +kernel)) (fun h=>by cases h))).soft.cast (by rw[txE];rfl) (by rw[tkE];rfl)
 |int=>exact(Lx.num n).cast (by rw[txE];rfl) (by rw[tkE];rfl)
 |bool _ _ h=>exact(lx_boo n).cast (by rw[txE];rfl) (by rw[tkE];rfl)
 |text _ _ h=>exact(lx_quo (by rw[bs_size];exact h)).cast (by rw[txE];rfl) (by rw[tkE];rfl)
 |var _ _ h=>exact(Lx.lo h).cast (by rw[txE];rfl) (by rw[tkE];rfl)
 |lett _ x y _ h hx hy=>
  exact((((((show Lx false [108,101,116,32] [(3,[108,101,116])] from(Lx.app (Lx.wd [108,101,116] (by decide +kernel)) (Lx.sp) (fun _=>rfl))).app (Lx.lo h) (fun h=>by cases h)).app (show Lx false [32,61,32] [(6,[61])] from(Lx.app (Lx.app (Lx.sp) (Lx.sg1 61 (by decide +kernel)) (fun h=>by cases h)) (Lx.sp) (fun _=>rfl))) (fun _=>rfl)).app (ih1 x (by simp) hx) (fun h=>by cases h)).app (show Lx false [32,105,110,32] [(3,[105,110])] from(Lx.app (Lx.app (Lx.sp) (Lx.wd [105,110] (by decide +kernel)) (fun h=>by cases h)) (Lx.sp) (fun _=>rfl))) (fun _=>rfl)).app (ih1 y (by simp) hy) (fun h=>by cases h)).cast (by rw[txE];rfl) (by rw[tkE];simp[tkEs,bs])
 |iff x y z _ hx hy hz=>
  exact((((((show Lx false [105,102,32] [(3,[105,102])] from(Lx.app (Lx.wd [105,102] (by decide +kernel)) (Lx.sp) (fun _=>rfl))).app (ih1 x (by simp) hx) (fun h=>by cases h)).app (show Lx false [32,116,104,101,110,32] [(3,[116,104,101,110])] from(Lx.app (Lx.app (Lx.sp) (Lx.wd [116,104,101,110] (by decide +kernel)) (fun h=>by cases h)) (Lx.sp) (fun _=>rfl))) (fun _=>rfl)).app (ih1 y (by simp) hy) (fun h=>by cases h)).app (show Lx false [32,101,108,115,101,32] [(3,[101,108,115,101])] from(Lx.app (Lx.app (Lx.sp) (Lx.wd [101,108,115,101] (by decide +kernel)) (fun h=>by cases h)) (Lx.sp) (fun _=>rfl))) (fun _=>rfl)).app (ih1 z (by simp) hz) (fun h=>by cases h)).cast (by rw[txE];rfl) (by rw[tkE];simp[tkEs])
 |nott x _ hx=>exact(((show Lx false [40,110,111,116,32] [(6,[40]),(3,[110,111,116])] from(Lx.app (Lx.app (Lx.sg 40 (by decide +kernel)) (Lx.wd [110,111,116] (by decide +kernel)) (fun h=>by cases h)) (Lx.sp) (fun _=>rfl))).app (ih1 x (by simp) hx) (fun h=>by cases h)).app cl (fun _=>rfl)).soft.cast (by rw[txE];rfl) (by rw[tkE];simp[tkEs])
 |op _ x y _ h hx hy=>
  exact(((((((show Lx false [40] [(6,[40])] from(Lx.sg 40 (by decide +kernel))).app (ih1 x (by simp) hx) (fun h=>by cases h)).app sp (fun _=>rfl)).app (lx_op h) (fun h=>by cases h)).app sp (fun _=>rfl)).app (ih1 y (by simp) hy) (fun h=>by cases h)).app cl (fun _=>rfl)).soft.cast (by rw[txE];rfl) (by rw[tkE];simp[tkEs,bs])
 |call _ _ _ h hl hx=>exact(lx_args (Lx.lo h) (fun x hx'=>ih1 x hx' (hx x hx'))).cast (by rw[txE];rfl) (by rw[tkE];rfl)
 |func _ _ x _ h hn ht hx=>
  exact(((((show Lx false [40,102,117,110,32] [(6,[40]),(3,[102,117,110])] from(Lx.app (Lx.app (Lx.sg 40 (by decide +kernel)) (Lx.wd [102,117,110] (by decide +kernel)) (fun h=>by cases h)) (Lx.sp) (fun _=>rfl))).app (lx_names ns ts (names_low hn).2 (each_zero ht)) (fun h=>by cases h)).app (show Lx false [32,61,62,32] [(6,[61,62])] from(Lx.app (Lx.app (Lx.sp) (Lx.ar) (fun h=>by cases h)) (Lx.sp) (fun h=>by cases h))) (fun h=>by cases h)).app (ih1 x (by simp) hx) (fun h=>by cases h)).app cl (fun _=>rfl)).soft.cast (by rw[txE];rfl) (by rw[tkE];simp[tkEs])
 |apply x xs _ hl h0 hx=>exact(lx_args (lx_called 11) (fun y hy=>ih1 y hy (by rcases List.mem_cons.1 hy with rfl|q;exact h0;exact hx y q))).cast (by rw[txE];rfl) (by rw[tkE];rfl)
 |make _ _ _ h hl hx=>
  cases xs with
  |nil=>exact(Lx.up' h).cast (by rw[txE];rfl) (by rw[tkE];rfl)
  |cons x r=>exact(lx_args (Lx.up' h) (fun x hx'=>ih1 x hx' (hx x hx'))).cast (by rw[txE];rfl) (by rw[tkE];rfl)
 |mat x a ms _ hl hx ha hm=>
  exact((((show Lx false [109,97,116,99,104,32] [(3,[109,97,116,99,104])] from(Lx.app (Lx.wd [109,97,116,99,104] (by decide +kernel)) (Lx.sp) (fun _=>rfl))).app (ih1 x (by simp) hx) (fun h=>by cases h)).app sp (fun _=>rfl)).app (lx_arms (a::ms) (fun b hb=>hA b hb (by rcases List.mem_cons.1 hb with rfl|q;exact ha;exact hm b q))) (fun h=>by cases h)).soft.cast (by rw[txE];rfl) (by rw[tkE];simp[tkEs])
 |spawn _ _ _ h hl hx=>exact(lx_args ((show Lx false [115,112,97,119,110,32] [(3,[115,112,97,119,110])] from(Lx.app (Lx.wd [115,112,97,119,110] (by decide +kernel)) (Lx.sp) (fun _=>rfl))).app (Lx.up' h) (fun h=>by cases h)) (fun x hx'=>ih1 x hx' (hx x hx'))).cast (by rw[txE];rfl) (by rw[tkE];rfl)
 |self=>exact(show Lx true [115,101,108,102] [(3,[115,101,108,102])] from(Lx.wd [115,101,108,102] (by decide +kernel))).cast (by rw[txE];rfl) (by rw[tkE];rfl)
 |become _ _ hl hx=>exact(lx_args (lx_called 17) (fun x hx'=>ih1 x hx' (hx x hx'))).cast (by rw[txE];rfl) (by rw[tkE];rfl)
 |recv _ _ hl hm=>exact((show Lx false [114,101,99,101,105,118,101,32] [(3,[114,101,99,101,105,118,101])] from(Lx.app (Lx.wd [114,101,99,101,105,118,101] (by decide +kernel)) (Lx.sp) (fun _=>rfl))).app (lx_arms ms (fun a ha=>hA a ha (hm a ha))) (fun h=>by cases h)).soft.cast (by rw[txE];rfl) (by rw[tkE];simp)
 |after _ x _ _ h0 h1 hl hx hm=>
  have hd:decide (n≥0)=true:=decide_eq_true h0
  exact(((show Lx false [114,101,99,101,105,118,101,32] [(3,[114,101,99,101,105,118,101])] from(Lx.app (Lx.wd [114,101,99,101,105,118,101] (by decide +kernel)) (Lx.sp) (fun _=>rfl))).app (lx_arms ms (fun a ha=>hA a ha (hm a ha))) (fun h=>by cases h)).app ((((show Lx false [32,97,102,116,101,114,32] [(3,[97,102,116,101,114])] from(Lx.app (Lx.app (Lx.sp) (Lx.wd [97,102,116,101,114] (by decide +kernel)) (fun h=>by cases h)) (Lx.sp) (fun _=>rfl))).app (Lx.num n) (fun h=>by cases h)).app (show Lx false [32,61,62,32] [(6,[61,62])] from(Lx.app (Lx.app (Lx.sp) (Lx.ar) (fun h=>by cases h)) (Lx.sp) (fun h=>by cases h))) (fun _=>rfl)).app (ih1 x (by simp) hx) (fun h=>by cases h)) (fun h=>by cases h)).cast (by rw[txE,hd];rfl) (by rw[tkE,hd];simp[tkEs])
 |one _ x _ hk hx=>
  refine(lx_args (lx_called k) (l:=[x]) (fun y hy=>ih1 y hy (by rw[List.mem_singleton]at hy;subst hy;exact hx))).cast ?_ ?_
  ·rcases hk with rfl|rfl|rfl|rfl|rfl|rfl<;>(rw[txE];rfl)
  ·rcases hk with rfl|rfl|rfl|rfl|rfl|rfl<;>(rw[tkE];rfl)
 |two _ x y _ hk hx hy=>
  refine(lx_args (lx_called k) (l:=[x,y]) (fun z hz=>ih1 z hz (by simp only[List.mem_cons,List.not_mem_nil,or_false]at hz;rcases hz with rfl|rfl;exact hx;exact hy))).cast ?_ ?_
  ·rcases hk with rfl|rfl<;>(rw[txE];rfl)
  ·rcases hk with rfl|rfl<;>(rw[tkE];rfl)
end SH
