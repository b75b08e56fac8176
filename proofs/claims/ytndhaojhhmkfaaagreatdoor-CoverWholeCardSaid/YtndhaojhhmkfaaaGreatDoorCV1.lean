/-
  DERIVED. Contracts of functions that the law reaches, and the law, for every input. No conditions.
-/
import Derived.Test.YtndhaojhhmkfaaaGreatDoorTR1
open Go Go.AM Go.Proofs TR
set_option maxRecDepth 100000
namespace CV
abbrev Row:=List Pt
def nostr:ByteArray:=⟨#[]⟩
def opn (p:Pt):Bool:=p.kind==1||p.kind==2
def pnum:Pt→Int|.mk _ n _ _=>n
def alike (a b:Pt):Bool:=(a.kind==b.kind)&&((pnum a==pnum b)&&((a.text==b.text)&&(a.args.length==b.args.length)))
def any1:Pt:=.mk 1 0 nostr []
def anys (n:Nat):Row:=List.replicate n any1
def boolP (n:Int):Pt:=.mk 4 n nostr []
abbrev Sg:=List (List (ByteArray×Nat))
def mkHead (x:ByteArray×Nat):Pt:=.mk 6 0 x.1 (anys x.2)
def makesF:Sg→ByteArray→List Pt
 | [],_=>[]
 |d::r,n=>bif d.any (fun x=>x.1==n) then d.map mkHead else makesF r n
def headsF (D:Sg):List Row→Option (List Pt)
 | []=>none
 |r::m=>match r with
  | []=>headsF D m
  |x::_=>bif x.kind==4 then some [boolP 0,boolP 1] else bif x.kind==6 then some (makesF D x.text) else headsF D m
def under1 (h:Pt):Row→Option Row
 | []=>none
 |x::t=>bif opn x then some (anys h.args.length++t) else bif alike x h then some (x.args++t) else none
def underF (m:List Row) (h:Pt):List Row:=m.filterMap (under1 h)
def rest1:Row→Option Row
 | []=>none
 |x::t=>bif opn x then some t else none
def restF (m:List Row):List Row:=m.filterMap rest1
def ints:List Row→List Int
 | []=>[]
 |r::m=>match r with
  | []=>ints m
  |x::_=>bif x.kind==3 then pnum x::ints m else ints m
def mexF (l:List Int):Nat→Nat→Nat
 |0,n=>n
 |f+1,n=>bif l.contains (n:Int) then mexF l f (n+1) else n
def otherI:List Int→Pt
 | []=>any1
 |i::l=>.mk 3 ((mexF (i::l) (l.length+1) 0:Nat):Int) nostr []
def otherF (m:List Row):Pt:=otherI (ints m)
theorem headsF_cons (D:Sg) (x:Pt) (t:Row) (m:List Row):headsF D ((x::t)::m)=bif x.kind==4 then some [boolP 0,boolP 1] else bif x.kind==6 then some (makesF D x.text) else headsF D m:=rfl
theorem headsF_nil (D:Sg) (m:List Row):headsF D ([]::m)=headsF D m:=rfl
theorem ints_cons (x:Pt) (t:Row) (m:List Row):ints ((x::t)::m)=bif x.kind==3 then pnum x::ints m else ints m:=rfl
theorem ints_nil (m:List Row):ints ([]::m)=ints m:=rfl
def setArgs (h:Pt) (xs:List Pt):Pt:=match h with|.mk k n t _=>.mk k n t xs
def missF (D:Sg):Nat→List Row→Nat→Option (Option Row)
 |0,_,_=>none
 |_+1,m,0=>some (bif m.isEmpty then some [] else none)
 |f+1,m,c+1=>match headsF D m with
  |some l=>missL (fun h=>missF D f (underF m h) (h.args.length+c)) l
  |none=>match missF D f (restF m) c with
   |none=>none
   |some none=>some none
   |some (some r)=>some (some (otherF m::r))
 where missL (g:Pt→Option (Option Row)):List Pt→Option (Option Row)
 | []=>some none
 |h::l=>match g h with
  |none=>none
  |some none=>missL g l
  |some (some r)=>some (some (setArgs h (r.take h.args.length)::r.drop h.args.length))
def usefF (D:Sg):Nat→List Row→Row→Option Bool
 |0,_,_=>none
 |_+1,m,[]=>some m.isEmpty
 |f+1,m,x::t=>bif !opn x then usefF D f (underF m x) (x.args++t) else match headsF D m with
  |some l=>usefL (fun h=>usefF D f (underF m h) (anys h.args.length++t)) l
  |none=>usefF D f (restF m) t
 where usefL (g:Pt→Option Bool):List Pt→Option Bool
 | []=>some false
 |h::l=>match g h with
  |none=>none
  |some true=>some true
  |some false=>usefL g l
inductive Tp where|nat|bool|int|pair deriving DecidableEq
inductive Vl where
 |int (n:Int)
 |bool (b:Bool)
 |mk (c:ByteArray) (xs:List Vl)
def nZero:ByteArray:=⟨#[90,101,114,111]⟩
def nNext:ByteArray:=⟨#[78,101,120,116]⟩
def nPair:ByteArray:=⟨#[80,97,105,114]⟩
def nOne:ByteArray:=⟨#[79,110,101]⟩
def sig:Tp→List (ByteArray×List Tp)
 |.nat=>[(nZero,[]),(nNext,[.nat])]
 |.pair=>[(nPair,[.nat,.bool]),(nOne,[.int])]
 |.bool=>[]
 |.int=>[]
def D0:Sg:=[[(nZero,0),(nNext,1)],[(nPair,2),(nOne,1)]]
mutual
def okV:Tp→Vl→Prop
 |t,.int _=>t=.int
 |t,.bool _=>t=.bool
 |t,.mk c xs=>∃ts,(c,ts)∈sig t∧okVs ts xs
def okVs:List Tp→List Vl→Prop
 | [],[]=>True
 |t::ts,x::xs=>okV t x∧okVs ts xs
 | [],_::_=>False
 |_::_,[]=>False
end
mutual
def okP:Tp→Pt→Prop
 |τ,.mk k n t xs=>(k=1∨k=2)∨(k=3∧τ=.int∧t=nostr∧xs=[])∨(k=4∧τ=.bool∧(n=0∨n=1)∧t=nostr∧xs=[])∨(k=6∧n=0∧∃ts,(t,ts)∈sig τ∧okPs ts xs)
def okPs:List Tp→List Pt→Prop
 | [],[]=>True
 |t::ts,x::xs=>okP t x∧okPs ts xs
 | [],_::_=>False
 |_::_,[]=>False
end
mutual
def fits:Pt→Vl→Bool
 |.mk k n t xs,v=>bif k==1||k==2 then true else bif k==3 then (match v with|.int i=>i==n|_=>false) else bif k==4 then (match v with|.bool b=>(bif b then 1 else 0:Int)==n|_=>false)
  else bif k==6 then (match v with|.mk c ys=>(t==c)&&fitsL xs ys|_=>false) else false
def fitsL:List Pt→List Vl→Bool
 | [],[]=>true
 |x::xs,v::vs=>fits x v&&fitsL xs vs
 | [],_::_=>false
 |_::_,[]=>false
end
def cov (m:List Row) (vs:List Vl):Prop:=∃r∈m,fitsL r vs=true
theorem okPs_len:∀{ts:List Tp} {xs:List Pt},okPs ts xs→xs.length=ts.length
 | [],[],_=>rfl
 |t::ts,x::xs,h=>by rw[okPs]at h;simp[okPs_len h.2]
 | [],_::_,h=>by rw[okPs]at h;exact h.elim
 |_::_,[],h=>by rw[okPs]at h;exact h.elim
theorem okVs_len:∀{ts:List Tp} {xs:List Vl},okVs ts xs→xs.length=ts.length
 | [],[],_=>rfl
 |t::ts,x::xs,h=>by rw[okVs]at h;simp[okVs_len h.2]
 | [],_::_,h=>by rw[okVs]at h;exact h.elim
 |_::_,[],h=>by rw[okVs]at h;exact h.elim
theorem okPs_app:∀{ts us:List Tp} {xs ys:List Pt},okPs ts xs→okPs us ys→okPs (ts++us) (xs++ys)
 | [],us,[],ys,_,h2=>h2
 |t::ts,us,x::xs,ys,h1,h2=>by
  rw[okPs]at h1
  rw[List.cons_append,List.cons_append,okPs]
  exact⟨h1.1,okPs_app h1.2 h2⟩
 | [],_,_::_,_,h,_=>by rw[okPs]at h;exact h.elim
 |_::_,_,[],_,h,_=>by rw[okPs]at h;exact h.elim
theorem okVs_app:∀{ts us:List Tp} {xs ys:List Vl},okVs ts xs→okVs us ys→okVs (ts++us) (xs++ys)
 | [],us,[],ys,_,h2=>h2
 |t::ts,us,x::xs,ys,h1,h2=>by
  rw[okVs]at h1
  rw[List.cons_append,List.cons_append,okVs]
  exact⟨h1.1,okVs_app h1.2 h2⟩
 | [],_,_::_,_,h,_=>by rw[okVs]at h;exact h.elim
 |_::_,_,[],_,h,_=>by rw[okVs]at h;exact h.elim
theorem okPs_split:∀{ts us:List Tp} {zs:List Pt},okPs (ts++us) zs→okPs ts (zs.take ts.length)∧okPs us (zs.drop ts.length)
 | [],us,zs,h=>by simpa[okPs] using h
 |t::ts,us,z::zs,h=>by
  rw[List.cons_append,okPs]at h
  obtain⟨h1,h2⟩:=okPs_split h.2
  simp only[List.length_cons,List.take_succ_cons,List.drop_succ_cons]
  rw[okPs]
  exact⟨⟨h.1,h1⟩,h2⟩
 |_::_,_,[],h=>by rw[List.cons_append,okPs]at h;exact h.elim
theorem okVs_split:∀{ts us:List Tp} {zs:List Vl},okVs (ts++us) zs→∃xs ys,zs=xs++ys∧okVs ts xs∧okVs us ys
 | [],us,zs,h=>⟨[],zs,rfl,by rw[okVs];trivial,h⟩
 |t::ts,us,z::zs,h=>by
  rw[List.cons_append,okVs]at h
  obtain⟨xs,ys,e,h1,h2⟩:=okVs_split h.2
  exact⟨z::xs,ys,by rw[e];rfl,by rw[okVs];exact⟨h.1,h1⟩,h2⟩
 |_::_,_,[],h=>by rw[List.cons_append,okVs]at h;exact h.elim
theorem fitsL_app:∀{xs:List Pt} {vs:List Vl} (ys:List Pt) (ws:List Vl),xs.length=vs.length→fitsL (xs++ys) (vs++ws)=(fitsL xs vs&&fitsL ys ws)
 | [],[],ys,ws,_=>by simp[fitsL]
 |x::xs,v::vs,ys,ws,h=>by
  rw[List.cons_append,List.cons_append,fitsL,fitsL,fitsL_app ys ws (by simpa using h),Bool.and_assoc]
 | [],_::_,_,_,h=>by simp at h
 |_::_,[],_,_,h=>by simp at h
theorem fits_open {x:Pt} (h:opn x=true) (v:Vl):fits x v=true:=by
 obtain⟨k,n,t,xs⟩:=x
 unfold opn at h
 simp only[Pt.kind]at h
 cases v<;>simp[fits,h]
theorem opn_any:opn any1=true:=rfl
theorem fitsL_anys:∀(n:Nat) (vs:List Vl),vs.length=n→fitsL (anys n) vs=true
 |0,[],_=>by rw[show anys 0=[] from rfl,fitsL]
 |n+1,v::vs,h=>by
  rw[show anys (n+1)=any1::anys n from rfl,fitsL,fits_open opn_any,fitsL_anys n vs (by simpa using h)];rfl
 |0,_::_,h=>by simp at h
 |_+1,[],h=>by simp at h
theorem okPs_anys:∀(ts:List Tp),okPs ts (anys ts.length)
 | []=>by rw[show anys ([]:List Tp).length=[] from rfl,okPs];trivial
 |t::ts=>by
  rw[show anys (t::ts).length=any1::anys ts.length from rfl,okPs]
  exact⟨by rw[any1,okP];exact .inl (.inl rfl),okPs_anys ts⟩
theorem anys_len (n:Nat):(anys n).length=n:=by simp[anys]
end CV
open Go Go.AM Go.Proofs TR
set_option maxRecDepth 100000
namespace CV
def typed (ts:List Tp) (m:List Row):Prop:=∀r∈m,okPs ts r
theorem sig_uniq {τ:Tp} {c:ByteArray} {ts us:List Tp} (h1:(c,ts)∈sig τ) (h2:(c,us)∈sig τ):ts=us:=by
 have n1:nZero≠nNext:=by decide
 have n2:nPair≠nOne:=by decide
 cases τ with
 |bool=>simp[sig]at h1
 |int=>simp[sig]at h1
 |nat=>
  simp[sig]at h1 h2
  rcases h1 with⟨rfl,rfl⟩|⟨rfl,rfl⟩<;>rcases h2 with⟨e,rfl⟩|⟨e,rfl⟩
  ·rfl
  ·exact absurd e n1
  ·exact absurd e.symm n1
  ·rfl
 |pair=>
  simp[sig]at h1 h2
  rcases h1 with⟨rfl,rfl⟩|⟨rfl,rfl⟩<;>rcases h2 with⟨e,rfl⟩|⟨e,rfl⟩
  ·rfl
  ·exact absurd e n2
  ·exact absurd e.symm n2
  ·rfl
theorem okP_cases {τ:Tp} {k n:Int} {t:ByteArray} {xs:List Pt} (h:okP τ (.mk k n t xs)) (ho:opn (.mk k n t xs)=false):
 (k=3∧τ=.int∧t=nostr∧xs=[])∨(k=4∧τ=.bool∧(n=0∨n=1)∧t=nostr∧xs=[])∨(k=6∧n=0∧∃ts,(t,ts)∈sig τ∧okPs ts xs):=by
 rw[okP]at h
 rcases h with h|h
 ·exfalso
  unfold opn at ho
  simp only[Pt.kind]at ho
  rcases h with rfl|rfl<;>simp at ho
 ·exact h
structure Hd (τ:Tp) (x:Pt) (ts:List Tp) (mkv:List Vl→Vl):Prop where
 len:x.args.length=ts.length
 args:okPs ts x.args
 val:∀ws,okVs ts ws→okV τ (mkv ws)
 self:∀(xs:List Pt) (ws:List Vl),okPs ts xs→okVs ts ws→fits (setArgs x xs) (mkv ws)=fitsL xs ws
 like:∀y,okP τ y→opn y=false→alike y x=true→okPs ts y.args∧∀ws,okVs ts ws→fits y (mkv ws)=fitsL y.args ws
 unlike:∀y,okP τ y→opn y=false→alike y x=false→∀ws,okVs ts ws→fits y (mkv ws)=false
 inv:∀(v:Vl) (xs:List Pt),okV τ v→okPs ts xs→fits (setArgs x xs) v=true→∃ws,okVs ts ws∧v=mkv ws
 set:∀xs,okPs ts xs→okP τ (setArgs x xs)
theorem bq {a b:ByteArray}:(a==b)=true↔a=b:=beq_bytes a b
theorem okPs_nil {xs:List Pt} (h:okPs [] xs):xs=[]:=List.eq_nil_of_length_eq_zero (okPs_len h)
theorem okVs_nil {xs:List Vl} (h:okVs [] xs):xs=[]:=List.eq_nil_of_length_eq_zero (okVs_len h)
theorem fitsL_nil:fitsL [] []=true:=by rw[fitsL]
theorem fits3 (n:Int) (t:ByteArray) (xs:List Pt) (i:Int):fits (.mk 3 n t xs) (.int i)=(i==n):=by simp[fits]
theorem fits4 (n:Int) (t:ByteArray) (xs:List Pt) (b:Bool):fits (.mk 4 n t xs) (.bool b)=((bif b then 1 else 0:Int)==n):=by simp[fits]
theorem fits6 (n:Int) (t:ByteArray) (xs:List Pt) (c:ByteArray) (ys:List Vl):fits (.mk 6 n t xs) (.mk c ys)=((t==c)&&fitsL xs ys):=by simp[fits]
theorem hd_of {τ:Tp} {x:Pt} (h:okP τ x) (ho:opn x=false):∃ts mkv,Hd τ x ts mkv:=by
 obtain⟨k,n,t,xs⟩:=x
 rcases okP_cases h ho with⟨rfl,rfl,rfl,rfl⟩|⟨rfl,rfl,hn,rfl,rfl⟩|⟨rfl,rfl,ts,hs,hx⟩
 ·refine⟨[],fun _=>.int n,rfl,by rw[Pt.args,okPs];trivial,fun ws _=>by rw[okV],fun xs ws h1 h2=>?_,fun y hy hyo ha=>?_,fun y hy hyo ha ws hw=>?_,fun v xs hv hx hf=>?_,fun xs hx=>?_⟩
  ·rw[okPs_nil h1,okVs_nil h2,fitsL_nil,setArgs,fits3];simp
  ·obtain⟨k',n',t',xs'⟩:=y
   rcases okP_cases hy hyo with⟨rfl,_,rfl,rfl⟩|⟨_,e,_⟩|⟨_,_,ts,hs,_⟩
   ·refine⟨by rw[Pt.args,okPs];trivial,fun ws hw=>?_⟩
    unfold alike at ha
    simp[Pt.kind,pnum,Pt.text,Pt.args]at ha
    rw[okVs_nil hw,Pt.args,fitsL_nil,fits3]
    simp[ha]
   ·cases e
   ·simp[sig]at hs
  ·obtain⟨k',n',t',xs'⟩:=y
   rcases okP_cases hy hyo with⟨rfl,_,rfl,rfl⟩|⟨_,e,_⟩|⟨_,_,ts,hs,_⟩
   ·unfold alike at ha
    simp only[Pt.kind,pnum,Pt.text,Pt.args,List.length_nil]at ha
    rw[(bq).2 rfl]at ha
    simp at ha
    rw[fits3]
    simpa using fun e=>ha e.symm
   ·cases e
   ·simp[sig]at hs
  ·rw[okPs_nil hx]at hf
   refine⟨[],by rw[okVs];trivial,?_⟩
   cases v with
   |int i=>rw[setArgs,fits3]at hf;simp at hf;rw[hf]
   |bool b=>rw[okV]at hv;cases hv
   |mk c ys=>rw[okV]at hv;obtain⟨ts,h1,_⟩:=hv;simp[sig]at h1
  ·rw[okPs_nil hx];exact h
 ·refine⟨[],fun _=>.bool (n==1),rfl,by rw[Pt.args,okPs];trivial,fun ws _=>by rw[okV],fun xs ws h1 h2=>?_,fun y hy hyo ha=>?_,fun y hy hyo ha ws hw=>?_,fun v xs hv hx hf=>?_,fun xs hx=>?_⟩
  ·rw[okPs_nil h1,okVs_nil h2,fitsL_nil,setArgs,fits4]
   rcases hn with rfl|rfl<;>rfl
  ·obtain⟨k',n',t',xs'⟩:=y
   rcases okP_cases hy hyo with⟨_,e,_⟩|⟨rfl,_,hn',rfl,rfl⟩|⟨_,_,ts,hs,_⟩
   ·cases e
   ·refine⟨by rw[Pt.args,okPs];trivial,fun ws hw=>?_⟩
    unfold alike at ha
    simp[Pt.kind,pnum,Pt.text,Pt.args]at ha
    rw[okVs_nil hw,Pt.args,fitsL_nil,fits4,ha.1]
    rcases hn with rfl|rfl<;>rfl
   ·simp[sig]at hs
  ·obtain⟨k',n',t',xs'⟩:=y
   rcases okP_cases hy hyo with⟨_,e,_⟩|⟨rfl,_,hn',rfl,rfl⟩|⟨_,_,ts,hs,_⟩
   ·cases e
   ·unfold alike at ha
    simp only[Pt.kind,pnum,Pt.text,Pt.args,List.length_nil]at ha
    rw[(bq).2 rfl]at ha
    simp at ha
    rw[fits4]
    rcases hn with rfl|rfl<;>rcases hn' with rfl|rfl<;>first|rfl|exact absurd rfl ha
   ·simp[sig]at hs
  ·rw[okPs_nil hx]at hf
   refine⟨[],by rw[okVs];trivial,?_⟩
   cases v with
   |int i=>rw[okV]at hv;cases hv
   |bool b=>
    rw[setArgs,fits4]at hf
    rcases hn with rfl|rfl<;>cases b<;>first|rfl|simp at hf
   |mk c ys=>rw[okV]at hv;obtain⟨ts,h1,_⟩:=hv;simp[sig]at h1
  ·rw[okPs_nil hx];exact h
 ·refine⟨ts,fun ws=>.mk t ws,okPs_len hx,hx,fun ws hw=>by rw[okV];exact⟨ts,hs,hw⟩,fun xs ws h1 h2=>?_,fun y hy hyo ha=>?_,fun y hy hyo ha ws hw=>?_,fun v xs hv hx hf=>?_,fun xs hx=>?_⟩
  ·rw[setArgs,fits6,(bq).2 rfl];rfl
  ·obtain⟨k',n',t',xs'⟩:=y
   rcases okP_cases hy hyo with⟨_,rfl,_⟩|⟨_,rfl,_⟩|⟨rfl,rfl,us,hu,hx'⟩
   ·simp[sig]at hs
   ·simp[sig]at hs
   ·unfold alike at ha
    simp only[Pt.kind,pnum,Pt.text,Pt.args,Bool.and_eq_true]at ha
    have e:=bq.1 ha.2.2.1
    subst e
    have e2:=sig_uniq hs hu
    subst e2
    exact⟨hx',fun ws hw=>by rw[fits6,(bq).2 rfl];rfl⟩
  ·obtain⟨k',n',t',xs'⟩:=y
   rcases okP_cases hy hyo with⟨_,rfl,_⟩|⟨_,rfl,_⟩|⟨rfl,rfl,us,hu,hx'⟩
   ·simp[sig]at hs
   ·simp[sig]at hs
   ·rw[fits6]
    cases hq:t'==t with
    |false=>rfl
    |true=>
     exfalso
     have e:=bq.1 hq
     subst e
     have e2:=sig_uniq hs hu
     subst e2
     unfold alike at ha
     simp only[Pt.kind,pnum,Pt.text,Pt.args]at ha
     rw[hq,okPs_len hx',okPs_len hx]at ha
     simp at ha
  ·cases v with
   |int i=>rw[okV]at hv;subst hv;simp[sig]at hs
   |bool b=>rw[okV]at hv;subst hv;simp[sig]at hs
   |mk c ys=>
    rw[setArgs,fits6,Bool.and_eq_true]at hf
    have e:=bq.1 hf.1
    subst e
    rw[okV]at hv
    obtain⟨us,hu,hw⟩:=hv
    have e2:=sig_uniq hs hu
    subst e2
    exact⟨ys,hw,rfl⟩
  ·rw[setArgs,okP]
   exact .inr (.inr (.inr ⟨rfl,rfl,ts,hs,hx⟩))
theorem setArgs_self (x:Pt):setArgs x x.args=x:=by cases x;rfl
theorem row_cons {τ:Tp} {τs:List Tp} {r:Row} (h:okPs (τ::τs) r):∃x t,r=x::t∧okP τ x∧okPs τs t:=by
 cases r with
 |nil=>rw[okPs]at h;exact h.elim
 |cons x t=>rw[okPs]at h;exact⟨x,t,rfl,h.1,h.2⟩
theorem under_mem {m:List Row} {h:Pt} {r:Row} (hr:r∈underF m h):∃x t,x::t∈m∧((opn x=true∧r=anys h.args.length++t)∨(opn x=false∧alike x h=true∧r=x.args++t)):=by
 obtain⟨q,hq,e⟩:=List.mem_filterMap.1 hr
 cases q with
 |nil=>cases e
 |cons x t=>
  rw[under1]at e
  cases ho:opn x with
  |true=>rw[ho,cond_true]at e;cases e;exact⟨x,t,hq,.inl ⟨ho,rfl⟩⟩
  |false=>
   rw[ho,cond_false]at e
   cases ha:alike x h with
   |true=>rw[ha,cond_true]at e;cases e;exact⟨x,t,hq,.inr ⟨ho,ha,rfl⟩⟩
   |false=>rw[ha]at e;cases e
theorem under_in {m:List Row} {h x:Pt} {t:Row} (hx:x::t∈m):(opn x=true→anys h.args.length++t∈underF m h)∧(opn x=false→alike x h=true→x.args++t∈underF m h):=by
 refine⟨fun ho=>List.mem_filterMap.2 ⟨_,hx,by rw[under1,ho];rfl⟩,fun ho ha=>List.mem_filterMap.2 ⟨_,hx,by rw[under1,ho,ha];rfl⟩⟩
theorem rest_mem {m:List Row} {r:Row}:r∈restF m↔∃x,x::r∈m∧opn x=true:=by
 constructor
 ·intro hr
  obtain⟨q,hq,e⟩:=List.mem_filterMap.1 hr
  cases q with
  |nil=>cases e
  |cons x t=>
   rw[rest1]at e
   cases ho:opn x with
   |true=>rw[ho,cond_true]at e;cases e;exact⟨x,hq,ho⟩
   |false=>rw[ho]at e;cases e
 ·rintro⟨x,hx,ho⟩
  exact List.mem_filterMap.2 ⟨_,hx,by rw[rest1,ho];rfl⟩
theorem under_ok {τ:Tp} {τs ts:List Tp} {m:List Row} {x:Pt} {mkv:List Vl→Vl} (hm:typed (τ::τs) m) (H:Hd τ x ts mkv):typed (ts++τs) (underF m x):=fun r hr=>by
 obtain⟨y,t,hy,h⟩:=under_mem hr
 have ht:=hm _ hy
 rw[okPs]at ht
 rcases h with⟨_,rfl⟩|⟨ho,ha,rfl⟩
 ·refine okPs_app ?_ ht.2
  rw[H.len];exact okPs_anys ts
 ·exact okPs_app (H.like y ht.1 ho ha).1 ht.2
theorem rest_ok {τ:Tp} {τs:List Tp} {m:List Row} (hm:typed (τ::τs) m):typed τs (restF m):=fun r hr=>by
 obtain⟨x,hx,_⟩:=rest_mem.1 hr
 have ht:=hm _ hx
 rw[okPs]at ht
 exact ht.2
theorem cov_under {τ:Tp} {τs ts:List Tp} {m:List Row} {x:Pt} {mkv:List Vl→Vl} (hm:typed (τ::τs) m) (H:Hd τ x ts mkv) {ws:List Vl} (hw:okVs ts ws) (vs:List Vl):cov m (mkv ws::vs)↔cov (underF m x) (ws++vs):=by
 have hwl:=okVs_len hw
 constructor
 ·rintro⟨r,hr,hf⟩
  obtain⟨y,t,rfl,hy,ht⟩:=row_cons (hm r hr)
  rw[fitsL,Bool.and_eq_true]at hf
  obtain⟨i1,i2⟩:=under_in (h:=x) hr
  cases ho:opn y with
  |true=>
   refine⟨_,i1 ho,?_⟩
   rw[fitsL_app _ _ (by rw[anys_len,H.len,hwl]),fitsL_anys _ _ (by rw[H.len,hwl]),hf.2];rfl
  |false=>
   cases ha:alike y x with
   |true=>
    obtain⟨l1,l2⟩:=H.like y hy ho ha
    refine⟨_,i2 ho ha,?_⟩
    rw[fitsL_app _ _ (by rw[okPs_len l1,hwl]),←l2 ws hw,hf.1,hf.2];rfl
   |false=>rw[H.unlike y hy ho ha ws hw]at hf;exact absurd hf.1 (by simp)
 ·rintro⟨r,hr,hf⟩
  obtain⟨y,t,hy,h⟩:=under_mem hr
  have ht:=hm _ hy
  rw[okPs]at ht
  refine⟨_,hy,?_⟩
  rw[fitsL,Bool.and_eq_true]
  rcases h with⟨ho,rfl⟩|⟨ho,ha,rfl⟩
  ·rw[fitsL_app _ _ (by rw[anys_len,H.len,hwl]),Bool.and_eq_true]at hf
   exact⟨fits_open ho _,hf.2⟩
  ·obtain⟨l1,l2⟩:=H.like y ht.1 ho ha
   rw[fitsL_app _ _ (by rw[okPs_len l1,hwl]),Bool.and_eq_true]at hf
   exact⟨by rw[l2 ws hw];exact hf.1,hf.2⟩
theorem cov_rest {m:List Row} {vs:List Vl} (v:Vl) (h:cov (restF m) vs):cov m (v::vs):=by
 obtain⟨r,hr,hf⟩:=h
 obtain⟨x,hx,ho⟩:=rest_mem.1 hr
 exact⟨_,hx,by rw[fitsL,fits_open ho,hf];rfl⟩
theorem cov_rest' {τ:Tp} {τs:List Tp} {m:List Row} {v:Vl} {vs:List Vl} (hm:typed (τ::τs) m) (hv:∀x t,x::t∈m→opn x=false→fits x v=false) (h:cov m (v::vs)):cov (restF m) vs:=by
 obtain⟨r,hr,hf⟩:=h
 obtain⟨x,t,rfl,_,_⟩:=row_cons (hm r hr)
 rw[fitsL,Bool.and_eq_true]at hf
 cases ho:opn x with
 |true=>exact⟨t,rest_mem.2 ⟨x,hr,ho⟩,hf.2⟩
 |false=>rw[hv x t hr ho]at hf;exact absurd hf.1 (by simp)
end CV
open Go Go.AM Go.Proofs TR
set_option maxRecDepth 100000
namespace CV
def hds:Tp→List Pt
 |.bool=>[boolP 0,boolP 1]
 |.nat=>[mkHead (nZero,0),mkHead (nNext,1)]
 |.pair=>[mkHead (nPair,2),mkHead (nOne,1)]
 |.int=>[]
theorem makes_nat (c:ByteArray) (h:c=nZero∨c=nNext):makesF D0 c=hds .nat:=by
 rcases h with rfl|rfl<;>kernel_rfl
theorem makes_pair (c:ByteArray) (h:c=nPair∨c=nOne):makesF D0 c=hds .pair:=by
 rcases h with rfl|rfl<;>kernel_rfl
theorem heads_some {τ:Tp} {τs:List Tp}:∀{m:List Row} {l:List Pt},typed (τ::τs) m→headsF D0 m=some l→l=hds τ∧τ≠.int∧∃x t,x::t∈m∧opn x=false
 | [],l,_,h=>by cases h
 |r::m,l,hm,h=>by
  obtain⟨x,t,rfl,hx,ht⟩:=row_cons (hm r (by simp))
  have hm':typed (τ::τs) m:=fun q hq=>hm q (by simp[hq])
  rw[headsF_cons]at h
  obtain⟨k,n,s,xs⟩:=x
  simp only[Pt.kind,Pt.text]at h
  have hx':=hx
  rw[okP]at hx
  cases h4:k==4 with
  |true=>
   have hk:k=4:=by simpa using h4
   subst hk
   rw[h4,cond_true]at h
   rcases hx with h'|⟨h',_⟩|⟨_,rfl,_⟩|⟨h',_⟩
   ·omega
   ·omega
   ·exact⟨by cases h;rfl,by simp,_,t,List.mem_cons_self,rfl⟩
   ·omega
  |false=>
   rw[h4,cond_false]at h
   have hk4:k≠4:=by simpa using h4
   cases h6:k==6 with
   |true=>
    have hk:k=6:=by simpa using h6
    subst hk
    rw[h6,cond_true]at h
    rcases hx with h'|⟨h',_⟩|⟨h',_⟩|⟨_,rfl,ts,hs,_⟩
    ·omega
    ·omega
    ·omega
    ·cases h
     cases τ with
     |bool=>simp[sig]at hs
     |int=>simp[sig]at hs
     |nat=>
      refine⟨makes_nat s ?_,by simp,_,t,List.mem_cons_self,rfl⟩
      simp[sig]at hs
      rcases hs with⟨e,_⟩|⟨e,_⟩<;>simp[e]
     |pair=>
      refine⟨makes_pair s ?_,by simp,_,t,List.mem_cons_self,rfl⟩
      simp[sig]at hs
      rcases hs with⟨e,_⟩|⟨e,_⟩<;>simp[e]
   |false=>
    rw[h6,cond_false]at h
    obtain⟨h1,h2,x,u,h3,h4⟩:=heads_some hm' h
    exact⟨h1,h2,x,u,List.mem_cons_of_mem _ h3,h4⟩
theorem heads_none {τ:Tp} {τs:List Tp}:∀{m:List Row},typed (τ::τs) m→headsF D0 m=none→∀x t,x::t∈m→opn x=false→x.kind=3∧τ=.int
 | [],_,_,x,t,hx,_=>by cases hx
 |r::m,hm,h,x,t,hx,ho=>by
  obtain⟨y,u,rfl,hy,_⟩:=row_cons (hm r (by simp))
  have hm':typed (τ::τs) m:=fun q hq=>hm q (by simp[hq])
  rw[headsF_cons]at h
  cases h4:y.kind==4 with
  |true=>rw[h4]at h;cases h
  |false=>
   rw[h4,cond_false]at h
   cases h6:y.kind==6 with
   |true=>rw[h6]at h;cases h
   |false=>
    rw[h6,cond_false]at h
    rcases List.mem_cons.1 hx with e|hx
    ·cases e
     obtain⟨k,n,s,xs⟩:=x
     rcases okP_cases hy ho with⟨rfl,rfl,_⟩|⟨rfl,_⟩|⟨rfl,_⟩
     ·exact⟨rfl,rfl⟩
     ·cases h4
     ·cases h6
    ·exact heads_none hm' h x t hx ho
theorem hds_ok {τ:Tp} {h:Pt} (hh:h∈hds τ):okP τ h∧opn h=false∧h.args=anys h.args.length:=by
 have n0:okPs [] (anys 0):=okPs_anys []
 have n1:∀t,okPs [t] (anys 1):=fun t=>okPs_anys [t]
 have n2:∀t u,okPs [t,u] (anys 2):=fun t u=>okPs_anys [t,u]
 cases τ with
 |int=>simp[hds]at hh
 |bool=>
  simp[hds]at hh
  rcases hh with rfl|rfl<;>exact⟨by rw[boolP,okP];simp,rfl,rfl⟩
 |nat=>
  simp[hds]at hh
  rcases hh with rfl|rfl
  ·exact⟨by rw[mkHead,okP];exact .inr (.inr (.inr ⟨rfl,rfl,[],by simp[sig],n0⟩)),rfl,rfl⟩
  ·exact⟨by rw[mkHead,okP];exact .inr (.inr (.inr ⟨rfl,rfl,[.nat],by simp[sig],n1 _⟩)),rfl,rfl⟩
 |pair=>
  simp[hds]at hh
  rcases hh with rfl|rfl
  ·exact⟨by rw[mkHead,okP];exact .inr (.inr (.inr ⟨rfl,rfl,[.nat,.bool],by simp[sig],n2 _ _⟩)),rfl,rfl⟩
  ·exact⟨by rw[mkHead,okP];exact .inr (.inr (.inr ⟨rfl,rfl,[.int],by simp[sig],n1 _⟩)),rfl,rfl⟩
theorem hds_all {τ:Tp} (hτ:τ≠.int) {v:Vl} (hv:okV τ v):∃h∈hds τ,fits h v=true:=by
 have lf:∀(ts:List Tp) (ys:List Vl),okVs ts ys→fitsL (anys ts.length) ys=true:=fun ts ys h=>fitsL_anys _ _ (okVs_len h)
 cases v with
 |int i=>rw[okV]at hv;exact absurd hv hτ
 |bool b=>
  rw[okV]at hv;subst hv
  cases b
  ·exact⟨boolP 0,by simp[hds],by rw[boolP,fits4];rfl⟩
  ·exact⟨boolP 1,by simp[hds],by rw[boolP,fits4];rfl⟩
 |mk c ys=>
  rw[okV]at hv
  obtain⟨ts,hs,hw⟩:=hv
  have hl:=lf ts ys hw
  cases τ with
  |int=>simp[sig]at hs
  |bool=>simp[sig]at hs
  |nat=>
   simp[sig]at hs
   rcases hs with⟨rfl,rfl⟩|⟨rfl,rfl⟩
   ·exact⟨mkHead (nZero,0),by simp[hds],by rw[mkHead,fits6,(bq).2 rfl];exact hl⟩
   ·exact⟨mkHead (nNext,1),by simp[hds],by rw[mkHead,fits6,(bq).2 rfl];exact hl⟩
  |pair=>
   simp[sig]at hs
   rcases hs with⟨rfl,rfl⟩|⟨rfl,rfl⟩
   ·exact⟨mkHead (nPair,2),by simp[hds],by rw[mkHead,fits6,(bq).2 rfl];exact hl⟩
   ·exact⟨mkHead (nOne,1),by simp[hds],by rw[mkHead,fits6,(bq).2 rfl];exact hl⟩
theorem okV_some:∀τ:Tp,∃v,okV τ v
 |.int=>⟨.int 0,by rw[okV]⟩
 |.bool=>⟨.bool true,by rw[okV]⟩
 |.nat=>⟨.mk nZero [],by rw[okV];exact⟨[],by simp[sig],by rw[okVs];trivial⟩⟩
 |.pair=>⟨.mk nOne [.int 0],by rw[okV];exact⟨[.int],by simp[sig],by rw[okVs,okVs,okV];exact⟨rfl,trivial⟩⟩⟩
theorem mex_out (l:List Int):∀(f n:Nat),((mexF l f n:Nat):Int)∈l→∀j,j≤f→((n+j:Nat):Int)∈l
 |0,n,h,j,hj=>by
  obtain rfl:j=0:=by omega
  rw[mexF]at h;exact h
 |f+1,n,h,j,hj=>by
  rw[mexF]at h
  cases hc:l.contains (n:Int) with
  |true=>
   rw[hc,cond_true]at h
   cases j with
   |zero=>simpa using hc
   |succ j=>
    have:=mex_out l f (n+1) h j (by omega)
    rw[show n+(j+1)=n+1+j by omega];exact this
  |false=>
   rw[hc,cond_false]at h
   have:l.contains (n:Int)=true:=by simpa using h
   rw[this]at hc;cases hc
theorem nodup_len' {α:Type}:∀(l U:List α),l.Nodup→(∀x∈l,x∈U)→l.length≤U.length
 | [],_,_,_=>by simp
 |a::r,U,h,hs=>by
  obtain⟨s,t,e⟩:=List.append_of_mem (hs a (by simp))
  subst e
  have hn:=List.nodup_cons.1 h
  have:=nodup_len' r (s++t) hn.2 fun x hx=>by
   have:=hs x (by simp[hx])
   simp only[List.mem_append,List.mem_cons]at this ⊢
   rcases this with h1|h1|h1
   ·exact .inl h1
   ·subst h1;exact absurd hx hn.1
   ·exact .inr h1
  simp at this ⊢;omega
theorem mex_ok (l:List Int):((mexF l l.length 0:Nat):Int)∉l:=fun h=>by
 have h1:=mex_out l l.length 0 h
 have h2:=nodup_len' ((List.range (l.length+1)).map fun(j:Nat)=>(j:Int)) l (by
  rw[List.nodup_iff_pairwise_ne,List.pairwise_map]
  exact List.Pairwise.imp (fun {a b} (h:a<b)=>by omega) List.pairwise_lt_range) fun x hx=>by
  obtain⟨j,hj,rfl⟩:=List.mem_map.1 hx
  have:=h1 j (by have:=List.mem_range.1 hj;omega)
  simpa using this
 simp at h2
 omega
theorem ints_mem:∀{m:List Row} {x:Pt} {t:Row},x::t∈m→x.kind=3→pnum x∈ints m
 | [],_,_,h,_=>by cases h
 |r::m,x,t,h,hk=>by
  rcases List.mem_cons.1 h with e|h
  ·subst e
   rw[ints_cons]
   rw[show(x.kind==3)=true by simpa using hk];simp
  ·have:=ints_mem h hk
   cases r with
   |nil=>exact this
   |cons y u=>
    rw[ints_cons]
    cases y.kind==3 with
    |true=>exact List.mem_cons_of_mem _ this
    |false=>exact this
theorem ints_some:∀{m:List Row} {i:Int},i∈ints m→∃x t,x::t∈m∧x.kind=3
 | [],_,h=>by cases h
 |r::m,i,h=>by
  cases r with
  |nil=>rw[ints_nil]at h;obtain⟨x,t,h1,h2⟩:=ints_some h;exact⟨x,t,List.mem_cons_of_mem _ h1,h2⟩
  |cons y u=>
   rw[ints_cons]at h
   cases hk:y.kind==3 with
   |true=>exact⟨y,u,List.mem_cons_self,by simpa using hk⟩
   |false=>rw[hk,cond_false]at h;obtain⟨x,t,h1,h2⟩:=ints_some h;exact⟨x,t,List.mem_cons_of_mem _ h1,h2⟩
theorem other_ok {τ:Tp} {τs:List Tp} {m:List Row} (hm:typed (τ::τs) m) (hn:headsF D0 m=none):
 okP τ (otherF m)∧(∃v,okV τ v∧fits (otherF m) v=true)∧∀v,okV τ v→fits (otherF m) v=true→∀x t,x::t∈m→opn x=false→fits x v=false:=by
 have hk:=heads_none hm hn
 unfold otherF
 cases hi:ints m with
 |nil=>
  rw[otherI]
  obtain⟨v,hv⟩:=okV_some τ
  refine⟨by rw[any1,okP];exact .inl (.inl rfl),⟨v,hv,fits_open opn_any v⟩,fun v _ _ x t hx ho=>?_⟩
  have:=ints_mem hx (hk x t hx ho).1
  rw[hi]at this;cases this
 |cons i l=>
  have hmex:=mex_ok (i::l)
  simp only[List.length_cons]at hmex
  rw[otherI]
  generalize mexF (i::l) (l.length+1) 0=N at hmex
  have hτ:τ=.int:=by
   obtain⟨x,t,h1,h2⟩:=ints_some (m:=m) (i:=i) (by rw[hi];simp)
   refine(hk x t h1 ?_).2
   unfold opn;rw[h2];rfl
  subst hτ
  refine⟨by rw[okP];exact .inr (.inl ⟨rfl,rfl,rfl,rfl⟩),⟨.int N,by rw[okV],by rw[fits3];simp⟩,fun v hv hf x t hx ho=>?_⟩
  have hx3:=(hk x t hx ho).1
  have hin:=ints_mem hx hx3
  rw[hi]at hin
  obtain⟨k,n,s,xs⟩:=x
  simp only[Pt.kind]at hx3
  subst hx3
  simp only[pnum]at hin
  cases v with
  |int j=>
   rw[fits3]at hf ⊢
   have:j=N:=by simpa using hf
   subst this
   cases hq:((N:Int)==n) with
   |false=>rfl
   |true=>
    have:(N:Int)=n:=by simpa using hq
    rw[this]at hmex
    exact absurd hin hmex
  |bool b=>simp[fits]
  |mk c ys=>simp[fits]
end CV
open Go Go.AM Go.Proofs TR
set_option maxRecDepth 100000
namespace CV
theorem missF_zero (D:Sg) (f:Nat) (m:List Row):missF D (f+1) m 0=some (bif m.isEmpty then some [] else none):=by rw[missF]
theorem missF_succ (D:Sg) (f:Nat) (m:List Row) (c:Nat):missF D (f+1) m (c+1)=match headsF D m with
 |some l=>missF.missL (fun h=>missF D f (underF m h) (h.args.length+c)) l
 |none=>match missF D f (restF m) c with
  |none=>none
  |some none=>some none
  |some (some r)=>some (some (otherF m::r)):=by rw[missF];first | done | (cases headsF D m<;>rfl)
theorem usefF_nil (D:Sg) (f:Nat) (m:List Row):usefF D (f+1) m []=some m.isEmpty:=by rw[usefF]
theorem usefF_cons (D:Sg) (f:Nat) (m:List Row) (x:Pt) (t:Row):usefF D (f+1) m (x::t)=bif !opn x then usefF D f (underF m x) (x.args++t) else match headsF D m with
 |some l=>usefF.usefL (fun h=>usefF D f (underF m h) (anys h.args.length++t)) l
 |none=>usefF D f (restF m) t:=by rw[usefF];first | done | (cases headsF D m<;>rfl)
def Miss (τs:List Tp) (m:List Row) (res:Option Row):Prop:=match res with
 |none=>∀vs,okVs τs vs→cov m vs
 |some r=>okPs τs r∧(∃vs,okVs τs vs∧fitsL r vs=true)∧∀vs,okVs τs vs→fitsL r vs=true→¬cov m vs
theorem okVs_cons {τ:Tp} {τs:List Tp} {vs:List Vl} (h:okVs (τ::τs) vs):∃v us,vs=v::us∧okV τ v∧okVs τs us:=by
 cases vs with
 |nil=>rw[okVs]at h;exact h.elim
 |cons v us=>rw[okVs]at h;exact⟨v,us,rfl,h.1,h.2⟩
theorem head_val {τ:Tp} {h:Pt} (hh:h∈hds τ) {v:Vl} (hv:okV τ v) (hf:fits h v=true) {ts:List Tp} {mkv:List Vl→Vl} (H:Hd τ h ts mkv):∃ws,okVs ts ws∧v=mkv ws:=by
 refine H.inv v h.args hv H.args ?_
 rw[setArgs_self];exact hf
theorem miss_ok:∀(f:Nat) (τs:List Tp) (m:List Row) (res:Option Row),typed τs m→missF D0 f m τs.length=some res→Miss τs m res
 |0,_,_,_,_,h=>by rw[missF]at h;cases h
 |f+1,[],m,res,hm,h=>by
  rw[List.length_nil,missF_zero]at h
  cases m with
  |nil=>
   cases h
   refine⟨by rw[okPs];trivial,⟨[],by rw[okVs];trivial,fitsL_nil⟩,fun vs _ _ hc=>?_⟩
   obtain⟨r,hr,_⟩:=hc
   cases hr
  |cons r m=>
   cases h
   intro vs hv
   have:=okVs_nil hv
   subst this
   have hr:=okPs_nil (hm r (by simp))
   subst hr
   exact⟨[],by simp,fitsL_nil⟩
 |f+1,τ::τs,m,res,hm,h=>by
  rw[List.length_cons,missF_succ]at h
  cases hh:headsF D0 m with
  |some l=>
   rw[hh]at h
   simp only at h
   obtain⟨hl,hτ,_⟩:=heads_some hm hh
   -- the list,from some place on
   have main:∀(l':List Pt),(∀x∈l',x∈hds τ)→missF.missL (fun h=>missF D0 f (underF m h) (h.args.length+τs.length)) l'=some res→
    (res=none∧∀x∈l',∀vs,okVs (τ::τs) vs→(∃v us,vs=v::us∧fits x v=true)→cov m vs)∨(∃r,res=some r∧Miss (τ::τs) m (some r)):=by
    intro l'
    induction l' with
    |nil=>intro _ h;rw[missF.missL]at h;cases h;exact .inl ⟨rfl,by simp⟩
    |cons x l' ih=>
     intro hsub h
     have hx:=hsub x (by simp)
     obtain⟨x1,x2,x3⟩:=hds_ok hx
     obtain⟨ts,mkv,H⟩:=hd_of x1 x2
     rw[missF.missL]at h
     cases hq:missF D0 f (underF m x) (x.args.length+τs.length) with
     |none=>rw[hq]at h;cases h
     |some r1=>
      have hrec:=miss_ok f (ts++τs) (underF m x) r1 (under_ok hm H) (by rw[List.length_append,←H.len];exact hq)
      rw[hq]at h
      cases r1 with
      |none=>
       simp only at h
       rcases ih (fun y hy=>hsub y (by simp[hy])) h with⟨e,hall⟩|hr
       ·refine .inl ⟨e,fun y hy vs hv hex=>?_⟩
        rcases List.mem_cons.1 hy with rfl|hy
        ·obtain⟨v,us,rfl,hf⟩:=hex
         rw[okVs]at hv
         obtain⟨ws,hw,rfl⟩:=head_val hx hv.1 hf H
         exact(cov_under hm H hw us).2 (hrec _ (okVs_app hw hv.2))
        ·exact hall y hy vs hv hex
       ·exact .inr hr
      |some r=>
       simp only at h
       cases h
       refine .inr ⟨_,rfl,?_⟩
       obtain⟨g1,⟨zs,g2,g3⟩,g4⟩:=hrec
       obtain⟨k1,k2⟩:=okPs_split g1
       rw[←H.len]at k1 k2
       have hsplit:r=r.take x.args.length++r.drop x.args.length:=(List.take_append_drop _ _).symm
       refine⟨by rw[okPs];exact⟨H.set _ k1,k2⟩,?_,?_⟩
       ·obtain⟨ws,us,e,w1,w2⟩:=okVs_split g2
        subst e
        rw[hsplit,fitsL_app _ _ (by rw[okPs_len k1,okVs_len w1]),Bool.and_eq_true]at g3
        refine⟨mkv ws::us,by rw[okVs];exact⟨H.val ws w1,w2⟩,?_⟩
        rw[fitsL,H.self _ ws k1 w1,g3.1,g3.2];rfl
       ·intro vs hv hf hc
        obtain⟨v,us,rfl,hv1,hv2⟩:=okVs_cons hv
        rw[fitsL,Bool.and_eq_true]at hf
        obtain⟨ws,hw,rfl⟩:=H.inv v _ hv1 k1 hf.1
        refine g4 (ws++us) (okVs_app hw hv2) ?_ ((cov_under hm H hw us).1 hc)
        rw[hsplit,fitsL_app _ _ (by rw[okPs_len k1,okVs_len hw]),←H.self _ ws k1 hw,hf.1,hf.2];rfl
   rcases main l (fun x hx=>by rw[←hl];exact hx) h with⟨rfl,hall⟩|⟨r,rfl,hr⟩
   ·intro vs hv
    obtain⟨v,us,rfl,hv1,hv2⟩:=okVs_cons hv
    obtain⟨x,hx,hf⟩:=hds_all hτ hv1
    exact hall x (by rw[hl];exact hx) _ hv ⟨v,us,rfl,hf⟩
   ·exact hr
  |none=>
   rw[hh]at h
   simp only at h
   obtain⟨o1,⟨v,o2,o3⟩,o4⟩:=other_ok hm hh
   cases hq:missF D0 f (restF m) τs.length with
   |none=>rw[hq]at h;cases h
   |some r1=>
    have hrec:=miss_ok f τs (restF m) r1 (rest_ok hm) hq
    rw[hq]at h
    cases r1 with
    |none=>
     cases h
     intro vs hv
     obtain⟨v,us,rfl,hv1,hv2⟩:=okVs_cons hv
     exact cov_rest v (hrec us hv2)
    |some r=>
     cases h
     obtain⟨g1,⟨zs,g2,g3⟩,g4⟩:=hrec
     refine⟨by rw[okPs];exact⟨o1,g1⟩,⟨v::zs,by rw[okVs];exact⟨o2,g2⟩,by rw[fitsL,o3,g3];rfl⟩,fun vs hv hf hc=>?_⟩
     obtain⟨w,us,rfl,hv1,hv2⟩:=okVs_cons hv
     rw[fitsL,Bool.and_eq_true]at hf
     exact g4 us hv2 hf.2 (cov_rest' hm (fun x t hx ho=>o4 w hv1 hf.1 x t hx ho) hc)
def Usef (τs:List Tp) (m:List Row) (q:Row) (b:Bool):Prop:=b=true↔∃vs,okVs τs vs∧fitsL q vs=true∧¬cov m vs
theorem usef_ok:∀(f:Nat) (τs:List Tp) (m:List Row) (q:Row) (b:Bool),typed τs m→okPs τs q→usefF D0 f m q=some b→Usef τs m q b
 |0,_,_,_,_,_,_,h=>by rw[usefF]at h;cases h
 |f+1,[],m,q,b,hm,hq,h=>by
  have:=okPs_nil hq
  subst this
  rw[usefF_nil]at h
  cases m with
  |nil=>
   cases h
   exact⟨fun _=>⟨[],by rw[okVs];trivial,fitsL_nil,fun⟨r,hr,_⟩=>by cases hr⟩,fun _=>rfl⟩
  |cons r m=>
   cases h
   refine⟨fun h=>(by cases h),fun⟨vs,hv,_,hc⟩=>?_⟩
   have:=okVs_nil hv
   subst this
   have hr:=okPs_nil (hm r (by simp))
   subst hr
   exact absurd ⟨[],by simp,fitsL_nil⟩ hc
 |f+1,τ::τs,m,q,b,hm,hq,h=>by
  obtain⟨x,t,rfl,hx,ht⟩:=row_cons hq
  rw[usefF_cons]at h
  cases ho:opn x with
  |false=>
   rw[ho]at h
   replace h:usefF D0 f (underF m x) (x.args++t)=some b:=h
   obtain⟨ts,mkv,H⟩:=hd_of hx ho
   have hrec:=usef_ok f (ts++τs) (underF m x) (x.args++t) b (under_ok hm H) (okPs_app H.args ht) h
   have hself:∀ws,okVs ts ws→fits x (mkv ws)=fitsL x.args ws:=fun ws hw=>by
    have:=H.self x.args ws H.args hw
    rw[setArgs_self]at this;exact this
   constructor
   ·intro hb
    obtain⟨zs,z1,z2,z3⟩:=hrec.1 hb
    obtain⟨ws,us,rfl,w1,w2⟩:=okVs_split z1
    rw[fitsL_app _ _ (by rw[H.len,okVs_len w1]),Bool.and_eq_true]at z2
    refine⟨mkv ws::us,by rw[okVs];exact⟨H.val ws w1,w2⟩,by rw[fitsL,hself ws w1,z2.1,z2.2];rfl,fun hc=>z3 ((cov_under hm H w1 us).1 hc)⟩
   ·rintro⟨vs,v1,v2,v3⟩
    obtain⟨v,us,rfl,hv1,hv2⟩:=okVs_cons v1
    rw[fitsL,Bool.and_eq_true]at v2
    obtain⟨ws,hw,rfl⟩:=H.inv v x.args hv1 H.args (by rw[setArgs_self];exact v2.1)
    refine hrec.2 ⟨ws++us,okVs_app hw hv2,?_,fun hc=>v3 ((cov_under hm H hw us).2 hc)⟩
    rw[fitsL_app _ _ (by rw[H.len,okVs_len hw]),←hself ws hw,v2.1,v2.2];rfl
  |true=>
   rw[ho]at h
   replace h:(match headsF D0 m with
    |some l=>usefF.usefL (fun h=>usefF D0 f (underF m h) (anys h.args.length++t)) l
    |none=>usefF D0 f (restF m) t)=some b:=h
   cases hh:headsF D0 m with
   |some l=>
    rw[hh]at h
    simp only at h
    obtain⟨hl,hτ,_⟩:=heads_some hm hh
    have main:∀(l':List Pt) (b:Bool),(∀y∈l',y∈hds τ)→usefF.usefL (fun h=>usefF D0 f (underF m h) (anys h.args.length++t)) l'=some b→
     (b=true↔∃y∈l',∃vs,okVs (τ::τs) vs∧fitsL (y::t) vs=true∧¬cov m vs):=by
     intro l'
     induction l' with
     |nil=>intro b _ h;rw[usefF.usefL]at h;cases h;simp
     |cons y l' ih=>
      intro b hsub h
      have hy:=hsub y (by simp)
      obtain⟨y1,y2,y3⟩:=hds_ok hy
      obtain⟨ts,mkv,H⟩:=hd_of y1 y2
      have hself:∀ws,okVs ts ws→fits y (mkv ws)=true:=fun ws hw=>by
       have:=H.self y.args ws H.args hw
       rw[setArgs_self]at this
       rw[this,y3,fitsL_anys _ _ (by rw[H.len,okVs_len hw])]
      rw[usefF.usefL]at h
      cases hq2:usefF D0 f (underF m y) (anys y.args.length++t) with
      |none=>rw[hq2]at h;cases h
      |some b1=>
       have hrec:=usef_ok f (ts++τs) (underF m y) (anys y.args.length++t) b1 (under_ok hm H) (okPs_app (by rw[H.len];exact okPs_anys ts) ht) hq2
       unfold Usef at hrec
       have hone:b1=true↔∃vs,okVs (τ::τs) vs∧fitsL (y::t) vs=true∧¬cov m vs:=by
        rw[hrec]
        constructor
        ·rintro⟨zs,z1,z2,z3⟩
         obtain⟨ws,us,rfl,w1,w2⟩:=okVs_split z1
         rw[fitsL_app _ _ (by rw[anys_len,H.len,okVs_len w1]),Bool.and_eq_true]at z2
         exact⟨mkv ws::us,by rw[okVs];exact⟨H.val ws w1,w2⟩,by rw[fitsL,hself ws w1,z2.2];rfl,fun hc=>z3 ((cov_under hm H w1 us).1 hc)⟩
        ·rintro⟨vs,v1,v2,v3⟩
         obtain⟨v,us,rfl,hv1,hv2⟩:=okVs_cons v1
         rw[fitsL,Bool.and_eq_true]at v2
         obtain⟨ws,hw,rfl⟩:=head_val hy hv1 v2.1 H
         exact⟨ws++us,okVs_app hw hv2,by rw[fitsL_app _ _ (by rw[anys_len,H.len,okVs_len hw]),fitsL_anys _ _ (by rw[H.len,okVs_len hw]),v2.2];rfl,fun hc=>v3 ((cov_under hm H hw us).2 hc)⟩
       rw[hq2]at h
       cases b1 with
       |true=>
        cases h
        exact⟨fun _=>⟨y,by simp,hone.1 rfl⟩,fun _=>rfl⟩
       |false=>
        simp only at h
        rw[ih b (fun z hz=>hsub z (by simp[hz])) h]
        constructor
        ·rintro⟨z,hz,h'⟩;exact⟨z,by simp[hz],h'⟩
        ·rintro⟨z,hz,h'⟩
         rcases List.mem_cons.1 hz with rfl|hz
         ·have:=hone.2 h';cases this
         ·exact⟨z,hz,h'⟩
    unfold Usef
    rw[main l b (fun y hy=>by rw[←hl];exact hy) h]
    constructor
    ·rintro⟨y,hy,vs,v1,v2,v3⟩
     obtain⟨v,us,rfl,hv1,hv2⟩:=okVs_cons v1
     rw[fitsL,Bool.and_eq_true]at v2
     exact⟨v::us,v1,by rw[fitsL,fits_open ho,v2.2];rfl,v3⟩
    ·rintro⟨vs,v1,v2,v3⟩
     obtain⟨v,us,rfl,hv1,hv2⟩:=okVs_cons v1
     rw[fitsL,Bool.and_eq_true]at v2
     obtain⟨y,hy,hf⟩:=hds_all hτ hv1
     exact⟨y,by rw[hl];exact hy,v::us,v1,by rw[fitsL,hf,v2.2];rfl,v3⟩
   |none=>
    rw[hh]at h
    simp only at h
    obtain⟨_,⟨v,o2,o3⟩,o4⟩:=other_ok hm hh
    have hrec:=usef_ok f τs (restF m) t b (rest_ok hm) ht h
    unfold Usef at hrec ⊢
    rw[hrec]
    constructor
    ·rintro⟨us,u1,u2,u3⟩
     exact⟨v::us,by rw[okVs];exact⟨o2,u1⟩,by rw[fitsL,fits_open ho,u2];rfl,fun hc=>u3 (cov_rest' hm (fun x t hx hxo=>o4 v o2 o3 x t hx hxo) hc)⟩
    ·rintro⟨vs,v1,v2,v3⟩
     obtain⟨w,us,rfl,hv1,hv2⟩:=okVs_cons v1
     rw[fitsL,Bool.and_eq_true]at v2
     exact⟨us,hv2,v2.2,fun hc=>v3 (cov_rest w hc)⟩
end CV
open Go Go.AM Go.Proofs TR
set_option maxRecDepth 100000
namespace CV
mutual
def sz:Pt→Nat
 |.mk k _ _ xs=>bif k==1||k==2 then 0 else 1+szs xs
def szs:List Pt→Nat
 | []=>0
 |x::r=>sz x+szs r
end
def szM:List Row→Nat
 | []=>0
 |r::m=>szs r+szM m
theorem szs_app:∀(l r:List Pt),szs (l++r)=szs l+szs r
 | [],r=>by simp[szs]
 |x::l,r=>by rw[List.cons_append,szs,szs,szs_app l r,Nat.add_assoc]
theorem szs_anys:∀n,szs (anys n)=0
 |0=>by rw[show anys 0=[] from rfl,szs]
 |n+1=>by rw[show anys (n+1)=any1::anys n from rfl,szs,szs_anys n,any1,sz];rfl
theorem sz_open {x:Pt} (h:opn x=true):sz x=0:=by
 obtain⟨k,n,t,xs⟩:=x
 unfold opn at h
 simp only[Pt.kind]at h
 rw[sz,h];rfl
theorem sz_shut {x:Pt} (h:opn x=false):sz x=1+szs x.args:=by
 obtain⟨k,n,t,xs⟩:=x
 unfold opn at h
 simp only[Pt.kind]at h
 rw[sz,h];rfl
theorem under1_sz (h:Pt) (r:Row):(match under1 h r with|some q=>szs q|none=>0)≤szs r∧∀x t,r=x::t→opn x=false→(match under1 h r with|some q=>szs q|none=>0)+1≤szs r:=by
 cases r with
 |nil=>exact⟨by rw[under1];exact Nat.zero_le _,fun x t e=>by cases e⟩
 |cons x t=>
  cases ho:opn x with
  |true=>
   have e:under1 h (x::t)=some (anys h.args.length++t):=by rw[under1,ho];rfl
   rw[e]
   refine⟨?_,fun y u e2 hy=>by cases e2;rw[ho]at hy;cases hy⟩
   show szs (anys h.args.length++t)≤szs (x::t)
   rw[szs_app,szs_anys,szs];omega
  |false=>
   have hs:=sz_shut ho
   cases ha:alike x h with
   |true=>
    have e:under1 h (x::t)=some (x.args++t):=by rw[under1,ho,ha];rfl
    rw[e]
    have e3:szs (x.args++t)=szs x.args+szs t:=szs_app _ _
    have e4:szs (x::t)=sz x+szs t:=by rw[szs]
    refine⟨?_,fun y u e2 hy=>?_⟩
    ·show szs (x.args++t)≤_;omega
    ·show szs (x.args++t)+1≤_;omega
   |false=>
    have e:under1 h (x::t)=none:=by rw[under1,ho,ha];rfl
    rw[e]
    have e4:szs (x::t)=sz x+szs t:=by rw[szs]
    exact⟨Nat.zero_le _,fun y u e2 hy=>by show 0+1≤_;omega⟩
theorem under_sz (h:Pt):∀(m:List Row),szM (underF m h)≤szM m∧∀x t,x::t∈m→opn x=false→szM (underF m h)+1≤szM m
 | []=>⟨Nat.le_refl _,fun x t hx=>by cases hx⟩
 |r::m=>by
  obtain⟨i1,i2⟩:=under_sz h m
  obtain⟨j1,j2⟩:=under1_sz h r
  have e:szM (underF (r::m) h)=(match under1 h r with|some q=>szs q|none=>0)+szM (underF m h):=by
   unfold underF
   rw[List.filterMap_cons]
   cases under1 h r with
   |none=>simp
   |some q=>rfl
  rw[e,szM]
  refine⟨by omega,fun x t hx ho=>?_⟩
  rcases List.mem_cons.1 hx with e2|hx
  ·have:=j2 x t e2.symm ho;omega
  ·have:=i2 x t hx ho;omega
theorem rest_sz:∀(m:List Row),szM (restF m)≤szM m
 | []=>Nat.le_refl _
 |r::m=>by
  have i1:=rest_sz m
  have j1:(match rest1 r with|some q=>szs q|none=>0)≤szs r:=by
   cases r with
   |nil=>exact Nat.zero_le _
   |cons x t=>
    have e4:szs (x::t)=sz x+szs t:=by rw[szs]
    cases ho:opn x with
    |true=>rw[rest1,ho];show szs t≤_;omega
    |false=>rw[rest1,ho];exact Nat.zero_le _
  have e:szM (restF (r::m))=(match rest1 r with|some q=>szs q|none=>0)+szM (restF m):=by
   unfold restF
   rw[List.filterMap_cons]
   cases rest1 r with
   |none=>simp
   |some q=>rfl
  rw[e,szM];omega
theorem hds_two {τ:Tp} {h:Pt} (hh:h∈hds τ):h.args.length≤2:=by
 cases τ with
 |int=>simp[hds]at hh
 |bool=>simp[hds]at hh;rcases hh with rfl|rfl<;>decide
 |nat=>simp[hds]at hh;rcases hh with rfl|rfl<;>decide
 |pair=>simp[hds]at hh;rcases hh with rfl|rfl<;>decide
theorem args_two {τ:Tp} {x:Pt} (h:okP τ x) (ho:opn x=false):x.args.length≤2:=by
 obtain⟨k,n,t,xs⟩:=x
 rcases okP_cases h ho with⟨_,_,_,rfl⟩|⟨_,_,_,_,rfl⟩|⟨_,_,ts,hs,hx⟩
 ·exact Nat.zero_le _
 ·exact Nat.zero_le _
 ·have:=okPs_len hx
  show xs.length≤2
  rw[this]
  cases τ with
  |int=>simp[sig]at hs
  |bool=>simp[sig]at hs
  |nat=>simp[sig]at hs;rcases hs with⟨_,rfl⟩|⟨_,rfl⟩<;>decide
  |pair=>simp[sig]at hs;rcases hs with⟨_,rfl⟩|⟨_,rfl⟩<;>decide
theorem miss_run:∀(f:Nat) (τs:List Tp) (m:List Row),typed τs m→2*szM m+τs.length<f→∃res,missF D0 f m τs.length=some res
 |0,_,_,_,h=>by omega
 |f+1,[],m,_,_=>⟨_,by rw[List.length_nil,missF_zero]⟩
 |f+1,τ::τs,m,hm,h=>by
  rw[List.length_cons]at h ⊢
  rw[missF_succ]
  cases hh:headsF D0 m with
  |some l=>
   simp only
   obtain⟨hl,_,x0,t0,hx0,ho0⟩:=heads_some hm hh
   have main:∀l',(∀x∈l',x∈hds τ)→∃res,missF.missL (fun h=>missF D0 f (underF m h) (h.args.length+τs.length)) l'=some res:=by
    intro l'
    induction l' with
    |nil=>intro _;exact⟨_,by rw[missF.missL]⟩
    |cons x l' ih=>
     intro hsub
     have hx:=hsub x (by simp)
     obtain⟨x1,x2,_⟩:=hds_ok hx
     obtain⟨ts,mkv,H⟩:=hd_of x1 x2
     have h2:=hds_two hx
     have hs:=(under_sz x m).2 x0 t0 hx0 ho0
     obtain⟨r1,hr⟩:=miss_run f (ts++τs) (underF m x) (under_ok hm H) (by rw[List.length_append,←H.len];omega)
     rw[List.length_append,←H.len]at hr
     rw[missF.missL,hr]
     cases r1 with
     |none=>exact ih fun y hy=>hsub y (by simp[hy])
     |some r=>exact⟨_,rfl⟩
   exact main l fun x hx=>by rw[←hl];exact hx
  |none=>
   simp only
   have hs:=rest_sz m
   obtain⟨r1,hr⟩:=miss_run f τs (restF m) (rest_ok hm) (by omega)
   rw[hr]
   cases r1<;>exact⟨_,rfl⟩
theorem usef_run:∀(f:Nat) (τs:List Tp) (m:List Row) (q:Row),typed τs m→okPs τs q→2*(szM m+szs q)+q.length<f→∃b,usefF D0 f m q=some b
 |0,_,_,_,_,_,h=>by omega
 |f+1,[],m,q,_,hq,_=>by
  have:=okPs_nil hq;subst this
  exact⟨_,usefF_nil D0 f m⟩
 |f+1,τ::τs,m,q,hm,hq,h=>by
  obtain⟨x,t,rfl,hx,ht⟩:=row_cons hq
  rw[usefF_cons]
  have e4:szs (x::t)=sz x+szs t:=by rw[szs]
  rw[e4,List.length_cons]at h
  cases ho:opn x with
  |false=>
   show ∃b,usefF D0 f (underF m x) (x.args++t)=some b
   obtain⟨ts,mkv,H⟩:=hd_of hx ho
   have hs:=sz_shut ho
   have h2:=args_two hx ho
   have hu:=(under_sz x m).1
   refine usef_run f (ts++τs) (underF m x) (x.args++t) (under_ok hm H) (okPs_app H.args ht) ?_
   rw[szs_app,List.length_append];omega
  |true=>
   have hs:=sz_open ho
   show ∃b,(match headsF D0 m with
    |some l=>usefF.usefL (fun h=>usefF D0 f (underF m h) (anys h.args.length++t)) l
    |none=>usefF D0 f (restF m) t)=some b
   cases hh:headsF D0 m with
   |some l=>
    simp only
    obtain⟨hl,_,x0,t0,hx0,ho0⟩:=heads_some hm hh
    have main:∀l',(∀x∈l',x∈hds τ)→∃b,usefF.usefL (fun h=>usefF D0 f (underF m h) (anys h.args.length++t)) l'=some b:=by
     intro l'
     induction l' with
     |nil=>intro _;exact⟨_,by rw[usefF.usefL]⟩
     |cons y l' ih=>
      intro hsub
      have hy:=hsub y (by simp)
      obtain⟨y1,y2,_⟩:=hds_ok hy
      obtain⟨ts,mkv,H⟩:=hd_of y1 y2
      have h2:=hds_two hy
      have hu:=(under_sz y m).2 x0 t0 hx0 ho0
      obtain⟨b,hb⟩:=usef_run f (ts++τs) (underF m y) (anys y.args.length++t) (under_ok hm H) (okPs_app (by rw[H.len];exact okPs_anys ts) ht) (by rw[szs_app,szs_anys,List.length_append,anys_len];omega)
      rw[usefF.usefL,hb]
      cases b with
      |true=>exact⟨_,rfl⟩
      |false=>exact ih fun z hz=>hsub z (by simp[hz])
    exact main l fun x hx=>by rw[←hl];exact hx
   |none=>
    simp only
    have hr:=rest_sz m
    exact usef_run f τs (restF m) t (rest_ok hm) ht (by omega)
theorem sz_setArgs {h:Pt} (ho:opn h=false) (xs:List Pt):sz (setArgs h xs)=1+szs xs:=by
 obtain⟨k,n,t,ys⟩:=h
 unfold opn at ho
 simp only[Pt.kind]at ho
 rw[setArgs,sz,ho];rfl
theorem sz_other (m:List Row):sz (otherF m)≤1:=by
 unfold otherF
 cases ints m with
 |nil=>rw[otherI,any1,sz];exact Nat.zero_le _
 |cons i l=>rw[otherI,sz];simp[szs]
theorem miss_sz:∀(f:Nat) (τs:List Tp) (m:List Row) (r:Row),typed τs m→missF D0 f m τs.length=some (some r)→szs r≤f
 |0,_,_,_,_,h=>by rw[missF]at h;cases h
 |f+1,[],m,r,_,h=>by
  rw[List.length_nil,missF_zero]at h
  cases m with
  |nil=>cases h;rw[szs];exact Nat.zero_le _
  |cons _ _=>cases h
 |f+1,τ::τs,m,r,hm,h=>by
  rw[List.length_cons,missF_succ]at h
  cases hh:headsF D0 m with
  |some l=>
   rw[hh]at h
   simp only at h
   obtain⟨hl,_⟩:=heads_some hm hh
   have main:∀l',(∀x∈l',x∈hds τ)→missF.missL (fun h=>missF D0 f (underF m h) (h.args.length+τs.length)) l'=some (some r)→szs r≤f+1:=by
    intro l'
    induction l' with
    |nil=>intro _ h;rw[missF.missL]at h;cases h
    |cons x l' ih=>
     intro hsub h
     have hx:=hsub x (by simp)
     obtain⟨x1,x2,_⟩:=hds_ok hx
     obtain⟨ts,mkv,H⟩:=hd_of x1 x2
     rw[missF.missL]at h
     cases hq:missF D0 f (underF m x) (x.args.length+τs.length) with
     |none=>rw[hq]at h;cases h
     |some r1=>
      rw[hq]at h
      cases r1 with
      |none=>exact ih (fun y hy=>hsub y (by simp[hy])) h
      |some r2=>
       simp only at h
       cases h
       have:=miss_sz f (ts++τs) (underF m x) r2 (under_ok hm H) (by rw[List.length_append,←H.len];exact hq)
       have e:szs r2=szs (r2.take x.args.length)+szs (r2.drop x.args.length):=by rw[←szs_app,List.take_append_drop]
       rw[szs,sz_setArgs x2];omega
   exact main l (fun x hx=>by rw[←hl];exact hx) h
  |none=>
   rw[hh]at h
   simp only at h
   cases hq:missF D0 f (restF m) τs.length with
   |none=>rw[hq]at h;cases h
   |some r1=>
    rw[hq]at h
    cases r1 with
    |none=>cases h
    |some r2=>
     cases h
     have:=miss_sz f τs (restF m) r2 (rest_ok hm) hq
     have:=sz_other m
     rw[szs];omega
end CV
open Go Go.AM Go.Proofs TR
set_option maxRecDepth 100000
namespace CV
def witF (k n:Int):Int:=k % n
def mkZero:Pt:=.mk 6 0 nZero []
def mkNext (p:Pt):Pt:=.mk 6 0 nNext [p]
def nextsF:Nat→Pt→Pt
 |0,p=>p
 |n+1,p=>nextsF n (mkNext p)
def natF (k:Int):Pt:=nextsF (witF (k.tdiv 2) 3).toNat (bif k.tmod 2==0 then mkZero else any1)
def xB:ByteArray:=⟨#[120]⟩
def varX:Pt:=.mk 2 0 xB []
def flagF (k:Int):Pt:=bif witF (k.tdiv 60) 3==2 then varX else boolP (witF (k.tdiv 60) 2)
def pairPF (k:Int):Pt:=bif witF k 5==0 then varX else bif witF k 5==1 then .mk 6 0 nOne [.mk 3 (witF (k.tdiv 5) 4) nostr []] else bif witF k 5==2 then .mk 6 0 nOne [any1] else .mk 6 0 nPair [natF (witF (k.tdiv 5) 12),flagF k]
def natV:Nat→Vl→Vl
 |0,v=>v
 |n+1,v=>natV n (.mk nNext [v])
def pairVF (k:Int):Vl:=bif k.tmod 3==0 then .mk nOne [.int (witF (k.tdiv 3) 4)] else .mk nPair [natV (witF (k.tdiv 3) 4).toNat (.mk nZero []),.bool (witF (k.tdiv 12) 2==1)]
theorem okP_open {τ:Tp} {x:Pt} (h:opn x=true):okP τ x:=by
 obtain⟨k,n,t,xs⟩:=x
 unfold opn at h
 simp only[Pt.kind]at h
 rw[okP]
 exact .inl (by simpa using h)
theorem okP_mk {τ:Tp} {c:ByteArray} {ts:List Tp} {xs:List Pt} (h:(c,ts)∈sig τ) (hx:okPs ts xs):okP τ (.mk 6 0 c xs):=by
 rw[okP];exact .inr (.inr (.inr ⟨rfl,rfl,ts,h,hx⟩))
theorem okPs_one {τ:Tp} {x:Pt} (h:okP τ x):okPs [τ] [x]:=by rw[okPs,okPs];exact⟨h,trivial⟩
theorem okVs_one {τ:Tp} {x:Vl} (h:okV τ x):okVs [τ] [x]:=by rw[okVs,okVs];exact⟨h,trivial⟩
theorem nexts_ok:∀(n:Nat) {p:Pt},okP .nat p→okP .nat (nextsF n p)
 |0,_,h=>h
 |n+1,p,h=>nexts_ok n (okP_mk (ts:=[.nat]) (by simp[sig]) (okPs_one h))
theorem nat_ok (k:Int):okP .nat (natF k):=by
 refine nexts_ok _ ?_
 cases k.tmod 2==0 with
 |true=>exact okP_mk (ts:=[]) (by simp[sig]) (by rw[okPs];trivial)
 |false=>exact okP_open opn_any
theorem flag_ok (k:Int):okP .bool (flagF k):=by
 unfold flagF
 cases witF (k.tdiv 60) 3==2 with
 |true=>exact okP_open rfl
 |false=>
  rw[cond_false,boolP,okP]
  refine .inr (.inr (.inl ⟨rfl,rfl,?_,rfl,rfl⟩))
  unfold witF;omega
theorem pairP_ok (k:Int):okP .pair (pairPF k):=by
 unfold pairPF
 cases witF k 5==0 with
 |true=>exact okP_open rfl
 |false=>
  rw[cond_false]
  cases witF k 5==1 with
  |true=>exact okP_mk (ts:=[.int]) (by simp[sig]) (okPs_one (by rw[okP];exact .inr (.inl ⟨rfl,rfl,rfl,rfl⟩)))
  |false=>
   rw[cond_false]
   cases witF k 5==2 with
   |true=>exact okP_mk (ts:=[.int]) (by simp[sig]) (okPs_one (okP_open opn_any))
   |false=>
    refine okP_mk (ts:=[.nat,.bool]) (by simp[sig]) ?_
    rw[okPs,okPs,okPs]
    exact⟨nat_ok _,flag_ok _,trivial⟩
theorem natV_ok:∀(n:Nat) {v:Vl},okV .nat v→okV .nat (natV n v)
 |0,_,h=>h
 |n+1,v,h=>natV_ok n (by rw[okV];exact⟨[.nat],by simp[sig],okVs_one h⟩)
theorem pairV_ok (k:Int):okV .pair (pairVF k):=by
 unfold pairVF
 cases k.tmod 3==0 with
 |true=>rw[cond_true,okV];exact⟨[.int],by simp[sig],okVs_one (by rw[okV])⟩
 |false=>
  rw[cond_false,okV]
  refine⟨[.nat,.bool],by simp[sig],?_⟩
  rw[okVs,okVs,okVs]
  exact⟨natV_ok _ (by rw[okV];exact⟨[],by simp[sig],by rw[okVs];trivial⟩),by rw[okV],trivial⟩
theorem nexts_sz:∀(n:Nat) (p:Pt),sz (nextsF n p)=n+sz p
 |0,p=>by simp[nextsF]
 |n+1,p=>by rw[nextsF,nexts_sz n];simp[mkNext,sz,szs];omega
theorem pairP_sz (k:Int):sz (pairPF k)≤6:=by
 have hn:sz (natF (witF (k.tdiv 5) 12))≤4:=by
  unfold natF
  rw[nexts_sz]
  have h1:(witF ((witF (k.tdiv 5) 12).tdiv 2) 3).toNat≤2:=by
   generalize (witF (k.tdiv 5) 12).tdiv 2=a
   unfold witF;omega
  cases (witF (k.tdiv 5) 12).tmod 2==0 with
  |true=>simp[mkZero,sz,szs];omega
  |false=>simp[any1,sz];omega
 have hf:sz (flagF k)≤1:=by
  unfold flagF
  cases witF (k.tdiv 60) 3==2 with
  |true=>simp[varX,sz]
  |false=>simp[boolP,sz,szs]
 unfold pairPF
 cases witF k 5==0 with
 |true=>simp[varX,sz]
 |false=>
  rw[cond_false]
  cases witF k 5==1 with
  |true=>simp[sz,szs]
  |false=>
   rw[cond_false]
   cases witF k 5==2 with
   |true=>simp[sz,szs,any1]
   |false=>simp only[cond_false,sz,szs];simp;omega
def colF (l:List Pt):List Row:=l.map fun x=>[x]
theorem col_ok {l:List Pt} (h:∀x∈l,okP .pair x):typed [.pair] (colF l):=fun r hr=>by
 obtain⟨x,hx,rfl⟩:=List.mem_map.1 hr
 exact okPs_one (h x hx)
theorem col_sz:∀(l:List Pt),szM (colF l)=szs l
 | []=>rfl
 |x::r=>by
  show szM ([x]::colF r)=_
  rw[szM,col_sz r,szs,szs,szs];omega
theorem cov_col {l:List Pt} {v:Vl}:cov (colF l) [v]↔∃x∈l,fits x v=true:=by
 constructor
 ·rintro⟨r,hr,hf⟩
  obtain⟨x,hx,rfl⟩:=List.mem_map.1 hr
  rw[fitsL,fitsL_nil,Bool.and_true]at hf
  exact⟨x,hx,hf⟩
 ·rintro⟨x,hx,hf⟩
  exact⟨[x],List.mem_map.2 ⟨x,hx,rfl⟩,by rw[fitsL,fitsL_nil,hf];rfl⟩
theorem okV_one {vs:List Vl} (h:okVs [.pair] vs):∃v,vs=[v]∧okV .pair v:=by
 obtain⟨v,us,rfl,h1,h2⟩:=okVs_cons h
 rw[okVs_nil h2]
 exact⟨v,rfl,h1⟩
theorem okP_row {r:Row} (h:okPs [.pair] r):∃x,r=[x]∧okP .pair x:=by
 obtain⟨x,t,rfl,h1,h2⟩:=row_cons h
 rw[okPs_nil h2]
 exact⟨x,rfl,h1⟩
theorem missing_law {l:List Pt} (h:∀x∈l,okP .pair x) {f:Nat} {res:Option Row} (hr:missF D0 f (colF l) 1=some res):
 (res=none∧∀v,okV .pair v→∃x∈l,fits x v=true)∨∃q,res=some [q]∧okP .pair q∧(∃v,okV .pair v∧fits q v=true)∧∀v,okV .pair v→fits q v=true→∀x∈l,fits x v=false:=by
 have hm:=miss_ok f [.pair] (colF l) res (col_ok h) hr
 cases res with
 |none=>exact .inl ⟨rfl,fun v hv=>cov_col.1 (hm [v] (okVs_one hv))⟩
 |some r=>
  obtain⟨h1,⟨vs,h2,h3⟩,h4⟩:=hm
  obtain⟨q,rfl,hq⟩:=okP_row h1
  obtain⟨v,rfl,hv⟩:=okV_one h2
  rw[fitsL,fitsL_nil,Bool.and_true]at h3
  refine .inr ⟨q,rfl,hq,⟨v,hv,h3⟩,fun w hw hf x hx=>?_⟩
  cases hc:fits x w with
  |false=>rfl
  |true=>exact absurd (cov_col.2 ⟨x,hx,hc⟩) (h4 [w] (okVs_one hw) (by rw[fitsL,fitsL_nil,hf];rfl))
theorem useful_law {l:List Pt} (h:∀x∈l,okP .pair x) {q:Pt} (hq:okP .pair q) {f:Nat} {b:Bool} (hr:usefF D0 f (colF l) [q]=some b):
 b=true↔∃v,okV .pair v∧fits q v=true∧∀x∈l,fits x v=false:=by
 have hu:=usef_ok f [.pair] (colF l) [q] b (col_ok h) (okPs_one hq) hr
 unfold Usef at hu
 rw[hu]
 constructor
 ·rintro⟨vs,h1,h2,h3⟩
  obtain⟨v,rfl,hv⟩:=okV_one h1
  rw[fitsL,fitsL_nil,Bool.and_true]at h2
  refine⟨v,hv,h2,fun x hx=>?_⟩
  cases hc:fits x v with
  |false=>rfl
  |true=>exact absurd (cov_col.2 ⟨x,hx,hc⟩) h3
 ·rintro⟨v,hv,h2,h3⟩
  refine⟨[v],okVs_one hv,by rw[fitsL,fitsL_nil,h2];rfl,fun hc=>?_⟩
  obtain⟨x,hx,hf⟩:=cov_col.1 hc
  rw[h3 x hx]at hf;cases hf
def FU:Nat:=1000
theorem szs_le:∀{l:List Pt} {N:Nat},(∀x∈l,sz x≤N)→szs l≤l.length*N
 | [],_,_=>by simp[szs]
 |x::r,N,h=>by
  have h1:=h x (by simp)
  have h2:=szs_le (l:=r) fun y hy=>h y (by simp[hy])
  rw[szs,List.length_cons,Nat.add_mul];omega
theorem missing_run {l:List Pt} (h:∀x∈l,okP .pair x) (hs:szs l≤400):∃res,missF D0 FU (colF l) 1=some res:=
 miss_run FU [.pair] (colF l) (col_ok h) (by rw[col_sz];show 2*szs l+1<1000;omega)
theorem useful_run {l:List Pt} (h:∀x∈l,okP .pair x) {q:Pt} (hq:okP .pair q) (hs:szs l+sz q≤400):∃b,usefF D0 FU (colF l) [q]=some b:=
 usef_run FU [.pair] (colF l) [q] (col_ok h) (okPs_one hq) (by rw[col_sz,szs,szs];show 2*(szs l+(sz q+0))+1<1000;omega)
end CV
open Go Go.AM Go.Proofs TR
set_option maxRecDepth 100000
namespace CV
def uslF (D:Sg) (f:Nat):List Pt→List Pt→Nat→Option (List Nat)
 |_,[],_=>some []
 |pre,x::r,i=>match usefF D f (colF pre) [x] with
  |none=>none
  |some b=>match uslF D f (pre++[x]) r (i+1) with
   |none=>none
   |some t=>some (bif b then t else i::t)
theorem uslF_snoc (D:Sg) (f:Nat):∀(r pre:List Pt) (x:Pt) (i:Nat) (t:List Nat),uslF D f pre (r++[x]) i=some t→∃s b,uslF D f pre r i=some s∧usefF D f (colF (pre++r)) [x]=some b∧t=s++(bif b then [] else [i+r.length])
 | [],pre,x,i,t,h=>by
   rw[List.nil_append,uslF]at h
   cases hq:usefF D f (colF pre) [x] with
   |none=>rw[hq]at h;cases h
   |some b=>
    rw[hq]at h
    simp only[uslF]at h
    cases h
    refine⟨[],b,by rw[uslF],by rw[List.append_nil];exact hq,?_⟩
    cases b<;>rfl
 |y::r,pre,x,i,t,h=>by
  rw[List.cons_append,uslF]at h
  cases hq:usefF D f (colF pre) [y] with
  |none=>rw[hq]at h;cases h
  |some b=>
   rw[hq]at h
   simp only at h
   cases hq2:uslF D f (pre++[y]) (r++[x]) (i+1) with
   |none=>rw[hq2]at h;cases h
   |some t2=>
    rw[hq2]at h
    simp only at h
    cases h
    obtain⟨s,b2,h1,h2,rfl⟩:=uslF_snoc D f r (pre++[y]) x (i+1) t2 hq2
    refine⟨bif b then s else i::s,b2,by rw[uslF,hq];simp only;rw[h1],by rw[List.append_assoc]at h2;exact h2,?_⟩
    have e:i+1+r.length=i+(y::r).length:=by simp;omega
    rw[e]
    cases b<;>cases b2<;>simp
theorem uslF_lt (D:Sg) (f:Nat):∀(r pre:List Pt) (i:Nat) (t:List Nat),uslF D f pre r i=some t→∀j∈t,i≤j∧j<i+r.length
 | [],_,i,t,h,j,hj=>by rw[uslF]at h;cases h;cases hj
 |y::r,pre,i,t,h,j,hj=>by
  rw[uslF]at h
  cases hq:usefF D f (colF pre) [y] with
  |none=>rw[hq]at h;cases h
  |some b=>
   rw[hq]at h
   simp only at h
   cases hq2:uslF D f (pre++[y]) r (i+1) with
   |none=>rw[hq2]at h;cases h
   |some t2=>
    rw[hq2]at h
    simp only at h
    cases h
    have ih:=uslF_lt D f r (pre++[y]) (i+1) t2 hq2
    have:j=i∨j∈t2:=by
     cases b with
     |true=>exact .inr hj
     |false=>rcases List.mem_cons.1 hj with h|h;exact .inl h;exact .inr h
    rcases this with rfl|h
    ·simp
    ·have:=ih j h;simp;omega
theorem uslF_mem (D:Sg) (f:Nat):∀(r pre:List Pt) (i:Nat) (t:List Nat),uslF D f pre r i=some t→∀(k:Nat) (x:Pt),r[k]?=some x→∃b,usefF D f (colF (pre++r.take k)) [x]=some b∧(i+k∈t↔b=false)
 | [],_,i,t,_,k,x,hx=>by cases hx
 |y::r,pre,i,t,h,k,x,hx=>by
  rw[uslF]at h
  cases hq:usefF D f (colF pre) [y] with
  |none=>rw[hq]at h;cases h
  |some b=>
   rw[hq]at h
   simp only at h
   cases hq2:uslF D f (pre++[y]) r (i+1) with
   |none=>rw[hq2]at h;cases h
   |some t2=>
    rw[hq2]at h
    simp only at h
    cases h
    have hlt:=uslF_lt D f r (pre++[y]) (i+1) t2 hq2
    cases k with
    |zero=>
     cases hx
     refine⟨b,by rw[List.take_zero,List.append_nil];exact hq,?_⟩
     cases b with
     |true=>
      simp only[cond_true,Nat.add_zero]
      exact⟨fun h=>by have:=hlt i h;omega,fun h=>by cases h⟩
     |false=>simp
    |succ k=>
     obtain⟨b2,h1,h2⟩:=uslF_mem D f r (pre++[y]) (i+1) t2 hq2 k x hx
     refine⟨b2,by rw[List.append_assoc]at h1;exact h1,?_⟩
     rw[show i+(k+1)=i+1+k by omega,←h2]
     cases b with
     |true=>rfl
     |false=>
      simp only[cond_false,List.mem_cons]
      exact⟨fun h=>h.resolve_left (by omega),.inr⟩
theorem usl_run:∀(r pre:List Pt) (i:Nat),(∀x∈pre++r,okP .pair x)→szs (pre++r)≤400→∃t,uslF D0 FU pre r i=some t
 | [],_,_,_,_=>⟨[],by rw[uslF]⟩
 |x::r,pre,i,h,hs=>by
  rw[szs_app,szs]at hs
  obtain⟨b,hb⟩:=useful_run (l:=pre) (fun y hy=>h y (by simp[hy])) (q:=x) (h x (by simp)) (by omega)
  obtain⟨t,ht⟩:=usl_run r (pre++[x]) (i+1) (fun y hy=>h y (by simpa using hy)) (by rw[szs_app,szs_app,szs,szs];omega)
  exact⟨_,by rw[uslF,hb];simp only;rw[ht]⟩
def firstF (v:Vl):List Pt→Nat→Int
 | [],_=>-1
 |x::r,k=>bif fits x v then (k:Int) else firstF v r (k+1)
theorem first_cases (v:Vl):∀(l:List Pt) (k:Nat),(firstF v l k=-1∧∀x∈l,fits x v=false)∨∃j x,firstF v l k=((k+j:Nat):Int)∧l[j]?=some x∧fits x v=true∧∀y∈l.take j,fits y v=false
 | [],k=>.inl ⟨rfl,by simp⟩
 |x::r,k=>by
  rw[firstF]
  cases hf:fits x v with
  |true=>exact .inr ⟨0,x,rfl,rfl,hf,by simp⟩
  |false=>
   rw[cond_false]
   rcases first_cases v r (k+1) with⟨h1,h2⟩|⟨j,y,h1,h2,h3,h4⟩
   ·refine .inl ⟨h1,fun z hz=>?_⟩
    rcases List.mem_cons.1 hz with rfl|hz
    ·exact hf
    ·exact h2 z hz
   ·refine .inr ⟨j+1,y,by rw[h1];congr 1;omega,h2,h3,fun z hz=>?_⟩
    rw[List.take_succ_cons]at hz
    rcases List.mem_cons.1 hz with rfl|hz
    ·exact hf
    ·exact h4 z hz
theorem values_law {l:List Pt} (h:∀x∈l,okP .pair x) {res:Option Row} (hr:missF D0 FU (colF l) 1=some res) {t:List Nat} (ht:uslF D0 FU [] l 0=some t) {v:Vl} (hv:okV .pair v):
 (firstF v l 0=-1∧res≠none)∨∃j:Nat,firstF v l 0=(j:Int)∧j∉t:=by
 rcases first_cases v l 0 with⟨h1,h2⟩|⟨j,x,h1,h2,h3,h4⟩
 ·refine .inl ⟨h1,fun e=>?_⟩
  rcases missing_law h hr with⟨_,h5⟩|⟨q,h5,_⟩
  ·obtain⟨x,hx,hf⟩:=h5 v hv
   rw[h2 x hx]at hf;cases hf
  ·rw[e]at h5;cases h5
 ·refine .inr ⟨j,by rw[h1];congr 1;omega,fun hj=>?_⟩
  obtain⟨b,h5,h6⟩:=uslF_mem D0 FU l [] 0 t ht j x h2
  rw[Nat.zero_add]at h6
  have hb:=h6.1 hj
  subst hb
  rw[List.nil_append]at h5
  have:=(useful_law (l:=l.take j) (fun y hy=>h y (List.mem_of_mem_take hy)) (h x (List.mem_of_getElem? h2)) h5).2 ⟨v,hv,h3,h4⟩
  cases this
theorem more_law {l:List Pt} {x:Pt} (h:∀y∈l++[x],okP .pair y) {r1 r2:Option Row} (h1:missF D0 FU (colF l) 1=some r1) (h2:missF D0 FU (colF (l++[x])) 1=some r2) (hn:r1=none):r2=none:=by
 subst hn
 rcases missing_law (fun y hy=>h y (by simp[hy])) h1 with⟨_,h3⟩|⟨q,h3,_⟩
 ·rcases missing_law h h2 with⟨h4,_⟩|⟨q,_,_,⟨v,h5,h6⟩,h7⟩
  ·exact h4
  ·obtain⟨y,hy,hf⟩:=h3 v h5
   rw[h7 v h5 h6 y (by simp[hy])]at hf;cases hf
 ·cases h3
theorem whole_none {l:List Pt} (h:∀y∈l,okP .pair y) {f:Nat} (h1:missF D0 f (colF l) 1=some none) {t:List Nat} (ht:uslF D0 FU [] (l++[any1]) 0=some t):l.length∈t:=by
 obtain⟨s,b,h2,h3,h4⟩:=uslF_snoc D0 FU l [] any1 0 t ht
 rw[List.nil_append]at h3
 have hb:b=false:=by
  cases hb:b with
  |false=>rfl
  |true=>
   obtain⟨v,hv,_,h5⟩:=(useful_law h (okP_open opn_any) h3).1 hb
   rcases missing_law h h1 with⟨_,h6⟩|⟨q,h6,_⟩
   ·obtain⟨y,hy,hf⟩:=h6 v hv
    rw[h5 y hy]at hf;cases hf
   ·cases h6
 rw[h4,hb];simp
theorem whole_some {l:List Pt} (h:∀y∈l,okP .pair y) {q:Pt} {f:Nat} (h1:missF D0 f (colF l) 1=some (some [q])):okP .pair q∧
 (∀t,uslF D0 FU [] (l++[q]) 0=some t→l.length∉t)∧∀x,missF D0 FU (colF (l++[q])) 1=some (some [x])→x≠q:=by
 rcases missing_law h h1 with⟨h2,_⟩|⟨q',h2,hq,⟨v,hv,hf⟩,h3⟩
 ·cases h2
 ·have e:q'=q:=by simpa using h2.symm
  subst e
  refine⟨hq,fun t ht hin=>?_,fun x hx e=>?_⟩
  ·obtain⟨s,b,h4,h5,h6⟩:=uslF_snoc D0 FU l [] q' 0 t ht
   rw[List.nil_append]at h5
   have hb:=(useful_law h hq h5).2 ⟨v,hv,hf,h3 v hv hf⟩
   subst hb
   rw[h6]at hin
   have:=uslF_lt D0 FU l [] 0 s h4 l.length (by simpa using hin)
   omega
  ·subst e
   have h':∀y∈l++[x],okP .pair y:=fun y hy=>by
    rcases List.mem_append.1 hy with hy|hy
    ·exact h y hy
    ·simp at hy;subst hy;exact hq
   rcases missing_law h' hx with⟨h7,_⟩|⟨x',h7,_,⟨w,hw,hwf⟩,h8⟩
   ·cases h7
   ·have e:x=x':=by simpa using h7
    subst e
    have:=h8 w hw hwf x (by simp)
    rw[hwf]at this;cases this
end CV
