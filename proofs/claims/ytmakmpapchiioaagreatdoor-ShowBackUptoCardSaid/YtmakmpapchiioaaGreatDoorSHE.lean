/-
  DERIVED. Contracts of functions that the law reaches, and the law, for every input. No conditions.
-/
import Derived.Test.YtmakmpapchiioaaGreatDoorSHA
import Derived.Test.YtmakmpapchiioaaGreatDoorPAK
open Go Go.AM TK TR PA
set_option maxRecDepth 100000
namespace SH
section
variable {T:List Tk} {en:Int}
def K (T:List Tk) (a:Nat):List TS:=(T.drop a).map kt
theorem K_get {a:Nat} {t:TS} {r:List TS} (h:K T a=t::r):∃x,T[a]?=some x∧kt x=t∧K T (a+1)=r:=by
 unfold K at *
 cases hd:T.drop a with
 |nil=>rw[hd]at h;cases h
 |cons x q=>
  rw[hd,List.map_cons]at h
  have h1:T[a]?=some x:=by
   have:=congrArg (fun l=>l[0]?) hd
   simpa using this
  refine⟨x,h1,(List.cons.inj h).1,?_⟩
  have:T.drop (a+1)=q:=by
   rw[←List.drop_drop,hd];rfl
  rw[this]
  exact(List.cons.inj h).2
theorem K_tl {a:Nat} {t:TS} {r:List TS} (h:K T a=t::r):K T (a+1)=r:=(K_get h).choose_spec.2.2
theorem K_len {a:Nat}:(K T a).length≤T.length:=by unfold K;rw[List.length_map,List.length_drop];omega
theorem K_nil {a:Nat} (h:K T a=[]):T.length≤a:=by
 have:=congrArg List.length h
 unfold K at this
 rw[List.length_map,List.length_drop,List.length_nil]at this
 omega
theorem lk {a:Nat} {k:Int} {x:Bs} {r:List TS} (h:K T a=(k,x)::r):(lookF T a).kind=k∧(lookF T a).text=x:=by
 obtain⟨t,h1,h2,_⟩:=K_get h
 unfold lookF
 rw[h1]
 simp only
 cases h2
 exact⟨rfl,rfl⟩
theorem lk0 {a:Nat} (h:K T a=[]):(lookF T a).kind=0:=by
 have:=K_nil h
 unfold lookF
 rw[List.getElem?_eq_none this]
def isK (l:List TS) (s:ByteArray):Bool:=match l with
 | []=>false
 |(k,x)::_=>(k==3||k==6)&&x==bs s
theorem isF_K {a:Nat} {l:List TS} (h:K T a=l) (s:ByteArray):isF T s a=isK l s:=by
 unfold isF
 cases l with
 |nil=>rw[lk0 h];exact Bool.and_false _
 |cons t r=>
  obtain⟨k,x⟩:=t
  rw[(lk h).1,(lk h).2]
  have:((B x).toList==s.toList)=(x==bs s):=by
   have:=B_beq x s.data.toList
   rw[←B_of]at this
   exact this
  rw[this,Bool.and_comm]
  rfl
variable {α β γ:Type}
theorem no' {a:Nat} {l:List TS} {s:ByteArray} {x y z:PR α} (h:K T a=l) (hi:isK l s=false) (hz:y=z):(bif isF T s a then x else y)=z:=by rw[isF_K h,hi];exact hz
theorem yes' {a:Nat} {l:List TS} {s:ByteArray} {x y z:PR α} (h:K T a=l) (hi:isK l s=true) (hz:x=z):(bif isF T s a then x else y)=z:=by rw[isF_K h,hi];exact hz
theorem want' {a:Nat} {k:Int} {x:Bs} {r:List TS} {s:ByteArray} {f:Unit→Nat→PR α} {z:PR α} (h:K T a=(k,x)::r) (hi:isK ((k,x)::r) s=true) (hz:f () (a+1)=z):bindP (wantF T en [s] a) f=z:=by
 rw[wantF,isF_K h,hi];exact hz
theorem kind' {a:Nat} {k:Int} {s:ByteArray} {r:List TS} {f:ByteArray→Nat→PR α} {z:PR α} (h:K T a=(k,bs s)::r) (hz:f s (a+1)=z):bindP (kindF T en k a) f=z:=by
 unfold kindF
 rw[(lk h).1,(lk h).2,bne_self_eq_false,cond_false,←B_of]
 exact hz
theorem kindE {a:Nat} {k:Int} {s:ByteArray} {r:List TS} (h:K T a=(k,bs s)::r):kindF T en k a=.ok (s,a+1):=by
 unfold kindF
 rw[(lk h).1,(lk h).2,bne_self_eq_false,cond_false,←B_of]
theorem call' {X:PR α} {y:α} {b:Nat} {f:α→Nat→PR β} {z:PR β} (h:X=.ok (y,b)) (hz:f y b=z):bindP X f=z:=by rw[h];exact hz
def Eat (T:List Tk) (F:Nat→PR α) (ts:List TS) (c:List TS→Bool) (ψ:α→γ) (v:γ):Prop:=∀a rest,K T a=ts++rest→c rest=true→∃y b,F a=.ok (y,b)∧K T b=rest∧ψ y=v
def wAft:ByteArray:=⟨#[97,102,116,101,114]⟩
def fol (l:List TS):Bool:=!isK l opn&&!isK l wAft
def folc (l:List TS):Bool:=fol l&&!isK l comma
def free (_:List TS):Bool:=true
theorem sepT_cons (t:TS) (x:List TS):∀(l:List (List TS)),sepT t (x::l)=x++(l.map (t::·)).flatten
 | []=>by simp[sepT]
 |y::r=>by rw[sepT,sepT_cons t y r];simp
theorem sepT_len {t:TS} {x:List TS}:∀{l:List (List TS)},x∈l→x.length≤(sepT t l).length
 | [],h=>by cases h
 |y::r,h=>by
  rw[sepT_cons,List.length_append]
  rcases List.mem_cons.1 h with rfl|h
  ·omega
  ·have:∀(r:List (List TS)),x∈r→x.length≤((r.map (t::·)).flatten).length:=by
    intro r
    induction r with
    |nil=>intro h;cases h
    |cons z q ih=>
     intro h
     rw[List.map_cons,List.flatten_cons,List.length_append,List.length_cons]
     rcases List.mem_cons.1 h with rfl|h
     ·omega
     ·have:=ih h;omega
   have:=this r h
   omega
theorem flat_len (t:TS):∀(l:List (List TS)),l.length≤((l.map (t::·)).flatten).length
 | []=>by simp
 |x::r=>by have:=flat_len t r;rw[List.map_cons,List.flatten_cons,List.length_append,List.length_cons,List.length_cons];omega
theorem list_go {F:Nat→PR α} (g:β→List TS) (ψ:α→γ) (φ:β→γ):∀(l:List β),(∀x∈l,Eat T F (g x) fol ψ (φ x))→∀(m:Nat) (out:List α) (a:Nat) (rest:List TS),l.length≤m→K T a=((l.map g).map ((6,[44])::·)).flatten++rest→folc rest=true→
 ∃ys b,listGo T F m out a=.ok (out++ys,b)∧K T b=rest∧ys.map ψ=l.map φ
 | [],_,m,out,a,rest,_,hK,hc=>by
   have hK:K T a=rest:=by simpa using hK
   unfold folc at hc
   rw[Bool.and_eq_true,Bool.not_eq_true']at hc
   exact⟨[],a,by rw[listGo_end (by rw[isF_K hK];exact hc.2),List.append_nil],hK,rfl⟩
 |x::r,hF,0,out,a,rest,hm,_,_=>by simp at hm
 |x::r,hF,m+1,out,a,rest,hm,hK,hc=>by
  rw[List.map_cons,List.map_cons,List.flatten_cons,List.cons_append,List.cons_append,List.append_assoc]at hK
  have hf:fol (((r.map g).map ((6,[44])::·)).flatten++rest)=true:=by
   cases r with
   |nil=>unfold folc at hc;rw[Bool.and_eq_true]at hc;exact hc.1
   |cons _ _=>rfl
  obtain⟨y,b,h1,h2,h3⟩:=hF x (by simp) (a+1) _ (K_tl hK) hf
  obtain⟨ys,c,h4,h5,h6⟩:=list_go g ψ φ r (fun z hz=>hF z (by simp[hz])) m (out++[y]) b rest (by simpa using hm) h2 hc
  refine⟨y::ys,c,?_,h5,by rw[List.map_cons,List.map_cons,h3,h6]⟩
  rw[listGo,isF_K hK,show isK ((6,[44])::(g x++(((r.map g).map ((6,[44])::·)).flatten++rest))) comma=true from rfl,cond_true,h1,bindP_ok,h4]
  simp
theorem eat_list {F:Nat→PR α} (g:β→List TS) (ψ:α→γ) (φ:β→γ) (x:β) (l:List β) (hF:∀y∈x::l,Eat T F (g y) fol ψ (φ y)):Eat T (listF T F) (comT ((x::l).map g)) folc (List.map ψ) ((x::l).map φ):=by
 intro a rest hK hc
 rw[comT,List.map_cons,sepT_cons,List.append_assoc]at hK
 have hf:fol (((l.map g).map ((6,[44])::·)).flatten++rest)=true:=by
  cases l with
  |nil=>unfold folc at hc;rw[Bool.and_eq_true]at hc;exact hc.1
  |cons _ _=>rfl
 obtain⟨y,b,h1,h2,h3⟩:=hF x (by simp) a _ hK hf
 have hlen:l.length≤T.length:=by
  have q:=K_len (T:=T) (a:=b)
  rw[h2,List.length_append]at q
  have:=flat_len (6,[44]) (l.map g)
  rw[List.length_map]at this
  omega
 obtain⟨ys,c,h4,h5,h6⟩:=list_go g ψ φ l (fun z hz=>hF z (by simp[hz])) T.length [y] b rest hlen h2 hc
 exact⟨y::ys,c,by unfold listF;rw[h1,bindP_ok,h4];rfl,h5,by rw[List.map_cons,List.map_cons,h3,h6]⟩
def hdOK (l:List TS):Bool:=match l with
 | []=>false
 |(k,x)::_=>!(k==3||k==6)||!([[41],[125],[110,111,116],[102,117,110]]:List Bs).contains x
theorem hd_no {ts:List TS} (h:hdOK ts=true) {s:ByteArray} (hs:([[41],[125],[110,111,116],[102,117,110]]:List Bs).contains (bs s)=true) (r:List TS):isK (ts++r) s=false:=by
 cases ts with
 |nil=>cases h
 |cons t q=>
  obtain⟨k,x⟩:=t
  show((k==3||k==6)&&x==bs s)=false
  have h:(!(k==3||k==6)||!([[41],[125],[110,111,116],[102,117,110]]:List Bs).contains x)=true:=h
  cases hk:(k==3||k==6) with
  |false=>rfl
  |true=>
   rw[hk]at h
   cases hx:x==bs s with
   |false=>rfl
   |true=>rw[eq_of_beq hx,hs]at h;cases h
theorem eat_inside {F:Nat→PR α} (g:β→List TS) (ψ:α→γ) (φ:β→γ) (l:List β) (hF:∀y∈l,Eat T F (g y) fol ψ (φ y)) (hd:∀y∈l,hdOK (g y)=true):Eat T (insideF T en F) ((6,[40])::(comT (l.map g)++[(6,[41])])) free (List.map ψ) (l.map φ):=by
 intro a rest hK _
 rw[List.cons_append,List.append_assoc]at hK
 have k1:=K_tl hK
 cases l with
 |nil=>
  refine⟨[],a+2,?_,K_tl k1,rfl⟩
  unfold insideF
  exact want' hK rfl (yes' k1 rfl rfl)
 |cons x l=>
  obtain⟨ys,b,h1,h2,h3⟩:=eat_list g ψ φ x l hF (a+1) _ k1 rfl
  refine⟨ys,b+1,?_,K_tl h2,h3⟩
  unfold insideF
  refine want' hK rfl (no' k1 ?_ (call' h1 (want' h2 rfl rfl)))
  rw[comT,List.map_cons,sepT_cons,List.append_assoc]
  exact hd_no (hd x (by simp)) (by decide) _
theorem eat_maybe {F:Nat→PR α} (g:β→List TS) (ψ:α→γ) (φ:β→γ) (x:β) (l:List β) (hF:∀y∈x::l,Eat T F (g y) fol ψ (φ y)):Eat T (maybeF T en F) ((6,[40])::(comT ((x::l).map g)++[(6,[41])])) free (List.map ψ) ((x::l).map φ):=by
 intro a rest hK _
 rw[List.cons_append,List.append_assoc]at hK
 obtain⟨ys,b,h1,h2,h3⟩:=eat_list g ψ φ x l hF (a+1) _ (K_tl hK) rfl
 exact⟨ys,b+1,by unfold maybeF;exact yes' hK rfl (call' h1 (want' h2 rfl rfl)),K_tl h2,h3⟩
theorem fol_open {l:List TS} (h:fol l=true):isK l opn=false:=by unfold fol at h;rw[Bool.and_eq_true,Bool.not_eq_true']at h;exact h.1
theorem fol_after {l:List TS} (h:fol l=true):isK l wAft=false:=by unfold fol at h;rw[Bool.and_eq_true,Bool.not_eq_true',Bool.not_eq_true']at h;exact h.2
theorem maybe_none {F:Nat→PR α} {a:Nat} {l:List TS} (h:K T a=l) (hc:fol l=true):maybeF T en F a=.ok ([],a):=by
 unfold maybeF;exact no' h (fol_open hc) rfl
theorem tys_no {a:Nat} {k:Int} {x:Bs} {r:List TS} {z:PR Ty} (h:K T a=(k,x)::r) (hn:([[105,110,116],[98,111,111,108],[116,101,120,116],[117,110,105,116]]:List Bs).contains x=false∨(k==3||k==6)=false):tysF T a z base4 0=z:=by
 have hf:∀s:ByteArray,s∈base4→isK ((k,x)::r) s=false:=by
  intro s hs
  show((k==3||k==6)&&x==bs s)=false
  rcases hn with hn|hn
  ·cases hx:x==bs s with
   |false=>exact Bool.and_false _
   |true=>
    exfalso
    have:=eq_of_beq hx
    subst this
    simp only[base4,List.mem_cons,List.not_mem_nil,or_false]at hs
    rcases hs with rfl|rfl|rfl|rfl<;>exact absurd hn (by decide)
  ·rw[hn];rfl
 rw[base4,tysF,tysF,tysF,tysF,tysF]
 exact no' h (hf _ (by simp[base4])) (no' h (hf _ (by simp[base4])) (no' h (hf _ (by simp[base4])) (no' h (hf _ (by simp[base4])) rfl)))
theorem hd_T {t:Ty} {lv:Nat} (h:rT t lv=0):hdOK (tkT t)=true:=by
 obtain⟨k,n,xs⟩:=t
 obtain⟨hk,hl,hg,hx⟩:=rT_inv h
 rcases (by omega:k=1∨k=2∨k=3∨k=4∨k=5∨k=6∨k=7∨k=8∨k=9) with rfl|rfl|rfl|rfl|rfl|rfl|rfl|rfl|rfl
 ·rw[tkT];rfl
 ·rw[tkT];rfl
 ·rw[tkT];rfl
 ·rw[tkT];rfl
 ·rw[tkT]
  show hdOK [(bif isS n [115,101,108,102] then 3 else 1,bs n)]=true
  cases hs:isS n [115,101,108,102] with
  |true=>rw[isS_eq hs];rfl
  |false=>rfl
 ·rw[tkT6];rfl
 ·rw[tkT];rfl
 ·rw[tkT];rfl
 ·rw[tkT];rfl
theorem id_map (l:List α):l.map id=l:=List.map_id l
theorem bS (s:ByteArray) (l:Bs) (q:ByteArray) (hq:q=B l):(s.toList==q.toList)=isS s l:=by
 subst hq
 have:=B_beq s.data.toList l
 rw[←B_of]at this
 exact this
theorem eat_T:∀(n:Nat) (t:Ty) (lv:Nat),rT t lv=0→(tkT t).length≤n→Eat T (typF T en n) (tkT t) fol id t
 |0,t,lv,h,hn=>by
  have:=hd_T h
  cases hq:tkT t with
  |nil=>rw[hq]at this;cases this
  |cons _ _=>rw[hq]at hn;simp at hn
 |n+1,.mk k nm xs,lv,h,hn=>by
  obtain⟨hk,hl,hg,hx⟩:=rT_inv h
  have hsub:∀x∈xs,(tkT x).length≤(comT (xs.map tkT)).length:=fun x hx=>sepT_len (List.mem_map_of_mem hx)
  intro a rest hK hc
  rcases (by omega:k=1∨k=2∨k=3∨k=4∨k=5∨k=6∨k=7∨k=8∨k=9) with rfl|rfl|rfl|rfl|rfl|rfl|rfl|rfl|rfl
  ·have hg:(xs.length==0&&isS nm [])=true:=hg
   rw[Bool.and_eq_true,beq_iff_eq]at hg
   obtain rfl:=list0 hg.1
   obtain rfl:=isS_B hg.2
   rw[tkT]at hK
   refine⟨_,a+1,?_,K_tl (t:=(3,[105,110,116])) hK,rfl⟩
   rw[typF,base4]
   exact yes' (l:=(3,[105,110,116])::rest) hK rfl rfl
  ·have hg:(xs.length==0&&isS nm [])=true:=hg
   rw[Bool.and_eq_true,beq_iff_eq]at hg
   obtain rfl:=list0 hg.1
   obtain rfl:=isS_B hg.2
   rw[tkT]at hK
   refine⟨_,a+1,?_,K_tl (t:=(3,[98,111,111,108])) hK,rfl⟩
   rw[typF,base4]
   exact no' (l:=(3,[98,111,111,108])::rest) hK rfl (yes' (l:=(3,[98,111,111,108])::rest) hK rfl rfl)
  ·have hg:(xs.length==0&&isS nm [])=true:=hg
   rw[Bool.and_eq_true,beq_iff_eq]at hg
   obtain rfl:=list0 hg.1
   obtain rfl:=isS_B hg.2
   rw[tkT]at hK
   refine⟨_,a+1,?_,K_tl (t:=(3,[116,101,120,116])) hK,rfl⟩
   rw[typF,base4]
   exact no' (l:=(3,[116,101,120,116])::rest) hK rfl (no' (l:=(3,[116,101,120,116])::rest) hK rfl (yes' (l:=(3,[116,101,120,116])::rest) hK rfl rfl))
  ·have hg:(xs.length==0&&isS nm [])=true:=hg
   rw[Bool.and_eq_true,beq_iff_eq]at hg
   obtain rfl:=list0 hg.1
   obtain rfl:=isS_B hg.2
   rw[tkT]at hK
   refine⟨_,a+1,?_,K_tl (t:=(3,[117,110,105,116])) hK,rfl⟩
   rw[typF,base4]
   exact no' (l:=(3,[117,110,105,116])::rest) hK rfl (no' (l:=(3,[117,110,105,116])::rest) hK rfl (no' (l:=(3,[117,110,105,116])::rest) hK rfl (yes' (l:=(3,[117,110,105,116])::rest) hK rfl rfl)))
  ·have hg:(xs.length==0&&(lowB nm||isS nm [115,101,108,102]))=true:=hg
   rw[Bool.and_eq_true,beq_iff_eq]at hg
   obtain rfl:=list0 hg.1
   have e2:tkT (.mk 5 nm [])=[(bif isS nm [115,101,108,102] then 3 else 1,bs nm)]:=by rw[tkT];rfl
   rw[e2]at hK
   cases hs:isS nm [115,101,108,102] with
   |true=>
    rw[hs,isS_eq hs]at hK
    obtain rfl:=isS_B hs
    refine⟨_,a+1,?_,K_tl hK,rfl⟩
    rw[typF]
    exact(tys_no (x:=[115,101,108,102]) hK (.inl rfl)).trans (yes' (l:=(3,[115,101,108,102])::rest) hK rfl rfl)
   |false=>
    rw[hs]at hK
    have hK:K T a=(1,bs nm)::rest:=hK
    refine⟨_,a+1,?_,K_tl hK,rfl⟩
    rw[typF]
    refine(tys_no hK (.inr rfl)).trans (no' hK rfl (no' hK rfl ?_))
    rw[(lk hK).1]
    exact kind' hK rfl
  ·have hg:(upB nm&&(!builtB nm&&decide (xs.length≤6)))=true:=hg
   rw[Bool.and_eq_true,Bool.and_eq_true,Bool.not_eq_true']at hg
   rw[tkT6]at hK hn
   rw[List.cons_append]at hK
   have hb:((nm.toList==(⟨#[82,101,102]⟩:ByteArray).toList)||(nm.toList==(⟨#[67,101,108,108]⟩:ByteArray).toList))=false:=by
    rw[bS nm [82,101,102] ⟨#[82,101,102]⟩ rfl,bS nm [67,101,108,108] ⟨#[67,101,108,108]⟩ rfl];exact hg.2.1
   have key:∀(ys:List Ty) (b:Nat),maybeF T en (typF T en n) (a+1)=.ok (ys,b)→typF T en (n+1) a=.ok (.mk 6 nm ys,b):=by
    intro ys b hm
    rw[typF]
    refine(tys_no hK (.inr rfl)).trans (no' hK rfl (no' hK rfl ?_))
    rw[(lk hK).1]
    refine kind' hK ?_
    rw[hb,cond_false]
    exact call' hm rfl
   cases xs with
   |nil=>exact⟨_,a+1,key [] _ (maybe_none (K_tl hK) hc),K_tl hK,rfl⟩
   |cons x l=>
    simp only[List.length_cons,List.length_append]at hn
    obtain⟨ys,b,h1,h2,h3⟩:=eat_maybe (T:=T) (en:=en) (F:=typF T en n) tkT id id x l (fun y hy=>eat_T n y _ (hx y hy) (by have:=hsub y hy;simp only[show((l.length+1==0)=false) from rfl,cond_false,List.length_cons,List.length_append]at hn;omega)) (a+1) rest (K_tl hK) rfl
    rw[id_map,id_map]at h3
    subst h3
    exact⟨_,b,key _ _ h1,h2,rfl⟩
  ·have hg:(decide (xs.length>0)&&isS nm [])=true:=hg
   rw[Bool.and_eq_true]at hg
   obtain rfl:=isS_B hg.2
   obtain⟨l,t,rfl⟩:=last_app (xs:=xs) (by intro e;rw[e]at hg;exact absurd hg.1 (by decide))
   have hsl:∀x∈l,(tkT x).length≤(comT (l.map tkT)).length:=fun x hx=>sepT_len (List.mem_map_of_mem hx)
   rw[tkT7]at hK hn
   simp only[List.length_cons,List.length_append]at hn
   rw[List.cons_append]at hK
   have k1:=K_tl hK
   obtain⟨ys,b,h1,h2,h3⟩:=eat_inside (T:=T) (en:=en) (F:=typF T en n) tkT id id l (fun y hy=>eat_T n y _ (hx y (by simp[hy])) (by have:=hsl y hy;omega)) (fun y hy=>hd_T (hx y (by simp[hy]))) (a+1) ((6,[58])::(tkT t++rest)) (by rw[k1];simp) rfl
   rw[id_map,id_map]at h3
   subst h3
   obtain⟨y,c,h4,h5,h6⟩:=eat_T n t _ (hx t (by simp)) (by omega) (b+1) rest (K_tl h2) hc
   cases h6
   refine⟨_,c,?_,h5,rfl⟩
   rw[typF]
   refine(tys_no hK (.inl rfl)).trans (no' hK rfl (yes' hK rfl ?_))
   exact call' h1 (want' h2 rfl (call' h4 rfl))
  ·have hg:(xs.length==1&&isS nm [])=true:=hg
   rw[Bool.and_eq_true,beq_iff_eq]at hg
   obtain⟨x,rfl⟩:=list1 hg.1
   obtain rfl:=isS_B hg.2
   have e2:tkT (.mk 8 (B []) [x])=(2,bs ⟨#[82,101,102]⟩)::(6,[40])::(tkT x++[(6,[41])]):=by rw[tkT];rfl
   rw[e2]at hK hn
   simp only[List.length_cons,List.length_append,List.length_nil]at hn
   rw[List.cons_append,List.cons_append,List.append_assoc]at hK
   have k1:=K_tl hK
   obtain⟨y,b,h1,h2,h3⟩:=eat_T n x _ (hx x (by simp)) (by omega) (a+2) _ (K_tl k1) rfl
   cases h3
   refine⟨_,b+1,?_,K_tl h2,rfl⟩
   rw[typF]
   refine(tys_no hK (.inr rfl)).trans (no' hK rfl (no' hK rfl ?_))
   rw[(lk hK).1]
   refine kind' hK ?_
   rw[show(((⟨#[82,101,102]⟩:ByteArray).toList==(⟨#[82,101,102]⟩:ByteArray).toList)||((⟨#[82,101,102]⟩:ByteArray).toList==(⟨#[67,101,108,108]⟩:ByteArray).toList))=true by rw[bS _ [82,101,102] ⟨#[82,101,102]⟩ rfl,bS _ [67,101,108,108] ⟨#[67,101,108,108]⟩ rfl];rfl,cond_true]
   refine want' k1 rfl (call' h1 (want' h2 rfl ?_))
   rw[show((⟨#[82,101,102]⟩:ByteArray).toList==(⟨#[67,101,108,108]⟩:ByteArray).toList)=false by rw[bS _ [67,101,108,108] ⟨#[67,101,108,108]⟩ rfl];rfl]
   rfl
  ·have hg:(xs.length==1&&isS nm [])=true:=hg
   rw[Bool.and_eq_true,beq_iff_eq]at hg
   obtain⟨x,rfl⟩:=list1 hg.1
   obtain rfl:=isS_B hg.2
   have e2:tkT (.mk 9 (B []) [x])=(2,bs ⟨#[67,101,108,108]⟩)::(6,[40])::(tkT x++[(6,[41])]):=by rw[tkT];rfl
   rw[e2]at hK hn
   simp only[List.length_cons,List.length_append,List.length_nil]at hn
   rw[List.cons_append,List.cons_append,List.append_assoc]at hK
   have k1:=K_tl hK
   obtain⟨y,b,h1,h2,h3⟩:=eat_T n x _ (hx x (by simp)) (by omega) (a+2) _ (K_tl k1) rfl
   cases h3
   refine⟨_,b+1,?_,K_tl h2,rfl⟩
   rw[typF]
   refine(tys_no hK (.inr rfl)).trans (no' hK rfl (no' hK rfl ?_))
   rw[(lk hK).1]
   refine kind' hK ?_
   rw[show(((⟨#[67,101,108,108]⟩:ByteArray).toList==(⟨#[82,101,102]⟩:ByteArray).toList)||((⟨#[67,101,108,108]⟩:ByteArray).toList==(⟨#[67,101,108,108]⟩:ByteArray).toList))=true by rw[bS _ [82,101,102] ⟨#[82,101,102]⟩ rfl,bS _ [67,101,108,108] ⟨#[67,101,108,108]⟩ rfl];rfl,cond_true]
   refine want' k1 rfl (call' h1 (want' h2 rfl ?_))
   rw[show((⟨#[67,101,108,108]⟩:ByteArray).toList==(⟨#[67,101,108,108]⟩:ByteArray).toList)=true by rw[bS _ [67,101,108,108] ⟨#[67,101,108,108]⟩ rfl];rfl]
   rfl
end
end SH
open Go Go.AM TK TR PA
set_option maxRecDepth 100000
namespace SH
theorem dig_num {d:Nat} (h:d<10):(UInt8.ofNat (48+d)).toNat=48+d:=by
 have:∀d:Nat,d<10→(UInt8.ofNat (48+d)).toNat=48+d:=by decide
 exact this d h
theorem uint_dec (M:Nat) (hM:M≤18446744073709551615):∀(m u:Nat) (r:Bs),u≤m→u≤M→Lib.parseUintM M 0 (Lib.decDigits u++r)=Lib.parseUintM M u r
 |m,u,r,hm,hu=>by
  rw[Lib.decDigits]
  split
  ·rename_i h1
   rw[List.cons_append,List.nil_append,Lib.parseUintM,dig_num h1,if_pos (by omega),if_neg (by omega),if_neg (by omega)]
   congr 1
   omega
  ·rename_i h1
   cases m with
   |zero=>omega
   |succ m=>
    rw[List.append_assoc,uint_dec M hM m (u/10) _ (by omega) (by omega),List.cons_append,List.nil_append,Lib.parseUintM,dig_num (by omega),if_pos (by omega),if_neg (by omega),if_neg (by omega)]
    congr 1
    omega
theorem dec_head (u:Nat):∃c r,Lib.decDigits u=c::r∧digitF c=true:=by
 have h:=dec_all u u (Nat.le_refl _)
 cases hd:Lib.decDigits u with
 |nil=>exact absurd hd h.2
 |cons c r=>refine⟨c,r,rfl,?_⟩;rw[hd]at h;simp only[List.all_cons,Bool.and_eq_true]at h;exact h.1.1
theorem uintB_dec {u:Nat} (hu:u≤9223372036854775808):Lib.parseUintB 64 (Lib.decDigits u)=.ok u:=by
 unfold Lib.parseUintB
 rw[if_neg (dec_all u u (Nat.le_refl _)).2]
 have:=uint_dec (2 ^ 64-1) (by decide) u u [] (Nat.le_refl _) (by omega)
 rw[List.append_nil]at this
 rw[this,Lib.parseUintM]
theorem int_pos {u:Nat} (hu:u<9223372036854775808):Lib.parseIntB 64 (Lib.decDigits u)=.ok (u:Int):=by
 obtain⟨c,r,hd,hc⟩:=dec_head u
 have hub:=uintB_dec (u:=u) (by omega)
 rw[hd]at hub ⊢
 unfold digitF bi at hc
 rw[Bool.and_eq_true,decide_eq_true_eq,decide_eq_true_eq]at hc
 unfold Lib.parseIntB
 simp only
 rw[if_neg (by omega),hub]
 simp only
 rw[if_neg (by rintro⟨_,h⟩;have:(2:Nat) ^ (64-1)=9223372036854775808:=by decide
               omega),if_neg (by rintro⟨h,_⟩;omega),if_neg (by omega)]
theorem int_neg {u:Nat} (hu:u≤9223372036854775808):Lib.parseIntB 64 (45::Lib.decDigits u)=.ok (-(u:Int)):=by
 have hub:=uintB_dec hu
 unfold Lib.parseIntB
 simp only
 rw[if_pos (by decide),hub]
 simp only
 rw[if_neg (by rintro⟨h,_⟩;exact h (by decide)),if_neg (by rintro⟨_,h⟩;have:(2:Nat) ^ (64-1)=9223372036854775808:=by decide
                                                           omega),if_pos (by decide)]
theorem numV_ok {s:ByteArray} {v:Int} (h:Lib.parseIntB 64 (bs s)=.ok v):numV s=(v,false):=by
 unfold numV
 rw[h]
section
variable {T:List Tk} {en:Int}
theorem B_bs (l:Bs):bs (B l)=l:=B_data l
theorem num_pos {v:Int} (h0:0≤v) (h1:v≤9223372036854775807) {minus:Bool} {a:Nat} {rest:List TS} (hK:K T a=numT v++rest):numF T en minus a=.ok (v,a+1)∧K T (a+1)=rest:=by
 unfold numT at hK
 rw[decide_eq_false (by omega),cond_false,List.cons_append,List.nil_append]at hK
 refine⟨?_,K_tl hK⟩
 unfold numF
 rw[isF_K hK,show isK ((4,Lib.decDigits v.toNat)::rest) ⟨#[45]⟩=false from rfl,Bool.and_false,cond_false]
 unfold numG
 rw[(lk hK).1,(lk hK).2,bne_self_eq_false,cond_false]
 have hv:numV (⟨#[]⟩++B (Lib.decDigits v.toNat))=(v,false):=by
  refine numV_ok ?_
  have:=int_pos (u:=v.toNat) (by omega)
  rw[show(⟨#[]⟩:ByteArray)++B (Lib.decDigits v.toNat)=B (Lib.decDigits v.toNat) from by rw[show(⟨#[]⟩:ByteArray)=B [] from rfl,B_app];rfl,B_bs,this]
  congr 1
  omega
 rw[hv]
 rfl
theorem num_neg {v:Int} (h0:v<0) (h1:-9223372036854775808≤v) {a:Nat} {rest:List TS} (hK:K T a=numT v++rest):numF T en true a=.ok (v,a+2)∧K T (a+2)=rest:=by
 unfold numT at hK
 rw[decide_eq_true h0,cond_true,List.cons_append,List.cons_append,List.nil_append]at hK
 have k1:=K_tl hK
 refine⟨?_,K_tl k1⟩
 unfold numF
 rw[isF_K hK,show isK ((6,[45])::(4,Lib.decDigits v.natAbs)::rest) ⟨#[45]⟩=true from rfl,Bool.and_true,cond_true]
 unfold numG
 rw[(lk k1).1,(lk k1).2,bne_self_eq_false,cond_false]
 have hv:numV (⟨#[45]⟩++B (Lib.decDigits v.natAbs))=(v,false):=by
  refine numV_ok ?_
  have:=int_neg (u:=v.natAbs) (by omega)
  rw[show(⟨#[45]⟩:ByteArray)++B (Lib.decDigits v.natAbs)=B (45::Lib.decDigits v.natAbs) from by rw[show(⟨#[45]⟩:ByteArray)=B [45] from rfl,B_app];rfl,B_bs,this]
  congr 1
  omega
 rw[hv]
 rfl
theorem num_any {v:Int} (h0:-9223372036854775808≤v) (h1:v≤9223372036854775807) {a:Nat} {rest:List TS} (hK:K T a=numT v++rest):∃b,numF T en true a=.ok (v,b)∧K T b=rest:=by
 by_cases h:v<0
 ·exact⟨_,num_neg h h0 hK⟩
 ·exact⟨_,num_pos (by omega) h1 hK⟩
def i64 (v:Int):Prop:=-9223372036854775808≤v∧v≤9223372036854775807
mutual
def rgP:Pt→Prop
 |.mk _ m _ xs=>i64 m∧rgPs xs
def rgPs:List Pt→Prop
 | []=>True
 |p::r=>rgP p∧rgPs r
end
theorem rgPs_of:∀{l:List Pt},rgPs l→∀x∈l,rgP x
 | [],_=>by simp
 |y::r,h=>by
  rw[rgPs]at h
  intro x hx
  rcases List.mem_cons.1 hx with rfl|hx
  ·exact h.1
  ·exact rgPs_of h.2 x hx
theorem hd_num (v:Int):hdOK (numT v)=true:=by
 unfold numT
 cases decide (v<0)<;>rfl
theorem hd_P {t:Pt} (h:rP t=0):hdOK (tkP t)=true:=by
 obtain⟨k,m,n,xs⟩:=t
 obtain⟨h5,hk,ht,hn,hx0,hl,hx⟩:=rP_inv h
 rcases (by omega:k=1∨k=2∨k=3∨k=4∨k=5∨k=6) with rfl|rfl|rfl|rfl|rfl|rfl
 ·rw[tkP];rfl
 ·rw[tkP];rfl
 ·rw[tkP];exact hd_num m
 ·rw[tkP]
  show hdOK [(3,booB m)]=true
  unfold booB
  cases m==0<;>rfl
 ·rw[tkP];rfl
 ·rw[tkP6];rfl
theorem eat_P:∀(n:Nat) (t:Pt),rP t=0→rgP t→(tkP t).length≤n→Eat T (patF T en n) (tkP t) fol id t
 |0,t,h,_,hn=>by
  have:=hd_P h
  cases hq:tkP t with
  |nil=>rw[hq]at this;cases this
  |cons _ _=>rw[hq]at hn;simp at hn
 |n+1,.mk k m nm xs,h,hr,hn=>by
  obtain⟨h5,hk,ht,hnm,hx0,hl,hx⟩:=rP_inv h
  rw[rgP]at hr
  have hrx:=rgPs_of hr.2
  have hsub:∀x∈xs,(tkP x).length≤(comT (xs.map tkP)).length:=fun x hx=>sepT_len (List.mem_map_of_mem hx)
  intro a rest hK hc
  rcases (by omega:k=1∨k=2∨k=3∨k=4∨k=5∨k=6) with rfl|rfl|rfl|rfl|rfl|rfl
  ·obtain rfl:=hx0 (by decide)
   obtain rfl:m=0:=eq_of_beq (show(m==0)=true from hnm)
   obtain rfl:=isS_B (s:=nm) (show isS nm []=true from ht)
   rw[tkP]at hK
   refine⟨_,a+1,?_,K_tl (t:=(6,[95])) hK,rfl⟩
   rw[patF]
   exact yes' (l:=(6,[95])::rest) hK rfl rfl
  ·obtain rfl:=hx0 (by decide)
   obtain rfl:m=0:=eq_of_beq (show(m==0)=true from hnm)
   have e2:tkP (.mk 2 0 nm [])=[(1,bs nm)]:=by rw[tkP];rfl
   rw[e2]at hK
   have hK:K T a=(1,bs nm)::rest:=hK
   refine⟨_,a+1,?_,K_tl hK,rfl⟩
   rw[patF]
   refine no' hK rfl (no' hK rfl (no' hK rfl ?_))
   rw[(lk hK).1]
   exact kind' hK rfl
  ·obtain rfl:=hx0 (by decide)
   obtain rfl:=isS_B (s:=nm) (show isS nm []=true from ht)
   have e2:tkP (.mk 3 m (B []) [])=numT m:=by rw[tkP];rfl
   rw[e2]at hK
   obtain⟨b,h1,h2⟩:=num_any (en:=en) hr.1.1 hr.1.2 hK
   refine⟨_,b,?_,h2,rfl⟩
   rw[patF]
   unfold numT at hK
   cases hd:decide (m<0) with
   |true=>
    rw[hd]at hK
    have hK:K T a=(6,[45])::(4,Lib.decDigits m.natAbs)::rest:=hK
    refine no' hK rfl (no' hK rfl (no' hK rfl ?_))
    rw[(lk hK).1,isF_K hK]
    exact call' h1 rfl
   |false=>
    rw[hd]at hK
    have hK:K T a=(4,Lib.decDigits m.toNat)::rest:=hK
    refine no' hK rfl (no' hK rfl (no' hK rfl ?_))
    rw[(lk hK).1,isF_K hK]
    exact call' h1 rfl
  ·obtain rfl:=hx0 (by decide)
   obtain rfl:=isS_B (s:=nm) (show isS nm []=true from ht)
   have e2:tkP (.mk 4 m (B []) [])=[(3,booB m)]:=by rw[tkP];rfl
   rw[e2]at hK
   have hm:(m==0||m==1)=true:=hnm
   rw[Bool.or_eq_true,beq_iff_eq,beq_iff_eq]at hm
   rcases hm with rfl|rfl
   ·have hK:K T a=(3,[102,97,108,115,101])::rest:=hK
    refine⟨_,a+1,?_,K_tl hK,rfl⟩
    rw[patF]
    exact no' hK rfl (no' hK rfl (yes' hK rfl rfl))
   ·have hK:K T a=(3,[116,114,117,101])::rest:=hK
    refine⟨_,a+1,?_,K_tl hK,rfl⟩
    rw[patF]
    exact no' hK rfl (yes' hK rfl rfl)
  ·obtain rfl:=hx0 (by decide)
   obtain rfl:m=0:=eq_of_beq (show(m==0)=true from hnm)
   have e2:tkP (.mk 5 0 nm [])=[(5,bs nm)]:=by rw[tkP];rfl
   rw[e2]at hK
   have hK:K T a=(5,bs nm)::rest:=hK
   refine⟨_,a+1,?_,K_tl hK,rfl⟩
   rw[patF]
   refine no' hK rfl (no' hK rfl (no' hK rfl ?_))
   rw[(lk hK).1,(lk hK).2,isF_K hK,←B_of]
   rfl
  ·obtain rfl:m=0:=eq_of_beq (show(m==0)=true from hnm)
   rw[tkP6]at hK hn
   rw[List.cons_append]at hK
   have key:∀(ys:List Pt) (b:Nat),maybeF T en (patF T en n) (a+1)=.ok (ys,b)→patF T en (n+1) a=.ok (.mk 6 0 nm ys,b):=by
    intro ys b hm
    rw[patF]
    refine no' hK rfl (no' hK rfl (no' hK rfl ?_))
    rw[(lk hK).1,isF_K hK]
    exact kind' hK (call' hm rfl)
   cases xs with
   |nil=>exact⟨_,a+1,key [] _ (maybe_none (K_tl hK) hc),K_tl hK,rfl⟩
   |cons x l=>
    simp only[List.length_cons,show((l.length+1==0)=false) from rfl,cond_false,List.length_append]at hn
    obtain⟨ys,b,h1,h2,h3⟩:=eat_maybe (T:=T) (en:=en) (F:=patF T en n) tkP id id x l (fun y hy=>eat_P n y (hx y hy) (hrx y hy) (by have:=hsub y hy;omega)) (a+1) rest (K_tl hK) rfl
    rw[id_map,id_map]at h3
    subst h3
    exact⟨_,b,key _ _ h1,h2,rfl⟩
end
end SH
open Go Go.AM TK TR PA
set_option maxRecDepth 100000
namespace SH
mutual
def cl:Ex→Ex
 |.mk k n t ns ts xs ms _=>.mk k n t ns ts (cls' xs) (clA ms) 0
def cls':List Ex→List Ex
 | []=>[]
 |e::r=>cl e::cls' r
def clA:List Arm→List Arm
 | []=>[]
 |.mk p e::r=>.mk p (cl e)::clA r
end
def clM (a:Arm):Arm:=.mk a.pat (cl a.body)
theorem clM_mk (p:Pt) (e:Ex):clM (.mk p e)=.mk p (cl e):=rfl
theorem cls_map (l:List Ex):cls' l=l.map cl:=by
 induction l with
 |nil=>rfl
 |cons t r ih=>simp[cls',ih]
theorem clA_map (l:List Arm):clA l=l.map clM:=by
 induction l with
 |nil=>rfl
 |cons t r ih=>cases t with|mk p e=>rw[clA,ih];rfl
theorem cl_mk (k n:Int) (t:ByteArray) (ns:List ByteArray) (ts:List Ty) (xs:List Ex) (ms:List Arm) (p:Int):cl (.mk k n t ns ts xs ms p)=.mk k n t ns ts (xs.map cl) (ms.map clM) 0:=by rw[cl,cls_map,clA_map]
mutual
def rgE:Ex→Prop
 |.mk _ n _ _ _ xs ms _=>i64 n∧rgEs xs∧rgAs ms
def rgEs:List Ex→Prop
 | []=>True
 |e::r=>rgE e∧rgEs r
def rgAs:List Arm→Prop
 | []=>True
 |.mk p e::r=>rgP p∧rgE e∧rgAs r
end
def rgA (a:Arm):Prop:=rgP a.pat∧rgE a.body
theorem rgEs_of:∀{l:List Ex},rgEs l→∀x∈l,rgE x
 | [],_=>by simp
 |y::r,h=>by
  rw[rgEs]at h
  intro x hx
  rcases List.mem_cons.1 hx with rfl|hx
  ·exact h.1
  ·exact rgEs_of h.2 x hx
theorem rgAs_of:∀{l:List Arm},rgAs l→∀x∈l,rgA x
 | [],_=>by simp
 |.mk p e::r,h=>by
  rw[rgAs]at h
  intro x hx
  rcases List.mem_cons.1 hx with rfl|hx
  ·exact⟨h.1,h.2.1⟩
  ·exact rgAs_of h.2.2 x hx
section
variable {T:List Tk} {en:Int}
theorem op_word {s:Bs} (h:s∈opsW):opT s=(3,s)∨opT s=(6,s):=by unfold opT;cases wordF s<;>simp
theorem ops_no {a:Nat} {k:Int} {x:Bs} {r:List TS} {z:PR ByteArray} (hk:(k==3||k==6)=true) (h:K T a=(k,x)::r):∀(l:List ByteArray),x∈l.map bs→basesF T a z l=.ok (B x,a+1)
 | [],hm=>by simp at hm
 |s::q,hm=>by
  rw[basesF]
  cases hx:x==bs s with
  |true=>
   have e:=eq_of_beq hx
   subst e
   rw[←B_of]
   exact yes' h (by show((k==3||k==6)&&bs s==bs s)=true;rw[hk,hx];rfl) rfl
  |false=>
   refine no' h (by show((k==3||k==6)&&x==bs s)=false;rw[hk,hx];rfl) (ops_no hk h q ?_)
   rw[List.map_cons]at hm
   rcases List.mem_cons.1 hm with e|hm
   ·rw[e]at hx;simp at hx
   ·exact hm
theorem ops_eq:PA.opsW.map bs=SH.opsW:=by decide +kernel
theorem op_back {a:Nat} {s:Bs} {r:List TS} (hs:s∈SH.opsW) (h:K T a=opT s::r):operatorF T en a=.ok (B s,a+1):=by
 unfold operatorF
 rcases op_word hs with q|q<;>rw[q]at h<;>exact ops_no rfl h _ (by rw[ops_eq];exact hs)
theorem op_fol {s:Bs} (hs:s∈SH.opsW) (r:List TS):fol (opT s::r)=true:=by
 have hm:SH.opsW=[[43],[45],[42],[47],[37],[60],[61],[94],[97,110,100],[111,114]]:=by decide +kernel
 have hw:∀s∈SH.opsW,wordF s=(s==[97,110,100]||s==[111,114]):=by rw[hm];decide +kernel
 have:opT s=(bif (s==[97,110,100]||s==[111,114]) then 3 else 6,s):=by unfold opT;rw[hw s hs]
 rw[this]
 rw[hm]at hs
 simp only[List.mem_cons,List.not_mem_nil,or_false]at hs
 rcases hs with rfl|rfl|rfl|rfl|rfl|rfl|rfl|rfl|rfl|rfl<;>rfl
def Sub (T:List Tk) (Es:Nat→PR Ex) (N:Nat):Prop:=∀x,Rt x→rgE x→(tkE x).length<N→Eat T Es (tkE x) fol cl (cl x)
theorem paF_eat {p:Pt} (h:rP p=0) (hr:rgP p):Eat T (paF T en) (tkP p) fol id p:=by
 intro a rest hK hc
 have hl:(tkP p).length≤T.length+1:=by
  have:=K_len (T:=T) (a:=a)
  rw[hK,List.length_append]at this
  omega
 exact eat_P _ p h hr hl a rest hK hc
theorem tyF_eat {t:Ty} {lv:Nat} (h:rT t lv=0):Eat T (tyF T en) (tkT t) fol id t:=by
 intro a rest hK hc
 have hl:(tkT t).length≤T.length+1:=by
  have:=K_len (T:=T) (a:=a)
  rw[hK,List.length_append]at this
  omega
 exact eat_T _ t lv h hl a rest hK hc
theorem arms_go {Es:Nat→PR Ex} {N:Nat} (hE:Sub T Es N):∀(l:List Arm) (x:Arm),(∀a∈x::l,RA a∧rgA a∧(tkA a).length≤N)→∀(m:Nat) (out:List Arm) (a:Nat) (rest:List TS),l.length<m→K T a=tkA x++((l.map tkA).map ((6,[59])::·)).flatten++(6,[125])::rest→
 ∃ys b,armsGo T en Es m out a=.ok (out++ys,b)∧K T b=rest∧ys.map clM=(x::l).map clM
 |l,x,hx,0,out,a,rest,hm,_=>by omega
 |l,x,hx,m+1,out,a,rest,hm,hK=>by
  obtain⟨hr,hg,hn⟩:=hx x (by simp)
  obtain⟨p,e⟩:=x
  have h1:rP p=0:=hr.1
  have h2:Rt e:=hr.2
  have hn:(tkP p++(6,[61,62])::tkE e).length≤N:=hn
  rw[List.length_append,List.length_cons]at hn
  have hK:K T a=tkP p++((6,[61,62])::(tkE e++(((l.map tkA).map ((6,[59])::·)).flatten++(6,[125])::rest))):=by rw[hK,tkA];simp[Arm.pat,Arm.body]
  obtain⟨q,b,k1,k2,k3⟩:=paF_eat (en:=en) h1 hg.1 a _ hK rfl
  cases k3
  have hf:fol (((l.map tkA).map ((6,[59])::·)).flatten++(6,[125])::rest)=true:=by cases l<;>rfl
  obtain⟨y,d,k4,k5,k6⟩:=hE e h2 hg.2 (by omega) (b+1) _ (K_tl k2) hf
  rw[armsGo]
  cases l with
  |nil=>
   have k5:K T d=(6,[125])::rest:=by simpa using k5
   refine⟨[.mk q y],d+1,?_,K_tl k5,by show clM (.mk q y)::[]=clM (.mk q e)::[];rw[clM_mk,clM_mk,k6]⟩
   exact call' k1 (want' k2 rfl (call' k4 (no' k5 rfl (want' k5 rfl rfl))))
  |cons z r=>
   have k5:K T d=(6,[59])::(tkA z++((r.map tkA).map ((6,[59])::·)).flatten++(6,[125])::rest):=by rw[k5];simp
   obtain⟨ys,f,k7,k8,k9⟩:=arms_go hE r z (fun w hw=>hx w (by simp[hw])) m (out++[.mk q y]) (d+1) rest (by simp at hm;omega) (K_tl k5)
   refine⟨.mk q y::ys,f,?_,k8,by show clM (.mk q y)::ys.map clM=clM (.mk q e)::(z::r).map clM;rw[k9,clM_mk,clM_mk,k6]⟩
   refine call' k1 (want' k2 rfl (call' k4 (yes' k5 rfl ?_)))
   rw[k7];simp
theorem arms_back {Es:Nat→PR Ex} {N:Nat} (hE:Sub T Es N) (x:Arm) (l:List Arm) (hx:∀a∈x::l,RA a∧rgA a∧(tkA a).length≤N):Eat T (armsF T en Es) (sepT (6,[59]) ((x::l).map tkA)++[(6,[125])]) free (List.map clM) ((x::l).map clM):=by
 intro a rest hK _
 have hK:K T a=tkA x++((l.map tkA).map ((6,[59])::·)).flatten++(6,[125])::rest:=by rw[hK,List.map_cons,sepT_cons];simp
 have hlen:l.length<T.length+1:=by
  have q:=K_len (T:=T) (a:=a)
  rw[hK,List.length_append,List.length_append]at q
  have h9:l.length≤(((l.map tkA).map ((6,[59])::·)).flatten).length:=by
   have:=flat_len (6,[59]) (l.map tkA)
   rwa [List.length_map]at this
  omega
 obtain⟨ys,b,h1,h2,h3⟩:=arms_go (en:=en) hE l x hx (T.length+1) [] a rest hlen hK
 exact⟨ys,b,h1,h2,h3⟩
theorem par_back {x:ByteArray×Ty} (h1:rT x.2 1=0):Eat T (parF T en) ((1,bs x.1)::(6,[58])::tkT x.2) fol id x:=by
 intro a rest hK hc
 rw[List.cons_append,List.cons_append]at hK
 have k1:=K_tl hK
 obtain⟨t,b,h2,h3,h4⟩:=tyF_eat (en:=en) h1 (a+2) rest (K_tl k1) hc
 cases h4
 exact⟨x,b,by unfold parF;exact kind' hK (want' k1 rfl (call' h2 rfl)),h3,rfl⟩
theorem names_back (ns:List ByteArray) (ts:List Ty) (hl:ns.length=ts.length) (ht:∀t∈ts,rT t 1=0):Eat T (namesF T en) (namesT ns ts) free id (ns,ts):=by
 intro a rest hK _
 have hz:List.zipWith (fun s t=>(1,bs s)::(6,[58])::tkT t) ns ts=(List.zip ns ts).map (fun x:ByteArray×Ty=>(1,bs x.1)::(6,[58])::tkT x.2):=by rw[List.map_zip_eq_zipWith];rfl
 unfold namesT at hK
 rw[hz]at hK
 obtain⟨ys,b,h1,h2,h3⟩:=eat_inside (en:=en) (F:=parF T en) (fun x:ByteArray×Ty=>((1,bs x.1)::(6,[58])::tkT x.2:List TS)) id id (List.zip ns ts) (fun x hx=>par_back (ht _ (List.of_mem_zip hx).2)) (fun _ _=>rfl) a rest hK rfl
 rw[id_map,id_map]at h3
 subst h3
 refine⟨_,b,by unfold namesF;exact call' h1 rfl,h2,?_⟩
 rw[List.map_fst_zip (by omega),List.map_snd_zip (by omega)]
 rfl
end
end SH
open Go Go.AM TK TR PA
set_option maxRecDepth 100000
namespace SH
section
variable {T:List Tk} {en:Int} {Es:Nat→PR Ex}
theorem pack {X:PR Ex} {rest:List TS} {v:Ex} {y:Ex} {b:Nat} (h1:X=.ok (y,b)) (h2:K T b=rest) (h3:cl y=v):∃y b,X=.ok (y,b)∧K T b=rest∧cl y=v:=⟨y,b,h1,h2,h3⟩
theorem form_word {a:Nat} {x:Bs} {r:List TS} (h:K T a=(3,x)::r):formF T en Es a=wordE T en Es a:=by
 unfold formF;rw[(lk h).1];rfl
theorem form_sign {a:Nat} {x:Bs} {r:List TS} (h:K T a=(6,x)::r):formF T en Es a=bif isF T ⟨#[45]⟩ a then bindP (numF T en true a) fun v b=>.ok (.mk 2 v empS [] [] [] [] 0,b) else bif isF T opn a then bracketF T en Es (a+1) else .error (placeF T en a):=by
 unfold formF;rw[(lk h).1];rfl
theorem form_int {a:Nat} {x:Bs} {r:List TS} (h:K T a=(4,x)::r):formF T en Es a=bindP (numF T en false a) fun v b=>.ok (.mk 2 v empS [] [] [] [] 0,b):=by
 unfold formF;rw[(lk h).1];rfl
theorem form_text {a:Nat} {s:ByteArray} {r:List TS} (h:K T a=(5,bs s)::r):formF T en Es a=.ok (.mk 4 0 s [] [] [] [] 0,a+1):=by
 unfold formF;rw[(lk h).1,(lk h).2,←B_of];rfl
theorem form_low {a:Nat} {s:ByteArray} {r:List TS} (h:K T a=(1,bs s)::r):formF T en Es a=bif isF T opn (a+1) then bindP (insideF T en Es (a+1)) fun l b=>.ok (.mk 9 0 s [] [] l [] 0,b) else .ok (.mk 5 0 s [] [] [] [] 0,a+1):=by
 unfold formF;rw[(lk h).1,(lk h).2,←B_of];rfl
theorem form_up {a:Nat} {s:ByteArray} {r:List TS} (h:K T a=(2,bs s)::r):formF T en Es a=bindP (maybeF T en Es (a+1)) fun l b=>.ok (.mk 12 0 s [] [] l [] 0,b):=by
 unfold formF;rw[(lk h).1,(lk h).2,←B_of];rfl
theorem form_open {a:Nat} {r:List TS} (h:K T a=(6,[40])::r):formF T en Es a=bracketF T en Es (a+1):=by
 rw[form_sign h];exact no' h rfl (yes' h rfl rfl)
theorem single_B (x:Bs):singleF (B x)=bif x==[102,97,105,108] then 19 else bif x==[115,97,121] then 20 else bif x==[99,101,108,108] then 21 else bif x==[103,101,116] then 22 else bif x==[119,97,116,99,104] then 24 else bif x==[108,105,110,107] then 25 else 0:=by
 unfold singleF
 rw[bS _ [102,97,105,108] ⟨#[102,97,105,108]⟩ rfl,bS _ [115,97,121] ⟨#[115,97,121]⟩ rfl,bS _ [99,101,108,108] ⟨#[99,101,108,108]⟩ rfl,bS _ [103,101,116] ⟨#[103,101,116]⟩ rfl,bS _ [119,97,116,99,104] ⟨#[119,97,116,99,104]⟩ rfl,bS _ [108,105,110,107] ⟨#[108,105,110,107]⟩ rfl]
 unfold isS
 rw[B_data]
theorem hd_E {e:Ex} (h:Rt e):hdOK (tkE e)=true:=by
 have hs:=shape _ h
 clear h
 cases hs with
 |unit=>rw[tkE];rfl
 |int n=>rw[tkE];exact hd_num n
 |bool m=>
  rw[tkE]
  show hdOK [(3,booB m)]=true
  unfold booB
  cases m==0<;>rfl
 |text=>rw[tkE];rfl
 |var=>rw[tkE];rfl
 |lett=>rw[tkE];rfl
 |iff=>rw[tkE];rfl
 |nott=>rw[tkE];rfl
 |op=>rw[tkE];rfl
 |call=>rw[tkE];rfl
 |func=>rw[tkE];rfl
 |apply=>rw[tkE];rfl
 |make=>rw[tkE];rfl
 |mat=>rw[tkE];rfl
 |spawn=>rw[tkE];rfl
 |self=>rw[tkE];rfl
 |become=>rw[tkE];rfl
 |recv=>rw[tkE];rfl
 |after=>rw[tkE];rfl
 |one k x p hk=>rcases hk with rfl|rfl|rfl|rfl|rfl|rfl<;>(rw[tkE];rfl)
 |two k x y p hk=>rcases hk with rfl|rfl<;>(rw[tkE];rfl)
theorem args_sub {N:Nat} (hE:Sub T Es N) (xs:List Ex) (hx:∀x∈xs,Rt x) (hg:∀x∈xs,rgE x) (hn:(comT (xs.map tkE)).length<N):∀x∈xs,Eat T Es (tkE x) fol cl (cl x):=fun x hx'=>
 hE x (hx x hx') (hg x hx') (by have:(tkE x).length≤(comT (xs.map tkE)).length:=sepT_len (List.mem_map_of_mem hx');omega)
theorem args_back {N:Nat} (hE:Sub T Es N) (xs:List Ex) (hx:∀x∈xs,Rt x) (hg:∀x∈xs,rgE x) (hn:(comT (xs.map tkE)).length<N):Eat T (insideF T en Es) ((6,[40])::(comT (xs.map tkE)++[(6,[41])])) free (List.map cl) (xs.map cl):=
 eat_inside tkE cl cl xs (args_sub hE xs hx hg hn) (fun x hx'=>hd_E (hx x hx'))
theorem argsT_map (xs:List Ex):argsT (tkEs xs)=(6,[40])::(comT (xs.map tkE)++[(6,[41])]):=by rw[argsT,tkEs_map]
theorem two_back {N:Nat} (hE:Sub T Es N) {x y:Ex} (hx:Rt x) (hy:Rt y) (gx:rgE x) (gy:rgE y) (nx:(tkE x).length<N) (ny:(tkE y).length<N) (k:Int) {a:Nat} {rest:List TS} (hK:K T a=(6,[40])::(tkE x++(6,[44])::(tkE y++(6,[41])::rest))):
 ∃z b,twoF T en Es k a=.ok (z,b)∧K T b=rest∧cl z=.mk k 0 emp [] [] [cl x,cl y] [] 0:=by
 obtain⟨x',b,h1,h2,h3⟩:=hE x hx gx nx (a+1) _ (K_tl hK) rfl
 obtain⟨y',c,h4,h5,h6⟩:=hE y hy gy ny (b+1) _ (K_tl h2) rfl
 apply pack (b:=c+1) (h2:=K_tl h5)
 ·unfold twoF
  exact want' hK rfl (call' h1 (want' h2 rfl (call' h4 (want' h5 rfl rfl))))
 ·rw[cl_mk,List.map_cons,List.map_cons,h3,h6];rfl
theorem tkAs_len {a:Arm} {ms:List Arm} (h:a∈ms):(tkA a).length≤(sepT (6,[59]) (tkAs ms)).length:=by
 rw[tkAs_map];exact sepT_len (List.mem_map_of_mem h)
theorem recv_ms {N:Nat} (hE:Sub T Es N) (ms:List Arm) (hm:∀a∈ms,RA a∧rgA a∧(tkA a).length≤N) {a:Nat} {rest:List TS} (hK:K T a=sepT (6,[59]) (ms.map tkA)++(6,[125])::rest):∃ys b,msF T en Es a=.ok (ys,b)∧K T b=rest∧ys.map clM=ms.map clM:=by
 cases ms with
 |nil=>exact⟨[],a+1,by unfold msF;exact yes' hK rfl rfl,K_tl hK,rfl⟩
 |cons x l=>
  obtain⟨ys,b,h1,h2,h3⟩:=arms_back (en:=en) hE x l hm a rest (by rw[hK];simp) rfl
  refine⟨ys,b,?_,h2,h3⟩
  unfold msF
  refine no' hK ?_ h1
  have h0:=(hm x (by simp)).1.1
  have hh:=hd_P h0
  rw[List.map_cons,sepT_cons,tkA,List.append_assoc,List.append_assoc]
  exact hd_no hh (by decide) _
theorem tkArms (ms:List Arm):armsT (tkAs ms)=(6,[123])::(sepT (6,[59]) (ms.map tkA)++[(6,[125])]):=by rw[armsT,tkAs_map]
theorem form_back {N:Nat} (hE:Sub T Es N) (e:Ex) (h:Rt e) (hg:rgE e) (hn:(tkE e).length≤N):Eat T (formF T en Es) (tkE e) fol cl (cl e):=by
 intro a rest hK hc
 have hs:=shape _ h
 clear h
 cases hs with
 |unit p=>
  rw[tkE]at hK
  have hK:K T a=(6,[40])::(6,[41])::rest:=hK
  have k1:=K_tl hK
  apply pack (b:=a+2) (h2:=K_tl k1)
  ·rw[form_open hK];unfold bracketF;exact yes' k1 rfl rfl
  ·rw[cl_mk,cl_mk];rfl
 |int m p=>
  rw[tkE]at hK
  have hK:K T a=numT m++rest:=hK
  rw[rgE]at hg
  have hg:=hg.1
  by_cases h0:m<0
  ·obtain⟨q1,q2⟩:=num_neg (en:=en) h0 hg.1 hK
   apply pack (b:=a+2) (h2:=q2)
   ·unfold numT at hK
    rw[decide_eq_true h0]at hK
    have hK:K T a=(6,[45])::(4,Lib.decDigits m.natAbs)::rest:=hK
    rw[form_sign hK]
    exact yes' hK rfl (call' q1 rfl)
   ·rw[cl_mk,cl_mk];rfl
  ·obtain⟨q1,q2⟩:=num_pos (en:=en) (minus:=false) (by omega) hg.2 hK
   apply pack (b:=a+1) (h2:=q2)
   ·unfold numT at hK
    rw[decide_eq_false h0]at hK
    have hK:K T a=(4,Lib.decDigits m.toNat)::rest:=hK
    rw[form_int hK]
    exact call' q1 rfl
   ·rw[cl_mk,cl_mk];rfl
 |bool m p h=>
  rw[tkE]at hK
  rcases h with rfl|rfl
  ·have hK:K T a=(3,[102,97,108,115,101])::rest:=hK
   apply pack (b:=a+1) (h2:=K_tl hK)
   ·rw[form_word hK];unfold wordE;exact no' hK rfl (yes' hK rfl rfl)
   ·rw[cl_mk,cl_mk];rfl
  ·have hK:K T a=(3,[116,114,117,101])::rest:=hK
   apply pack (b:=a+1) (h2:=K_tl hK)
   ·rw[form_word hK];unfold wordE;exact yes' hK rfl rfl
   ·rw[cl_mk,cl_mk];rfl
 |text t p h=>
  rw[tkE]at hK
  have hK:K T a=(5,bs t)::rest:=hK
  exact⟨_,a+1,form_text hK,K_tl hK,by rw[cl_mk,cl_mk]⟩
 |var t p h=>
  rw[tkE]at hK
  have hK:K T a=(1,bs t)::rest:=hK
  apply pack (b:=a+1) (h2:=K_tl hK)
  ·rw[form_low hK];exact no' (K_tl hK) (fol_open hc) rfl
  ·rw[cl_mk,cl_mk]
 |lett t x y p h hx hy=>
  have e2:tkE (.mk 6 0 t [] [] [x,y] [] p)=(3,[108,101,116])::(1,bs t)::(6,[61])::(tkE x++(3,[105,110])::tkE y):=by rw[tkE];simp[tkEs]
  rw[e2]at hK hn
  simp only[List.length_cons,List.length_append]at hn
  simp only[List.cons_append,List.append_assoc]at hK
  simp only[rgE,rgEs]at hg
  have k1:=K_tl hK
  have k2:=K_tl k1
  obtain⟨x',b,h1,h2,h3⟩:=hE x hx hg.2.1.1 (by omega) (a+3) _ (K_tl k2) rfl
  obtain⟨y',c,h4,h5,h6⟩:=hE y hy hg.2.1.2.1 (by omega) (b+1) _ (K_tl h2) hc
  apply pack (b:=c) (h2:=h5)
  ·rw[form_word hK]
   unfold wordE
   refine no' hK rfl (no' hK rfl (no' hK rfl (yes' hK rfl ?_)))
   exact kind' k1 (want' k2 rfl (call' h1 (want' h2 rfl (call' h4 rfl))))
  ·rw[cl_mk,cl_mk,List.map_cons,List.map_cons,h3,h6];rfl
 |iff x y z p hx hy hz=>
  have e2:tkE (.mk 7 0 emp [] [] [x,y,z] [] p)=(3,[105,102])::(tkE x++(3,[116,104,101,110])::(tkE y++(3,[101,108,115,101])::tkE z)):=by rw[tkE];simp[tkEs]
  rw[e2]at hK hn
  simp only[List.length_cons,List.length_append]at hn
  simp only[List.cons_append,List.append_assoc]at hK
  simp only[rgE,rgEs]at hg
  obtain⟨x',b,h1,h2,h3⟩:=hE x hx hg.2.1.1 (by omega) (a+1) _ (K_tl hK) rfl
  obtain⟨y',c,h4,h5,h6⟩:=hE y hy hg.2.1.2.1 (by omega) (b+1) _ (K_tl h2) rfl
  obtain⟨z',d,h7,h8,h9⟩:=hE z hz hg.2.1.2.2.1 (by omega) (c+1) _ (K_tl h5) hc
  apply pack (b:=d) (h2:=h8)
  ·rw[form_word hK]
   unfold wordE
   refine no' hK rfl (no' hK rfl (no' hK rfl (no' hK rfl (yes' hK rfl ?_))))
   exact call' h1 (want' h2 rfl (call' h4 (want' h5 rfl (call' h7 rfl))))
  ·rw[cl_mk,cl_mk,List.map_cons,List.map_cons,List.map_cons,h3,h6,h9];rfl
 |nott x p hx=>
  have e2:tkE (.mk 8 0 (B [110,111,116]) [] [] [x] [] p)=(6,[40])::(3,[110,111,116])::(tkE x++[(6,[41])]):=by rw[tkE];simp[tkEs]
  rw[e2]at hK hn
  simp only[List.length_cons,List.length_append]at hn
  simp only[List.cons_append,List.append_assoc]at hK
  simp only[rgE,rgEs]at hg
  have k1:=K_tl hK
  obtain⟨x',b,h1,h2,h3⟩:=hE x hx hg.2.1.1 (by omega) (a+2) _ (K_tl k1) rfl
  apply pack (b:=b+1) (h2:=K_tl h2)
  ·rw[form_open hK]
   unfold bracketF
   refine no' k1 rfl (yes' k1 rfl (call' h1 ?_))
   unfold lastB
   exact want' h2 rfl rfl
  ·rw[cl_mk,cl_mk,List.map_cons,List.map_cons,h3];rfl
 |op t x y p h hx hy=>
  have e2:tkE (.mk 8 0 t [] [] [x,y] [] p)=(6,[40])::(tkE x++opT (bs t)::(tkE y++[(6,[41])])):=by rw[tkE];simp[tkEs]
  rw[e2]at hK hn
  simp only[List.length_cons,List.length_append]at hn
  simp only[List.cons_append,List.append_assoc]at hK
  simp only[rgE,rgEs]at hg
  have k1:=K_tl hK
  obtain⟨x',b,h1,h2,h3⟩:=hE x hx hg.2.1.1 (by omega) (a+1) _ k1 (op_fol h _)
  obtain⟨y',c,h4,h5,h6⟩:=hE y hy hg.2.1.2.1 (by omega) (b+1) _ (K_tl h2) rfl
  apply pack (b:=c+1) (h2:=K_tl h5)
  ·rw[form_open hK]
   unfold bracketF
   have hh:=hd_E hx
   refine no' k1 (hd_no hh (by decide) _) (no' k1 (hd_no hh (by decide) _) (no' k1 (hd_no hh (by decide) _) (call' h1 (call' (op_back h h2) (call' h4 ?_)))))
   unfold lastB
   exact want' h5 rfl rfl
  ·rw[←B_of,cl_mk,cl_mk,List.map_cons,List.map_cons,h3,h6];rfl
 |call t xs p h hl hx=>
  have e2:tkE (.mk 9 0 t [] [] xs [] p)=(1,bs t)::(6,[40])::(comT (xs.map tkE)++[(6,[41])]):=by rw[tkE,argsT_map];rfl
  rw[e2]at hK hn
  simp only[List.length_cons,List.length_append]at hn
  rw[List.cons_append]at hK
  rw[rgE]at hg
  obtain⟨ys,b,h1,h2,h3⟩:=args_back (en:=en) hE xs hx (rgEs_of hg.2.1) (by omega) (a+1) rest (K_tl hK) rfl
  apply pack (b:=b) (h2:=h2)
  ·rw[form_low hK]
   exact yes' (K_tl hK) rfl (call' h1 rfl)
  ·rw[cl_mk,cl_mk,h3]
 |func ns ts x p hl hns hts hx=>
  have e2:tkE (.mk 10 0 emp ns ts [x] [] p)=(6,[40])::(3,[102,117,110])::(namesT ns ts++(6,[61,62])::(tkE x++[(6,[41])])):=by rw[tkE];simp[tkEs]
  rw[e2]at hK hn
  simp only[List.length_cons,List.length_append]at hn
  simp only[List.cons_append,List.append_assoc]at hK
  simp only[rgE,rgEs]at hg
  have k1:=K_tl hK
  obtain⟨nt,b,h1,h2,h3⟩:=names_back (en:=en) ns ts hl (each_zero hts) (a+2) _ (K_tl k1) rfl
  cases h3
  obtain⟨x',c,h4,h5,h6⟩:=hE x hx hg.2.1.1 (by omega) (b+1) _ (K_tl h2) rfl
  apply pack (b:=c+1) (h2:=K_tl h5)
  ·rw[form_open hK]
   unfold bracketF
   refine no' k1 rfl (no' k1 rfl (yes' k1 rfl (call' h1 (want' h2 rfl (call' h4 ?_)))))
   unfold lastB
   exact want' h5 rfl rfl
  ·rw[cl_mk,cl_mk,List.map_cons,List.map_cons,h6];rfl
 |apply x xs p hl h0 hx=>
  have e2:tkE (.mk 11 0 emp [] [] (x::xs) [] p)=(3,[97,112,112,108,121])::(6,[40])::(comT ((x::xs).map tkE)++[(6,[41])]):=by rw[tkE,argsT_map];rfl
  rw[e2]at hK hn
  simp only[List.length_cons,List.length_append]at hn
  rw[List.cons_append,List.cons_append,List.append_assoc]at hK
  rw[rgE]at hg
  have k1:=K_tl hK
  obtain⟨ys,b,h1,h2,h3⟩:=eat_list tkE cl cl x xs (args_sub hE (x::xs) (fun y hy=>by rcases List.mem_cons.1 hy with rfl|q;exact h0;exact hx y q) (rgEs_of hg.2.1) (by omega)) (a+2) _ (K_tl k1) rfl
  apply pack (b:=b+1) (h2:=K_tl h2)
  ·rw[form_word hK]
   unfold wordE
   refine no' hK rfl (no' hK rfl (no' hK rfl (no' hK rfl (no' hK rfl (yes' hK rfl ?_)))))
   exact want' k1 rfl (call' h1 (want' h2 rfl rfl))
  ·rw[cl_mk,cl_mk,h3];rfl
 |make t xs p h hl hx=>
  rw[rgE]at hg
  cases xs with
  |nil=>
   rw[tkE]at hK
   have hK:K T a=(2,bs t)::rest:=hK
   apply pack (b:=a+1) (h2:=K_tl hK)
   ·rw[form_up hK];exact call' (maybe_none (K_tl hK) hc) rfl
   ·rw[cl_mk,cl_mk]
  |cons x l=>
   have e2:tkE (.mk 12 0 t [] [] (x::l) [] p)=(2,bs t)::(6,[40])::(comT ((x::l).map tkE)++[(6,[41])]):=by rw[tkE,argsT_map];rfl
   rw[e2]at hK hn
   simp only[List.length_cons,List.length_append]at hn
   rw[List.cons_append]at hK
   obtain⟨ys,b,h1,h2,h3⟩:=eat_maybe (en:=en) tkE cl cl x l (args_sub hE (x::l) hx (rgEs_of hg.2.1) (by omega)) (a+1) rest (K_tl hK) rfl
   apply pack (b:=b) (h2:=h2)
   ·rw[form_up hK];exact call' h1 rfl
   ·rw[cl_mk,cl_mk,h3]
 |mat x m ms p hl hx ha hm=>
  have e2:tkE (.mk 13 0 emp [] [] [x] (m::ms) p)=(3,[109,97,116,99,104])::(tkE x++(6,[123])::(sepT (6,[59]) ((m::ms).map tkA)++[(6,[125])])):=by rw[tkE,tkArms];simp[tkEs]
  rw[e2]at hK hn
  simp only[List.length_cons,List.length_append]at hn
  simp only[List.cons_append,List.append_assoc]at hK
  simp only[rgE,rgEs]at hg
  have hms:=rgAs_of hg.2.2
  obtain⟨x',b,h1,h2,h3⟩:=hE x hx hg.2.1.1 (by omega) (a+1) _ (K_tl hK) rfl
  obtain⟨ys,c,h4,h5,h6⟩:=arms_back (en:=en) hE m ms (fun w hw=>⟨by rcases List.mem_cons.1 hw with rfl|q;exact ha;exact hm w q,hms w hw,by have:=tkAs_len hw;rw[tkAs_map]at this;omega⟩) (b+1) rest (by rw[K_tl h2];simp) rfl
  apply pack (b:=c) (h2:=h5)
  ·rw[form_word hK]
   unfold wordE
   refine no' hK rfl (no' hK rfl (no' hK rfl (no' hK rfl (no' hK rfl (no' hK rfl (yes' hK rfl ?_))))))
   exact call' h1 (want' h2 rfl (call' h4 rfl))
  ·rw[cl_mk,cl_mk,List.map_cons,List.map_cons,h3,h6];rfl
 |spawn t xs p h hl hx=>
  have e2:tkE (.mk 14 0 t [] [] xs [] p)=(3,[115,112,97,119,110])::(2,bs t)::(6,[40])::(comT (xs.map tkE)++[(6,[41])]):=by rw[tkE,argsT_map];rfl
  rw[e2]at hK hn
  simp only[List.length_cons,List.length_append]at hn
  rw[List.cons_append,List.cons_append]at hK
  rw[rgE]at hg
  have k1:=K_tl hK
  obtain⟨ys,b,h1,h2,h3⟩:=args_back (en:=en) hE xs hx (rgEs_of hg.2.1) (by omega) (a+2) rest (K_tl k1) rfl
  apply pack (b:=b) (h2:=h2)
  ·rw[form_word hK]
   unfold wordE
   refine no' hK rfl (no' hK rfl (no' hK rfl (no' hK rfl (no' hK rfl (no' hK rfl (no' hK rfl (no' hK rfl (yes' hK rfl ?_))))))))
   exact kind' k1 (call' h1 rfl)
  ·rw[cl_mk,cl_mk,h3]
 |self p=>
  rw[tkE]at hK
  have hK:K T a=(3,[115,101,108,102])::rest:=hK
  apply pack (b:=a+1) (h2:=K_tl hK)
  ·rw[form_word hK];unfold wordE;exact no' hK rfl (no' hK rfl (yes' hK rfl rfl))
  ·rw[cl_mk,cl_mk];rfl
 |become xs p hl hx=>
  have e2:tkE (.mk 17 0 emp [] [] xs [] p)=(3,[98,101,99,111,109,101])::(6,[40])::(comT (xs.map tkE)++[(6,[41])]):=by rw[tkE,argsT_map];rfl
  rw[e2]at hK hn
  simp only[List.length_cons,List.length_append]at hn
  rw[List.cons_append]at hK
  rw[rgE]at hg
  obtain⟨ys,b,h1,h2,h3⟩:=args_back (en:=en) hE xs hx (rgEs_of hg.2.1) (by omega) (a+1) rest (K_tl hK) rfl
  apply pack (b:=b) (h2:=h2)
  ·rw[form_word hK]
   unfold wordE
   refine no' hK rfl (no' hK rfl (no' hK rfl (no' hK rfl (no' hK rfl (no' hK rfl (no' hK rfl (no' hK rfl (no' hK rfl (yes' hK rfl ?_)))))))))
   exact call' h1 rfl
  ·rw[cl_mk,cl_mk,h3];rfl
 |recv ms p hl hm=>
  have e2:tkE (.mk 18 (-1) emp [] [] [] ms p)=(3,[114,101,99,101,105,118,101])::(6,[123])::(sepT (6,[59]) (ms.map tkA)++[(6,[125])]):=by rw[tkE,tkArms];simp
  rw[e2]at hK hn
  simp only[List.length_cons,List.length_append]at hn
  simp only[List.cons_append,List.append_assoc]at hK
  rw[rgE]at hg
  have hms:=rgAs_of hg.2.2
  have k1:=K_tl hK
  obtain⟨ys,c,h4,h5,h6⟩:=recv_ms (en:=en) hE ms (fun w hw=>⟨hm w hw,hms w hw,by have:=tkAs_len hw;rw[tkAs_map]at this;omega⟩) (a:=a+2) (rest:=rest) (by rw[K_tl k1];simp)
  apply pack (b:=c) (h2:=h5)
  ·rw[form_word hK]
   unfold wordE
   refine no' hK rfl (no' hK rfl (no' hK rfl (no' hK rfl (no' hK rfl (no' hK rfl (no' hK rfl (yes' hK rfl ?_)))))))
   unfold receiveF
   refine want' k1 rfl (call' h4 ?_)
   unfold afterF
   exact no' h5 (fol_after hc) rfl
  ·rw[cl_mk,cl_mk,h6];rfl
 |after m x ms p h0 h1 hl hx hm=>
  have hd:decide (m≥0)=true:=decide_eq_true h0
  have e2:tkE (.mk 18 m emp [] [] [x] ms p)=(3,[114,101,99,101,105,118,101])::(6,[123])::(sepT (6,[59]) (ms.map tkA)++(6,[125])::(3,[97,102,116,101,114])::(numT m++(6,[61,62])::tkE x)):=by rw[tkE,hd,tkArms];simp[tkEs]
  rw[e2]at hK hn
  simp only[List.length_cons,List.length_append]at hn
  simp only[List.cons_append,List.append_assoc]at hK
  simp only[rgE,rgEs]at hg
  have hms:=rgAs_of hg.2.2
  have k1:=K_tl hK
  obtain⟨ys,c,h4,h5,h6⟩:=recv_ms (en:=en) hE ms (fun w hw=>⟨hm w hw,hms w hw,by have:=tkAs_len hw;rw[tkAs_map]at this;omega⟩) (a:=a+2) (K_tl k1)
  obtain⟨q1,q2⟩:=num_pos (en:=en) (minus:=false) h0 (by omega) (K_tl h5)
  obtain⟨x',d,h7,h8,h9⟩:=hE x hx hg.2.1.1 (by omega) (c+1+1+1) _ (K_tl q2) hc
  apply pack (b:=d) (h2:=h8)
  ·rw[form_word hK]
   unfold wordE
   refine no' hK rfl (no' hK rfl (no' hK rfl (no' hK rfl (no' hK rfl (no' hK rfl (no' hK rfl (yes' hK rfl ?_)))))))
   unfold receiveF
   refine want' k1 rfl (call' h4 ?_)
   unfold afterF
   exact yes' h5 rfl (call' q1 (want' q2 rfl (call' h7 rfl)))
  ·rw[cl_mk,cl_mk,h6,List.map_cons,List.map_cons,h9];rfl
 |one k x p hk hx=>
  rcases hk with rfl|rfl|rfl|rfl|rfl|rfl
  ·have e2:tkE (.mk 19 0 emp [] [] [x] [] p)=(3,[102,97,105,108])::(6,[40])::(tkE x++[(6,[41])]):=by rw[tkE,argsT_map];rfl
   rw[e2]at hK hn
   simp only[List.length_cons,List.length_append]at hn
   rw[List.cons_append,List.cons_append,List.append_assoc]at hK
   simp only[rgE,rgEs]at hg
   have k1:=K_tl hK
   obtain⟨x',b,h1,h2,h3⟩:=hE x hx hg.2.1.1 (by omega) (a+2) _ (K_tl k1) rfl
   refine⟨.mk 19 0 emp [] [] [x'] [] 0,b+1,?_,K_tl h2,?_⟩
   ·rw[form_word hK]
    unfold wordE
    refine no' hK rfl (no' hK rfl (no' hK rfl (no' hK rfl (no' hK rfl (no' hK rfl (no' hK rfl (no' hK rfl (no' hK rfl (no' hK rfl (no' hK rfl (no' hK rfl ?_)))))))))))
    unfold PA.oneF
    rw[(lk hK).2,single_B]
    exact want' k1 rfl (call' h1 (want' h2 rfl rfl))
   ·rw[cl_mk,cl_mk,List.map_cons,List.map_cons,h3]
  ·have e2:tkE (.mk 20 0 emp [] [] [x] [] p)=(3,[115,97,121])::(6,[40])::(tkE x++[(6,[41])]):=by rw[tkE,argsT_map];rfl
   rw[e2]at hK hn
   simp only[List.length_cons,List.length_append]at hn
   rw[List.cons_append,List.cons_append,List.append_assoc]at hK
   simp only[rgE,rgEs]at hg
   have k1:=K_tl hK
   obtain⟨x',b,h1,h2,h3⟩:=hE x hx hg.2.1.1 (by omega) (a+2) _ (K_tl k1) rfl
   refine⟨.mk 20 0 emp [] [] [x'] [] 0,b+1,?_,K_tl h2,?_⟩
   ·rw[form_word hK]
    unfold wordE
    refine no' hK rfl (no' hK rfl (no' hK rfl (no' hK rfl (no' hK rfl (no' hK rfl (no' hK rfl (no' hK rfl (no' hK rfl (no' hK rfl (no' hK rfl (no' hK rfl ?_)))))))))))
    unfold PA.oneF
    rw[(lk hK).2,single_B]
    exact want' k1 rfl (call' h1 (want' h2 rfl rfl))
   ·rw[cl_mk,cl_mk,List.map_cons,List.map_cons,h3]
  ·have e2:tkE (.mk 21 0 emp [] [] [x] [] p)=(3,[99,101,108,108])::(6,[40])::(tkE x++[(6,[41])]):=by rw[tkE,argsT_map];rfl
   rw[e2]at hK hn
   simp only[List.length_cons,List.length_append]at hn
   rw[List.cons_append,List.cons_append,List.append_assoc]at hK
   simp only[rgE,rgEs]at hg
   have k1:=K_tl hK
   obtain⟨x',b,h1,h2,h3⟩:=hE x hx hg.2.1.1 (by omega) (a+2) _ (K_tl k1) rfl
   refine⟨.mk 21 0 emp [] [] [x'] [] 0,b+1,?_,K_tl h2,?_⟩
   ·rw[form_word hK]
    unfold wordE
    refine no' hK rfl (no' hK rfl (no' hK rfl (no' hK rfl (no' hK rfl (no' hK rfl (no' hK rfl (no' hK rfl (no' hK rfl (no' hK rfl (no' hK rfl (no' hK rfl ?_)))))))))))
    unfold PA.oneF
    rw[(lk hK).2,single_B]
    exact want' k1 rfl (call' h1 (want' h2 rfl rfl))
   ·rw[cl_mk,cl_mk,List.map_cons,List.map_cons,h3]
  ·have e2:tkE (.mk 22 0 emp [] [] [x] [] p)=(3,[103,101,116])::(6,[40])::(tkE x++[(6,[41])]):=by rw[tkE,argsT_map];rfl
   rw[e2]at hK hn
   simp only[List.length_cons,List.length_append]at hn
   rw[List.cons_append,List.cons_append,List.append_assoc]at hK
   simp only[rgE,rgEs]at hg
   have k1:=K_tl hK
   obtain⟨x',b,h1,h2,h3⟩:=hE x hx hg.2.1.1 (by omega) (a+2) _ (K_tl k1) rfl
   refine⟨.mk 22 0 emp [] [] [x'] [] 0,b+1,?_,K_tl h2,?_⟩
   ·rw[form_word hK]
    unfold wordE
    refine no' hK rfl (no' hK rfl (no' hK rfl (no' hK rfl (no' hK rfl (no' hK rfl (no' hK rfl (no' hK rfl (no' hK rfl (no' hK rfl (no' hK rfl (no' hK rfl ?_)))))))))))
    unfold PA.oneF
    rw[(lk hK).2,single_B]
    exact want' k1 rfl (call' h1 (want' h2 rfl rfl))
   ·rw[cl_mk,cl_mk,List.map_cons,List.map_cons,h3]
  ·have e2:tkE (.mk 24 0 emp [] [] [x] [] p)=(3,[119,97,116,99,104])::(6,[40])::(tkE x++[(6,[41])]):=by rw[tkE,argsT_map];rfl
   rw[e2]at hK hn
   simp only[List.length_cons,List.length_append]at hn
   rw[List.cons_append,List.cons_append,List.append_assoc]at hK
   simp only[rgE,rgEs]at hg
   have k1:=K_tl hK
   obtain⟨x',b,h1,h2,h3⟩:=hE x hx hg.2.1.1 (by omega) (a+2) _ (K_tl k1) rfl
   refine⟨.mk 24 0 emp [] [] [x'] [] 0,b+1,?_,K_tl h2,?_⟩
   ·rw[form_word hK]
    unfold wordE
    refine no' hK rfl (no' hK rfl (no' hK rfl (no' hK rfl (no' hK rfl (no' hK rfl (no' hK rfl (no' hK rfl (no' hK rfl (no' hK rfl (no' hK rfl (no' hK rfl ?_)))))))))))
    unfold PA.oneF
    rw[(lk hK).2,single_B]
    exact want' k1 rfl (call' h1 (want' h2 rfl rfl))
   ·rw[cl_mk,cl_mk,List.map_cons,List.map_cons,h3]
  ·have e2:tkE (.mk 25 0 emp [] [] [x] [] p)=(3,[108,105,110,107])::(6,[40])::(tkE x++[(6,[41])]):=by rw[tkE,argsT_map];rfl
   rw[e2]at hK hn
   simp only[List.length_cons,List.length_append]at hn
   rw[List.cons_append,List.cons_append,List.append_assoc]at hK
   simp only[rgE,rgEs]at hg
   have k1:=K_tl hK
   obtain⟨x',b,h1,h2,h3⟩:=hE x hx hg.2.1.1 (by omega) (a+2) _ (K_tl k1) rfl
   refine⟨.mk 25 0 emp [] [] [x'] [] 0,b+1,?_,K_tl h2,?_⟩
   ·rw[form_word hK]
    unfold wordE
    refine no' hK rfl (no' hK rfl (no' hK rfl (no' hK rfl (no' hK rfl (no' hK rfl (no' hK rfl (no' hK rfl (no' hK rfl (no' hK rfl (no' hK rfl (no' hK rfl ?_)))))))))))
    unfold PA.oneF
    rw[(lk hK).2,single_B]
    exact want' k1 rfl (call' h1 (want' h2 rfl rfl))
   ·rw[cl_mk,cl_mk,List.map_cons,List.map_cons,h3]
 |two k x y p hk hx hy=>
  rcases hk with rfl|rfl
  ·have e2:tkE (.mk 15 0 emp [] [] [x,y] [] p)=(3,[115,101,110,100])::(6,[40])::(tkE x++(6,[44])::(tkE y++[(6,[41])])):=by rw[tkE,argsT_map];simp[comT,sepT,calledB]
   rw[e2]at hK hn
   simp only[List.length_cons,List.length_append]at hn
   simp only[List.cons_append,List.append_assoc]at hK
   simp only[rgE,rgEs]at hg
   obtain⟨z,b,h1,h2,h3⟩:=two_back (en:=en) hE hx hy hg.2.1.1 hg.2.1.2.1 (by omega) (by omega) 15 (K_tl hK)
   refine⟨z,b,?_,h2,?_⟩
   ·rw[form_word hK]
    unfold wordE
    exact no' hK rfl (no' hK rfl (no' hK rfl (no' hK rfl (no' hK rfl (no' hK rfl (no' hK rfl (no' hK rfl (no' hK rfl (no' hK rfl (yes' hK rfl h1))))))))))
   ·rw[h3,cl_mk];rfl
  ·have e2:tkE (.mk 23 0 emp [] [] [x,y] [] p)=(3,[112,117,116])::(6,[40])::(tkE x++(6,[44])::(tkE y++[(6,[41])])):=by rw[tkE,argsT_map];simp[comT,sepT,calledB]
   rw[e2]at hK hn
   simp only[List.length_cons,List.length_append]at hn
   simp only[List.cons_append,List.append_assoc]at hK
   simp only[rgE,rgEs]at hg
   obtain⟨z,b,h1,h2,h3⟩:=two_back (en:=en) hE hx hy hg.2.1.1 hg.2.1.2.1 (by omega) (by omega) 23 (K_tl hK)
   refine⟨z,b,?_,h2,?_⟩
   ·rw[form_word hK]
    unfold wordE
    exact no' hK rfl (no' hK rfl (no' hK rfl (no' hK rfl (no' hK rfl (no' hK rfl (no' hK rfl (no' hK rfl (no' hK rfl (no' hK rfl (no' hK rfl (yes' hK rfl h1)))))))))))
   ·rw[h3,cl_mk];rfl
theorem eat_E:∀(n:Nat) (e:Ex),Rt e→rgE e→(tkE e).length≤n→Eat T (exprF T en n) (tkE e) fol cl (cl e)
 |0,e,h,_,hn=>by
  have:=hd_E h
  cases hq:tkE e with
  |nil=>rw[hq]at this;cases this
  |cons _ _=>rw[hq]at hn;simp at hn
 |n+1,e,h,hg,hn=>by
  intro a rest hK hc
  obtain⟨y,b,h1,h2,h3⟩:=form_back (T:=T) (en:=en) (Es:=exprF T en n) (N:=n+1) (fun x hx gx hl=>eat_E n x hx gx (by omega)) e h hg hn a rest hK hc
  refine⟨setPos y (placeF T en a),b,?_,h2,?_⟩
  ·rw[exprF];exact call' h1 rfl
  ·rw[←h3]
   obtain⟨k,m,t,ns,ts,xs,ms,p⟩:=y
   unfold setPos
   rw[cl_mk,cl_mk]
theorem exF_eat {e:Ex} (h:Rt e) (hg:rgE e):Eat T (exF T en) (tkE e) fol cl (cl e):=by
 intro a rest hK hc
 have hl:(tkE e).length≤T.length+1:=by
  have:=K_len (T:=T) (a:=a)
  rw[hK,List.length_append]at this
  omega
 exact eat_E _ e h hg hl a rest hK hc
end
end SH
open Go Go.AM TK TR PA
set_option maxRecDepth 100000
namespace SH
def paramsB (ps:List ByteArray):Bs:=bif ps.length==0 then [] else [91]++com (ps.map bs)++[93]
def headB (f:LFu):Bs:=[102,117,110,32]++bs f.name++paramsB f.ps++namesB f.ns f.ts++[58,32]++txT f.out
def funB (f:LFu):Bs:=headB f++[32,61,32]++txE f.body++[59,10]
def makeB (m:LMk):Bs:=bif m.ts.length==0 then bs m.name else bs m.name++[40]++com (m.ts.map txT)++[41]
def dataB (d:LDt):Bs:=[100,97,116,97,32]++bs d.name++paramsB d.ps++[32,61,32]++Lib.join (d.makes.map makeB) [32,124,32]++[59,10]
def useB (u:LUse):Bs:=[117,115,101,32]++bs u.name++[32]++Lib.itoa u.low++[32]++Lib.itoa u.high++[59,10]
def sigB (f:LFu):Bs:=[32,32]++headB f++[59,10]
def inB (f:LFu):Bs:=[32,32]++funB f
def traitB (t:LTr):Bs:=[116,114,97,105,116,32]++bs t.name++[32,123,10]++t.funcs.flatMap sigB++[125,10]
def implB (x:LIm):Bs:=[105,109,112,108,32]++bs x.tr++[32,102,111,114,32]++bs x.fo++[32,123,10]++x.funcs.flatMap inB++[125,10]
def actB (a:LAc):Bs:=[97,99,116,111,114,32]++bs a.name++namesB a.ns a.ts++[58,32]++txT a.msg++[32,61,32]++txE a.body++[59,10]
def modB (n:ByteArray) (v:Int):Bs:=[109,111,100,117,108,101,32]++bs n++[32]++Lib.itoa v++[59,10]
inductive Dc where
 |use (u:LUse)
 |data (d:LDt)
 |trait (t:LTr)
 |impl (x:LIm)
 |func (f:LFu)
 |actor (a:LAc)
def dcB:Dc→Bs
 |.use u=>useB u
 |.data d=>dataB d
 |.trait t=>traitB t
 |.impl x=>implB x
 |.func f=>funB f
 |.actor a=>actB a
def decls (p:LPg):List Dc:=p.uses.map .use++p.datas.map .data++p.traits.map .trait++p.impls.map .impl++p.funcs.map .func++p.actors.map .actor
def txPg (p:LPg):Bs:=modB p.name p.ver++(decls p).flatMap dcB
def paramsT (ps:List ByteArray):List TS:=bif ps.length==0 then [] else (6,[91])::(comT (ps.map fun s=>[(1,bs s)])++[(6,[93])])
def headT (f:LFu):List TS:=(1,bs f.name)::(paramsT f.ps++(namesT f.ns f.ts++(6,[58])::tkT f.out))
def funT (f:LFu):List TS:=headT f++(6,[61])::(tkE f.body++[(6,[59])])
def makeT (m:LMk):List TS:=(2,bs m.name)::(bif m.ts.length==0 then [] else (6,[40])::(comT (m.ts.map tkT)++[(6,[41])]))
def foT (s:ByteArray):TS:=(bif basicB s then 3 else 2,bs s)
def sigT (f:LFu):List TS:=(3,[102,117,110])::(headT f++[(6,[59])])
def inT (f:LFu):List TS:=(3,[102,117,110])::funT f
def dcT:Dc→List TS
 |.use u=>(3,[117,115,101])::(1,bs u.name)::(numT u.low++(numT u.high++[(6,[59])]))
 |.data d=>(3,[100,97,116,97])::(2,bs d.name)::(paramsT d.ps++(6,[61])::(sepT (6,[124]) (d.makes.map makeT)++[(6,[59])]))
 |.trait t=>(3,[116,114,97,105,116])::(2,bs t.name)::(6,[123])::(t.funcs.flatMap sigT++[(6,[125])])
 |.impl x=>(3,[105,109,112,108])::(2,bs x.tr)::(3,[102,111,114])::foT x.fo::(6,[123])::(x.funcs.flatMap inT++[(6,[125])])
 |.func f=>inT f
 |.actor a=>(3,[97,99,116,111,114])::(2,bs a.name)::(namesT a.ns a.ts++(6,[58])::(tkT a.msg++(6,[61])::(tkE a.body++[(6,[59])])))
def modT (n:ByteArray) (v:Int):List TS:=(3,[109,111,100,117,108,101])::(1,bs n)::(numT v++[(6,[59])])
theorem plain_i64 {n:Int} (h:plainF n=true):0≤n∧n≤1000000:=by
 unfold plainF at h
 simp only[Bool.and_eq_true,decide_eq_true_eq]at h
 exact h
structure OHead (f:LFu):Prop where
 nm:lowB f.name=true
 len:f.ns.length=f.ts.length
 ps:rNames f.ps=0
 ns:rNames f.ns=0
 ts:rTypes f.ts=0
 out:rT f.out 1=0
theorem head_ok {f:LFu} (h:rHead f=0):OHead f:=by
 unfold rHead at h
 obtain⟨h1,h2⟩:=bif0 (by decide) h
 rw[Bool.or_eq_false_iff]at h1
 simp only[Bool.not_eq_false',beq_iff_eq]at h1
 have h2:=or_zero h2
 exact⟨h1.1,h1.2,h2 _ (by simp),h2 _ (by simp),h2 _ (by simp),h2 _ (by simp)⟩
theorem body_ok {e:Ex} {be:Bool} (h:rBody e be=0):Rt e:=by
 unfold rBody at h
 exact⟨be,(bif0 (by decide) h).2⟩
structure OFun (f:LFu):Prop where
 hd:OHead f
 body:Rt f.body
 rg:rgE f.body
structure OSig (f:LFu):Prop where
 hd:OHead f
 zero:zeroE f.body=true
structure OMk (m:LMk):Prop where
 nm:upB m.name=true
 ts:rTypes m.ts=0
structure OData (d:LDt):Prop where
 nm:upB d.name=true
 nb:builtB d.name=false
 ne:d.makes≠[]
 ps:rNames d.ps=0
 mks:∀m∈d.makes,OMk m
structure OUse (u:LUse):Prop where
 nm:lowB u.name=true
 lo:0≤u.low∧u.low≤1000000
 hi:0≤u.high∧u.high≤1000000
structure OAct (a:LAc):Prop where
 nm:upB a.name=true
 len:a.ns.length=a.ts.length
 ns:rNames a.ns=0
 ts:rTypes a.ts=0
 msg:rT a.msg 1=0
 body:Rt a.body
 rg:rgE a.body
def ODc:Dc→Prop
 |.use u=>OUse u
 |.data d=>OData d
 |.trait t=>upB t.name=true∧∀f∈t.funcs,OSig f
 |.impl x=>upB x.tr=true∧(upB x.fo=true∨basicB x.fo=true)∧∀f∈x.funcs,OFun f
 |.func f=>OFun f
 |.actor a=>OAct a
theorem lx_params (ps:List ByteArray) (h:rNames ps=0):Lx true (paramsB ps) (paramsT ps):=by
 unfold paramsB paramsT
 cases ps with
 |nil=>exact Lx.nil.soft
 |cons x r=>
  have:=lx_com bs (fun s=>([(1,bs s)]:List TS)) (x::r) (fun s hs=>Lx.lo ((names_low h).2 s hs))
  exact(((show Lx false [91] [(6,[91])] from(Lx.sg 91 (by decide +kernel))).app this (fun h=>by cases h)).app (show Lx false [93] [(6,[93])] from(Lx.sg 93 (by decide +kernel))) (fun _=>rfl)).soft.cast rfl (by simp)
theorem lx_pn (ps ns:List ByteArray) (ts:List Ty) {a:Bs} {u:List TS} (ha:Lx true a u) (hp:rNames ps=0) (hn:rNames ns=0) (ht:rTypes ts=0):Lx false (a++paramsB ps++namesB ns ts) (u++(paramsT ps++namesT ns ts)):=by
 have h2:=lx_names ns ts (names_low hn).2 (each_zero ht)
 cases ps with
 |nil=>exact(ha.app h2 (fun _=>rfl)).cast (by simp[paramsB]) (by simp[paramsT])
 |cons x r=>exact((ha.app (lx_params _ hp) (fun _=>rfl)).app h2 (fun _=>rfl)).cast rfl (by simp)
theorem lx_head (f:LFu) (h:OHead f):Lx true (headB f) ((3,[102,117,110])::headT f):=by
 exact(((lx_pn f.ps f.ns f.ts ((show Lx false [102,117,110,32] [(3,[102,117,110])] from(Lx.app (Lx.wd [102,117,110] (by decide +kernel)) (Lx.sp) (fun _=>rfl))).app (Lx.lo h.nm) (fun h=>by cases h)) h.ps h.ns h.ts).app (show Lx false [58,32] [(6,[58])] from(Lx.app (Lx.sg 58 (by decide +kernel)) (Lx.sp) (fun h=>by cases h))) (fun h=>by cases h)).app (lx_T _ _ h.out) (fun h=>by cases h)).cast rfl (by simp[headT])
theorem lx_fun (f:LFu) (h:OFun f):Lx false (funB f) (inT f):=by
 exact((((lx_head f h.hd).app (show Lx false [32,61,32] [(6,[61])] from(Lx.app (Lx.app (Lx.sp) (Lx.sg1 61 (by decide +kernel)) (fun h=>by cases h)) (Lx.sp) (fun _=>rfl))) (fun _=>rfl)).app (lx_E _ h.body) (fun h=>by cases h)).app (show Lx false [59,10] [(6,[59])] from(Lx.app (Lx.sg 59 (by decide +kernel)) (Lx.nl) (fun h=>by cases h))) (fun _=>rfl)).cast rfl (by simp[inT,funT])
theorem lx_flat {α:Type} (f:α→Bs) (g:α→List TS):∀(l:List α),(∀x∈l,Lx false (f x) (g x))→Lx false (l.flatMap f) (l.flatMap g)
 | [],_=>Lx.nil
 |x::r,h=>by
  rw[List.flatMap_cons,List.flatMap_cons]
  exact(h x (by simp)).app (lx_flat f g r (fun y hy=>h y (by simp[hy]))) (fun h=>by cases h)
theorem lx_sig (f:LFu) (h:OSig f):Lx false (sigB f) (sigT f):=
 (((show Lx false [32,32] [] from(Lx.app (Lx.sp) (Lx.sp) (fun h=>by cases h))).app (lx_head f h.hd) (fun h=>by cases h)).app (show Lx false [59,10] [(6,[59])] from(Lx.app (Lx.sg 59 (by decide +kernel)) (Lx.nl) (fun h=>by cases h))) (fun _=>rfl)).cast rfl (by simp[sigT])
theorem lx_in (f:LFu) (h:OFun f):Lx false (inB f) (inT f):=((show Lx false [32,32] [] from(Lx.app (Lx.sp) (Lx.sp) (fun h=>by cases h))).app (lx_fun f h) (fun h=>by cases h)).cast rfl rfl
theorem lx_make (m:LMk) (h:OMk m):Lx true (makeB m) (makeT m):=by
 unfold makeB makeT
 cases m.ts.length==0 with
 |true=>exact Lx.up' h.nm
 |false=>exact(lx_par (Lx.up' h.nm) (lx_com txT tkT m.ts (fun t ht=>lx_T t _ (each_zero h.ts t ht)))).soft
theorem lx_D (d:Dc) (h:ODc d):Lx false (dcB d) (dcT d):=by
 have sp:Lx false [32] []:=Lx.sp
 cases d with
 |use u=>
  exact(((((((show Lx false [117,115,101,32] [(3,[117,115,101])] from(Lx.app (Lx.wd [117,115,101] (by decide +kernel)) (Lx.sp) (fun _=>rfl))).app (Lx.lo h.nm) (fun h=>by cases h)).app sp (fun _=>rfl)).app (Lx.num u.low) (fun h=>by cases h)).app sp (fun _=>rfl)).app (Lx.num u.high) (fun h=>by cases h)).app (show Lx false [59,10] [(6,[59])] from(Lx.app (Lx.sg 59 (by decide +kernel)) (Lx.nl) (fun h=>by cases h))) (fun _=>rfl)).cast rfl (by simp[dcT])
 |data d=>
  have hm:=lx_join (t:=(6,[124])) (show Lx false [32,124,32] [(6,[124])] from(Lx.app (Lx.app (Lx.sp) (Lx.sg 124 (by decide +kernel)) (fun h=>by cases h)) (Lx.sp) (fun h=>by cases h))) rfl makeB makeT d.makes (fun m hm=>lx_make m (h.mks m hm))
  cases hp:d.ps with
  |nil=>
   exact(((((show Lx false [100,97,116,97,32] [(3,[100,97,116,97])] from(Lx.app (Lx.wd [100,97,116,97] (by decide +kernel)) (Lx.sp) (fun _=>rfl))).app (Lx.up' h.nm) (fun h=>by cases h)).app (show Lx false [32,61,32] [(6,[61])] from(Lx.app (Lx.app (Lx.sp) (Lx.sg1 61 (by decide +kernel)) (fun h=>by cases h)) (Lx.sp) (fun _=>rfl))) (fun _=>rfl)).app hm (fun h=>by cases h)).app (show Lx false [59,10] [(6,[59])] from(Lx.app (Lx.sg 59 (by decide +kernel)) (Lx.nl) (fun h=>by cases h))) (fun _=>rfl)).cast (by simp[dcB,dataB,paramsB,hp]) (by simp[dcT,paramsT,hp])
  |cons x r=>
   have hq:=lx_params d.ps h.ps
   rw[hp]at hq
   exact((((((show Lx false [100,97,116,97,32] [(3,[100,97,116,97])] from(Lx.app (Lx.wd [100,97,116,97] (by decide +kernel)) (Lx.sp) (fun _=>rfl))).app (Lx.up' h.nm) (fun h=>by cases h)).app hq (fun _=>rfl)).app (show Lx false [32,61,32] [(6,[61])] from(Lx.app (Lx.app (Lx.sp) (Lx.sg1 61 (by decide +kernel)) (fun h=>by cases h)) (Lx.sp) (fun _=>rfl))) (fun _=>rfl)).app hm (fun h=>by cases h)).app (show Lx false [59,10] [(6,[59])] from(Lx.app (Lx.sg 59 (by decide +kernel)) (Lx.nl) (fun h=>by cases h))) (fun _=>rfl)).cast (by rw[←hp];rfl) (by rw[←hp];simp[dcT])
 |trait t=>
  exact(((((show Lx false [116,114,97,105,116,32] [(3,[116,114,97,105,116])] from(Lx.app (Lx.wd [116,114,97,105,116] (by decide +kernel)) (Lx.sp) (fun _=>rfl))).app (Lx.up' h.1) (fun h=>by cases h)).app (show Lx false [32,123,10] [(6,[123])] from(Lx.app (Lx.app (Lx.sp) (Lx.sg 123 (by decide +kernel)) (fun h=>by cases h)) (Lx.nl) (fun h=>by cases h))) (fun _=>rfl)).app (lx_flat sigB sigT t.funcs (fun f hf=>lx_sig f (h.2 f hf))) (fun h=>by cases h)).app (show Lx false [125,10] [(6,[125])] from(Lx.app (Lx.sg 125 (by decide +kernel)) (Lx.nl) (fun h=>by cases h))) (fun h=>by cases h)).cast rfl (by simp[dcT])
 |impl x=>
  have hf:Lx true (bs x.fo) [foT x.fo]:=by
   unfold foT
   cases hb:basicB x.fo with
   |true=>
    unfold basicB at hb
    simp only[Bool.or_eq_true]at hb
    rcases hb with q|q|q|q
    ·rw[isS_eq q];exact(show Lx true [105,110,116] [(3,[105,110,116])] from(Lx.wd [105,110,116] (by decide +kernel)))
    ·rw[isS_eq q];exact(show Lx true [98,111,111,108] [(3,[98,111,111,108])] from(Lx.wd [98,111,111,108] (by decide +kernel)))
    ·rw[isS_eq q];exact(show Lx true [116,101,120,116] [(3,[116,101,120,116])] from(Lx.wd [116,101,120,116] (by decide +kernel)))
    ·rw[isS_eq q];exact(show Lx true [117,110,105,116] [(3,[117,110,105,116])] from(Lx.wd [117,110,105,116] (by decide +kernel)))
   |false=>
    rcases h.2.1 with q|q
    ·exact Lx.up' q
    ·rw[hb]at q;cases q
  exact(((((((show Lx false [105,109,112,108,32] [(3,[105,109,112,108])] from(Lx.app (Lx.wd [105,109,112,108] (by decide +kernel)) (Lx.sp) (fun _=>rfl))).app (Lx.up' h.1) (fun h=>by cases h)).app (show Lx false [32,102,111,114,32] [(3,[102,111,114])] from(Lx.app (Lx.app (Lx.sp) (Lx.wd [102,111,114] (by decide +kernel)) (fun h=>by cases h)) (Lx.sp) (fun _=>rfl))) (fun _=>rfl)).app hf (fun h=>by cases h)).app (show Lx false [32,123,10] [(6,[123])] from(Lx.app (Lx.app (Lx.sp) (Lx.sg 123 (by decide +kernel)) (fun h=>by cases h)) (Lx.nl) (fun h=>by cases h))) (fun _=>rfl)).app (lx_flat inB inT x.funcs (fun f hf=>lx_in f (h.2.2 f hf))) (fun h=>by cases h)).app (show Lx false [125,10] [(6,[125])] from(Lx.app (Lx.sg 125 (by decide +kernel)) (Lx.nl) (fun h=>by cases h))) (fun h=>by cases h)).cast rfl (by simp[dcT])
 |func f=>exact lx_fun f h
 |actor a=>
  have hn:=lx_names a.ns a.ts (names_low h.ns).2 (each_zero h.ts)
  exact((((((((show Lx false [97,99,116,111,114,32] [(3,[97,99,116,111,114])] from(Lx.app (Lx.wd [97,99,116,111,114] (by decide +kernel)) (Lx.sp) (fun _=>rfl))).app (Lx.up' h.nm) (fun h=>by cases h)).app hn (fun _=>rfl)).app (show Lx false [58,32] [(6,[58])] from(Lx.app (Lx.sg 58 (by decide +kernel)) (Lx.sp) (fun h=>by cases h))) (fun h=>by cases h)).app (lx_T _ _ h.msg) (fun h=>by cases h)).app (show Lx false [32,61,32] [(6,[61])] from(Lx.app (Lx.app (Lx.sp) (Lx.sg1 61 (by decide +kernel)) (fun h=>by cases h)) (Lx.sp) (fun _=>rfl))) (fun _=>rfl)).app (lx_E _ h.body) (fun h=>by cases h)).app (show Lx false [59,10] [(6,[59])] from(Lx.app (Lx.sg 59 (by decide +kernel)) (Lx.nl) (fun h=>by cases h))) (fun _=>rfl)).cast rfl (by simp[dcT])
theorem lx_mod (n:ByteArray) (v:Int) (h:lowB n=true):Lx false (modB n v) (modT n v):=by
 have sp:Lx false [32] []:=Lx.sp
 exact(((((show Lx false [109,111,100,117,108,101,32] [(3,[109,111,100,117,108,101])] from(Lx.app (Lx.wd [109,111,100,117,108,101] (by decide +kernel)) (Lx.sp) (fun _=>rfl))).app (Lx.lo h) (fun h=>by cases h)).app sp (fun _=>rfl)).app (Lx.num v) (fun h=>by cases h)).app (show Lx false [59,10] [(6,[59])] from(Lx.app (Lx.sg 59 (by decide +kernel)) (Lx.nl) (fun h=>by cases h))) (fun _=>rfl)).cast rfl (by simp[modT])
end SH
open Go Go.AM TK TR PA
set_option maxRecDepth 100000
namespace SH
def clFu (f:LFu):LFu:=⟨f.name,f.ps,f.ns,f.ts,f.out,cl f.body⟩
def clTr (t:LTr):LTr:=⟨t.name,t.funcs.map clFu⟩
def clIm (t:LIm):LIm:=⟨t.tr,t.fo,t.funcs.map clFu⟩
def clAc (a:LAc):LAc:=⟨a.name,a.ns,a.ts,a.msg,cl a.body⟩
def clPg (p:LPg):LPg:=⟨p.name,p.ver,p.uses,p.datas,p.traits.map clTr,p.impls.map clIm,p.funcs.map clFu,p.actors.map clAc⟩
def clD:Dc→Dc
 |.use u=>.use u
 |.data d=>.data d
 |.trait t=>.trait (clTr t)
 |.impl x=>.impl (clIm x)
 |.func f=>.func (clFu f)
 |.actor a=>.actor (clAc a)
def addD (p:LPg):Dc→LPg
 |.use u=>{ p with uses:=p.uses++[u] }
 |.data d=>{ p with datas:=p.datas++[d] }
 |.trait t=>{ p with traits:=p.traits++[t] }
 |.impl x=>{ p with impls:=p.impls++[x] }
 |.func f=>{ p with funcs:=p.funcs++[f] }
 |.actor a=>{ p with actors:=p.actors++[a] }
theorem addD_cl (p:LPg) (d:Dc):clPg (addD p d)=addD (clPg p) (clD d):=by
 cases d<;>simp[clPg,addD,clD]
theorem fold_cl:∀(ds:List Dc) (p:LPg),clPg (ds.foldl addD p)=(ds.map clD).foldl addD (clPg p)
 | [],_=>rfl
 |d::r,p=>by rw[List.foldl_cons,fold_cl r,addD_cl];rfl
theorem cl_ex0:cl ex0=ex0:=by rw[ex0,cl_mk];rfl
theorem zero_cl {e:Ex} (h:zeroE e=true):cl e=ex0:=by
 obtain⟨k,m,t,ns,ts,xs,ms,p⟩:=e
 have h:(k==0&&(m==0&&(isS t []&&ns.length+ts.length+xs.length+ms.length==0)))=true:=h
 simp only[Bool.and_eq_true,beq_iff_eq]at h
 obtain⟨rfl,rfl,h3,h4⟩:=h
 obtain rfl:=isS_B h3
 obtain rfl:=list0 (xs:=ns) (by omega)
 obtain rfl:=list0 (xs:=ts) (by omega)
 obtain rfl:=list0 (xs:=xs) (by omega)
 obtain rfl:=list0 (xs:=ms) (by omega)
 rw[cl_mk];rfl
section
variable {T:List Tk} {en:Int}
theorem kind_eat (k:Int) (s:ByteArray):Eat T (kindF T en k) [(k,bs s)] fol id s:=fun a rest hK _=>⟨s,a+1,kindE (s:=s) hK,K_tl (t:=(k,bs s)) hK,rfl⟩
theorem params_back (ps:List ByteArray) {a:Nat} {rest:List TS} (hK:K T a=paramsT ps++rest) (hr:isK rest ⟨#[91]⟩=false):∃b,paramsF T en a=.ok (ps,b)∧K T b=rest:=by
 cases ps with
 |nil=>
  have hK:K T a=rest:=by simpa[paramsT] using hK
  exact⟨a,by unfold paramsF;exact no' hK hr rfl,hK⟩
 |cons x r=>
  have hK:K T a=(6,[91])::(comT ((x::r).map fun s=>([(1,bs s)]:List TS))++(6,[93])::rest):=by rw[hK];simp[paramsT]
  obtain⟨ys,b,h1,h2,h3⟩:=eat_list (F:=kindF T en 1) (fun s=>([(1,bs s)]:List TS)) id id x r (fun y _=>kind_eat 1 y) (a+1) _ (K_tl hK) rfl
  rw[id_map,id_map]at h3
  subst h3
  exact⟨b+1,by unfold paramsF;exact yes' hK rfl (call' h1 (want' h2 rfl rfl)),K_tl h2⟩
theorem head_back (f:LFu) (h:OHead f) {a:Nat} {rest:List TS} (hK:K T a=headT f++rest) (hc:fol rest=true):∃b,headF T en a=.ok ({ f with body:=ex0 },b)∧K T b=rest:=by
 unfold headT at hK
 simp only[List.cons_append,List.append_assoc]at hK
 obtain⟨b,h1,h2⟩:=params_back (en:=en) f.ps (K_tl hK) rfl
 obtain⟨nt,c,h3,h4,h5⟩:=names_back (en:=en) f.ns f.ts h.len (each_zero h.ts) b _ h2 rfl
 cases h5
 obtain⟨t,d,h6,h7,h8⟩:=tyF_eat (en:=en) h.out (c+1) rest (K_tl h4) hc
 cases h8
 exact⟨d,by unfold headF;exact kind' hK (call' h1 (call' h3 (want' h4 rfl (call' h6 rfl)))),h7⟩
theorem fun_back (f:LFu) (h:OFun f) {a:Nat} {rest:List TS} (hK:K T a=funT f++rest):∃g b,functionF T en a=.ok (g,b)∧K T b=rest∧clFu g=clFu f:=by
 unfold funT at hK
 simp only[List.cons_append,List.append_assoc]at hK
 obtain⟨b,h1,h2⟩:=head_back (en:=en) f h.hd hK rfl
 obtain⟨x,c,h3,h4,h5⟩:=exF_eat (en:=en) h.body h.rg (b+1) _ (K_tl h2) rfl
 exact⟨{ f with body:=x },c+1,by unfold functionF;exact call' h1 (want' h2 rfl (call' h3 (want' h4 rfl rfl))),K_tl h4,by unfold clFu;rw[h5]⟩
theorem sig_back (f:LFu) (h:OSig f) {a:Nat} {rest:List TS} (hK:K T a=headT f++(6,[59])::rest):∃g b,sigF T en a=.ok (g,b)∧K T b=rest∧clFu g=clFu f:=by
 obtain⟨b,h1,h2⟩:=head_back (en:=en) f h.hd hK rfl
 exact⟨{ f with body:=ex0 },b+1,by unfold sigF;exact call' h1 (want' h2 rfl rfl),K_tl h2,by unfold clFu;rw[zero_cl h.zero,cl_ex0]⟩
theorem funcs_go {Fs:Nat→PR LFu} (g:LFu→List TS):∀(l:List LFu),(∀f∈l,∀(a:Nat) (rest:List TS),K T a=g f++rest→∃y b,Fs a=.ok (y,b)∧K T b=rest∧clFu y=clFu f)→∀(m:Nat) (out:List LFu) (a:Nat) (rest:List TS),l.length<m→K T a=l.flatMap (fun f=>(3,[102,117,110])::g f)++(6,[125])::rest→
 ∃ys b,funcsGo T en Fs m out a=.ok (out++ys,b)∧K T b=rest∧ys.map clFu=l.map clFu
 |l,hF,0,out,a,rest,hm,_=>by omega
 | [],hF,m+1,out,a,rest,hm,hK=>by
   have hK:K T a=(6,[125])::rest:=hK
   exact⟨[],a+1,by rw[funcsGo,List.append_nil];exact yes' hK rfl rfl,K_tl hK,rfl⟩
 |f::l,hF,m+1,out,a,rest,hm,hK=>by
  rw[List.flatMap_cons,List.cons_append,List.cons_append,List.append_assoc]at hK
  obtain⟨y,b,h1,h2,h3⟩:=hF f (by simp) (a+1) _ (K_tl hK)
  obtain⟨ys,c,h4,h5,h6⟩:=funcs_go g l (fun f hf=>hF f (by simp[hf])) m (out++[y]) b rest (by simp at hm;omega) h2
  refine⟨y::ys,c,?_,h5,by rw[List.map_cons,List.map_cons,h3,h6]⟩
  rw[funcsGo]
  refine no' hK rfl (want' hK rfl (call' h1 ?_))
  rw[h4];simp
theorem flat_len2 (g:LFu→List TS):∀(l:List LFu),l.length≤(l.flatMap (fun f=>(3,[102,117,110])::g f)).length
 | []=>by simp
 |x::r=>by have:=flat_len2 g r;rw[List.flatMap_cons,List.length_append,List.length_cons,List.length_cons];omega
theorem funcs_back {Fs:Nat→PR LFu} (g:LFu→List TS) (l:List LFu) (hF:∀f∈l,∀(a:Nat) (rest:List TS),K T a=g f++rest→∃y b,Fs a=.ok (y,b)∧K T b=rest∧clFu y=clFu f) {a:Nat} {rest:List TS} (hK:K T a=(6,[123])::(l.flatMap (fun f=>(3,[102,117,110])::g f)++(6,[125])::rest)):
 ∃ys b,funcsF T en Fs a=.ok (ys,b)∧K T b=rest∧ys.map clFu=l.map clFu:=by
 have hlen:l.length<T.length+1:=by
  have q:=K_len (T:=T) (a:=a)
  rw[hK,List.length_cons,List.length_append]at q
  have:=flat_len2 g l
  omega
 obtain⟨ys,b,h1,h2,h3⟩:=funcs_go (en:=en) g l hF (T.length+1) [] (a+1) rest hlen (K_tl hK)
 exact⟨ys,b,by unfold funcsF;exact want' hK rfl h1,h2,h3⟩
theorem makes_go:∀(l:List LMk) (x:LMk),(∀m∈x::l,OMk m)→∀(m:Nat) (out:List LMk) (a:Nat) (rest:List TS),l.length<m→K T a=makeT x++(((l.map makeT).map ((6,[124])::·)).flatten++(6,[59])::rest)→
 ∃b,makesGo T en m out a=.ok (out++x::l,b)∧K T b=(6,[59])::rest
 |l,x,hx,0,out,a,rest,hm,_=>by omega
 |l,x,hx,m+1,out,a,rest,hm,hK=>by
  have hox:=hx x (by simp)
  unfold makeT at hK
  rw[List.cons_append]at hK
  have hb:∃b,maybeF T en (tyF T en) (a+1)=.ok (x.ts,b)∧K T b=((l.map makeT).map ((6,[124])::·)).flatten++(6,[59])::rest:=by
   obtain⟨nm,ts⟩:=x
   cases ts with
   |nil=>
    have k1:K T (a+1)=((l.map makeT).map ((6,[124])::·)).flatten++(6,[59])::rest:=K_tl hK
    exact⟨a+1,maybe_none k1 (by cases l<;>rfl),k1⟩
   |cons t r=>
    have k1:K T (a+1)=((6,[40])::(comT ((t::r).map tkT)++[(6,[41])]))++(((l.map makeT).map ((6,[124])::·)).flatten++(6,[59])::rest):=K_tl hK
    obtain⟨ys,b,h1,h2,h3⟩:=eat_maybe (en:=en) (F:=tyF T en) tkT id id t r (fun y hy=>tyF_eat (each_zero hox.ts y hy)) (a+1) _ k1 rfl
    rw[id_map,id_map]at h3
    subst h3
    exact⟨b,h1,h2⟩
  obtain⟨b,h1,h2⟩:=hb
  rw[makesGo]
  cases l with
  |nil=>
   have h2:K T b=(6,[59])::rest:=by simpa using h2
   exact⟨b,kind' hK (call' h1 (no' h2 rfl rfl)),h2⟩
  |cons z r=>
   have h2:K T b=(6,[124])::(makeT z++(((r.map makeT).map ((6,[124])::·)).flatten++(6,[59])::rest)):=by rw[h2];simp
   obtain⟨c,h3,h4⟩:=makes_go r z (fun w hw=>hx w (by simp[hw])) m (out++[x]) (b+1) rest (by simp at hm;omega) (K_tl h2)
   refine⟨c,kind' hK (call' h1 (yes' h2 rfl ?_)),h4⟩
   obtain⟨nm,ts⟩:=x
   rw[h3];simp
theorem data_back (d:LDt) (h:OData d) {a:Nat} {rest:List TS} (hK:K T a=(2,bs d.name)::(paramsT d.ps++(6,[61])::(sepT (6,[124]) (d.makes.map makeT)++(6,[59])::rest))):∃b,dataF T en a=.ok (d,b)∧K T b=rest:=by
 obtain⟨nm,ps,mks⟩:=d
 obtain⟨h1,h2,h3,h4,h5⟩:=h
 cases mks with
 |nil=>exact absurd rfl h3
 |cons x l=>
  obtain⟨b,q1,q2⟩:=params_back (en:=en) ps (K_tl hK) rfl
  have k3:=K_tl q2
  simp only[List.map_cons]at k3
  rw[sepT_cons,List.append_assoc]at k3
  have h9:l.length≤(((l.map makeT).map ((6,[124])::·)).flatten).length:=by
   have:=flat_len (6,[124]) (l.map makeT)
   rwa [List.length_map]at this
  have hlen:l.length<T.length+1:=by
   have q:=congrArg List.length k3
   have q':=K_len (T:=T) (a:=b+1)
   rw[List.length_append,List.length_append]at q
   have:l.length≤(K T (b+1)).length:=by
    rw[q]
    exact Nat.le_trans h9 (Nat.le_trans (Nat.le_add_right _ _) (Nat.le_add_left _ _))
   omega
  obtain⟨c,q3,q4⟩:=makes_go (en:=en) l x h5 (T.length+1) [] (b+1) rest hlen k3
  refine⟨c+1,?_,K_tl q4⟩
  unfold dataF
  have hp:plainUpF T en a=.ok (nm,a+1):=by
   unfold plainUpF
   have hb:(((B (lookF T a).text).toList==(⟨#[82,101,102]⟩:ByteArray).toList)||((B (lookF T a).text).toList==(⟨#[67,101,108,108]⟩:ByteArray).toList))=false:=by
    rw[(lk hK).2,←B_of,bS nm [82,101,102] ⟨#[82,101,102]⟩ rfl,bS nm [67,101,108,108] ⟨#[67,101,108,108]⟩ rfl]
    exact h2
   rw[hb,cond_false]
   exact kindE hK
  exact call' hp (call' q1 (want' q2 rfl (call' q3 (want' q4 rfl rfl))))
theorem for_back {s:ByteArray} (h:upB s=true∨basicB s=true) {a:Nat} {rest:List TS} (hK:K T a=foT s::rest):forF T en a=.ok (s,a+1):=by
 unfold forF
 unfold foT at hK
 cases hb:basicB s with
 |true=>
  rw[hb]at hK
  have hK:K T a=(3,bs s)::rest:=hK
  have:=ops_no (z:=kindF T en 2 a) rfl hK base4 (by
   unfold basicB at hb
   simp only[Bool.or_eq_true]at hb
   rcases hb with q|q|q|q<;>(rw[isS_eq q];decide))
  rw[←B_of]at this
  exact this
 |false=>
  rw[hb]at hK
  have hK:K T a=(2,bs s)::rest:=hK
  rw[base4,basesF,basesF,basesF,basesF,basesF]
  exact no' hK rfl (no' hK rfl (no' hK rfl (no' hK rfl (kindE hK))))
theorem decl_back (d:Dc) (h:ODc d) (p:LPg) {a:Nat} {rest:List TS} (hK:K T a=dcT d++rest):∃d' b,declF T en p a=.ok (addD p d',b)∧K T b=rest∧clD d'=clD d:=by
 cases d with
 |use u=>
  have h:OUse u:=h
  have hK:K T a=(3,[117,115,101])::(1,bs u.name)::(numT u.low++(numT u.high++(6,[59])::rest)):=by rw[hK];simp[dcT]
  have k1:=K_tl hK
  obtain⟨q1,q2⟩:=num_pos (en:=en) (minus:=false) h.lo.1 (by have:=h.lo.2;omega) (K_tl k1)
  obtain⟨q3,q4⟩:=num_pos (en:=en) (minus:=false) h.hi.1 (by have:=h.hi.2;omega) q2
  refine⟨.use u,a+1+1+1+1+1,?_,K_tl q4,rfl⟩
  unfold declF
  exact yes' hK rfl (kind' k1 (call' q1 (call' q3 (want' q4 rfl rfl))))
 |data d=>
  have h:OData d:=h
  have hK:K T a=(3,[100,97,116,97])::(2,bs d.name)::(paramsT d.ps++(6,[61])::(sepT (6,[124]) (d.makes.map makeT)++(6,[59])::rest)):=by rw[hK];simp[dcT]
  obtain⟨b,q1,q2⟩:=data_back (en:=en) d h (K_tl hK)
  refine⟨.data d,b,?_,q2,rfl⟩
  unfold declF
  exact no' hK rfl (yes' hK rfl (call' q1 rfl))
 |trait t=>
  have h:upB t.name=true∧∀f∈t.funcs,OSig f:=h
  have hK:K T a=(3,[116,114,97,105,116])::(2,bs t.name)::(6,[123])::(t.funcs.flatMap (fun f=>(3,[102,117,110])::(headT f++[(6,[59])]))++(6,[125])::rest):=by
   rw[hK,dcT,show sigT=(fun f=>(3,[102,117,110])::(headT f++[(6,[59])])) from rfl];simp
  have k1:=K_tl hK
  obtain⟨ys,b,q1,q2,q3⟩:=funcs_back (en:=en) (Fs:=sigF T en) (fun f=>headT f++[(6,[59])]) t.funcs (fun f hf a rest hK=>sig_back f (h.2 f hf) (by rw[hK];simp)) (K_tl k1)
  refine⟨.trait ⟨t.name,ys⟩,b,?_,q2,by unfold clD clTr;simp only[q3]⟩
  unfold declF
  exact no' hK rfl (no' hK rfl (yes' hK rfl (kind' k1 (call' q1 rfl))))
 |impl x=>
  have h:upB x.tr=true∧(upB x.fo=true∨basicB x.fo=true)∧∀f∈x.funcs,OFun f:=h
  have hK:K T a=(3,[105,109,112,108])::(2,bs x.tr)::(3,[102,111,114])::foT x.fo::(6,[123])::(x.funcs.flatMap (fun f=>(3,[102,117,110])::funT f)++(6,[125])::rest):=by
   rw[hK,dcT,show inT=(fun f=>(3,[102,117,110])::funT f) from rfl];simp
  have k1:=K_tl hK
  have k2:=K_tl k1
  have k3:=K_tl k2
  have q0:=for_back (en:=en) h.2.1 k3
  obtain⟨ys,b,q1,q2,q3⟩:=funcs_back (en:=en) (Fs:=functionF T en) funT x.funcs (fun f hf a rest hK=>fun_back f (h.2.2 f hf) hK) (K_tl k3)
  refine⟨.impl ⟨x.tr,x.fo,ys⟩,b,?_,q2,by unfold clD clIm;simp only[q3]⟩
  unfold declF
  exact no' hK rfl (no' hK rfl (no' hK rfl (yes' hK rfl (kind' k1 (want' k2 rfl (call' q0 (call' q1 rfl)))))))
 |func f=>
  have h:OFun f:=h
  have hK:K T a=(3,[102,117,110])::(funT f++rest):=by rw[hK];simp[dcT,inT]
  obtain⟨g,b,q1,q2,q3⟩:=fun_back (en:=en) f h (K_tl hK)
  refine⟨.func g,b,?_,q2,congrArg Dc.func q3⟩
  unfold declF
  exact no' hK rfl (no' hK rfl (no' hK rfl (no' hK rfl (yes' hK rfl (call' q1 rfl)))))
 |actor c=>
  have h:OAct c:=h
  have hK:K T a=(3,[97,99,116,111,114])::(2,bs c.name)::(namesT c.ns c.ts++(6,[58])::(tkT c.msg++(6,[61])::(tkE c.body++(6,[59])::rest))):=by rw[hK];simp[dcT]
  have k1:=K_tl hK
  obtain⟨nt,b,h3,h4,h5⟩:=names_back (en:=en) c.ns c.ts h.len (each_zero h.ts) (a+2) _ (K_tl k1) rfl
  cases h5
  obtain⟨t,d,h6,h7,h8⟩:=tyF_eat (en:=en) h.msg (b+1) _ (K_tl h4) rfl
  cases h8
  obtain⟨x,f,h9,h10,h11⟩:=exF_eat (en:=en) h.body h.rg (d+1) _ (K_tl h7) rfl
  refine⟨.actor ⟨c.name,c.ns,c.ts,c.msg,x⟩,f+1,?_,K_tl h10,by unfold clD clAc;simp only[h11]⟩
  unfold declF
  exact no' hK rfl (no' hK rfl (no' hK rfl (no' hK rfl (no' hK rfl (yes' hK rfl (kind' k1 (call' h3 (want' h4 rfl (call' h6 (want' h7 rfl (call' h9 (want' h10 rfl rfl))))))))))))
theorem dcT_pos (d:Dc):0<(dcT d).length:=by cases d<;>simp[dcT,inT]
theorem decls_go:∀(ds:List Dc),(∀d∈ds,ODc d)→∀(m:Nat) (p:LPg) (a:Nat),ds.length<m→K T a=ds.flatMap dcT→∃(ds':List Dc) (b:Nat),declsGo T en m p a=.ok (ds'.foldl addD p,b)∧ds'.map clD=ds.map clD
 |ds,_,0,p,a,hm,_=>by omega
 | [],_,m+1,p,a,hm,hK=>by
   have:=K_nil (a:=a) hK
   exact⟨[],a,by rw[declsGo,decide_eq_false (by omega)];rfl,rfl⟩
 |d::r,hd,m+1,p,a,hm,hK=>by
  rw[List.flatMap_cons]at hK
  have hlt:a<T.length:=by
   have:=dcT_pos d
   have q:=congrArg List.length hK
   unfold K at q
   rw[List.length_map,List.length_drop,List.length_append]at q
   omega
  obtain⟨d',b,h1,h2,h3⟩:=decl_back (en:=en) d (hd d (by simp)) p hK
  obtain⟨ds',c,h4,h5⟩:=decls_go r (fun x hx=>hd x (by simp[hx])) m (addD p d') b (by simp at hm;omega) h2
  refine⟨d'::ds',c,?_,by rw[List.map_cons,List.map_cons,h3,h5]⟩
  rw[declsGo,decide_eq_true hlt,cond_true]
  exact call' h1 h4
theorem flat_len3:∀(l:List Dc),l.length≤(l.flatMap dcT).length
 | []=>by simp
 |x::r=>by have:=flat_len3 r;have:=dcT_pos x;rw[List.flatMap_cons,List.length_append,List.length_cons];omega
theorem program_back (n:ByteArray) (v:Int) (hv:plainF v=true) (ds:List Dc) (hd:∀d∈ds,ODc d) (hK:K T 0=modT n v++ds.flatMap dcT):∃(ds':List Dc) (b:Nat),programF T en 0=.ok (ds'.foldl addD ⟨n,v,[],[],[],[],[],[]⟩,b)∧ds'.map clD=ds.map clD:=by
 have hK:K T 0=(3,[109,111,100,117,108,101])::(1,bs n)::(numT v++(6,[59])::ds.flatMap dcT):=by rw[hK];simp[modT]
 have k1:=K_tl hK
 have hp:=plain_i64 hv
 obtain⟨q1,q2⟩:=num_pos (en:=en) (minus:=false) hp.1 (by omega) (K_tl k1)
 have k3:=K_tl q2
 have hlen:ds.length<T.length+1:=by
  have q:=K_len (T:=T) (a:=0+1+1+1+1)
  rw[k3]at q
  have:=flat_len3 ds
  omega
 obtain⟨ds',b,h1,h2⟩:=decls_go (en:=en) ds hd (T.length+1) ⟨n,v,[],[],[],[],[],[]⟩ _ hlen k3
 refine⟨ds',b,?_,h2⟩
 unfold programF
 exact want' hK rfl (kind' k1 (call' q1 (want' q2 rfl h1)))
end
end SH
