/- Contracts, and the law, for every input. No conditions. -/
import Derived.Test.YtdmopjgjhfhfdaaGreatDoorChecked
import Derived.Test.YtdmopjgjhfhfdaaGreatDoorTKD
import Derived.Test.YtdmopjgjhfhfdaaGreatDoorAMOk
import Derived.Test.YtdmopjgjhfhfdaaGreatDoorTR1
open Go Go.AM Go.Proofs TK
set_option maxRecDepth 100000
namespace PA
theorem hmix:Tryz.prog.follows .mixedOrders=true:=by kernel_rfl
theorem cle_refl:∀l:List AV,CLe l l
 | []=>trivial
 |_::r=>⟨.inl rfl,cle_refl r⟩
theorem ob_refl (l:List AV):ObLe (.cells l) (.cells l):=cle_refl l
def hR (T:List Tk) (en:Int) (a:Nat):Heap:=[(1000000000,.cells [.p (.sl 3 (T.map eTk)),.p (.i .i64 a),.p (.i .i64 en)])]
def failV (p:Int):Value:=.iface 148 (.agg #[.int .i64 p])
def placeF (T:List Tk) (en:Int) (a:Nat):Int:=match T[a]? with|some t=>t.at_|none=>en
def lookF (T:List Tk) (a:Nat):Tk:=match T[a]? with|some t=>t|none=>⟨0,[],0⟩
def isF (T:List Tk) (s:ByteArray) (a:Nat):Bool:=((B (lookF T a).text).toList==s.toList)&&((lookF T a).kind==3||(lookF T a).kind==6)
theorem look_in {T:List Tk} {a:Nat} (h:(lookF T a).kind≠0):a<T.length:=by
 unfold lookF at h;split at h
 ·rename_i t ht;exact(List.getElem?_eq_some_iff.1 ht).1
 ·exact absurd rfl h
theorem place_spec (T:List Tk) (hT:T.length≤4000) (en:Int) (a:Nat) (ha:a≤T.length):AMem Tryz.prog 127 [.ptr 1000000000 0] (hR T en a) (.p (.i .i64 (placeF T en a))) (hR T en a):=by
 unfold hR placeF;have hl:(T.map eTk).length=T.length:=List.length_map _;refine AMem.intro (tyOf_ok Tryz.prog) hmix Tryz.func127 rfl (by rfl) (by kernel_rfl) (by show 1≤_;decide) rfl ?_;(conv=>whnf)
 first|refine aneed (.inl (by kernel_rfl)) ?_|refine aneed (by kernel_rfl) ?_
 (conv=>whnf);refine asplit ?_ ?_<;>intro h<;>conv=>whnf
 ·have h:=of_decide_eq_true h
  rw[hl]at h;obtain⟨t,ht⟩:∃t,T[a]?=some t:=⟨_,List.getElem?_eq_getElem (by omega)⟩
  rw[ht];refine aidxn (x:=eTk t) (by rw[List.getElem?_map,ht];rfl) ?_;(conv=>whnf)
  first|refine aneed (.inl (by kernel_rfl)) ?_|refine aneed (by kernel_rfl) ?_
  (conv=>whnf);exact⟨.inl rfl,ob_refl _,trivial⟩
 ·have h:=of_decide_eq_false h
  rw[hl]at h;have ht:T[a]?=none:=List.getElem?_eq_none (by omega);rw[ht];exact⟨.inl rfl,ob_refl _,trivial⟩
theorem look_spec (T:List Tk) (hT:T.length≤4000) (en:Int) (a:Nat) (ha:a≤T.length):AMem Tryz.prog 92 [.ptr 1000000000 0] (hR T en a) (.p (eTk (lookF T a))) (hR T en a):=by
 unfold hR lookF;have hl:(T.map eTk).length=T.length:=List.length_map _;refine AMem.intro (tyOf_ok Tryz.prog) hmix Tryz.func92 rfl (by rfl) (by kernel_rfl) (by show 1≤_;decide) rfl ?_;(conv=>whnf)
 first|refine aneed (.inl (by kernel_rfl)) ?_|refine aneed (by kernel_rfl) ?_
 (conv=>whnf);refine asplit ?_ ?_<;>intro h<;>conv=>whnf
 ·have h:=of_decide_eq_true h
  rw[hl]at h;obtain⟨t,ht⟩:∃t,T[a]?=some t:=⟨_,List.getElem?_eq_getElem (by omega)⟩
  rw[ht];refine aidxn (x:=eTk t) (by rw[List.getElem?_map,ht];rfl) ?_;(conv=>whnf)
  first|refine aneed (.inl (by kernel_rfl)) ?_|refine aneed (by kernel_rfl) ?_
  (conv=>whnf);exact⟨.inl rfl,ob_refl _,trivial⟩
 ·have h:=of_decide_eq_false h
  rw[hl]at h;have ht:T[a]?=none:=List.getElem?_eq_none (by omega);rw[ht];exact⟨.inl rfl,ob_refl _,trivial⟩
theorem is_spec (T:List Tk) (hT:T.length≤4000) (en:Int) (a:Nat) (ha:a≤T.length) (s:ByteArray):AMem Tryz.prog 126 [.ptr 1000000000 0,.p (.s s)] (hR T en a) (.p (.b (isF T s a))) (hR T en a):=by
 have c:=look_spec T hT en a ha;unfold isF;generalize lookF T a=t at c;obtain⟨k,x,p⟩:=t;unfold hR at c ⊢;refine AMem.intro (tyOf_ok Tryz.prog) hmix Tryz.func126 rfl (by rfl) (by kernel_rfl) (by show 2≤_;decide) rfl ?_;(conv=>whnf);refine amc [1000000000] 500 c ?_;(conv=>whnf);generalize hb:((B ({ kind:=k,text:=x,at_:=p }:Tk).text).toList==s.toList)=b
 cases b with
 |false=>
  (conv=>whnf);exact⟨.inl rfl,ob_refl _,trivial⟩
 |true=>
  (conv=>whnf);generalize hb2:(k==3)=b2
  cases b2 with
  |false=>
   (conv=>whnf);exact⟨.inl rfl,ob_refl _,trivial⟩
  |true=>
   (conv=>whnf);exact⟨.inl rfl,ob_refl _,trivial⟩
theorem isF_in {T:List Tk} {s:ByteArray} {a:Nat} (h:isF T s a=true):a<T.length:=by
 unfold isF at h;simp only[Bool.and_eq_true,Bool.or_eq_true,beq_iff_eq]at h;exact look_in (by rcases h.2 with h|h<;>omega)
def takeF (T:List Tk) (s:ByteArray) (a:Nat):Nat:=bif isF T s a then a+1 else a
theorem take_spec (T:List Tk) (hT:T.length≤4000) (en:Int) (a:Nat) (ha:a≤T.length) (s:ByteArray):AMem Tryz.prog 89 [.ptr 1000000000 0,.p (.s s)] (hR T en a) (.p (.b (isF T s a))) (hR T en (takeF T s a)):=by
 have c:=is_spec T hT en a ha s;unfold takeF;generalize hb:isF T s a=b at c;unfold hR at c ⊢;refine AMem.intro (tyOf_ok Tryz.prog) hmix Tryz.func89 rfl (by rfl) (by kernel_rfl) (by show 2≤_;decide) rfl ?_;(conv=>whnf);refine amc [1000000000] 500 c ?_;(conv=>whnf)
 cases b with
 |false=>exact⟨.inl rfl,ob_refl _,trivial⟩
 |true=>
  have:=isF_in hb;have hw:IntKind.i64.wrap ((a:Int)+1)=((a+1:Nat):Int):=by rw[wrap64 (by omega) (by omega)];rfl
  (conv=>whnf);rw[hw];exact⟨.inl rfl,ob_refl _,trivial⟩
end PA
open Go Go.AM Go.Proofs TK
set_option maxRecDepth 100000
namespace PA
abbrev PR (α:Type):=Except Int (α×Nat)
def oR (T:List Tk) (en:Int) {α:Type} (e:α→AV):PR α→Except Value (AV×Heap)
 |.ok (y,a)=>.ok (e y,hR T en a)
 |.error p=>.error (failV p)
def bindP {α β:Type} (x:PR α) (f:α→Nat→PR β):PR β:=match x with
 |.error p=>.error p
 |.ok (y,a)=>f y a
theorem bindP_ok {α β:Type} (y:α) (a:Nat) (f:α→Nat→PR β):bindP (.ok (y,a)) f=f y a:=rfl
section
variable {T:List Tk} {en:Int} {a:Nat} {α:Type} {e:α→AV}
theorem oI {x:PR α} {f:Nat} {fn:Func} {c:Code} {args:List AV} (hf:Tryz.prog.funcs[f]?=some fn) (hb:fn.body=some c) (hname:(fn.name== "runtime.NumGoroutine")=false) (hlen:args.length≤fn.ntmps) (he:∀y,(e y).within (memB [1000000000])=true) (hok:codeOK fn.ntmps c=true)
 (hk:okX (oR T en e x)=true→awp (tyOf Tryz.prog) (pcall Tryz.prog) (lpOf Tryz.prog fn.ntmps) c (fun x' e' h=>match oR T en e x with|.ok y=>retKM (tyOf Tryz.prog) fn.results.toList fn.resultTypes.toList y.1 y.2 x' e' h|.error _=>False) (argEnv 0 args) (hR T en a)):AMemO Tryz.prog f args (hR T en a) (oR T en e x):=by
 refine AMemO.intro (tyOf_ok Tryz.prog) hmix hf hb hname hlen hok hk ?_;intro r h' hr;rcases x with p|⟨y,a'⟩
 ·cases hr
 ·simp only[oR,Except.ok.injEq,Prod.mk.injEq]at hr
  obtain⟨rfl,rfl⟩:=hr;rw[show keysOf (hR T en a')=[1000000000] from rfl,he];rfl
theorem oC {o:PR α} {f:Nat} {args:List AV} {h:Heap} {K:List Nat→Heap→AV→Prop} (B:Nat) (c:AMemO Tryz.prog f (AV.rens (toBig [1000000000] 0) args) (hR T en a) (oR T en e o)) (hp:∀p,o=.error p→False)
 (hk:∀y a',o=.ok (y,a')→K [1000000000] (backH [1000000000] B (hR T en a')) ((e y).ren (ofBig [1000000000] B)))
 (h2:subH h (toBig [1000000000] 0) (memB [1000000000]) [1000000000] 0=some (hR T en a):=by rfl) (h1:(AV.withins (memB [1000000000]) args&&nodupB [1000000000])=true:=by rfl) (h3:newCk h B 1 [1000000000]=true:=by rfl):pcall Tryz.prog f args h K:=by
 rcases o with p|⟨y,a'⟩
 ·exact(hp p rfl).elim
 ·exact(amc [1000000000] B (c _ _ rfl) (hk y a' rfl) h2 h1 (by show(true&&newCk h B 1 [1000000000]&&true)=true;rw[h3];rfl))
end
end PA
open Go Go.AM Go.Proofs TK
set_option maxRecDepth 100000
namespace PA
section
variable {T:List Tk} {en:Int}
theorem oL {a a':Nat} {r:AV} {f:Nat} {args:List AV} {h:Heap} {K:List Nat→Heap→AV→Prop} (B:Nat) (c:AMem Tryz.prog f (AV.rens (toBig [1000000000] 0) args) (hR T en a) r (hR T en a'))
 (hk:K [1000000000] (backH [1000000000] B (hR T en a')) (r.ren (ofBig [1000000000] B)))
 (h2:subH h (toBig [1000000000] 0) (memB [1000000000]) [1000000000] 0=some (hR T en a):=by rfl) (h1:(AV.withins (memB [1000000000]) args&&nodupB [1000000000])=true:=by rfl) (h3:newCk h B 1 [1000000000]=true:=by rfl):pcall Tryz.prog f args h K:=
 (amc [1000000000] B c hk h2 h1 (by show(true&&newCk h B 1 [1000000000]&&true)=true;rw[h3];rfl))
end
def kindF (T:List Tk) (en:Int) (k:Int) (a:Nat):PR ByteArray:=bif (lookF T a).kind != k then .error (placeF T en a) else .ok (B (lookF T a).text,a+1)
theorem kind_spec (T:List Tk) (hT:T.length≤4000) (en:Int) (a:Nat) (ha:a≤T.length) (k:Int) (hk:k≠0):AMemO Tryz.prog 91 [.ptr 1000000000 0,.p (.i .i64 k)] (hR T en a) (oR T en (fun s=>.p (.s s)) (kindF T en k a)):=by
 have c:=look_spec T hT en a ha;unfold kindF;have hin:=@look_in T a;generalize lookF T a=t at c hin;obtain⟨k',x,p⟩:=t;generalize hx:(bif k' != k then _ else _)=X;refine oI Tryz.func91 rfl (by rfl) (by show 2≤_;decide) (fun _=>rfl) (by kernel_rfl) ?_;intro hX;(conv=>whnf);refine oL 500 (c) ?_;(conv=>whnf);generalize hb:(k' != k)=b at hx ⊢
 cases b with
 |true=>
  (conv=>whnf);subst hx;exact(okE hX).elim
 |false=>
  (conv=>whnf);have hw:IntKind.i64.wrap ((a:Int)+1)=((a+1:Nat):Int):=by rw[wrap64 (by omega) (by omega)];rfl
  subst hx;rw[hw];exact⟨.inl rfl,ob_refl _,trivial⟩
def leP (T:List Tk) (a:Nat) {α:Type} (x:PR α):Prop:=∀y a',x=.ok (y,a')→a≤a'∧a'≤T.length
def ltP (T:List Tk) (a:Nat) {α:Type} (x:PR α):Prop:=∀y a',x=.ok (y,a')→a<a'∧a'≤T.length
theorem leP_ok {T:List Tk} {a:Nat} {α:Type} {y:α} {b:Nat} (h1:a≤b) (h2:b≤T.length):leP T a (.ok (y,b)):=by intro _ _ h;cases h;exact⟨h1,h2⟩
theorem leP_err {T:List Tk} {a:Nat} {α:Type} {p:Int}:leP T a (.error p:PR α):=by intro _ _ h;cases h
theorem leP_bind {T:List Tk} {a:Nat} {α β:Type} {x:PR α} {f:α→Nat→PR β} (h1:leP T a x) (h2:∀y b,x=.ok (y,b)→a≤b→b≤T.length→leP T b (f y b)):leP T a (bindP x f):=by
 rcases x with p|⟨y,b⟩
 ·exact leP_err
 ·intro z c h
  obtain⟨q1,q2⟩:=h1 y b rfl;obtain⟨q3,q4⟩:=h2 y b rfl q1 q2 z c h;exact⟨by omega,q4⟩
theorem leP_lt {T:List Tk} {a:Nat} {α β:Type} {x:PR α} {f:α→Nat→PR β} (h1:ltP T a x) (h2:∀y b,x=.ok (y,b)→a<b→b≤T.length→leP T b (f y b)):ltP T a (bindP x f):=by
 rcases x with p|⟨y,b⟩
 ·intro _ _ h;cases h
 ·intro z c h
  obtain⟨q1,q2⟩:=h1 y b rfl;obtain⟨q3,q4⟩:=h2 y b rfl q1 q2 z c h;exact⟨by omega,q4⟩
theorem ltP.le {T:List Tk} {a:Nat} {α:Type} {x:PR α} (h:ltP T a x):leP T a x:=fun y b e=>⟨by have:=h y b e;omega,(h y b e).2⟩
theorem kind_lt (T:List Tk) (en:Int) (k:Int) (hk:k≠0) (a:Nat):ltP T a (kindF T en k a):=by
 intro y b h;unfold kindF at h
 cases hb:(lookF T a).kind != k with
 |true=>rw[hb]at h;cases h
 |false=>
  rw[hb]at h;cases h;have:(lookF T a).kind=k:=by simpa using hb
  have:=look_in (T:=T) (a:=a) (by omega);omega
theorem low_spec (T:List Tk) (hT:T.length≤4000) (en:Int) (a:Nat) (ha:a≤T.length):AMemO Tryz.prog 59 [.ptr 1000000000 0] (hR T en a) (oR T en (fun s=>.p (.s s)) (kindF T en 1 a)):=by
 generalize hx:kindF T en 1 a=X;refine oI Tryz.func59 rfl (by rfl) (by show 1≤_;decide) (fun _=>rfl) (by kernel_rfl) ?_;intro hX;(conv=>whnf);refine oC 500 (kind_spec T hT en a ha 1 (by decide)) (fun p hp=>?_) (fun y a1 hy=>?_)
 ·rw[hp]at hx;subst hx;exact okE hX
 rw[hy]at hx;subst hx;(conv=>whnf);exact⟨.inl rfl,ob_refl _,trivial⟩
theorem up_spec (T:List Tk) (hT:T.length≤4000) (en:Int) (a:Nat) (ha:a≤T.length):AMemO Tryz.prog 95 [.ptr 1000000000 0] (hR T en a) (oR T en (fun s=>.p (.s s)) (kindF T en 2 a)):=by
 generalize hx:kindF T en 2 a=X;refine oI Tryz.func95 rfl (by rfl) (by show 1≤_;decide) (fun _=>rfl) (by kernel_rfl) ?_;intro hX;(conv=>whnf);refine oC 500 (kind_spec T hT en a ha 2 (by decide)) (fun p hp=>?_) (fun y a1 hy=>?_)
 ·rw[hp]at hx;subst hx;exact okE hX
 rw[hy]at hx;subst hx;(conv=>whnf);exact⟨.inl rfl,ob_refl _,trivial⟩
def wantF (T:List Tk) (en:Int):List ByteArray→Nat→PR Unit
 | [],a=>.ok ((),a)
 |s::r,a=>bif isF T s a then wantF T en r (a+1) else .error (placeF T en a)
theorem want_le (T:List Tk) (en:Int):∀l a,a≤T.length→leP T a (wantF T en l a)
 | [],a,h=>leP_ok (Nat.le_refl _) h
 |s::r,a,h=>by
  rw[wantF]
  cases hb:isF T s a with
  |true=>have:=isF_in hb;exact fun y b e=>by have:=want_le T en r (a+1) (by omega) y b e;exact⟨by omega,this.2⟩
  |false=>exact leP_err
theorem want_lt (T:List Tk) (en:Int) (s:ByteArray) (r:List ByteArray) (a:Nat):ltP T a (wantF T en (s::r) a):=by
 rw[wantF]
 cases hb:isF T s a with
 |true=>have:=isF_in hb;exact fun y b e=>by have:=want_le T en r (a+1) (by omega) y b e;exact⟨by omega,this.2⟩
 |false=>intro _ _ h;cases h
theorem want_spec (T:List Tk) (hT:T.length≤4000) (en:Int) (a:Nat) (ha:a≤T.length) (l:List ByteArray) (hl:l.length≤100):AMemO Tryz.prog 58 [.ptr 1000000000 0,.p (.sl 1 (l.map PV.s))] (hR T en a) (oR T en (fun _=>.tup []) (wantF T en l a)):=by
 generalize hx:wantF T en l a=X;have hll:(l.map PV.s).length=l.length:=List.length_map _;refine oI Tryz.func58 rfl (by rfl) (by show 2≤_;decide) (fun _=>rfl) (by kernel_rfl) ?_;intro hX;(conv=>whnf);refine loopS (tyOf_ok _) hmix (by kernel_rfl) l.length [0,6,7,8] [1000000000] (fun k (s:Nat)=>[.ptr 1000000000 0,.p (.sl 1 (l.map PV.s)),.p (.i .i64 (l.map PV.s).length),.p (.i .i64 (ix k))]) (fun k s=>[.cells [.p (.sl 3 (T.map eTk)),.p (.i .i64 s),.p (.i .i64 en)]]) (fun k s=>s≤T.length∧wantF T en (l.drop k) s=X) a ⟨rfl,rfl,rfl,rfl⟩ ⟨ha,hx⟩ ?_;rintro k s hk ⟨hs,hx⟩;(conv=>whnf);refine asplit ?_ ?_<;>intro h<;>conv=>whnf
 ·have h1:=ix_tt h (n:=l.length) (by rw[hll]) hk (by omega)
  obtain⟨b,hb⟩:∃b,l[k]?=some b:=⟨_,List.getElem?_eq_getElem h1⟩
  rw[drop_cons hb,wantF]at hx;refine aidxk (x:=.s b) (by rw[List.getElem?_map,hb];rfl) (by omega) ?_;(conv=>whnf);refine oL 500 (take_spec T hT en s hs b) ?_;(conv=>whnf);unfold takeF
  cases hi:isF T b s with
  |true=>
   have:=isF_in hi;rw[hi,cond_true]at hx;(conv=>whnf);exact⟨h1,s+1,⟨rfl,rfl,rfl,rfl⟩,by omega,hx⟩
  |false=>
   rw[hi,cond_false]at hx;(conv=>whnf);subst hx;exact(okE hX).elim
 ·have h1:=ix_ff h (n:=l.length) (by rw[hll]) hk (by omega)
  rw[h1,List.drop_length,wantF]at hx;subst hx;exact⟨.inl rfl,ob_refl _,trivial⟩
end PA
open Go Go.AM Go.Proofs TK
set_option maxRecDepth 100000
namespace PA
abbrev comma:ByteArray:=⟨#[44]⟩
def listGo (T:List Tk) {α:Type} (Fs:Nat→PR α):Nat→List α→Nat→PR (List α)
 |0,out,a=>.ok (out,a)
 |m+1,out,a=>bif isF T comma a then bindP (Fs (a+1)) fun y b=>listGo T Fs m (out++[y]) b else .ok (out,a)
def listF (T:List Tk) {α:Type} (Fs:Nat→PR α) (a:Nat):PR (List α):=bindP (Fs a) fun y b=>listGo T Fs T.length [y] b
theorem listGo_end {T:List Tk} {α:Type} {Fs:Nat→PR α} {m:Nat} {out:List α} {a:Nat} (h:isF T comma a=false):listGo T Fs m out a=.ok (out,a):=by
 cases m with
 |zero=>rfl
 |succ m=>rw[listGo,h];rfl
theorem listGo_step {T:List Tk} {α:Type} {Fs:Nat→PR α} {m k:Nat} {out:List α} {a:Nat} (h:isF T comma a=true) (hm:m=k+1):listGo T Fs m out a=bindP (Fs (a+1)) fun y b=>listGo T Fs k (out++[y]) b:=by
 rw[hm,listGo,h];rfl
theorem listGo_le {T:List Tk} {α:Type} {Fs:Nat→PR α} (hF:∀b,ltP T b (Fs b)):∀m out a,a≤T.length→leP T a (listGo T Fs m out a)
 |0,out,a,h=>leP_ok (Nat.le_refl _) h
 |m+1,out,a,h=>by
  rw[listGo]
  cases isF T comma a with
  |false=>exact leP_ok (Nat.le_refl _) h
  |true=>
   intro y b e;have:=leP_lt (hF (a+1)) (f:=fun y b=>listGo T Fs m (out++[y]) b) (fun y b _ _ hb=>listGo_le hF m _ b hb) y b e;omega
theorem list_lt {T:List Tk} {α:Type} {Fs:Nat→PR α} (hF:∀b,ltP T b (Fs b)) (a:Nat):ltP T a (listF T Fs a):=leP_lt (hF a) fun y b _ _ hb=>listGo_le hF _ _ b hb
theorem listStr_spec (T:List Tk) (hT:T.length≤4000) (en:Int) (a:Nat) (ha:a≤T.length):AMemO Tryz.prog 157 [.ptr 1000000000 0,.fn 59 [.ptr 1000000000 0] []] (hR T en a) (oR T en (fun l=>.p (.sl 1 (l.map PV.s))) (listF T (kindF T en 1) a)):=by
 generalize hx:listF T (kindF T en 1) a=X;unfold listF at hx;refine oI Tryz.func157 rfl (by rfl) (by show 2≤_;decide) (fun _=>rfl) (by kernel_rfl) ?_;intro hX;(conv=>whnf);refine oC 500 (low_spec T hT en a ha) (fun p hp=>?_) (fun y a1 hy=>?_)
 ·rw[hp]at hx;subst hx;exact okE hX
 rw[hy,bindP_ok]at hx;(conv=>whnf);obtain⟨q1,q2⟩:=kind_lt T en 1 (by decide) a y a1 hy;refine loopS (tyOf_ok _) hmix (by kernel_rfl) T.length [0,1,5] [1000000000] (fun k (s:List ByteArray×Nat)=>[.ptr 1000000000 0,.fn 59 [.ptr 1000000000 0] [],.so 1 (s.1.map PV.s)]) (fun k s=>[.cells [.p (.sl 3 (T.map eTk)),.p (.i .i64 s.2),.p (.i .i64 en)]]) (fun k s=>k+1≤s.2∧s.2≤T.length∧s.1.length≤k+1∧listGo T (kindF T en 1) (T.length-k) s.1 s.2=X) ([y],a1) ⟨rfl,rfl,rfl,rfl⟩ ⟨by omega,q2,by simp,hx⟩ ?_;rintro k ⟨out,s⟩ hk ⟨hs1,hs,hs3,hx⟩;simp only at hs1 hs hs3 hx ⊢;(conv=>whnf);refine oL 500 (take_spec T hT en s hs comma) ?_;(conv=>whnf);unfold takeF
 cases hi:isF T comma s with
 |true=>
  have:=isF_in hi;rw[listGo_step hi (show T.length-k=(T.length-(k+1))+1 by omega)]at hx;(conv=>whnf);refine oC 500 (low_spec T hT en (s+1) (by omega)) (fun p hp=>?_) (fun y b hy=>?_)
  ·rw[hp]at hx;subst hx;exact okE hX
  rw[hy,bindP_ok]at hx;(conv=>whnf);obtain⟨q3,q4⟩:=kind_lt T en 1 (by decide) (s+1) y b hy;refine aneed (Nat.le_trans (Nat.mul_le_mul_right _ (show _≤5000 by simp only[List.length_map,List.length_cons,List.length_nil];omega)) (Nat.le_of_ble_eq_true (by kernel_rfl))) ?_;(conv=>whnf);refine⟨by omega,(out++[y],b),?_,by show k+1+1≤b;omega,q4,by show(out++[y]).length≤k+1+1;simp only[List.length_append,List.length_cons,List.length_nil];omega,hx⟩;rw[show(out++[y]).map PV.s=out.map PV.s++[PV.s y] by simp];exact⟨rfl,rfl,rfl,rfl⟩
 |false=>
  rw[listGo_end hi]at hx;subst hx;(conv=>whnf);exact⟨.inr rfl,ob_refl _,trivial⟩
def paramsF (T:List Tk) (en:Int) (a:Nat):PR (List ByteArray):=bif isF T ⟨#[91]⟩ a then bindP (listF T (kindF T en 1) (a+1)) fun l b=>bindP (wantF T en [⟨#[93]⟩] b) fun _ c=>.ok (l,c) else .ok ([],a)
theorem params_le (T:List Tk) (en:Int) (a:Nat) (ha:a≤T.length):leP T a (paramsF T en a):=by
 unfold paramsF
 cases isF T ⟨#[91]⟩ a with
 |false=>exact leP_ok (Nat.le_refl _) ha
 |true=>
  intro y b h;have:=leP_lt (list_lt (kind_lt T en 1 (by decide)) (a+1)) (fun l b _ _ hb=>leP_bind (want_le T en [⟨#[93]⟩] b hb) fun u c _ _ hc=>leP_ok (y:=l) (Nat.le_refl c) hc) y b h;omega
theorem params_spec (T:List Tk) (hT:T.length≤4000) (en:Int) (a:Nat) (ha:a≤T.length):AMemO Tryz.prog 131 [.ptr 1000000000 0] (hR T en a) (oR T en (fun l=>.p (.sl 1 (l.map PV.s))) (paramsF T en a)):=by
 generalize hx:paramsF T en a=X;unfold paramsF at hx;refine oI Tryz.func131 rfl (by rfl) (by show 1≤_;decide) (fun _=>rfl) (by kernel_rfl) ?_;intro hX;(conv=>whnf);refine oL 500 (take_spec T hT en a ha ⟨#[91]⟩) ?_;(conv=>whnf);unfold takeF
 cases hi:isF T ⟨#[91]⟩ a with
 |true=>
  have:=isF_in hi;rw[hi,cond_true]at hx;(conv=>whnf);refine oC 500 (listStr_spec T hT en (a+1) (by omega)) (fun p hp=>?_) (fun y b hy=>?_)
  ·rw[hp]at hx;subst hx;exact okE hX
  rw[hy,bindP_ok]at hx;(conv=>whnf);obtain⟨q1,q2⟩:=list_lt (kind_lt T en 1 (by decide)) (a+1) y b hy;refine oC 500 (want_spec T hT en b q2 [⟨#[93]⟩] (by decide)) (fun p hp=>?_) (fun u c hy=>?_)
  ·rw[hp]at hx;subst hx;exact okE hX
  rw[hy,bindP_ok]at hx;(conv=>whnf);subst hx;exact⟨.inl rfl,ob_refl _,trivial⟩
 |false=>
  rw[hi,cond_false]at hx;(conv=>whnf);subst hx;exact⟨.inr rfl,ob_refl _,trivial⟩
end PA
open Go Go.AM Go.Proofs TK TR
set_option maxRecDepth 100000
namespace PA
abbrev opn:ByteArray:=⟨#[40]⟩
abbrev cls:ByteArray:=⟨#[41]⟩
def insideF (T:List Tk) (en:Int) {α:Type} (Fs:Nat→PR α) (a:Nat):PR (List α):=bindP (wantF T en [opn] a) fun _ b=>bif isF T cls b then .ok ([],b+1) else bindP (listF T Fs b) fun l c=>bindP (wantF T en [cls] c) fun _ d=>.ok (l,d)
def maybeF (T:List Tk) (en:Int) {α:Type} (Fs:Nat→PR α) (a:Nat):PR (List α):=bif isF T opn a then bindP (listF T Fs (a+1)) fun l c=>bindP (wantF T en [cls] c) fun _ d=>.ok (l,d) else .ok ([],a)
theorem inside_lt {T:List Tk} {en:Int} {α:Type} {Fs:Nat→PR α} (hF:∀b,ltP T b (Fs b)) (a:Nat):ltP T a (insideF T en Fs a):=by
 refine leP_lt (want_lt T en opn [] a) fun y b _ _ hb=>?_
 cases h:isF T cls b with
 |true=>have:=isF_in h;exact leP_ok (Nat.le_succ _) this
 |false=>exact leP_bind (list_lt hF b).le fun l c _ _ hc=>leP_bind (want_le T en [cls] c hc) fun _ d _ _ hd=>leP_ok (Nat.le_refl _) hd
theorem maybe_le {T:List Tk} {en:Int} {α:Type} {Fs:Nat→PR α} (hF:∀b,ltP T b (Fs b)) (a:Nat) (ha:a≤T.length):leP T a (maybeF T en Fs a):=by
 unfold maybeF
 cases h:isF T opn a with
 |false=>exact leP_ok (Nat.le_refl _) ha
 |true=>
  intro y b e;have:=leP_lt (list_lt hF (a+1)) (fun l c _ _ hc=>leP_bind (want_le T en [cls] c hc) fun _ d _ _ hd=>leP_ok (y:=l) (Nat.le_refl _) hd) y b e;omega
theorem listT_spec (T:List Tk) (hT:T.length≤4000) (en:Int) (F:Nat) (Fs:Nat→PR Ty) (hlt:∀b,ltP T b (Fs b)) (a:Nat) (ha:a≤T.length) (hF:∀b,a≤b→b≤T.length→AMemO Tryz.prog F [.ptr 1000000000 0] (hR T en b) (oR T en (fun y=>.p (eT y)) (Fs b))):AMemO Tryz.prog 158 [.ptr 1000000000 0,.fn F [.ptr 1000000000 0] []] (hR T en a) (oR T en (fun l=>.so 3 (l.map eT)) (listF T Fs a)):=by
 generalize hx:listF T Fs a=X;unfold listF at hx;refine oI Tryz.func158 rfl (by rfl) (by show 2≤_;decide) (fun _=>rfl) (by kernel_rfl) ?_;intro hX;(conv=>whnf);refine oC 500 (hF a (Nat.le_refl _) ha) (fun p hp=>?_) (fun y a1 hy=>?_)
 ·rw[hp]at hx;subst hx;exact okE hX
 rw[hy,bindP_ok]at hx;(conv=>whnf);obtain⟨q1,q2⟩:=hlt a y a1 hy;obtain⟨yk,yn,ya⟩:=y;refine loopS (tyOf_ok _) hmix (by kernel_rfl) T.length [0,1,5] [1000000000] (fun k (s:List Ty×Nat)=>[.ptr 1000000000 0,.fn F [.ptr 1000000000 0] [],.so 3 (s.1.map eT)]) (fun k s=>[.cells [.p (.sl 3 (T.map eTk)),.p (.i .i64 s.2),.p (.i .i64 en)]]) (fun k s=>k+1≤s.2∧a≤s.2∧s.2≤T.length∧s.1.length≤k+1∧listGo T Fs (T.length-k) s.1 s.2=X) ([Ty.mk yk yn ya],a1) ⟨rfl,rfl,rfl,rfl⟩ ⟨by omega,by omega,q2,by simp,hx⟩ ?_;rintro k ⟨out,s⟩ hk ⟨hs1,hs2,hs,hs3,hx⟩;simp only at hs1 hs2 hs hs3 hx ⊢;(conv=>whnf);refine oL 500 (take_spec T hT en s hs comma) ?_;(conv=>whnf);unfold takeF
 cases hi:isF T comma s with
 |true=>
  have:=isF_in hi;rw[listGo_step hi (show T.length-k=(T.length-(k+1))+1 by omega)]at hx;(conv=>whnf);refine oC 500 (hF (s+1) (by omega) (by omega)) (fun p hp=>?_) (fun y b hy=>?_)
  ·rw[hp]at hx;subst hx;exact okE hX
  rw[hy,bindP_ok]at hx;(conv=>whnf);obtain⟨q3,q4⟩:=hlt (s+1) y b hy;obtain⟨yk,yn,ya⟩:=y;refine aneed (Nat.le_trans (Nat.mul_le_mul_right _ (show _≤5000 by simp only[List.length_map,List.length_cons,List.length_nil];omega)) (Nat.le_of_ble_eq_true (by kernel_rfl))) ?_;(conv=>whnf);refine⟨by omega,(out++[Ty.mk yk yn ya],b),?_,by show k+1+1≤b;omega,by show a≤b;omega,q4,by show(out++[_]).length≤k+1+1;simp only[List.length_append,List.length_cons,List.length_nil];omega,hx⟩;rw[show(out++[Ty.mk yk yn ya]).map eT=out.map eT++[eT (Ty.mk yk yn ya)] by simp];exact⟨rfl,rfl,rfl,rfl⟩
 |false=>
  rw[listGo_end hi]at hx;subst hx;(conv=>whnf);exact⟨.inl rfl,ob_refl _,trivial⟩
theorem insideT_spec (T:List Tk) (hT:T.length≤4000) (en:Int) (F:Nat) (Fs:Nat→PR Ty) (hlt:∀b,ltP T b (Fs b)) (a:Nat) (ha:a≤T.length) (hF:∀b,a<b→b≤T.length→AMemO Tryz.prog F [.ptr 1000000000 0] (hR T en b) (oR T en (fun y=>.p (eT y)) (Fs b))):AMemO Tryz.prog 135 [.ptr 1000000000 0,.fn F [.ptr 1000000000 0] []] (hR T en a) (oR T en (fun l=>.so 3 (l.map eT)) (insideF T en Fs a)):=by
 generalize hx:insideF T en Fs a=X;unfold insideF at hx;refine oI Tryz.func135 rfl (by rfl) (by show 2≤_;decide) (fun _=>rfl) (by kernel_rfl) ?_;intro hX;(conv=>whnf);refine oC 500 (want_spec T hT en a ha [opn] (by decide)) (fun p hp=>?_) (fun u b hy=>?_)
 ·rw[hp]at hx;subst hx;exact okE hX
 rw[hy,bindP_ok]at hx;(conv=>whnf);obtain⟨q1,q2⟩:=want_lt T en opn [] a u b hy;refine oL 500 (take_spec T hT en b q2 cls) ?_;(conv=>whnf);unfold takeF
 cases hi:isF T cls b with
 |true=>
  rw[hi,cond_true]at hx;subst hx;(conv=>whnf);exact⟨.inl rfl,ob_refl _,trivial⟩
 |false=>
  rw[hi,cond_false]at hx;(conv=>whnf);refine oC 500 (listT_spec T hT en F Fs hlt b q2 (fun z h1 h2=>hF z (by omega) h2)) (fun p hp=>?_) (fun y c hy=>?_)
  ·rw[hp]at hx;subst hx;exact okE hX
  rw[hy,bindP_ok]at hx;(conv=>whnf);obtain⟨q3,q4⟩:=list_lt hlt b y c hy;refine oC 500 (want_spec T hT en c q4 [cls] (by decide)) (fun p hp=>?_) (fun u d hy=>?_)
  ·rw[hp]at hx;subst hx;exact okE hX
  rw[hy,bindP_ok]at hx;(conv=>whnf);subst hx;exact⟨.inl rfl,ob_refl _,trivial⟩
theorem maybeT_spec (T:List Tk) (hT:T.length≤4000) (en:Int) (F:Nat) (Fs:Nat→PR Ty) (hlt:∀b,ltP T b (Fs b)) (a:Nat) (ha:a≤T.length) (hF:∀b,a<b→b≤T.length→AMemO Tryz.prog F [.ptr 1000000000 0] (hR T en b) (oR T en (fun y=>.p (eT y)) (Fs b))):AMemO Tryz.prog 132 [.ptr 1000000000 0,.fn F [.ptr 1000000000 0] []] (hR T en a) (oR T en (fun l=>.p (.sl 3 (l.map eT))) (maybeF T en Fs a)):=by
 generalize hx:maybeF T en Fs a=X;unfold maybeF at hx;refine oI Tryz.func132 rfl (by rfl) (by show 2≤_;decide) (fun _=>rfl) (by kernel_rfl) ?_;intro hX;(conv=>whnf);refine oL 500 (take_spec T hT en a ha opn) ?_;(conv=>whnf);unfold takeF
 cases hi:isF T opn a with
 |true=>
  have:=isF_in hi;rw[hi,cond_true]at hx;(conv=>whnf);refine oC 500 (listT_spec T hT en F Fs hlt (a+1) (by omega) (fun z h1 h2=>hF z (by omega) h2)) (fun p hp=>?_) (fun y c hy=>?_)
  ·rw[hp]at hx;subst hx;exact okE hX
  rw[hy,bindP_ok]at hx;(conv=>whnf);obtain⟨q3,q4⟩:=list_lt hlt (a+1) y c hy;refine oC 500 (want_spec T hT en c q4 [cls] (by decide)) (fun p hp=>?_) (fun u d hy=>?_)
  ·rw[hp]at hx;subst hx;exact okE hX
  rw[hy,bindP_ok]at hx;(conv=>whnf);subst hx;exact⟨.inr rfl,ob_refl _,trivial⟩
 |false=>
  rw[hi,cond_false]at hx;subst hx;(conv=>whnf);exact⟨.inr rfl,ob_refl _,trivial⟩
end PA
open Go Go.AM Go.Proofs TK TR
set_option maxRecDepth 100000
namespace PA
def plainUpF (T:List Tk) (en:Int) (a:Nat):PR ByteArray:=bif ((B (lookF T a).text).toList==(⟨#[82,101,102]⟩:ByteArray).toList)||((B (lookF T a).text).toList==(⟨#[67,101,108,108]⟩:ByteArray).toList) then .error (placeF T en a) else kindF T en 2 a
theorem plainUp_lt (T:List Tk) (en:Int) (a:Nat):ltP T a (plainUpF T en a):=by
 unfold plainUpF;generalize (_||_)=b
 cases b with
 |true=>intro _ _ h;cases h
 |false=>exact kind_lt T en 2 (by decide) a
theorem plainUp_spec (T:List Tk) (hT:T.length≤4000) (en:Int) (a:Nat) (ha:a≤T.length):AMemO Tryz.prog 130 [.ptr 1000000000 0] (hR T en a) (oR T en (fun s=>.p (.s s)) (plainUpF T en a)):=by
 have c:=look_spec T hT en a ha;generalize hx:plainUpF T en a=X;unfold plainUpF at hx;generalize lookF T a=t at c hx;obtain⟨k',x,p⟩:=t;refine oI Tryz.func130 rfl (by rfl) (by show 1≤_;decide) (fun _=>rfl) (by kernel_rfl) ?_;intro hX;(conv=>whnf);refine oL 500 (c) ?_;(conv=>whnf);generalize hb:((B ({ kind:=k',text:=x,at_:=p }:Tk).text).toList==(⟨#[82,101,102]⟩:ByteArray).toList)=b at hx ⊢
 cases b with
 |true=>
  (conv=>whnf);subst hx;exact(okE hX).elim
 |false=>
  (conv=>whnf);generalize hb2:((B ({ kind:=k',text:=x,at_:=p }:Tk).text).toList==(⟨#[67,101,108,108]⟩:ByteArray).toList)=b2 at hx ⊢
  cases b2 with
  |true=>
   (conv=>whnf);subst hx;exact(okE hX).elim
  |false=>
   (conv=>whnf);replace hx:kindF T en 2 a=X:=hx;refine oC 500 (up_spec T hT en a ha) (fun p hp=>?_) (fun y a1 hy=>?_)
   ·rw[hp]at hx;subst hx;exact okE hX
   rw[hy]at hx;subst hx;(conv=>whnf);exact⟨.inl rfl,ob_refl _,trivial⟩
def base4:List ByteArray:=[⟨#[105,110,116]⟩,⟨#[98,111,111,108]⟩,⟨#[116,101,120,116]⟩,⟨#[117,110,105,116]⟩]
def tysF (T:List Tk) (a:Nat) (rest:PR Ty):List ByteArray→Nat→PR Ty
 | [],_=>rest
 |s::r,i=>bif isF T s a then .ok (.mk (1+i) ⟨#[]⟩ [],a+1) else tysF T a rest r (i+1)
def typF (T:List Tk) (en:Int):Nat→Nat→PR Ty
 |0,_=>.error 0
 |n+1,a=>tysF T a (
   bif isF T ⟨#[115,101,108,102]⟩ a then .ok (.mk 5 ⟨#[115,101,108,102]⟩ [],a+1) else
   bif isF T ⟨#[102,110]⟩ a then bindP (insideF T en (typF T en n) (a+1)) fun l b=>bindP (wantF T en [⟨#[58]⟩] b) fun _ c=>bindP (typF T en n c) fun t d=>.ok (.mk 7 ⟨#[]⟩ (l++[t]),d) else
   bif (lookF T a).kind==1 then bindP (kindF T en 1 a) fun s b=>.ok (.mk 5 s [],b) else
   bindP (kindF T en 2 a) fun s b=>
    bif (s.toList==(⟨#[82,101,102]⟩:ByteArray).toList)||(s.toList==(⟨#[67,101,108,108]⟩:ByteArray).toList) then
     bindP (wantF T en [opn] b) fun _ c=>bindP (typF T en n c) fun t d=>bindP (wantF T en [cls] d) fun _ f=>.ok (.mk (bif s.toList==(⟨#[67,101,108,108]⟩:ByteArray).toList then 9 else 8) ⟨#[]⟩ [t],f)
    else bindP (maybeF T en (typF T en n) b) fun l c=>.ok (.mk 6 s l,c)) base4 0
theorem ltP_err {T:List Tk} {a:Nat} {α:Type} {p:Int}:ltP T a (.error p:PR α):=by intro _ _ h;cases h
theorem ltP_step {T:List Tk} {a b:Nat} {α:Type} {x:PR α} (h:a<b) (hx:leP T b x):ltP T a x:=fun y c e=>by have:=hx y c e;omega
theorem tys_lt {T:List Tk} {a:Nat} {rest:PR Ty} (h:ltP T a rest):∀l i,ltP T a (tysF T a rest l i)
 | [],_=>h
 |s::r,i=>by
  rw[tysF]
  cases hi:isF T s a with
  |true=>have:=isF_in hi;exact ltP_step (Nat.lt_succ_self a) (leP_ok (Nat.le_refl _) this)
  |false=>exact tys_lt h r (i+1)
theorem typ_lt (T:List Tk) (en:Int):∀n a,ltP T a (typF T en n a)
 |0,a=>ltP_err
 |n+1,a=>by
  rw[typF];refine tys_lt ?_ _ _
  cases h1:isF T ⟨#[115,101,108,102]⟩ a with
  |true=>have:=isF_in h1;exact ltP_step (Nat.lt_succ_self a) (leP_ok (Nat.le_refl _) this)
  |false=>
   simp only[cond_false]
   cases h2:isF T ⟨#[102,110]⟩ a with
   |true=>
    refine ltP_step (Nat.lt_succ_self a) ?_;refine leP_bind (inside_lt (typ_lt T en n) (a+1)).le fun l b _ _ hb=>leP_bind (want_le T en _ b hb) fun _ c _ _ hc=>leP_bind (typ_lt T en n c).le fun t d _ _ hd=>leP_ok (Nat.le_refl _) hd
   |false=>
    simp only[cond_false]
    cases h3:(lookF T a).kind==1 with
    |true=>exact leP_lt (kind_lt T en 1 (by decide) a) fun s b _ _ hb=>leP_ok (Nat.le_refl _) hb
    |false=>
     refine leP_lt (kind_lt T en 2 (by decide) a) fun s b _ _ hb=>?_;generalize (_||_)=g
     cases g with
     |true=>exact leP_bind (want_le T en _ b hb) fun _ c _ _ hc=>leP_bind (typ_lt T en n c).le fun t d _ _ hd=>leP_bind (want_le T en _ d hd) fun _ f _ _ hf=>leP_ok (Nat.le_refl _) hf
     |false=>exact leP_bind (maybe_le (typ_lt T en n) b hb) fun l c _ _ hc=>leP_ok (Nat.le_refl _) hc
end PA
open Go Go.AM Go.Proofs TK TR
set_option maxRecDepth 100000
namespace PA
theorem bindP_inv {α β:Type} {x:PR α} {f:α→Nat→PR β} {z:β} {c:Nat} (h:bindP x f=.ok (z,c)):∃y b,x=.ok (y,b)∧f y b=.ok (z,c):=by
 rcases x with p|⟨y,b⟩
 ·cases h
 ·exact⟨y,b,rfl,h⟩
theorem listGo_len {T:List Tk} {α:Type} {Fs:Nat→PR α} (hF:∀b,ltP T b (Fs b)):∀m out a l b,listGo T Fs m out a=.ok (l,b)→l.length+a≤out.length+b
 |0,out,a,l,b,h=>by cases h;omega
 |m+1,out,a,l,b,h=>by
  rw[listGo]at h
  cases hi:isF T comma a with
  |false=>rw[hi]at h;cases h;omega
  |true=>
   rw[hi,cond_true]at h;obtain⟨y,c,h1,h2⟩:=bindP_inv h;have:=hF _ y c h1;have:=listGo_len hF m _ c l b h2;simp only[List.length_append,List.length_cons,List.length_nil]at this;omega
theorem list_len {T:List Tk} {α:Type} {Fs:Nat→PR α} (hF:∀b,ltP T b (Fs b)) {a:Nat} {l:List α} {b:Nat} (h:listF T Fs a=.ok (l,b)):l.length≤b:=by
 obtain⟨y,c,h1,h2⟩:=bindP_inv h;have:=listGo_len hF _ _ c l b h2;have:=hF _ y c h1;simp only[List.length_cons,List.length_nil]at *;omega
theorem inside_len {T:List Tk} {en:Int} {α:Type} {Fs:Nat→PR α} (hF:∀b,ltP T b (Fs b)) {a:Nat} {l:List α} {b:Nat} (h:insideF T en Fs a=.ok (l,b)):l.length≤T.length:=by
 have hb:=(inside_lt hF a l b h).2;obtain⟨u,c,h1,h2⟩:=bindP_inv h
 cases hi:isF T cls c with
 |true=>rw[hi]at h2;cases h2;simp
 |false=>
  rw[hi,cond_false]at h2;obtain⟨k,d,h3,h4⟩:=bindP_inv h2;obtain⟨v,e,h5,h6⟩:=bindP_inv h4;cases h6;have:=list_len hF h3;have:=(list_lt hF c _ _ h3).2;omega
theorem typ_spec (T:List Tk) (hT:T.length≤4000) (en:Int):∀n a,a≤T.length→T.length<n+a→AMemO Tryz.prog 102 [.ptr 1000000000 0] (hR T en a) (oR T en (fun t=>.p (eT t)) (typF T en n a))
 |0,a,ha,hn=>by omega
 |n+1,a,ha,hn=>by
  have ih:=typ_spec T hT en n;have hF:∀b,a<b→b≤T.length→AMemO Tryz.prog 102 [.ptr 1000000000 0] (hR T en b) (oR T en (fun t=>.p (eT t)) (typF T en n b)):=fun b h1 h2=>ih b h2 (by omega);generalize hx:typF T en (n+1) a=X;rw[typF]at hx;generalize hrest:(bif isF T ⟨#[115,101,108,102]⟩ a then _ else _)=rest at hx;refine oI Tryz.func102 rfl (by rfl) (by show 1≤_;decide) (fun _=>rfl) (by kernel_rfl) ?_;intro hX;(conv=>whnf);refine loopS (tyOf_ok _) hmix (by kernel_rfl) 4 [0,2,8,9,10] [2,1000000000] (fun k (s:Unit)=>[.ptr 1000000000 0,.ptr 2 0,.so 1 (base4.map PV.s),.p (.i .i64 4),.p (.i .i64 (ix k))]) (fun k s=>[.cells [.p (.i .i64 0),.p (.s ⟨#[]⟩),.nilS],.cells [.p (.sl 3 (T.map eTk)),.p (.i .i64 a),.p (.i .i64 en)]]) (fun k s=>tysF T a rest (base4.drop k) k=X) () ⟨rfl,rfl,rfl,rfl⟩ hx ?_;rintro k _ hk hx;(conv=>whnf);refine asplit ?_ ?_<;>intro h<;>conv=>whnf
  ·have h1:=ix_tt h (n:=4) rfl hk (by omega)
   obtain⟨b,hb⟩:∃b,base4[k]?=some b:=⟨_,List.getElem?_eq_getElem h1⟩
   rw[drop_cons hb,tysF]at hx;refine aidxk (x:=.s b) (by rw[List.getElem?_map,hb];rfl) (by omega) ?_;(conv=>whnf);refine oL 500 (take_spec T hT en a ha b) ?_;(conv=>whnf);unfold takeF
   cases hi:isF T b a with
   |true=>
    rw[hi,cond_true]at hx;have hw:IntKind.i64.wrap (1+ix k)=1+(k:Int):=by rw[ix_eq (by omega),wrap64 (by omega) (by omega)]
    (conv=>whnf);subst hx;rw[hw];exact⟨.inl rfl,ob_refl _,trivial⟩
   |false=>
    rw[hi,cond_false]at hx;(conv=>whnf);exact⟨h1,(),⟨rfl,rfl,rfl,rfl⟩,hx⟩
  ·have h1:=ix_ff h (n:=4) rfl hk (by omega)
   subst h1;replace hx:rest=X:=hx;subst hx;refine oL 500 (take_spec T hT en a ha ⟨#[115,101,108,102]⟩) ?_;(conv=>whnf);unfold takeF
   cases h1:isF T ⟨#[115,101,108,102]⟩ a with
   |true=>
    rw[h1,cond_true]at hrest;(conv=>whnf);subst hrest;exact⟨.inl rfl,ob_refl _,trivial⟩
   |false=>
    rw[h1,cond_false]at hrest;(conv=>whnf);refine oL 500 (take_spec T hT en a ha ⟨#[102,110]⟩) ?_;(conv=>whnf);unfold takeF
    cases h2:isF T ⟨#[102,110]⟩ a with
    |true=>
     have:=isF_in h2;rw[h2,cond_true]at hrest;(conv=>whnf);refine oC 500 (insideT_spec T hT en 102 _ (typ_lt T en n) (a+1) this (fun z h3 h4=>hF z (by omega) h4)) (fun p hp=>?_) (fun l b hy=>?_)
     ·rw[hp]at hrest;subst hrest;exact okE hX
     rw[hy,bindP_ok]at hrest;(conv=>whnf);obtain⟨q1,q2⟩:=inside_lt (typ_lt T en n) (a+1) l b hy;have hyl:=hy;refine oC 500 (want_spec T hT en b q2 [⟨#[58]⟩] (by decide)) (fun p hp=>?_) (fun u c hy=>?_)
     ·rw[hp]at hrest;subst hrest;exact okE hX
     rw[hy,bindP_ok]at hrest;(conv=>whnf);obtain⟨q3,q4⟩:=want_le T en _ b q2 u c hy;have hll:=inside_len (typ_lt T en n) hyl;refine oC 500 (hF c (by omega) q4) (fun p hp=>?_) (fun t d hy=>?_)
     ·rw[hp]at hrest;subst hrest;exact okE hX
     rw[hy,bindP_ok]at hrest;(conv=>whnf);obtain⟨tk,tn,ta⟩:=t;(conv=>whnf);refine aneed (Nat.le_trans (Nat.mul_le_mul_right _ (show _≤5000 by simp only[List.length_map,List.length_cons,List.length_nil];omega)) (Nat.le_of_ble_eq_true (by kernel_rfl))) ?_;(conv=>whnf);subst hrest;refine⟨?_,ob_refl _,trivial⟩
     left
     show _=AV.p (.agg [.i .i64 7,.s _,.sl 3 (eTs (l++[_]))]);rw[eTs_app,eTs_map];rfl
    |false=>
     rw[h2,cond_false]at hrest;(conv=>whnf);refine oL 500 (look_spec T hT en a ha) ?_;(conv=>whnf)
     cases h3:(lookF T a).kind==1 with
     |true=>
      rw[h3,cond_true]at hrest;(conv=>whnf);refine oC 500 (low_spec T hT en a ha) (fun p hp=>?_) (fun s b hy=>?_)
      ·rw[hp]at hrest;subst hrest;exact okE hX
      rw[hy,bindP_ok]at hrest;(conv=>whnf);subst hrest;exact⟨.inl rfl,ob_refl _,trivial⟩
     |false=>
      rw[h3,cond_false]at hrest;(conv=>whnf);refine oC 500 (up_spec T hT en a ha) (fun p hp=>?_) (fun s b hy=>?_)
      ·rw[hp]at hrest;subst hrest;exact okE hX
      rw[hy,bindP_ok]at hrest;(conv=>whnf);obtain⟨q1,q2⟩:=kind_lt T en 2 (by decide) a s b hy
      cases h4:s.toList==(⟨#[82,101,102]⟩:ByteArray).toList with
      |true=>
       rw[h4,Bool.true_or,cond_true]at hrest;(conv=>whnf);refine oC 500 (want_spec T hT en b q2 [opn] (by decide)) (fun p hp=>?_) (fun u c hy=>?_)
       ·rw[hp]at hrest;subst hrest;exact okE hX
       rw[hy,bindP_ok]at hrest;(conv=>whnf);obtain⟨q3,q4⟩:=want_le T en [opn] b q2 u c hy;refine oC 500 (hF c (by omega) q4) (fun p hp=>?_) (fun t d hy=>?_)
       ·rw[hp]at hrest;subst hrest;exact okE hX
       rw[hy,bindP_ok]at hrest;(conv=>whnf);obtain⟨q5,q6⟩:=typ_lt T en n c t d hy;obtain⟨tk,tn,ta⟩:=t;(conv=>whnf)
       cases h5:s.toList==(⟨#[67,101,108,108]⟩:ByteArray).toList with
       |true=>
        (conv=>whnf);refine oC 500 (want_spec T hT en d q6 [cls] (by decide)) (fun p hp=>?_) (fun u2 f hy=>?_)
        ·rw[hp]at hrest;subst hrest;exact okE hX
        rw[hy,bindP_ok]at hrest;(conv=>whnf);rw[h5]at hrest;subst hrest;exact⟨.inl rfl,ob_refl _,trivial⟩
       |false=>
        (conv=>whnf);refine oC 500 (want_spec T hT en d q6 [cls] (by decide)) (fun p hp=>?_) (fun u2 f hy=>?_)
        ·rw[hp]at hrest;subst hrest;exact okE hX
        rw[hy,bindP_ok]at hrest;(conv=>whnf);rw[h5]at hrest;subst hrest;exact⟨.inl rfl,ob_refl _,trivial⟩
      |false=>
       rw[h4,Bool.false_or]at hrest;(conv=>whnf)
       cases h5:s.toList==(⟨#[67,101,108,108]⟩:ByteArray).toList with
       |true=>
        rw[h5,cond_true]at hrest;(conv=>whnf);refine oC 500 (want_spec T hT en b q2 [opn] (by decide)) (fun p hp=>?_) (fun u c hy=>?_)
        ·rw[hp]at hrest;subst hrest;exact okE hX
        rw[hy,bindP_ok]at hrest;(conv=>whnf);obtain⟨q3,q4⟩:=want_le T en [opn] b q2 u c hy;refine oC 500 (hF c (by omega) q4) (fun p hp=>?_) (fun t d hy=>?_)
        ·rw[hp]at hrest;subst hrest;exact okE hX
        rw[hy,bindP_ok]at hrest;(conv=>whnf);obtain⟨q5,q6⟩:=typ_lt T en n c t d hy;obtain⟨tk,tn,ta⟩:=t;(conv=>whnf)
        cases h6:s.toList==(⟨#[67,101,108,108]⟩:ByteArray).toList with
        |true=>
         (conv=>whnf);refine oC 500 (want_spec T hT en d q6 [cls] (by decide)) (fun p hp=>?_) (fun u2 f hy=>?_)
         ·rw[hp]at hrest;subst hrest;exact okE hX
         rw[hy,bindP_ok]at hrest;(conv=>whnf);subst hrest;exact⟨.inl rfl,ob_refl _,trivial⟩
        |false=>cases h5.symm.trans h6
       |false=>
        rw[h5,cond_false]at hrest;(conv=>whnf);refine oC 500 (maybeT_spec T hT en 102 _ (typ_lt T en n) b q2 (fun z h3 h4=>hF z (by omega) h4)) (fun p hp=>?_) (fun l c hy=>?_)
        ·rw[hp]at hrest;subst hrest;exact okE hX
        rw[hy,bindP_ok]at hrest;(conv=>whnf);subst hrest;refine⟨?_,ob_refl _,trivial⟩
        left
        show _=AV.p (.agg [.i .i64 6,.s _,.sl 3 (eTs l)]);rw[eTs_map];rfl
end PA
open Go Go.AM Go.Proofs TK TR
set_option maxRecDepth 100000
namespace PA
def hN (T:List Tk) (en:Int) (a:Nat):Heap:=[(1000000000,.cells [.p (.sl 3 (T.map eTk)),.p (.i .i64 a),.p (.i .i64 en)]),(1000000001,.cells [.ptr 1000000000 0])]
def oN (T:List Tk) (en:Int) {α:Type} (e:α→AV):PR α→Except Value (AV×Heap)
 |.ok (y,a)=>.ok (e y,hN T en a)
 |.error p=>.error (failV p)
section
variable {T:List Tk} {en:Int} {a:Nat} {α:Type} {e:α→AV}
theorem oIN {x:PR α} {f:Nat} {fn:Func} {c:Code} {args:List AV} (hf:Tryz.prog.funcs[f]?=some fn) (hb:fn.body=some c) (hname:(fn.name== "runtime.NumGoroutine")=false) (hlen:args.length≤fn.ntmps) (he:∀y,(e y).within (memB [1000000000,1000000001])=true) (hok:codeOK fn.ntmps c=true)
 (hk:okX (oN T en e x)=true→awp (tyOf Tryz.prog) (pcall Tryz.prog) (lpOf Tryz.prog fn.ntmps) c (fun x' e' h=>match oN T en e x with|.ok y=>retKM (tyOf Tryz.prog) fn.results.toList fn.resultTypes.toList y.1 y.2 x' e' h|.error _=>False) (argEnv 0 args) (hN T en a)):AMemO Tryz.prog f args (hN T en a) (oN T en e x):=by
 refine AMemO.intro (tyOf_ok Tryz.prog) hmix hf hb hname hlen hok hk ?_;intro r h' hr;rcases x with p|⟨y,a'⟩
 ·cases hr
 ·simp only[oN,Except.ok.injEq,Prod.mk.injEq]at hr
  obtain⟨rfl,rfl⟩:=hr;rw[show keysOf (hN T en a')=[1000000000,1000000001] from rfl,he];rfl
theorem oCN {o:PR α} {f:Nat} {args:List AV} {h:Heap} {K:List Nat→Heap→AV→Prop} (l B:Nat) (c:AMemO Tryz.prog f (AV.rens (toBig [1000000000,l] 0) args) (hN T en a) (oN T en e o)) (hp:∀p,o=.error p→False)
 (hk:∀y a',o=.ok (y,a')→K [1000000000,l] (backH [1000000000,l] B (hN T en a')) ((e y).ren (ofBig [1000000000,l] B)))
 (h2:subH h (toBig [1000000000,l] 0) (memB [1000000000,l]) [1000000000,l] 0=some (hN T en a):=by rfl) (h1:(AV.withins (memB [1000000000,l]) args&&nodupB [1000000000,l])=true:=by rfl) (h3:newCk h B 2 [1000000000,1000000001]=true:=by rfl):pcall Tryz.prog f args h K:=by
 rcases o with p|⟨y,a'⟩
 ·exact(hp p rfl).elim
 ·exact(amc [1000000000,l] B (c _ _ rfl) (hk y a' rfl) h2 h1 (by show(true&&newCk h B 2 [1000000000,1000000001]&&true)=true;rw[h3];rfl))
end
def eN (x:ByteArray×Ty):PV:=match x.2 with|.mk k n ts=>.agg [.s x.1,.i .i64 k,.s n,.sl 3 (eTs ts)]
theorem listN_spec (T:List Tk) (hT:T.length≤4000) (en:Int) (F:Nat) (Fs:Nat→PR (ByteArray×Ty)) (hlt:∀b,ltP T b (Fs b)) (a:Nat) (ha:a≤T.length) (hF:∀b,a≤b→b≤T.length→AMemO Tryz.prog F [.ptr 1000000001 0] (hN T en b) (oN T en (fun y=>.p (eN y)) (Fs b))):AMemO Tryz.prog 159 [.ptr 1000000000 0,.fn F [] [.ptr 1000000001 0]] (hN T en a) (oN T en (fun l=>.so 4 (l.map eN)) (listF T Fs a)):=by
 generalize hx:listF T Fs a=X;unfold listF at hx;refine oIN Tryz.func159 rfl (by rfl) (by show 2≤_;decide) (fun _=>rfl) (by kernel_rfl) ?_;intro hX;(conv=>whnf);refine oCN 1000000001 500 (hF a (Nat.le_refl _) ha) (fun p hp=>?_) (fun y a1 hy=>?_)
 ·rw[hp]at hx;subst hx;exact okE hX
 rw[hy,bindP_ok]at hx;(conv=>whnf);obtain⟨q1,q2⟩:=hlt a y a1 hy;obtain⟨ys,yk,yn,ya⟩:=y;refine loopS (tyOf_ok _) hmix (by kernel_rfl) T.length [0,1,5] [1000000000,1000000001] (fun k (s:List (ByteArray×Ty)×Nat)=>[.ptr 1000000000 0,.fn F [] [.ptr 1000000001 0],.so 4 (s.1.map eN)]) (fun k s=>[.cells [.p (.sl 3 (T.map eTk)),.p (.i .i64 s.2),.p (.i .i64 en)],.cells [.ptr 1000000000 0]]) (fun k s=>k+1≤s.2∧a≤s.2∧s.2≤T.length∧s.1.length≤k+1∧listGo T Fs (T.length-k) s.1 s.2=X) ([(ys,Ty.mk yk yn ya)],a1) ⟨rfl,rfl,rfl,rfl⟩ ⟨by omega,by omega,q2,by simp,hx⟩ ?_;rintro k ⟨out,s⟩ hk ⟨hs1,hs2,hs,hs3,hx⟩;simp only at hs1 hs2 hs hs3 hx ⊢;(conv=>whnf);refine oL 500 (take_spec T hT en s hs comma) ?_;(conv=>whnf);unfold takeF
 cases hi:isF T comma s with
 |true=>
  have:=isF_in hi;rw[listGo_step hi (show T.length-k=(T.length-(k+1))+1 by omega)]at hx;(conv=>whnf);refine oCN 1000000001 500 (hF (s+1) (by omega) (by omega)) (fun p hp=>?_) (fun y b hy=>?_)
  ·rw[hp]at hx;subst hx;exact okE hX
  rw[hy,bindP_ok]at hx;(conv=>whnf);obtain⟨q3,q4⟩:=hlt (s+1) y b hy;obtain⟨ys,yk,yn,ya⟩:=y;refine aneed (Nat.le_trans (Nat.mul_le_mul_right _ (show _≤5000 by simp only[List.length_map,List.length_cons,List.length_nil];omega)) (Nat.le_of_ble_eq_true (by kernel_rfl))) ?_;(conv=>whnf);refine⟨by omega,(out++[(ys,Ty.mk yk yn ya)],b),?_,by show k+1+1≤b;omega,by show a≤b;omega,q4,by show(out++[_]).length≤k+1+1;simp only[List.length_append,List.length_cons,List.length_nil];omega,hx⟩;rw[show(out++[(ys,Ty.mk yk yn ya)]).map eN=out.map eN++[eN ((ys,Ty.mk yk yn ya))] by simp];exact⟨rfl,rfl,rfl,rfl⟩
 |false=>
  rw[listGo_end hi]at hx;subst hx;(conv=>whnf);exact⟨.inl rfl,ob_refl _,ob_refl _,trivial⟩
theorem insideN_spec (T:List Tk) (hT:T.length≤4000) (en:Int) (F:Nat) (Fs:Nat→PR (ByteArray×Ty)) (hlt:∀b,ltP T b (Fs b)) (a:Nat) (ha:a≤T.length) (hF:∀b,a<b→b≤T.length→AMemO Tryz.prog F [.ptr 1000000001 0] (hN T en b) (oN T en (fun y=>.p (eN y)) (Fs b))):AMemO Tryz.prog 133 [.ptr 1000000000 0,.fn F [] [.ptr 1000000001 0]] (hN T en a) (oN T en (fun l=>.so 4 (l.map eN)) (insideF T en Fs a)):=by
 generalize hx:insideF T en Fs a=X;unfold insideF at hx;refine oIN Tryz.func133 rfl (by rfl) (by show 2≤_;decide) (fun _=>rfl) (by kernel_rfl) ?_;intro hX;(conv=>whnf);refine oC 500 (want_spec T hT en a ha [opn] (by decide)) (fun p hp=>?_) (fun u b hy=>?_)
 ·rw[hp]at hx;subst hx;exact okE hX
 rw[hy,bindP_ok]at hx;(conv=>whnf);obtain⟨q1,q2⟩:=want_lt T en opn [] a u b hy;refine oL 500 (take_spec T hT en b q2 cls) ?_;(conv=>whnf);unfold takeF
 cases hi:isF T cls b with
 |true=>
  rw[hi,cond_true]at hx;subst hx;(conv=>whnf);exact⟨.inl rfl,ob_refl _,ob_refl _,trivial⟩
 |false=>
  rw[hi,cond_false]at hx;(conv=>whnf);refine oCN 1000000001 500 (listN_spec T hT en F Fs hlt b q2 (fun z h1 h2=>hF z (by omega) h2)) (fun p hp=>?_) (fun y c hy=>?_)
  ·rw[hp]at hx;subst hx;exact okE hX
  rw[hy,bindP_ok]at hx;(conv=>whnf);obtain⟨q3,q4⟩:=list_lt hlt b y c hy;refine oC 500 (want_spec T hT en c q4 [cls] (by decide)) (fun p hp=>?_) (fun u d hy=>?_)
  ·rw[hp]at hx;subst hx;exact okE hX
  rw[hy,bindP_ok]at hx;(conv=>whnf);subst hx;exact⟨.inl rfl,ob_refl _,ob_refl _,trivial⟩
def tyF (T:List Tk) (en:Int) (a:Nat):PR Ty:=typF T en (T.length+1) a
theorem ty_lt (T:List Tk) (en:Int) (a:Nat):ltP T a (tyF T en a):=typ_lt T en _ a
theorem ty_spec (T:List Tk) (hT:T.length≤4000) (en:Int) (a:Nat) (ha:a≤T.length):AMemO Tryz.prog 102 [.ptr 1000000000 0] (hR T en a) (oR T en (fun t=>.p (eT t)) (tyF T en a)):=typ_spec T hT en _ a ha (by omega)
def parF (T:List Tk) (en:Int) (a:Nat):PR (ByteArray×Ty):=bindP (kindF T en 1 a) fun s b=>bindP (wantF T en [⟨#[58]⟩] b) fun _ c=>bindP (tyF T en c) fun t d=>.ok ((s,t),d)
theorem par_lt (T:List Tk) (en:Int) (a:Nat):ltP T a (parF T en a):=leP_lt (kind_lt T en 1 (by decide) a) fun s b _ _ hb=>leP_bind (want_le T en _ b hb) fun _ c _ _ hc=>leP_bind (ty_lt T en c).le fun t d _ _ hd=>leP_ok (Nat.le_refl _) hd
theorem par_spec (T:List Tk) (hT:T.length≤4000) (en:Int) (a:Nat) (ha:a≤T.length):AMemO Tryz.prog 134 [.ptr 1000000001 0] (hN T en a) (oN T en (fun y=>.p (eN y)) (parF T en a)):=by
 generalize hx:parF T en a=X;unfold parF at hx;refine oIN Tryz.func134 rfl (by rfl) (by show 1≤_;decide) (fun _=>rfl) (by kernel_rfl) ?_;intro hX;(conv=>whnf);refine oC 500 (low_spec T hT en a ha) (fun p hp=>?_) (fun s b hy=>?_)
 ·rw[hp]at hx;subst hx;exact okE hX
 rw[hy,bindP_ok]at hx;(conv=>whnf);obtain⟨q1,q2⟩:=kind_lt T en 1 (by decide) a s b hy;refine oC 500 (want_spec T hT en b q2 [⟨#[58]⟩] (by decide)) (fun p hp=>?_) (fun u c hy=>?_)
 ·rw[hp]at hx;subst hx;exact okE hX
 rw[hy,bindP_ok]at hx;(conv=>whnf);obtain⟨q3,q4⟩:=want_le T en _ b q2 u c hy;refine oC 500 (ty_spec T hT en c q4) (fun p hp=>?_) (fun t d hy=>?_)
 ·rw[hp]at hx;subst hx;exact okE hX
 rw[hy,bindP_ok]at hx;(conv=>whnf);obtain⟨tk,tn,ta⟩:=t;(conv=>whnf);subst hx;exact⟨.inl rfl,ob_refl _,ob_refl _,trivial⟩
end PA
open Go Go.AM Go.Proofs TK TR
set_option maxRecDepth 100000
namespace PA
def namesF (T:List Tk) (en:Int) (a:Nat):PR (List ByteArray×List Ty):=bindP (insideF T en (parF T en) a) fun l b=>.ok ((l.map Prod.fst,l.map Prod.snd),b)
theorem names_lt (T:List Tk) (en:Int) (a:Nat):ltP T a (namesF T en a):=leP_lt (inside_lt (par_lt T en) a) fun l b _ _ hb=>leP_ok (Nat.le_refl _) hb
theorem eN_get {l:List (ByteArray×Ty)} {k:Nat} {x:ByteArray×Ty} (h:l[k]?=some x):(l.map eN)[k]?=some (eN x):=by rw[List.getElem?_map,h];rfl
theorem names_spec (T:List Tk) (hT:T.length≤4000) (en:Int) (a:Nat) (ha:a≤T.length):AMemO Tryz.prog 101 [.ptr 1000000000 0] (hR T en a) (oR T en (fun y=>.tup [.p (.sl 1 (y.1.map PV.s)),.p (.sl 3 (y.2.map eT))]) (namesF T en a)):=by
 generalize hx:namesF T en a=X;unfold namesF at hx;refine oI Tryz.func101 rfl (by rfl) (by show 1≤_;decide) (fun _=>rfl) (by kernel_rfl) ?_;intro hX;(conv=>whnf);refine oCN 1 500 (insideN_spec T hT en 134 _ (par_lt T en) a ha (fun z h1 h2=>par_spec T hT en z h2)) (fun p hp=>?_) (fun l b hy=>?_)
 ·rw[hp]at hx;subst hx;exact okE hX
 rw[hy,bindP_ok]at hx;obtain⟨q1,q2⟩:=inside_lt (par_lt T en) a l b hy;have hll:=inside_len (par_lt T en) hy;have hml:(l.map eN).length=l.length:=List.length_map _;(conv=>whnf);refine lp_nil 2 0 rfl ?_;refine lp_nil 3 2 rfl ?_;refine loopS (tyOf_ok _) hmix (by kernel_rfl) l.length [2,3,8,9,10] [1000000000] (fun k (s:Unit)=>[.so 1 (((l.take k).map Prod.fst).map PV.s),.so 3 (((l.take k).map Prod.snd).map eT),.so 4 (l.map eN),.p (.i .i64 (l.map eN).length),.p (.i .i64 (ix k))]) (fun k s=>[.cells [.p (.sl 3 (T.map eTk)),.p (.i .i64 b),.p (.i .i64 en)]]) (fun k s=>True) () ⟨rfl,rfl,rfl,rfl⟩ trivial ?_;rintro k _ hk _;(conv=>whnf);refine asplit ?_ ?_<;>intro h<;>conv=>whnf
 ·have h1:=ix_tt h (n:=l.length) (by rw[hml]) hk (by omega)
  obtain⟨⟨ys,yt⟩,hb⟩:∃b,l[k]?=some b:=⟨_,List.getElem?_eq_getElem h1⟩
  have ht:l.take (k+1)=l.take k++[(ys,yt)]:=by rw[List.take_add_one,hb];rfl
  obtain⟨yk,yn,ya⟩:=yt;refine aidxk (eN_get hb) (by omega) ?_;(conv=>whnf);refine aneed (Nat.le_trans (Nat.mul_le_mul_right _ (show _≤5000 by simp only[List.length_map,List.length_take,List.length_cons,List.length_nil];omega)) (Nat.le_of_ble_eq_true (by kernel_rfl))) ?_;(conv=>whnf);refine aneed (Nat.le_trans (Nat.mul_le_mul_right _ (show _≤5000 by simp only[List.length_map,List.length_take,List.length_cons,List.length_nil];omega)) (Nat.le_of_ble_eq_true (by kernel_rfl))) ?_;(conv=>whnf)
  first|refine aneed (.inl (by kernel_rfl)) ?_|refine aneed (by kernel_rfl) ?_
  (conv=>whnf);refine⟨h1,(),?_,trivial⟩;rw[ht];simp only[List.map_append,List.map_cons,List.map_nil];exact⟨rfl,rfl,rfl,rfl⟩
 ·have h1:=ix_ff h (n:=l.length) (by rw[hml]) hk (by omega)
  subst h1;subst hx;rw[List.take_length];exact⟨.inl rfl,ob_refl _,trivial⟩
end PA
