/- Contracts, and the law, for every input. No conditions. -/
import Derived.Test.YtdmopjgjhfhfdaaGreatDoorPA1
import Derived.Lib.ParseIntB
import Derived.Test.YtdmopjgjhfhfdaaGreatDoorTK1
open Go Go.AM Go.Proofs TK TR
set_option maxRecDepth 100000
namespace PA
def ex0:Ex:=.mk 0 0 ⟨#[]⟩ [] [] [] [] 0
def headF (T:List Tk) (en:Int) (a:Nat):PR LFu:=bindP (kindF T en 1 a) fun nm b=>bindP (paramsF T en b) fun ps c=>bindP (namesF T en c) fun nt d=>bindP (wantF T en [⟨#[58]⟩] d) fun _ e=>bindP (tyF T en e) fun o f=>.ok (⟨nm,ps,nt.1,nt.2,o,ex0⟩,f)
theorem head_lt (T:List Tk) (en:Int) (a:Nat):ltP T a (headF T en a):=leP_lt (kind_lt T en 1 (by decide) a) fun _ b _ _ hb=>leP_bind (params_le T en b hb) fun _ c _ _ hc=>leP_bind (names_lt T en c).le fun _ d _ _ hd=>leP_bind (want_le T en _ d hd) fun _ e _ _ he=>leP_bind (ty_lt T en e).le fun _ f _ _ hf=>leP_ok (Nat.le_refl _) hf
theorem head_spec (T:List Tk) (hT:T.length≤4000) (en:Int) (a:Nat) (ha:a≤T.length):AMemO Tryz.prog 98 [.ptr 1000000000 0] (hR T en a) (oR T en (fun y=>.p (elFu y)) (headF T en a)):=by
 generalize hx:headF T en a=X;unfold headF at hx;refine oI Tryz.func98 rfl (by rfl) (by show 1≤_;decide) (fun _=>rfl) (by kernel_rfl) ?_;intro hX;(conv=>whnf);refine oC 500 (low_spec T hT en a ha) (fun p hp=>?_) (fun nm b hy=>?_)
 ·rw[hp]at hx;subst hx;exact okE hX
 rw[hy,bindP_ok]at hx;(conv=>whnf);obtain⟨q1,q2⟩:=kind_lt T en 1 (by decide) a nm b hy;refine oC 500 (params_spec T hT en b q2) (fun p hp=>?_) (fun ps c hy=>?_)
 ·rw[hp]at hx;subst hx;exact okE hX
 rw[hy,bindP_ok]at hx;(conv=>whnf);obtain⟨q3,q4⟩:=params_le T en b q2 ps c hy;refine oC 500 (names_spec T hT en c q4) (fun p hp=>?_) (fun nt d hy=>?_)
 ·rw[hp]at hx;subst hx;exact okE hX
 rw[hy,bindP_ok]at hx;(conv=>whnf);obtain⟨q5,q6⟩:=names_lt T en c nt d hy;refine oC 500 (want_spec T hT en d q6 [⟨#[58]⟩] (by decide)) (fun p hp=>?_) (fun u e hy=>?_)
 ·rw[hp]at hx;subst hx;exact okE hX
 rw[hy,bindP_ok]at hx;(conv=>whnf);obtain⟨q7,q8⟩:=want_le T en _ d q6 u e hy;refine oC 500 (ty_spec T hT en e q8) (fun p hp=>?_) (fun t f hy=>?_)
 ·rw[hp]at hx;subst hx;exact okE hX
 rw[hy,bindP_ok]at hx;(conv=>whnf);obtain⟨tk,tn,ta⟩:=t;(conv=>whnf);subst hx;refine⟨?_,ob_refl _,trivial⟩
 left
 show _=AV.p (.agg (.s _::.sl 1 _::.sl 1 _::.sl 3 (eTs nt.2)::_));rw[eTs_map nt.2];rfl
def basesF (T:List Tk) (a:Nat) (rest:PR ByteArray):List ByteArray→PR ByteArray
 | []=>rest
 |s::r=>bif isF T s a then .ok (s,a+1) else basesF T a rest r
def forF (T:List Tk) (en:Int) (a:Nat):PR ByteArray:=basesF T a (kindF T en 2 a) base4
theorem bases_lt {T:List Tk} {a:Nat} {rest:PR ByteArray} (h:ltP T a rest):∀l,ltP T a (basesF T a rest l)
 | []=>h
 |s::r=>by
  rw[basesF]
  cases hi:isF T s a with
  |true=>have:=isF_in hi;exact ltP_step (Nat.lt_succ_self a) (leP_ok (Nat.le_refl _) this)
  |false=>exact bases_lt h r
theorem for_lt (T:List Tk) (en:Int) (a:Nat):ltP T a (forF T en a):=bases_lt (kind_lt T en 2 (by decide) a) _
theorem for_spec (T:List Tk) (hT:T.length≤4000) (en:Int) (a:Nat) (ha:a≤T.length):AMemO Tryz.prog 99 [.ptr 1000000000 0] (hR T en a) (oR T en (fun s=>.p (.s s)) (forF T en a)):=by
 generalize hx:forF T en a=X;unfold forF at hx;refine oI Tryz.func99 rfl (by rfl) (by show 1≤_;decide) (fun _=>rfl) (by kernel_rfl) ?_;intro hX;(conv=>whnf);refine loopS (tyOf_ok _) hmix (by kernel_rfl) 4 [0,5,6,7] [1000000000] (fun k (s:Unit)=>[.ptr 1000000000 0,.so 1 (base4.map PV.s),.p (.i .i64 4),.p (.i .i64 (ix k))]) (fun k s=>[.cells [.p (.sl 3 (T.map eTk)),.p (.i .i64 a),.p (.i .i64 en)]]) (fun k s=>basesF T a (kindF T en 2 a) (base4.drop k)=X) () ⟨rfl,rfl,rfl,rfl⟩ hx ?_;rintro k _ hk hx;(conv=>whnf);refine asplit ?_ ?_<;>intro h<;>conv=>whnf
 ·have h1:=ix_tt h (n:=4) rfl hk (by omega)
  obtain⟨b,hb⟩:∃b,base4[k]?=some b:=⟨_,List.getElem?_eq_getElem h1⟩
  rw[drop_cons hb,basesF]at hx;refine aidxk (x:=.s b) (by rw[List.getElem?_map,hb];rfl) (by omega) ?_;(conv=>whnf);refine oL 500 (take_spec T hT en a ha b) ?_;(conv=>whnf);unfold takeF
  cases hi:isF T b a with
  |true=>
   rw[hi,cond_true]at hx;(conv=>whnf);subst hx;exact⟨.inl rfl,ob_refl _,trivial⟩
  |false=>
   rw[hi,cond_false]at hx;(conv=>whnf);exact⟨h1,(),⟨rfl,rfl,rfl,rfl⟩,hx⟩
 ·have h1:=ix_ff h (n:=4) rfl hk (by omega)
  subst h1;replace hx:kindF T en 2 a=X:=hx;refine oC 500 (up_spec T hT en a ha) (fun p hp=>?_) (fun y a1 hy=>?_)
  ·rw[hp]at hx;subst hx;exact okE hX
  rw[hy]at hx;subst hx;(conv=>whnf);exact⟨.inl rfl,ob_refl _,trivial⟩
end PA
open Go Go.AM Go.Proofs TK TR
set_option maxRecDepth 100000
namespace PA
def hG (G:Nat) (tab:List Value) (T:List Tk) (en:Int) (a:Nat):Heap:=[(1000000000,.cells [.p (.sl 3 (T.map eTk)),.p (.i .i64 a),.p (.i .i64 en)]),(1000000001,.glob G tab)]
def oG (G:Nat) (tab:List Value) (T:List Tk) (en:Int) {α:Type} (e:α→AV):PR α→Except Value (AV×Heap)
 |.ok (y,a)=>.ok (e y,hG G tab T en a)
 |.error p=>.error (failV p)
section
variable {G:Nat} {tab:List Value} {T:List Tk} {en:Int} {a:Nat} {α:Type} {e:α→AV}
theorem oIG {x:PR α} {f:Nat} {fn:Func} {c:Code} {args:List AV} (hf:Tryz.prog.funcs[f]?=some fn) (hb:fn.body=some c) (hname:(fn.name== "runtime.NumGoroutine")=false) (hlen:args.length≤fn.ntmps) (he:∀y,(e y).within (memB [1000000000,1000000001])=true) (hok:codeOK fn.ntmps c=true)
 (hk:okX (oG G tab T en e x)=true→awp (tyOf Tryz.prog) (pcall Tryz.prog) (lpOf Tryz.prog fn.ntmps) c (fun x' e' h=>match oG G tab T en e x with|.ok y=>retKM (tyOf Tryz.prog) fn.results.toList fn.resultTypes.toList y.1 y.2 x' e' h|.error _=>False) (argEnv 0 args) (hG G tab T en a)):AMemO Tryz.prog f args (hG G tab T en a) (oG G tab T en e x):=by
 refine AMemO.intro (tyOf_ok Tryz.prog) hmix hf hb hname hlen hok hk ?_;intro r h' hr;rcases x with p|⟨y,a'⟩
 ·cases hr
 ·simp only[oG,Except.ok.injEq,Prod.mk.injEq]at hr
  obtain⟨rfl,rfl⟩:=hr;rw[show keysOf (hG G tab T en a')=[1000000000,1000000001] from rfl,he];show(true&&true&&(Nat.beq G G&&true))=true;rw[Nat.beq_refl];rfl
theorem oCG {o:PR α} {f:Nat} {args:List AV} {h:Heap} {K:List Nat→Heap→AV→Prop} (l B:Nat) (c:AMemO Tryz.prog f (AV.rens (toBig [1000000000,l] 0) args) (hG G tab T en a) (oG G tab T en e o)) (hp:∀p,o=.error p→False)
 (hk:∀y a',o=.ok (y,a')→K [1000000000,l] (backH [1000000000,l] B (hG G tab T en a')) ((e y).ren (ofBig [1000000000,l] B)))
 (h2:subH h (toBig [1000000000,l] 0) (memB [1000000000,l]) [1000000000,l] 0=some (hG G tab T en a):=by rfl) (h1:(AV.withins (memB [1000000000,l]) args&&nodupB [1000000000,l])=true:=by rfl) (h3:newCk h B 2 [1000000000,1000000001]=true:=by rfl):pcall Tryz.prog f args h K:=by
 rcases o with p|⟨y,a'⟩
 ·exact(hp p rfl).elim
 ·exact(amc [1000000000,l] B (c _ _ rfl) (hk y a' rfl) h2 h1 (by show(true&&newCk h B 2 [1000000000,1000000001]&&true)=true;rw[h3];rfl))
end
def numV (s:ByteArray):Int×Bool:=match Lib.parseIntB 64 s.data.toList with
 |.ok v=>(v,false)
 |.range=>(Lib.intSat 64 s.data.toList,true)
 |_=>(0,true)
def okN {α:Type} (x:Lib.NumEnd α):Bool:=match x with
 |.ok _=>true
 |.range=>true
 |_=>false
def PIC (G:Nat) (tab:List Value):Prop:=∀s:ByteArray,s.size≤5000→okN (Lib.parseIntB 64 s.data.toList)=true→AMem Tryz.prog 93 [.p (.s s),.p (.i .i64 10),.p (.i .i64 64)] [(1000000000,.glob G tab)] (.tup [.p (.i .i64 (numV s).1),.ifc (numV s).2]) [(1000000000,.glob G tab)]
structure TOK (T:List Tk):Prop where
 len:T.length≤4000
 num:∀t∈T,t.kind=4→∀pre:ByteArray,pre=⟨#[]⟩∨pre=⟨#[45]⟩→(pre++B t.text).size≤5000∧okN (Lib.parseIntB 64 (pre++B t.text).data.toList)=true
def numG (T:List Tk) (en:Int) (pre:ByteArray) (a:Nat):PR Int:=bif (lookF T a).kind != 4 then .error (placeF T en a) else bif (numV (pre++B (lookF T a).text)).2 then .error (placeF T en a) else .ok ((numV (pre++B (lookF T a).text)).1,a+1)
def numF (T:List Tk) (en:Int) (minus:Bool) (a:Nat):PR Int:=bif minus&&isF T ⟨#[45]⟩ a then numG T en ⟨#[45]⟩ (a+1) else numG T en ⟨#[]⟩ a
theorem numG_lt (T:List Tk) (en:Int) (pre:ByteArray) (a:Nat):ltP T a (numG T en pre a):=by
 intro y b h;unfold numG at h
 cases hb:(lookF T a).kind != 4 with
 |true=>rw[hb]at h;cases h
 |false=>
  rw[hb,cond_false]at h;have:(lookF T a).kind=4:=by simpa using hb
  have:=look_in (T:=T) (a:=a) (by omega)
  cases h2:(numV (pre++B (lookF T a).text)).2 with
  |true=>rw[h2]at h;cases h
  |false=>rw[h2]at h;cases h;omega
theorem num_lt (T:List Tk) (en:Int) (minus:Bool) (a:Nat):ltP T a (numF T en minus a):=by
 unfold numF
 cases minus&&isF T ⟨#[45]⟩ a with
 |true=>exact fun y b h=>by have:=numG_lt T en _ _ y b h;omega
 |false=>exact numG_lt T en _ _
theorem num_spec {G:Nat} {tab:List Value} (hPI:PIC G tab) (T:List Tk) (hT:TOK T) (en:Int) (minus:Bool) (a:Nat) (ha:a≤T.length):AMemO Tryz.prog 60 [.ptr 1000000000 0,.p (.b minus)] (hG G tab T en a) (oG G tab T en (fun v=>.p (.i .i64 v)) (numF T en minus a)):=by
 have hlen:=hT.len;generalize hx:numF T en minus a=X;unfold numF at hx;refine oIG Tryz.func60 rfl (by rfl) (by show 2≤_;decide) (fun _=>rfl) (by kernel_rfl) ?_;intro hX
 cases minus with
 |false=>
  rw[Bool.false_and,cond_false]at hx;(conv=>whnf);unfold numG at hx;have hin:=@look_in T a
  have hmem:(lookF T a).kind=4→lookF T a∈T:=by
   intro h;have:=hin (by omega);unfold lookF;rw[List.getElem?_eq_getElem this];exact List.getElem_mem this
  have hnum:=fun h=>hT.num (lookF T a) (hmem h) h ⟨#[]⟩ (by left;rfl);refine oL 500 (look_spec T hlen en a (by omega)) ?_;(conv=>whnf)
  cases h2:(lookF T a).kind != 4 with
  |true=>
   rw[h2,cond_true]at hx;(conv=>whnf);subst hx;exact(okE hX).elim
  |false=>
   rw[h2,cond_false]at hx;have hk:(lookF T a).kind=4:=by simpa using h2
   have:=hin (by omega);obtain⟨hn1,hn2⟩:=hnum hk;(conv=>whnf);refine oL 500 (look_spec T hlen en a (by omega)) ?_;(conv=>whnf);refine⟨by rw[←ByteArray.size_append];omega,?_⟩;(conv=>whnf);refine amc [1000000001] 500 (hPI _ hn1 hn2) ?_;(conv=>whnf)
   cases h3:(numV (⟨#[]⟩++B (lookF T a).text)).2 with
   |true=>
    rw[h3,cond_true]at hx;(conv=>whnf);subst hx;exact(okE hX).elim
   |false=>
    rw[h3,cond_false]at hx;subst hx;have hw:IntKind.i64.wrap (((a:Nat):Int)+1)=((a+1:Nat):Int):=by rw[wrap64 (by omega) (by omega)];rfl
    (conv=>whnf);rw[hw];exact⟨.inl rfl,ob_refl _,⟨rfl,rfl⟩,trivial⟩
 |true=>
  rw[Bool.true_and]at hx;(conv=>whnf);refine oL 500 (take_spec T hlen en a ha ⟨#[45]⟩) ?_;(conv=>whnf);unfold takeF
  cases hi:isF T ⟨#[45]⟩ a with
  |true=>
   have:=isF_in hi;rw[hi,cond_true]at hx;(conv=>whnf);unfold numG at hx;have hin:=@look_in T (a+1)
   have hmem:(lookF T (a+1)).kind=4→lookF T (a+1)∈T:=by
    intro h;have:=hin (by omega);unfold lookF;rw[List.getElem?_eq_getElem this];exact List.getElem_mem this
   have hnum:=fun h=>hT.num (lookF T (a+1)) (hmem h) h ⟨#[45]⟩ (by right;rfl);refine oL 500 (look_spec T hlen en (a+1) (by omega)) ?_;(conv=>whnf)
   cases h2:(lookF T (a+1)).kind != 4 with
   |true=>
    rw[h2,cond_true]at hx;(conv=>whnf);subst hx;exact(okE hX).elim
   |false=>
    rw[h2,cond_false]at hx;have hk:(lookF T (a+1)).kind=4:=by simpa using h2
    have:=hin (by omega);obtain⟨hn1,hn2⟩:=hnum hk;(conv=>whnf);refine oL 500 (look_spec T hlen en (a+1) (by omega)) ?_;(conv=>whnf);refine⟨by rw[←ByteArray.size_append];omega,?_⟩;(conv=>whnf);refine amc [1000000001] 500 (hPI _ hn1 hn2) ?_;(conv=>whnf)
    cases h3:(numV (⟨#[45]⟩++B (lookF T (a+1)).text)).2 with
    |true=>
     rw[h3,cond_true]at hx;(conv=>whnf);subst hx;exact(okE hX).elim
    |false=>
     rw[h3,cond_false]at hx;subst hx;have hw:IntKind.i64.wrap ((((a+1):Nat):Int)+1)=(((a+1)+1:Nat):Int):=by rw[wrap64 (by omega) (by omega)];rfl
     (conv=>whnf);rw[hw];exact⟨.inl rfl,ob_refl _,⟨rfl,rfl⟩,trivial⟩
  |false=>
   rw[hi,cond_false]at hx;(conv=>whnf);unfold numG at hx;have hin:=@look_in T a
   have hmem:(lookF T a).kind=4→lookF T a∈T:=by
    intro h;have:=hin (by omega);unfold lookF;rw[List.getElem?_eq_getElem this];exact List.getElem_mem this
   have hnum:=fun h=>hT.num (lookF T a) (hmem h) h ⟨#[]⟩ (by left;rfl);refine oL 500 (look_spec T hlen en a (by omega)) ?_;(conv=>whnf)
   cases h2:(lookF T a).kind != 4 with
   |true=>
    rw[h2,cond_true]at hx;(conv=>whnf);subst hx;exact(okE hX).elim
   |false=>
    rw[h2,cond_false]at hx;have hk:(lookF T a).kind=4:=by simpa using h2
    have:=hin (by omega);obtain⟨hn1,hn2⟩:=hnum hk;(conv=>whnf);refine oL 500 (look_spec T hlen en a (by omega)) ?_;(conv=>whnf);refine⟨by rw[←ByteArray.size_append];omega,?_⟩;(conv=>whnf);refine amc [1000000001] 500 (hPI _ hn1 hn2) ?_;(conv=>whnf)
    cases h3:(numV (⟨#[]⟩++B (lookF T a).text)).2 with
    |true=>
     rw[h3,cond_true]at hx;(conv=>whnf);subst hx;exact(okE hX).elim
    |false=>
     rw[h3,cond_false]at hx;subst hx;have hw:IntKind.i64.wrap (((a:Nat):Int)+1)=((a+1:Nat):Int):=by rw[wrap64 (by omega) (by omega)];rfl
     (conv=>whnf);rw[hw];exact⟨.inl rfl,ob_refl _,⟨rfl,rfl⟩,trivial⟩
end PA
open Go Go.AM Go.Proofs TK TR
set_option maxRecDepth 100000
namespace PA
theorem listE_spec {G:Nat} {tab:List Value} (T:List Tk) (hT:T.length≤4000) (en:Int) (F:Nat) (Fs:Nat→PR Ex) (hlt:∀b,ltP T b (Fs b)) (a:Nat) (ha:a≤T.length) (hF:∀b,a≤b→b≤T.length→AMemO Tryz.prog F [.ptr 1000000000 0] (hG G tab T en b) (oG G tab T en (fun y=>.p (eE y)) (Fs b))):AMemO Tryz.prog 182 [.ptr 1000000000 0,.fn F [.ptr 1000000000 0] []] (hG G tab T en a) (oG G tab T en (fun l=>.so 8 (l.map eE)) (listF T Fs a)):=by
 generalize hx:listF T Fs a=X;unfold listF at hx;refine oIG Tryz.func182 rfl (by rfl) (by show 2≤_;decide) (fun _=>rfl) (by kernel_rfl) ?_;intro hX;(conv=>whnf);refine oCG 1000000001 500 (hF a (Nat.le_refl _) ha) (fun p hp=>?_) (fun y a1 hy=>?_)
 ·rw[hp]at hx;subst hx;exact okE hX
 rw[hy,bindP_ok]at hx;(conv=>whnf);obtain⟨q1,q2⟩:=hlt a y a1 hy;obtain⟨yk,yn,yt,yns,yts,yxs,yms,yp⟩:=y;refine loopS (tyOf_ok _) hmix (by kernel_rfl) T.length [0,1,5] [1000000000,1000000001] (fun k (s:List Ex×Nat)=>[.ptr 1000000000 0,.fn F [.ptr 1000000000 0] [],.so 8 (s.1.map eE)]) (fun k s=>[.cells [.p (.sl 3 (T.map eTk)),.p (.i .i64 s.2),.p (.i .i64 en)],.glob G tab]) (fun k s=>k+1≤s.2∧a≤s.2∧s.2≤T.length∧s.1.length≤k+1∧listGo T Fs (T.length-k) s.1 s.2=X) ([Ex.mk yk yn yt yns yts yxs yms yp],a1) ⟨rfl,rfl,rfl,rfl⟩ ⟨by omega,by omega,q2,by simp,hx⟩ ?_;rintro k ⟨out,s⟩ hk ⟨hs1,hs2,hs,hs3,hx⟩;simp only at hs1 hs2 hs hs3 hx ⊢;(conv=>whnf);refine oL 500 (take_spec T hT en s hs comma) ?_;(conv=>whnf);unfold takeF
 cases hi:isF T comma s with
 |true=>
  have:=isF_in hi;rw[listGo_step hi (show T.length-k=(T.length-(k+1))+1 by omega)]at hx;(conv=>whnf);refine oCG 1000000001 500 (hF (s+1) (by omega) (by omega)) (fun p hp=>?_) (fun y b hy=>?_)
  ·rw[hp]at hx;subst hx;exact okE hX
  rw[hy,bindP_ok]at hx;(conv=>whnf);obtain⟨q3,q4⟩:=hlt (s+1) y b hy;obtain⟨yk,yn,yt,yns,yts,yxs,yms,yp⟩:=y;refine aneed (Nat.le_trans (Nat.mul_le_mul_right _ (show _≤5000 by simp only[List.length_map,List.length_cons,List.length_nil];omega)) (Nat.le_of_ble_eq_true (by kernel_rfl))) ?_;(conv=>whnf);refine⟨by omega,(out++[Ex.mk yk yn yt yns yts yxs yms yp],b),?_,by show k+1+1≤b;omega,by show a≤b;omega,q4,by show(out++[_]).length≤k+1+1;simp only[List.length_append,List.length_cons,List.length_nil];omega,hx⟩;rw[show(out++[Ex.mk yk yn yt yns yts yxs yms yp]).map eE=out.map eE++[eE (Ex.mk yk yn yt yns yts yxs yms yp)] by simp];exact⟨rfl,rfl,rfl,rfl⟩
 |false=>
  rw[listGo_end hi]at hx;subst hx;(conv=>whnf);exact⟨.inl rfl,ob_refl _,⟨rfl,rfl⟩,trivial⟩
theorem insideE_spec {G:Nat} {tab:List Value} (T:List Tk) (hT:T.length≤4000) (en:Int) (F:Nat) (Fs:Nat→PR Ex) (hlt:∀b,ltP T b (Fs b)) (a:Nat) (ha:a≤T.length) (hF:∀b,a<b→b≤T.length→AMemO Tryz.prog F [.ptr 1000000000 0] (hG G tab T en b) (oG G tab T en (fun y=>.p (eE y)) (Fs b))):AMemO Tryz.prog 160 [.ptr 1000000000 0,.fn F [.ptr 1000000000 0] []] (hG G tab T en a) (oG G tab T en (fun l=>.so 8 (l.map eE)) (insideF T en Fs a)):=by
 generalize hx:insideF T en Fs a=X;unfold insideF at hx;refine oIG Tryz.func160 rfl (by rfl) (by show 2≤_;decide) (fun _=>rfl) (by kernel_rfl) ?_;intro hX;(conv=>whnf);refine oC 500 (want_spec T hT en a ha [opn] (by decide)) (fun p hp=>?_) (fun u b hy=>?_)
 ·rw[hp]at hx;subst hx;exact okE hX
 rw[hy,bindP_ok]at hx;(conv=>whnf);obtain⟨q1,q2⟩:=want_lt T en opn [] a u b hy;refine oL 500 (take_spec T hT en b q2 cls) ?_;(conv=>whnf);unfold takeF
 cases hi:isF T cls b with
 |true=>
  rw[hi,cond_true]at hx;subst hx;(conv=>whnf);exact⟨.inl rfl,ob_refl _,⟨rfl,rfl⟩,trivial⟩
 |false=>
  rw[hi,cond_false]at hx;(conv=>whnf);refine oCG 1000000001 500 (listE_spec T hT en F Fs hlt b q2 (fun z h1 h2=>hF z (by omega) h2)) (fun p hp=>?_) (fun y c hy=>?_)
  ·rw[hp]at hx;subst hx;exact okE hX
  rw[hy,bindP_ok]at hx;(conv=>whnf);obtain⟨q3,q4⟩:=list_lt hlt b y c hy;refine oC 500 (want_spec T hT en c q4 [cls] (by decide)) (fun p hp=>?_) (fun u d hy=>?_)
  ·rw[hp]at hx;subst hx;exact okE hX
  rw[hy,bindP_ok]at hx;(conv=>whnf);subst hx;exact⟨.inl rfl,ob_refl _,⟨rfl,rfl⟩,trivial⟩
theorem maybeE_spec {G:Nat} {tab:List Value} (T:List Tk) (hT:T.length≤4000) (en:Int) (F:Nat) (Fs:Nat→PR Ex) (hlt:∀b,ltP T b (Fs b)) (a:Nat) (ha:a≤T.length) (hF:∀b,a<b→b≤T.length→AMemO Tryz.prog F [.ptr 1000000000 0] (hG G tab T en b) (oG G tab T en (fun y=>.p (eE y)) (Fs b))):AMemO Tryz.prog 161 [.ptr 1000000000 0,.fn F [.ptr 1000000000 0] []] (hG G tab T en a) (oG G tab T en (fun l=>.p (.sl 8 (l.map eE))) (maybeF T en Fs a)):=by
 generalize hx:maybeF T en Fs a=X;unfold maybeF at hx;refine oIG Tryz.func161 rfl (by rfl) (by show 2≤_;decide) (fun _=>rfl) (by kernel_rfl) ?_;intro hX;(conv=>whnf);refine oL 500 (take_spec T hT en a ha opn) ?_;(conv=>whnf);unfold takeF
 cases hi:isF T opn a with
 |true=>
  have:=isF_in hi;rw[hi,cond_true]at hx;(conv=>whnf);refine oCG 1000000001 500 (listE_spec T hT en F Fs hlt (a+1) (by omega) (fun z h1 h2=>hF z (by omega) h2)) (fun p hp=>?_) (fun y c hy=>?_)
  ·rw[hp]at hx;subst hx;exact okE hX
  rw[hy,bindP_ok]at hx;(conv=>whnf);obtain⟨q3,q4⟩:=list_lt hlt (a+1) y c hy;refine oC 500 (want_spec T hT en c q4 [cls] (by decide)) (fun p hp=>?_) (fun u d hy=>?_)
  ·rw[hp]at hx;subst hx;exact okE hX
  rw[hy,bindP_ok]at hx;(conv=>whnf);subst hx;exact⟨.inr rfl,ob_refl _,⟨rfl,rfl⟩,trivial⟩
 |false=>
  rw[hi,cond_false]at hx;subst hx;(conv=>whnf);exact⟨.inr rfl,ob_refl _,⟨rfl,rfl⟩,trivial⟩
theorem listP_spec {G:Nat} {tab:List Value} (T:List Tk) (hT:T.length≤4000) (en:Int) (F:Nat) (Fs:Nat→PR Pt) (hlt:∀b,ltP T b (Fs b)) (a:Nat) (ha:a≤T.length) (hF:∀b,a≤b→b≤T.length→AMemO Tryz.prog F [.ptr 1000000000 0] (hG G tab T en b) (oG G tab T en (fun y=>.p (eP y)) (Fs b))):AMemO Tryz.prog 201 [.ptr 1000000000 0,.fn F [.ptr 1000000000 0] []] (hG G tab T en a) (oG G tab T en (fun l=>.so 4 (l.map eP)) (listF T Fs a)):=by
 generalize hx:listF T Fs a=X;unfold listF at hx;refine oIG Tryz.func201 rfl (by rfl) (by show 2≤_;decide) (fun _=>rfl) (by kernel_rfl) ?_;intro hX;(conv=>whnf);refine oCG 1000000001 500 (hF a (Nat.le_refl _) ha) (fun p hp=>?_) (fun y a1 hy=>?_)
 ·rw[hp]at hx;subst hx;exact okE hX
 rw[hy,bindP_ok]at hx;(conv=>whnf);obtain⟨q1,q2⟩:=hlt a y a1 hy;obtain⟨yk,yn,yt,yxs⟩:=y;refine loopS (tyOf_ok _) hmix (by kernel_rfl) T.length [0,1,5] [1000000000,1000000001] (fun k (s:List Pt×Nat)=>[.ptr 1000000000 0,.fn F [.ptr 1000000000 0] [],.so 4 (s.1.map eP)]) (fun k s=>[.cells [.p (.sl 3 (T.map eTk)),.p (.i .i64 s.2),.p (.i .i64 en)],.glob G tab]) (fun k s=>k+1≤s.2∧a≤s.2∧s.2≤T.length∧s.1.length≤k+1∧listGo T Fs (T.length-k) s.1 s.2=X) ([Pt.mk yk yn yt yxs],a1) ⟨rfl,rfl,rfl,rfl⟩ ⟨by omega,by omega,q2,by simp,hx⟩ ?_;rintro k ⟨out,s⟩ hk ⟨hs1,hs2,hs,hs3,hx⟩;simp only at hs1 hs2 hs hs3 hx ⊢;(conv=>whnf);refine oL 500 (take_spec T hT en s hs comma) ?_;(conv=>whnf);unfold takeF
 cases hi:isF T comma s with
 |true=>
  have:=isF_in hi;rw[listGo_step hi (show T.length-k=(T.length-(k+1))+1 by omega)]at hx;(conv=>whnf);refine oCG 1000000001 500 (hF (s+1) (by omega) (by omega)) (fun p hp=>?_) (fun y b hy=>?_)
  ·rw[hp]at hx;subst hx;exact okE hX
  rw[hy,bindP_ok]at hx;(conv=>whnf);obtain⟨q3,q4⟩:=hlt (s+1) y b hy;obtain⟨yk,yn,yt,yxs⟩:=y;refine aneed (Nat.le_trans (Nat.mul_le_mul_right _ (show _≤5000 by simp only[List.length_map,List.length_cons,List.length_nil];omega)) (Nat.le_of_ble_eq_true (by kernel_rfl))) ?_;(conv=>whnf);refine⟨by omega,(out++[Pt.mk yk yn yt yxs],b),?_,by show k+1+1≤b;omega,by show a≤b;omega,q4,by show(out++[_]).length≤k+1+1;simp only[List.length_append,List.length_cons,List.length_nil];omega,hx⟩;rw[show(out++[Pt.mk yk yn yt yxs]).map eP=out.map eP++[eP (Pt.mk yk yn yt yxs)] by simp];exact⟨rfl,rfl,rfl,rfl⟩
 |false=>
  rw[listGo_end hi]at hx;subst hx;(conv=>whnf);exact⟨.inl rfl,ob_refl _,⟨rfl,rfl⟩,trivial⟩
theorem maybeP_spec {G:Nat} {tab:List Value} (T:List Tk) (hT:T.length≤4000) (en:Int) (F:Nat) (Fs:Nat→PR Pt) (hlt:∀b,ltP T b (Fs b)) (a:Nat) (ha:a≤T.length) (hF:∀b,a<b→b≤T.length→AMemO Tryz.prog F [.ptr 1000000000 0] (hG G tab T en b) (oG G tab T en (fun y=>.p (eP y)) (Fs b))):AMemO Tryz.prog 195 [.ptr 1000000000 0,.fn F [.ptr 1000000000 0] []] (hG G tab T en a) (oG G tab T en (fun l=>.p (.sl 4 (l.map eP))) (maybeF T en Fs a)):=by
 generalize hx:maybeF T en Fs a=X;unfold maybeF at hx;refine oIG Tryz.func195 rfl (by rfl) (by show 2≤_;decide) (fun _=>rfl) (by kernel_rfl) ?_;intro hX;(conv=>whnf);refine oL 500 (take_spec T hT en a ha opn) ?_;(conv=>whnf);unfold takeF
 cases hi:isF T opn a with
 |true=>
  have:=isF_in hi;rw[hi,cond_true]at hx;(conv=>whnf);refine oCG 1000000001 500 (listP_spec T hT en F Fs hlt (a+1) (by omega) (fun z h1 h2=>hF z (by omega) h2)) (fun p hp=>?_) (fun y c hy=>?_)
  ·rw[hp]at hx;subst hx;exact okE hX
  rw[hy,bindP_ok]at hx;(conv=>whnf);obtain⟨q3,q4⟩:=list_lt hlt (a+1) y c hy;refine oC 500 (want_spec T hT en c q4 [cls] (by decide)) (fun p hp=>?_) (fun u d hy=>?_)
  ·rw[hp]at hx;subst hx;exact okE hX
  rw[hy,bindP_ok]at hx;(conv=>whnf);subst hx;exact⟨.inr rfl,ob_refl _,⟨rfl,rfl⟩,trivial⟩
 |false=>
  rw[hi,cond_false]at hx;subst hx;(conv=>whnf);exact⟨.inr rfl,ob_refl _,⟨rfl,rfl⟩,trivial⟩
end PA
open Go Go.AM Go.Proofs TK TR
set_option maxRecDepth 100000
namespace PA
def singleF (s:ByteArray):Int:=
 bif s.toList==(⟨#[102,97,105,108]⟩:ByteArray).toList then 19 else
 bif s.toList==(⟨#[115,97,121]⟩:ByteArray).toList then 20 else
 bif s.toList==(⟨#[99,101,108,108]⟩:ByteArray).toList then 21 else
 bif s.toList==(⟨#[103,101,116]⟩:ByteArray).toList then 22 else
 bif s.toList==(⟨#[119,97,116,99,104]⟩:ByteArray).toList then 24 else
 bif s.toList==(⟨#[108,105,110,107]⟩:ByteArray).toList then 25 else 0
theorem single_spec (s:ByteArray):APure Tryz.prog 187 [.p (.s s)] (.p (.i .i64 (singleF s))):=by
 unfold singleF;refine APure.intro (tyOf_ok Tryz.prog) hmix Tryz.func187 rfl (by rfl) (by kernel_rfl) (by show 1≤_;decide) rfl ?_;(conv=>whnf)
 cases h1:s.toList==(⟨#[102,97,105,108]⟩:ByteArray).toList with
 |true=>
  (conv=>whnf);exact .inl rfl
 |false=>
  conv=>whnf
  cases h2:s.toList==(⟨#[115,97,121]⟩:ByteArray).toList with
  |true=>
   (conv=>whnf);exact .inl rfl
  |false=>
   conv=>whnf
   cases h3:s.toList==(⟨#[99,101,108,108]⟩:ByteArray).toList with
   |true=>
    (conv=>whnf);exact .inl rfl
   |false=>
    conv=>whnf
    cases h4:s.toList==(⟨#[103,101,116]⟩:ByteArray).toList with
    |true=>
     (conv=>whnf);exact .inl rfl
    |false=>
     conv=>whnf
     cases h5:s.toList==(⟨#[119,97,116,99,104]⟩:ByteArray).toList with
     |true=>
      (conv=>whnf);exact .inl rfl
     |false=>
      conv=>whnf
      cases h6:s.toList==(⟨#[108,105,110,107]⟩:ByteArray).toList with
      |true=>
       (conv=>whnf);exact .inl rfl
      |false=>
       (conv=>whnf);exact .inl rfl
def patF (T:List Tk) (en:Int):Nat→Nat→PR Pt
 |0,_=>.error 0
 |n+1,a=>
  bif isF T ⟨#[95]⟩ a then .ok (.mk 1 0 ⟨#[]⟩ [],a+1) else
  bif isF T ⟨#[116,114,117,101]⟩ a then .ok (.mk 4 1 ⟨#[]⟩ [],a+1) else
  bif isF T ⟨#[102,97,108,115,101]⟩ a then .ok (.mk 4 0 ⟨#[]⟩ [],a+1) else
  bif (lookF T a).kind==1 then bindP (kindF T en 1 a) fun s b=>.ok (.mk 2 0 s [],b) else
  bif (lookF T a).kind==4||isF T ⟨#[45]⟩ a then bindP (numF T en true a) fun v b=>.ok (.mk 3 v ⟨#[]⟩ [],b) else
  bif (lookF T a).kind==5 then .ok (.mk 5 0 (B (lookF T a).text) [],a+1) else
  bindP (kindF T en 2 a) fun s b=>bindP (maybeF T en (patF T en n) b) fun l c=>.ok (.mk 6 0 s l,c)
theorem ltP_in {T:List Tk} {a:Nat} {α:Type} {y:α} (h:a<T.length):ltP T a (.ok (y,a+1)):=ltP_step (Nat.lt_succ_self a) (leP_ok (Nat.le_refl _) h)
theorem pat_lt (T:List Tk) (en:Int):∀n a,ltP T a (patF T en n a)
 |0,a=>ltP_err
 |n+1,a=>by
  rw[patF]
  cases h1:isF T ⟨#[95]⟩ a with
  |true=>exact ltP_in (isF_in h1)
  |false=>
   rw[cond_false]
   cases h2:isF T ⟨#[116,114,117,101]⟩ a with
   |true=>exact ltP_in (isF_in h2)
   |false=>
    rw[cond_false]
    cases h3:isF T ⟨#[102,97,108,115,101]⟩ a with
    |true=>exact ltP_in (isF_in h3)
    |false=>
     rw[cond_false]
     cases h4:(lookF T a).kind==1 with
     |true=>exact leP_lt (kind_lt T en 1 (by decide) a) fun s b _ _ hb=>leP_ok (Nat.le_refl _) hb
     |false=>
      rw[cond_false]
      cases h5:(lookF T a).kind==4||isF T ⟨#[45]⟩ a with
      |true=>exact leP_lt (num_lt T en true a) fun s b _ _ hb=>leP_ok (Nat.le_refl _) hb
      |false=>
       rw[cond_false]
       cases h6:(lookF T a).kind==5 with
       |true=>
        have:(lookF T a).kind=5:=by simpa using h6
        exact ltP_in (look_in (by omega))
       |false=>exact leP_lt (kind_lt T en 2 (by decide) a) fun s b _ _ hb=>leP_bind (maybe_le (pat_lt T en n) b hb) fun l c _ _ hc=>leP_ok (Nat.le_refl _) hc
theorem pat_spec {G:Nat} {tab:List Value} (hPI:PIC G tab) (T:List Tk) (hT:TOK T) (en:Int):∀n a,a≤T.length→T.length<n+a→AMemO Tryz.prog 192 [.ptr 1000000000 0] (hG G tab T en a) (oG G tab T en (fun y=>.p (eP y)) (patF T en n a))
 |0,a,ha,hn=>by omega
 |n+1,a,ha,hn=>by
  have ih:=pat_spec hPI T hT en n;have hF:∀b,a<b→b≤T.length→AMemO Tryz.prog 192 [.ptr 1000000000 0] (hG G tab T en b) (oG G tab T en (fun y=>.p (eP y)) (patF T en n b)):=fun b h1 h2=>ih b h2 (by omega);have hlen:=hT.len;generalize hx:patF T en (n+1) a=X;rw[patF]at hx;refine oIG Tryz.func192 rfl (by rfl) (by show 1≤_;decide) (fun _=>rfl) (by kernel_rfl) ?_;intro hX;(conv=>whnf);refine oL 500 (look_spec T hlen en a ha) ?_;(conv=>whnf);refine oL 500 (take_spec T hlen en a ha ⟨#[95]⟩) ?_;(conv=>whnf);unfold takeF
  cases h1:isF T ⟨#[95]⟩ a with
  |true=>
   rw[h1,cond_true]at hx;(conv=>whnf);subst hx;exact⟨.inl rfl,ob_refl _,⟨rfl,rfl⟩,trivial⟩
  |false=>
   rw[h1,cond_false]at hx;(conv=>whnf);refine oL 500 (take_spec T hlen en a ha ⟨#[116,114,117,101]⟩) ?_;(conv=>whnf);unfold takeF
   cases h2:isF T ⟨#[116,114,117,101]⟩ a with
   |true=>
    rw[h2,cond_true]at hx;(conv=>whnf);subst hx;exact⟨.inl rfl,ob_refl _,⟨rfl,rfl⟩,trivial⟩
   |false=>
    rw[h2,cond_false]at hx;(conv=>whnf);refine oL 500 (take_spec T hlen en a ha ⟨#[102,97,108,115,101]⟩) ?_;(conv=>whnf);unfold takeF
    cases h3:isF T ⟨#[102,97,108,115,101]⟩ a with
    |true=>
     rw[h3,cond_true]at hx;(conv=>whnf);subst hx;exact⟨.inl rfl,ob_refl _,⟨rfl,rfl⟩,trivial⟩
    |false=>
     rw[h3,cond_false]at hx;(conv=>whnf)
     cases h4:(lookF T a).kind==1 with
     |true=>
      rw[h4,cond_true]at hx;(conv=>whnf);refine oC 500 (low_spec T hlen en a ha) (fun p hp=>?_) (fun s b hy=>?_)
      ·rw[hp]at hx;subst hx;exact okE hX
      rw[hy,bindP_ok]at hx;(conv=>whnf);subst hx;exact⟨.inl rfl,ob_refl _,⟨rfl,rfl⟩,trivial⟩
     |false=>
      rw[h4,cond_false]at hx;(conv=>whnf);have hnum:∀X,bindP (numF T en true a) (fun v b=>(.ok (.mk 3 v ⟨#[]⟩ [],b):PR Pt))=X→True:=fun _ _=>trivial
      cases h5:(lookF T a).kind==4 with
      |true=>
       rw[h5,Bool.true_or,cond_true]at hx;(conv=>whnf);refine oCG 1000000001 500 (num_spec hPI T hT en true a ha) (fun p hp=>?_) (fun v b hy=>?_)
       ·rw[hp]at hx;subst hx;exact okE hX
       rw[hy,bindP_ok]at hx;(conv=>whnf);subst hx;exact⟨.inl rfl,ob_refl _,⟨rfl,rfl⟩,trivial⟩
      |false=>
       rw[h5,Bool.false_or]at hx;(conv=>whnf);refine oL 500 (is_spec T hlen en a ha ⟨#[45]⟩) ?_;(conv=>whnf)
       cases h6:isF T ⟨#[45]⟩ a with
       |true=>
        rw[h6,cond_true]at hx;(conv=>whnf);refine oCG 1000000001 500 (num_spec hPI T hT en true a ha) (fun p hp=>?_) (fun v b hy=>?_)
        ·rw[hp]at hx;subst hx;exact okE hX
        rw[hy,bindP_ok]at hx;(conv=>whnf);subst hx;exact⟨.inl rfl,ob_refl _,⟨rfl,rfl⟩,trivial⟩
       |false=>
        rw[h6,cond_false]at hx;(conv=>whnf)
        cases h7:(lookF T a).kind==5 with
        |true=>
         rw[h7,cond_true]at hx;have:(lookF T a).kind=5:=by simpa using h7
         have:=look_in (T:=T) (a:=a) (by omega);have hw:IntKind.i64.wrap ((a:Int)+1)=((a+1:Nat):Int):=by rw[wrap64 (by omega) (by omega)];rfl
         subst hx;(conv=>whnf);rw[hw];exact⟨.inl rfl,ob_refl _,⟨rfl,rfl⟩,trivial⟩
        |false=>
         rw[h7,cond_false]at hx;(conv=>whnf);refine oC 500 (up_spec T hlen en a ha) (fun p hp=>?_) (fun s b hy=>?_)
         ·rw[hp]at hx;subst hx;exact okE hX
         rw[hy,bindP_ok]at hx;(conv=>whnf);obtain⟨q1,q2⟩:=kind_lt T en 2 (by decide) a s b hy;refine oCG 1000000001 500 (maybeP_spec T hlen en 192 _ (pat_lt T en n) b q2 (fun z h3 h4=>hF z (by omega) h4)) (fun p hp=>?_) (fun l c hy=>?_)
         ·rw[hp]at hx;subst hx;exact okE hX
         rw[hy,bindP_ok]at hx;(conv=>whnf);subst hx;refine⟨?_,ob_refl _,⟨rfl,rfl⟩,trivial⟩
         left
         show _=AV.p (.agg [.i .i64 6,.i .i64 0,.s _,.sl 4 (ePs l)]);rw[ePs_map];rfl
end PA
open Go Go.AM Go.Proofs TK TR
set_option maxRecDepth 100000
namespace PA
def opsL:Bs:=[43,32,45,32,42,32,47,32,37,32,60,32,61,32,94,32,97,110,100,32,111,114]
def opsW:List ByteArray:=[⟨#[43]⟩,⟨#[45]⟩,⟨#[42]⟩,⟨#[47]⟩,⟨#[37]⟩,⟨#[60]⟩,⟨#[61]⟩,⟨#[94]⟩,⟨#[97,110,100]⟩,⟨#[111,114]⟩]
theorem ops_split:(splitF 32 opsL).map TK.eStr=opsW.map PV.s:=by rfl
def operatorF (T:List Tk) (en:Int) (a:Nat):PR ByteArray:=basesF T a (.error (placeF T en a)) opsW
theorem operator_lt (T:List Tk) (en:Int) (a:Nat):ltP T a (operatorF T en a):=bases_lt ltP_err _
theorem operator_spec (T:List Tk) (hT:T.length≤4000) (en:Int) (a:Nat) (ha:a≤T.length):AMemO Tryz.prog 183 [.ptr 1000000000 0] (hR T en a) (oR T en (fun s=>.p (.s s)) (operatorF T en a)):=by
 have c:=split_spec opsL (B [32]) rfl (by decide);rw[ops_split]at c;generalize hx:operatorF T en a=X;unfold operatorF at hx;refine oI Tryz.func183 rfl (by rfl) (by show 1≤_;decide) (fun _=>rfl) (by kernel_rfl) ?_;intro hX;(conv=>whnf);refine apc c ?_;(conv=>whnf);refine loopS (tyOf_ok _) hmix (by kernel_rfl) 10 [0,5,6,7] [1000000000] (fun k (s:Unit)=>[.ptr 1000000000 0,.p (.sl 1 (opsW.map PV.s)),.p (.i .i64 10),.p (.i .i64 (ix k))]) (fun k s=>[.cells [.p (.sl 3 (T.map eTk)),.p (.i .i64 a),.p (.i .i64 en)]]) (fun k s=>basesF T a (.error (placeF T en a)) (opsW.drop k)=X) () ⟨rfl,rfl,rfl,rfl⟩ hx ?_;rintro k _ hk hx;(conv=>whnf);refine asplit ?_ ?_<;>intro h<;>conv=>whnf
 ·have h1:=ix_tt h (n:=10) rfl hk (by omega)
  obtain⟨b,hb⟩:∃b,opsW[k]?=some b:=⟨_,List.getElem?_eq_getElem h1⟩
  rw[drop_cons hb,basesF]at hx;refine aidxk (x:=.s b) (by rw[List.getElem?_map,hb];rfl) (by omega) ?_;(conv=>whnf);refine oL 500 (take_spec T hT en a ha b) ?_;(conv=>whnf);unfold takeF
  cases hi:isF T b a with
  |true=>
   rw[hi,cond_true]at hx;(conv=>whnf);subst hx;exact⟨.inl rfl,ob_refl _,trivial⟩
  |false=>
   rw[hi,cond_false]at hx;(conv=>whnf);exact⟨h1,(),⟨rfl,rfl,rfl,rfl⟩,hx⟩
 ·have h1:=ix_ff h (n:=10) rfl hk (by omega)
  subst h1;replace hx:.error (placeF T en a)=X:=hx;subst hx;exact(okE hX).elim
def ESpec (G:Nat) (tab:List Value) (T:List Tk) (en:Int) (Es:Nat→PR Ex) (a:Nat):Prop:=∀b,a<b→b≤T.length→AMemO Tryz.prog 103 [.ptr 1000000000 0] (hG G tab T en b) (oG G tab T en (fun y=>.p (eE y)) (Es b))
def twoF (T:List Tk) (en:Int) (Es:Nat→PR Ex) (k:Int) (a:Nat):PR Ex:=bindP (wantF T en [opn] a) fun _ b=>bindP (Es b) fun x c=>bindP (wantF T en [comma] c) fun _ d=>bindP (Es d) fun y e=>bindP (wantF T en [cls] e) fun _ f=>.ok (.mk k 0 ⟨#[]⟩ [] [] [x,y] [] 0,f)
theorem two_lt {T:List Tk} {en:Int} {Es:Nat→PR Ex} (hE:∀b,ltP T b (Es b)) (k:Int) (a:Nat):ltP T a (twoF T en Es k a):=leP_lt (want_lt T en opn [] a) fun _ b _ _ hb=>leP_bind (hE b).le fun _ c _ _ hc=>leP_bind (want_le T en _ c hc) fun _ d _ _ hd=>leP_bind (hE d).le fun _ e _ _ he=>leP_bind (want_le T en _ e he) fun _ f _ _ hf=>leP_ok (Nat.le_refl _) hf
theorem two_spec {G:Nat} {tab:List Value} (T:List Tk) (hT:T.length≤4000) (en:Int) (Es:Nat→PR Ex) (hlt:∀b,ltP T b (Es b)) (k:Int) (a:Nat) (ha:a≤T.length) (hE:ESpec G tab T en Es a):AMemO Tryz.prog 186 [.ptr 1000000000 0,.p (.i .i64 k)] (hG G tab T en a) (oG G tab T en (fun y=>.p (eE y)) (twoF T en Es k a)):=by
 generalize hx:twoF T en Es k a=X;unfold twoF at hx;refine oIG Tryz.func186 rfl (by rfl) (by show 2≤_;decide) (fun _=>rfl) (by kernel_rfl) ?_;intro hX;(conv=>whnf);refine oC 500 (want_spec T hT en a ha [opn] (by decide)) (fun p hp=>?_) (fun u b hy=>?_)
 ·rw[hp]at hx;subst hx;exact okE hX
 rw[hy,bindP_ok]at hx;(conv=>whnf);obtain⟨q1,q2⟩:=want_lt T en opn [] a u b hy;refine oCG 1000000001 500 (hE b q1 q2) (fun p hp=>?_) (fun x c hy=>?_)
 ·rw[hp]at hx;subst hx;exact okE hX
 rw[hy,bindP_ok]at hx;(conv=>whnf);obtain⟨q3,q4⟩:=hlt b x c hy;obtain⟨xk,xn,xt,xns,xts,xxs,xms,xp⟩:=x;(conv=>whnf);refine oC 500 (want_spec T hT en c q4 [comma] (by decide)) (fun p hp=>?_) (fun u d hy=>?_)
 ·rw[hp]at hx;subst hx;exact okE hX
 rw[hy,bindP_ok]at hx;(conv=>whnf);obtain⟨q5,q6⟩:=want_le T en _ c q4 u d hy;refine oCG 1000000001 500 (hE d (by omega) q6) (fun p hp=>?_) (fun y e hy=>?_)
 ·rw[hp]at hx;subst hx;exact okE hX
 rw[hy,bindP_ok]at hx;obtain⟨q7,q8⟩:=hlt d y e hy;obtain⟨yk,yn,yt,yns,yts,yxs,yms,yp⟩:=y;(conv=>whnf)
 first|refine aneed (.inl (by kernel_rfl)) ?_|refine aneed (by kernel_rfl) ?_
 (conv=>whnf);refine oC 500 (want_spec T hT en e q8 [cls] (by decide)) (fun p hp=>?_) (fun u f hy=>?_)
 ·rw[hp]at hx;subst hx;exact okE hX
 rw[hy,bindP_ok]at hx;(conv=>whnf);subst hx;exact⟨.inl rfl,ob_refl _,⟨rfl,rfl⟩,trivial⟩
end PA
open Go Go.AM Go.Proofs TK TR
set_option maxRecDepth 100000
namespace PA
abbrev arrow:ByteArray:=⟨#[61,62]⟩
def paF (T:List Tk) (en:Int) (a:Nat):PR Pt:=patF T en (T.length+1) a
theorem pa_lt (T:List Tk) (en:Int) (a:Nat):ltP T a (paF T en a):=pat_lt T en _ a
theorem pa_spec {G:Nat} {tab:List Value} (hPI:PIC G tab) (T:List Tk) (hT:TOK T) (en:Int) (a:Nat) (ha:a≤T.length):AMemO Tryz.prog 192 [.ptr 1000000000 0] (hG G tab T en a) (oG G tab T en (fun y=>.p (eP y)) (paF T en a)):=pat_spec hPI T hT en _ a ha (by omega)
def armsGo (T:List Tk) (en:Int) (Es:Nat→PR Ex):Nat→List Arm→Nat→PR (List Arm)
 |0,_,_=>.error 0
 |m+1,out,a=>bindP (paF T en a) fun p b=>bindP (wantF T en [arrow] b) fun _ c=>bindP (Es c) fun x d=>bif isF T ⟨#[59]⟩ d then armsGo T en Es m (out++[.mk p x]) (d+1) else bindP (wantF T en [⟨#[125]⟩] d) fun _ e=>.ok (out++[.mk p x],e)
def armsF (T:List Tk) (en:Int) (Es:Nat→PR Ex) (a:Nat):PR (List Arm):=armsGo T en Es (T.length+1) [] a
theorem armsGo_lt {T:List Tk} {en:Int} {Es:Nat→PR Ex} (hE:∀b,ltP T b (Es b)):∀m out a,ltP T a (armsGo T en Es m out a)
 |0,_,_=>ltP_err
 |m+1,out,a=>by
  rw[armsGo];refine leP_lt (pa_lt T en a) fun p b _ _ hb=>leP_bind (want_le T en _ b hb) fun _ c _ _ hc=>leP_bind (hE c).le fun x d _ _ hd=>?_
  cases hi:isF T ⟨#[59]⟩ d with
  |true=>exact fun y e h=>by have:=armsGo_lt hE m _ _ y e h;omega
  |false=>exact leP_bind (want_le T en _ d hd) fun _ e _ _ he=>leP_ok (Nat.le_refl _) he
theorem arms_lt {T:List Tk} {en:Int} {Es:Nat→PR Ex} (hE:∀b,ltP T b (Es b)) (a:Nat):ltP T a (armsF T en Es a):=armsGo_lt hE _ _ a
theorem arms_spec {G:Nat} {tab:List Value} (hPI:PIC G tab) (T:List Tk) (hT:TOK T) (en:Int) (Es:Nat→PR Ex) (hlt:∀b,ltP T b (Es b)) (z a:Nat) (hz:z≤a) (ha:a≤T.length) (hE:ESpec G tab T en Es z):AMemO Tryz.prog 184 [.ptr 1000000000 0] (hG G tab T en a) (oG G tab T en (fun y=>.p (.sl 12 (y.map eA))) (armsF T en Es a)):=by
 have hlen:=hT.len;generalize hx:armsF T en Es a=X;unfold armsF at hx;refine oIG Tryz.func184 rfl (by rfl) (by show 1≤_;decide) (fun _=>rfl) (by kernel_rfl) ?_;intro hX;(conv=>whnf);refine lp_nil 3 11 rfl ?_;refine loopS (tyOf_ok _) hmix (by kernel_rfl) T.length [0,3] [1000000000,1000000001] (fun k (s:List Arm×Nat)=>[.ptr 1000000000 0,.so 12 (s.1.map eA)]) (fun k s=>[.cells [.p (.sl 3 (T.map eTk)),.p (.i .i64 s.2),.p (.i .i64 en)],.glob G tab]) (fun k s=>k≤s.2∧a≤s.2∧s.2≤T.length∧s.1.length≤k∧armsGo T en Es (T.length+1-k) s.1 s.2=X) ([],a) ⟨rfl,rfl,rfl,rfl⟩ ⟨by simp,by simp,ha,by simp,hx⟩ ?_;rintro k ⟨out,s⟩ hk ⟨hs1,hs2,hs,hs3,hx⟩;simp only at hs1 hs2 hs hs3 hx ⊢;rw[show T.length+1-k=(T.length-k)+1 by omega,armsGo]at hx;(conv=>whnf);refine oCG 1000000001 500 (pa_spec hPI T hT en s hs) (fun p hp=>?_) (fun p b hy=>?_)
 ·rw[hp]at hx;subst hx;exact okE hX
 rw[hy,bindP_ok]at hx;(conv=>whnf);obtain⟨q1,q2⟩:=pa_lt T en s p b hy;obtain⟨pk,pn,pt,pxs⟩:=p;(conv=>whnf);refine oC 500 (want_spec T hlen en b q2 [arrow] (by decide)) (fun p hp=>?_) (fun u c hy=>?_)
 ·rw[hp]at hx;subst hx;exact okE hX
 rw[hy,bindP_ok]at hx;(conv=>whnf);obtain⟨q3,q4⟩:=want_le T en _ b q2 u c hy;refine oCG 1000000001 500 (hE c (by omega) q4) (fun p hp=>?_) (fun x d hy=>?_)
 ·rw[hp]at hx;subst hx;exact okE hX
 rw[hy,bindP_ok]at hx;obtain⟨q5,q6⟩:=hlt c x d hy;obtain⟨xk,xn,xt,xns,xts,xxs,xms,xp⟩:=x;refine aneed (Nat.le_trans (Nat.mul_le_mul_right _ (show _≤5000 by simp only[List.length_map,List.length_cons,List.length_nil];omega)) (Nat.le_of_ble_eq_true (by kernel_rfl))) ?_;(conv=>whnf)
 first|refine aneed (.inl (by kernel_rfl)) ?_|refine aneed (by kernel_rfl) ?_
 (conv=>whnf);refine oL 500 (take_spec T hlen en d q6 ⟨#[59]⟩) ?_;(conv=>whnf);unfold takeF
 cases hi:isF T ⟨#[59]⟩ d with
 |true=>
  have:=isF_in hi;rw[hi,cond_true]at hx;(conv=>whnf);refine⟨by omega,(out++[.mk (.mk pk pn pt pxs) (.mk xk xn xt xns xts xxs xms xp)],d+1),?_,by show k+1≤d+1;omega,by show a≤d+1;omega,by show d+1≤_;omega,by show(out++[_]).length≤k+1;simp only[List.length_append,List.length_cons,List.length_nil];omega,?_⟩
  ·simp only[List.map_append,List.map_cons,List.map_nil]
   exact⟨rfl,rfl,rfl,rfl⟩
  ·rw[show T.length+1-(k+1)=T.length-k by omega];exact hx
 |false=>
  rw[hi,cond_false]at hx;(conv=>whnf);refine oC 500 (want_spec T hlen en d q6 [⟨#[125]⟩] (by decide)) (fun p hp=>?_) (fun u e hy=>?_)
  ·rw[hp]at hx;subst hx;exact okE hX
  rw[hy,bindP_ok]at hx;(conv=>whnf);subst hx;refine⟨?_,ob_refl _,⟨rfl,rfl⟩,trivial⟩
  right
  simp only[List.map_append,List.map_cons,List.map_nil];rfl
end PA
open Go Go.AM Go.Proofs TK TR
set_option maxRecDepth 100000
namespace PA
abbrev empS:ByteArray:=⟨#[]⟩
abbrev wAfter:ByteArray:=⟨#[97,102,116,101,114]⟩
abbrev wNot:ByteArray:=⟨#[110,111,116]⟩
abbrev wFun:ByteArray:=⟨#[102,117,110]⟩
def msF (T:List Tk) (en:Int) (Es:Nat→PR Ex) (b:Nat):PR (List Arm):=bif isF T ⟨#[125]⟩ b then .ok ([],b+1) else armsF T en Es b
def afterF (T:List Tk) (en:Int) (Es:Nat→PR Ex) (ms:List Arm) (c:Nat):PR Ex:=bif isF T wAfter c then bindP (numF T en false (c+1)) fun v d=>bindP (wantF T en [arrow] d) fun _ e=>bindP (Es e) fun x f=>.ok (.mk 18 v empS [] [] [x] ms 0,f) else .ok (.mk 18 (-1) empS [] [] [] ms 0,c)
def receiveF (T:List Tk) (en:Int) (Es:Nat→PR Ex) (a:Nat):PR Ex:=bindP (wantF T en [⟨#[123]⟩] a) fun _ b=>bindP (msF T en Es b) fun ms c=>afterF T en Es ms c
theorem ms_lt {T:List Tk} {en:Int} {Es:Nat→PR Ex} (hE:∀b,ltP T b (Es b)) (a:Nat):ltP T a (msF T en Es a):=by
 unfold msF
 cases hi:isF T ⟨#[125]⟩ a with
 |true=>exact ltP_in (isF_in hi)
 |false=>exact arms_lt hE a
theorem after_le {T:List Tk} {en:Int} {Es:Nat→PR Ex} (hE:∀b,ltP T b (Es b)) (ms:List Arm) (c:Nat) (hc:c≤T.length):leP T c (afterF T en Es ms c):=by
 unfold afterF
 cases hi:isF T wAfter c with
 |true=>exact fun y b h=>by have:=(leP_lt (num_lt T en false (c+1)) fun v d _ _ hd=>leP_bind (want_le T en [arrow] d hd) fun _ e _ _ he=>leP_bind (hE e).le fun x f _ _ hf=>leP_ok (y:=Ex.mk 18 v empS [] [] [x] ms 0) (Nat.le_refl _) hf) y b h;omega
 |false=>exact leP_ok (Nat.le_refl _) hc
theorem receive_lt {T:List Tk} {en:Int} {Es:Nat→PR Ex} (hE:∀b,ltP T b (Es b)) (a:Nat):ltP T a (receiveF T en Es a):=leP_lt (want_lt T en _ [] a) fun _ b _ _ hb=>leP_bind (ms_lt hE b).le fun ms c _ _ hc=>after_le hE ms c hc
theorem receive_spec {G:Nat} {tab:List Value} (hPI:PIC G tab) (T:List Tk) (hT:TOK T) (en:Int) (Es:Nat→PR Ex) (hlt:∀b,ltP T b (Es b)) (z a:Nat) (hz:z≤a) (ha:a≤T.length) (hE:ESpec G tab T en Es z):AMemO Tryz.prog 185 [.ptr 1000000000 0] (hG G tab T en a) (oG G tab T en (fun y=>.p (eE y)) (receiveF T en Es a)):=by
 have hlen:=hT.len;generalize hx:receiveF T en Es a=X;unfold receiveF at hx;refine oIG Tryz.func185 rfl (by rfl) (by show 1≤_;decide) (fun _=>rfl) (by kernel_rfl) ?_;intro hX;(conv=>whnf);refine oC 500 (want_spec T hlen en a ha [⟨#[123]⟩] (by decide)) (fun p hp=>?_) (fun u b hy=>?_)
 ·rw[hp]at hx;subst hx;exact okE hX
 rw[hy,bindP_ok]at hx;(conv=>whnf);obtain⟨q1,q2⟩:=want_lt T en _ [] a u b hy;refine oL 500 (take_spec T hlen en b q2 ⟨#[125]⟩) ?_;(conv=>whnf);unfold takeF msF at *
 cases hi:isF T ⟨#[125]⟩ b with
 |true=>
  have:=isF_in hi;rw[hi,cond_true,bindP_ok]at hx;(conv=>whnf);have q4:b+1≤T.length:=this;generalize hc:b+1=c at *;unfold afterF at hx;refine oL 500 (take_spec T hlen en c q4 wAfter) ?_;(conv=>whnf);unfold takeF
  cases hi2:isF T wAfter c with
  |true=>
   have:=isF_in hi2;rw[hi2,cond_true]at hx;(conv=>whnf);refine oCG 1000000001 500 (num_spec hPI T hT en false (c+1) (by omega)) (fun p hp=>?_) (fun v d hy=>?_)
   ·rw[hp]at hx;subst hx;exact okE hX
   rw[hy,bindP_ok]at hx;(conv=>whnf);obtain⟨q5,q6⟩:=num_lt T en false (c+1) v d hy;refine oC 500 (want_spec T hlen en d q6 [arrow] (by decide)) (fun p hp=>?_) (fun u e hy=>?_)
   ·rw[hp]at hx;subst hx;exact okE hX
   rw[hy,bindP_ok]at hx;(conv=>whnf);obtain⟨q7,q8⟩:=want_le T en _ d q6 u e hy;refine oCG 1000000001 500 (hE e (by omega) q8) (fun p hp=>?_) (fun x f hy=>?_)
   ·rw[hp]at hx;subst hx;exact okE hX
   rw[hy,bindP_ok]at hx;(conv=>whnf);obtain⟨xk,xn,xt,xns,xts,xxs,xms,xp⟩:=x;(conv=>whnf);subst hx;refine⟨?_,ob_refl _,⟨rfl,rfl⟩,trivial⟩
   left
   skip
   rfl
  |false=>
   rw[hi2,cond_false]at hx;(conv=>whnf);subst hx;refine⟨?_,ob_refl _,⟨rfl,rfl⟩,trivial⟩
   left
   skip
   rfl
 |false=>
  rw[hi,cond_false]at hx;(conv=>whnf);refine oCG 1000000001 500 (arms_spec hPI T hT en Es hlt z b (by omega) q2 hE) (fun p hp=>?_) (fun ms c hy=>?_)
  ·rw[hp]at hx;subst hx;exact okE hX
  rw[hy,bindP_ok]at hx;(conv=>whnf);obtain⟨q3,q4⟩:=arms_lt hlt b ms c hy;unfold afterF at hx;refine oL 500 (take_spec T hlen en c q4 wAfter) ?_;(conv=>whnf);unfold takeF
  cases hi2:isF T wAfter c with
  |true=>
   have:=isF_in hi2;rw[hi2,cond_true]at hx;(conv=>whnf);refine oCG 1000000001 500 (num_spec hPI T hT en false (c+1) (by omega)) (fun p hp=>?_) (fun v d hy=>?_)
   ·rw[hp]at hx;subst hx;exact okE hX
   rw[hy,bindP_ok]at hx;(conv=>whnf);obtain⟨q5,q6⟩:=num_lt T en false (c+1) v d hy;refine oC 500 (want_spec T hlen en d q6 [arrow] (by decide)) (fun p hp=>?_) (fun u e hy=>?_)
   ·rw[hp]at hx;subst hx;exact okE hX
   rw[hy,bindP_ok]at hx;(conv=>whnf);obtain⟨q7,q8⟩:=want_le T en _ d q6 u e hy;refine oCG 1000000001 500 (hE e (by omega) q8) (fun p hp=>?_) (fun x f hy=>?_)
   ·rw[hp]at hx;subst hx;exact okE hX
   rw[hy,bindP_ok]at hx;(conv=>whnf);obtain⟨xk,xn,xt,xns,xts,xxs,xms,xp⟩:=x;(conv=>whnf);subst hx;refine⟨?_,ob_refl _,⟨rfl,rfl⟩,trivial⟩
   left
   show _=AV.p (.agg [.i .i64 18,.i .i64 v,.s empS,.sl 1 [],.sl 3 [],.sl 8 _,.sl 12 (eAs ms),.i .i64 0]);rw[eAs_map ms];rfl
  |false=>
   rw[hi2,cond_false]at hx;(conv=>whnf);subst hx;refine⟨?_,ob_refl _,⟨rfl,rfl⟩,trivial⟩
   left
   show _=AV.p (.agg [.i .i64 18,.i .i64 (-1),.s empS,.sl 1 [],.sl 3 [],.sl 8 _,.sl 12 (eAs ms),.i .i64 0]);rw[eAs_map ms];rfl
def lastB (T:List Tk) (en:Int) (x:Ex) (b:Nat):PR Ex:=bindP (wantF T en [cls] b) fun _ c=>.ok (x,c)
theorem last_le {T:List Tk} {en:Int} {x:Ex} (b:Nat) (hb:b≤T.length):leP T b (lastB T en x b):=leP_bind (want_le T en _ b hb) fun _ c _ _ hc=>leP_ok (Nat.le_refl _) hc
def bracketF (T:List Tk) (en:Int) (Es:Nat→PR Ex) (a:Nat):PR Ex:=
 bif isF T cls a then .ok (.mk 1 0 empS [] [] [] [] 0,a+1) else
 bif isF T wNot a then bindP (Es (a+1)) fun x b=>lastB T en (.mk 8 0 wNot [] [] [x] [] 0) b else
 bif isF T wFun a then bindP (namesF T en (a+1)) fun nt b=>bindP (wantF T en [arrow] b) fun _ c=>bindP (Es c) fun x d=>lastB T en (.mk 10 0 empS nt.1 nt.2 [x] [] 0) d else
 bindP (Es a) fun x b=>bindP (operatorF T en b) fun s c=>bindP (Es c) fun y d=>lastB T en (.mk 8 0 s [] [] [x,y] [] 0) d
theorem bracket_lt {T:List Tk} {en:Int} {Es:Nat→PR Ex} (hE:∀b,ltP T b (Es b)) (a:Nat):ltP T a (bracketF T en Es a):=by
 unfold bracketF
 cases h1:isF T cls a with
 |true=>exact ltP_in (isF_in h1)
 |false=>
  rw[cond_false]
  cases h2:isF T wNot a with
  |true=>exact ltP_step (Nat.lt_succ_self a) (leP_bind (hE (a+1)).le fun x b _ _ hb=>last_le b hb)
  |false=>
   rw[cond_false]
   cases h3:isF T wFun a with
   |true=>exact ltP_step (Nat.lt_succ_self a) (leP_bind (names_lt T en (a+1)).le fun _ b _ _ hb=>leP_bind (want_le T en _ b hb) fun _ c _ _ hc=>leP_bind (hE c).le fun x d _ _ hd=>last_le d hd)
   |false=>exact leP_lt (hE a) fun x b _ _ hb=>leP_bind (operator_lt T en b).le fun s c _ _ hc=>leP_bind (hE c).le fun y d _ _ hd=>last_le d hd
theorem bracket_spec {G:Nat} {tab:List Value} (T:List Tk) (hlen:T.length≤4000) (en:Int) (Es:Nat→PR Ex) (hlt:∀b,ltP T b (Es b)) (z a:Nat) (hz:z<a) (ha:a≤T.length) (hE:ESpec G tab T en Es z):AMemO Tryz.prog 162 [.ptr 1000000000 0] (hG G tab T en a) (oG G tab T en (fun y=>.p (eE y)) (bracketF T en Es a)):=by
 generalize hx:bracketF T en Es a=X;unfold bracketF lastB at hx;refine oIG Tryz.func162 rfl (by rfl) (by show 1≤_;decide) (fun _=>rfl) (by kernel_rfl) ?_;intro hX;(conv=>whnf);refine oL 500 (take_spec T hlen en a ha cls) ?_;(conv=>whnf);unfold takeF
 cases h1:isF T cls a with
 |true=>
  rw[h1,cond_true]at hx;(conv=>whnf);subst hx;exact⟨.inl rfl,ob_refl _,⟨rfl,rfl⟩,trivial⟩
 |false=>
  rw[h1,cond_false]at hx;(conv=>whnf);refine oL 500 (take_spec T hlen en a ha wNot) ?_;(conv=>whnf);unfold takeF
  cases h2:isF T wNot a with
  |true=>
   have:=isF_in h2;rw[h2,cond_true]at hx;(conv=>whnf);refine oCG 1000000001 500 (hE (a+1) (by omega) (by omega)) (fun p hp=>?_) (fun x b hy=>?_)
   ·rw[hp]at hx;subst hx;exact okE hX
   rw[hy,bindP_ok]at hx;(conv=>whnf);obtain⟨q1,q2⟩:=hlt (a+1) x b hy;obtain⟨xk,xn,xt,xns,xts,xxs,xms,xp⟩:=x;(conv=>whnf);refine oC 500 (want_spec T hlen en b q2 [cls] (by decide)) (fun p hp=>?_) (fun u c hy=>?_)
   ·rw[hp]at hx;subst hx;exact okE hX
   rw[hy,bindP_ok]at hx;(conv=>whnf);subst hx;exact⟨.inl rfl,ob_refl _,⟨rfl,rfl⟩,trivial⟩
  |false=>
   rw[h2,cond_false]at hx;(conv=>whnf);refine oL 500 (take_spec T hlen en a ha wFun) ?_;(conv=>whnf);unfold takeF
   cases h3:isF T wFun a with
   |true=>
    have:=isF_in h3;rw[h3,cond_true]at hx;(conv=>whnf);refine oC 500 (names_spec T hlen en (a+1) (by omega)) (fun p hp=>?_) (fun nt b hy=>?_)
    ·rw[hp]at hx;subst hx;exact okE hX
    rw[hy,bindP_ok]at hx;(conv=>whnf);obtain⟨q1,q2⟩:=names_lt T en (a+1) nt b hy;refine oC 500 (want_spec T hlen en b q2 [arrow] (by decide)) (fun p hp=>?_) (fun u c hy=>?_)
    ·rw[hp]at hx;subst hx;exact okE hX
    rw[hy,bindP_ok]at hx;(conv=>whnf);obtain⟨q3,q4⟩:=want_le T en _ b q2 u c hy;refine oCG 1000000001 500 (hE c (by omega) q4) (fun p hp=>?_) (fun x d hy=>?_)
    ·rw[hp]at hx;subst hx;exact okE hX
    rw[hy,bindP_ok]at hx;(conv=>whnf);obtain⟨q5,q6⟩:=hlt c x d hy;obtain⟨xk,xn,xt,xns,xts,xxs,xms,xp⟩:=x;(conv=>whnf);refine oC 500 (want_spec T hlen en d q6 [cls] (by decide)) (fun p hp=>?_) (fun u e hy=>?_)
    ·rw[hp]at hx;subst hx;exact okE hX
    rw[hy,bindP_ok]at hx;(conv=>whnf);subst hx;refine⟨?_,ob_refl _,⟨rfl,rfl⟩,trivial⟩
    left
    show _=AV.p (.agg [.i .i64 10,.i .i64 0,.s empS,.sl 1 _,.sl 3 (eTs nt.2),.sl 8 _,.sl 12 _,.i .i64 0]);rw[eTs_map nt.2];rfl
   |false=>
    rw[h3,cond_false]at hx;(conv=>whnf);refine oCG 1000000001 500 (hE a hz ha) (fun p hp=>?_) (fun x b hy=>?_)
    ·rw[hp]at hx;subst hx;exact okE hX
    rw[hy,bindP_ok]at hx;(conv=>whnf);obtain⟨q1,q2⟩:=hlt a x b hy;obtain⟨xk,xn,xt,xns,xts,xxs,xms,xp⟩:=x;(conv=>whnf);refine oC 500 (operator_spec T hlen en b q2) (fun p hp=>?_) (fun s c hy=>?_)
    ·rw[hp]at hx;subst hx;exact okE hX
    rw[hy,bindP_ok]at hx;(conv=>whnf);obtain⟨q3,q4⟩:=operator_lt T en b s c hy;refine oCG 1000000001 500 (hE c (by omega) q4) (fun p hp=>?_) (fun y d hy=>?_)
    ·rw[hp]at hx;subst hx;exact okE hX
    rw[hy,bindP_ok]at hx;obtain⟨q5,q6⟩:=hlt c y d hy;obtain⟨yk,yn,yt,yns,yts,yxs,yms,yp⟩:=y;(conv=>whnf)
    first|refine aneed (.inl (by kernel_rfl)) ?_|refine aneed (by kernel_rfl) ?_
    (conv=>whnf);refine oC 500 (want_spec T hlen en d q6 [cls] (by decide)) (fun p hp=>?_) (fun u e hy=>?_)
    ·rw[hp]at hx;subst hx;exact okE hX
    rw[hy,bindP_ok]at hx;(conv=>whnf);subst hx;exact⟨.inl rfl,ob_refl _,⟨rfl,rfl⟩,trivial⟩
end PA
