/-
  DERIVED. Contracts of functions that the law reaches, and the law, for every input. No conditions.
-/
import Derived.Test.YtmakmpapchiioaaGreatDoorPAK
open Go Go.AM Go.Proofs TK TR
set_option maxRecDepth 100000
namespace PA
structure Ag (T T':List Tk) (k:Nat):Prop where
 lt:k<T.length
 lt':k<T'.length
 ag:∀i,i≤k→T[i]?=T'[i]?
 tw:∀a,(lookF T a).kind≠4→(lookF T a).text.length≤64
section
variable {T T':List Tk} {k:Nat} (en en':Int) (A:Ag T T' k)
include A
theorem Ag.look {a:Nat} (h:a≤k):lookF T' a=lookF T a:=by unfold lookF;rw[A.ag a h]
theorem Ag.is {a:Nat} {s:ByteArray} (h:a≤k):isF T' s a=isF T s a:=by unfold isF;rw[A.look h]
theorem Ag.place {a:Nat} (h:a≤k):placeF T' en' a=placeF T en a:=by
 unfold placeF
 rw[←A.ag a h,List.getElem?_eq_getElem (by have:=A.lt;omega)]
omit A
def J (T:List Tk) (en:Int) (k:Nat) (a0:Nat) {α:Type} (w:α→Nat) (x y:PR α) (a:Nat):Prop:=
 (∀v b,x=.ok (v,b)→a≤b∧b≤T.length∧w v+200*a0≤200*b∧(b≤k→y=.ok (v,b)))∧
 (∀e,x=.error e→∃j,a≤j∧j≤T.length∧e=placeF T en j∧(j≤k→y=.error e))
variable {en en'} {α β:Type} {a0 a:Nat} {w:α→Nat}
theorem J.ok {v v':α} {b:Nat} (h1:a≤b) (h2:b≤T.length) (h3:w v+200*a0≤200*b) (h4:b≤k→v'=v):J T en k a0 w (.ok (v,b)) (.ok (v',b)) a:=
 ⟨fun v1 b1 h=>by cases h;exact⟨h1,h2,h3,fun q=>by rw[h4 q]⟩,fun e h=>by cases h⟩
include A in
theorem J.err (h:a≤T.length):J T en k a0 w (.error (placeF T en a)) (.error (placeF T' en' a)) a:=
 ⟨fun v b h=>(by cases h),fun e h1=>by cases h1;exact⟨a,Nat.le_refl _,h,rfl,fun q=>by rw[A.place en en' q]⟩⟩
theorem J.irr {x y y':PR α} (h:k<a) (hj:J T en k a0 w x y a):J T en k a0 w x y' a:=
 ⟨fun v b q=>by obtain⟨h1,h2,h3,_⟩:=hj.1 v b q;exact⟨h1,h2,h3,fun q=>by omega⟩,fun e q=>by obtain⟨j,h1,h2,h3,_⟩:=hj.2 e q;exact⟨j,h1,h2,h3,fun q=>by omega⟩⟩
theorem J.up {x y:PR α} {b:Nat} (h:a≤b) (hj:J T en k a0 w x y b):J T en k a0 w x y a:=
 ⟨fun v c q=>by obtain⟨h1,h2,h3,h4⟩:=hj.1 v c q;exact⟨by omega,h2,h3,h4⟩,fun e q=>by obtain⟨j,h1,h2,h3,h4⟩:=hj.2 e q;exact⟨j,by omega,h2,h3,h4⟩⟩
theorem J.cond {c c':Bool} {x1 x2 y1 y2:PR α} (hc:a≤k→c'=c) (h1:c=true→J T en k a0 w x1 y1 a) (h2:c=false→J T en k a0 w x2 y2 a):J T en k a0 w (bif c then x1 else x2) (bif c' then y1 else y2) a:=by
 by_cases hk:a≤k
 ·rw[hc hk]
  cases c with
  |true=>exact h1 rfl
  |false=>exact h2 rfl
 ·cases c with
  |true=>exact J.irr (by omega) (h1 rfl)
  |false=>exact J.irr (by omega) (h2 rfl)
theorem J.bind {wx:β→Nat} {p:Nat} {x y:PR β} {f f':β→Nat→PR α} (hp:a≤p) (hx:J T en k p wx x y p) (hf:∀v b,p≤b→b≤T.length→wx v+200*p≤200*b→J T en k a0 w (f v b) (f' v b) b):J T en k a0 w (bindP x f) (bindP y f') a:=by
 rcases x with e|⟨v,b⟩
 ·obtain⟨j,h1,h2,h3,h4⟩:=hx.2 e rfl
  refine⟨fun v b h=>(by cases h),fun e1 h=>?_⟩
  cases h
  exact⟨j,by omega,h2,h3,fun q=>by rw[h4 q];rfl⟩
 ·obtain⟨h1,h2,h3,h4⟩:=hx.1 v b rfl
  have hj:=hf v b h1 h2 h3
  rw[bindP_ok]
  refine⟨fun z c h=>?_,fun e h=>?_⟩
  ·obtain⟨q1,q2,q3,q4⟩:=hj.1 z c h
   exact⟨by omega,q2,q3,fun q=>by rw[h4 (by omega),bindP_ok];exact q4 q⟩
  ·obtain⟨j,q1,q2,q3,q4⟩:=hj.2 e h
   exact⟨j,by omega,q2,q3,fun q=>by rw[h4 (by omega),bindP_ok];exact q4 q⟩
theorem J.weak {w':α→Nat} {x y:PR α} {a1:Nat} (hw:∀v b,w v+200*a0≤200*b→w' v+200*a1≤200*b) (hj:J T en k a0 w x y a):J T en k a1 w' x y a:=
 ⟨fun v b q=>by obtain⟨h1,h2,h3,h4⟩:=hj.1 v b q;exact⟨h1,h2,hw v b h3,h4⟩,hj.2⟩
def wB (s:ByteArray):Nat:=s.size+100
include A in
theorem j_kind (n:Int) (hn:n≠0) (hn4:n≠4) (ha:a≤T.length):J T en k a wB (kindF T en n a) (kindF T' en' n a) a:=by
 unfold kindF
 refine J.cond (fun h=>by rw[A.look h]) (fun h=>J.err A ha) (fun h=>?_)
 have hk:(lookF T a).kind=n:=by simpa using h
 have:=look_in (T:=T) (a:=a) (by omega)
 have hs:=A.tw a (by omega)
 refine J.ok (by omega) (by omega) ?_ (fun h=>by rw[A.look (by omega)])
 simp only[wB,B_size]
 omega
include A in
theorem j_want:∀(l:List ByteArray) (a:Nat),a≤T.length→J T en k a (fun _=>200*l.length) (wantF T en l a) (wantF T' en' l a) a
 | [],a,ha=>J.ok (Nat.le_refl _) ha (by simp) (fun _=>rfl)
 |s::r,a,ha=>by
  rw[wantF,wantF]
  refine J.cond (fun h=>A.is h) (fun h=>?_) (fun h=>J.err A ha)
  have:=isF_in h
  refine J.up (Nat.le_succ _) ((j_want r (a+1) (by omega)).weak (fun v b q=>?_))
  simp only[List.length_cons]
  omega
include A in
theorem j_want1 (s:ByteArray) (a:Nat) (ha:a≤T.length):J T en k a (fun _=>200) (wantF T en [s] a) (wantF T' en' [s] a) a:=(j_want A [s] a ha).weak (fun v b q=>by simpa using q)
variable (e:α→PV) {Fs Fs':Nat→PR α}
abbrev wEl (e:α→PV) (y:α):Nat:=PV.wt (e y)+20
abbrev wLs (e:α→PV) (l:List α):Nat:=PV.wts (l.map e)+20
include A in
theorem j_listGo {lo:Nat} (hF:∀b,lo≤b→b≤T.length→J T en k b (wEl e) (Fs b) (Fs' b) b):∀(m m':Nat) (out:List α) (a0 a:Nat),lo≤a→a≤T.length→T.length≤m+a→(a≤k→T'.length≤m'+a)→wLs e out+200*a0≤200*a→J T en k a0 (wLs e) (listGo T Fs m out a) (listGo T' Fs' m' out a) a:=by
 intro m
 induction m with
 |zero=>
  intro m' out a0 a hlo ha hm hm' hw
  have hke:¬a≤k:=by have:=A.lt;omega
  exact J.irr (y:=listGo T Fs 0 out a) (by omega) (J.ok (Nat.le_refl _) ha hw (fun _=>rfl))
 |succ m ih=>
  intro m' out a0 a hlo ha hm hm' hw
  have key:∀m',(a+1≤k→T'.length≤m'+(a+1))→J T en k a0 (wLs e) (listGo T Fs (m+1) out a) (listGo T' Fs' (m'+1) out a) a:=by
   intro m' hm'
   rw[listGo,listGo]
   refine J.cond (fun h=>A.is h) (fun h=>?_) (fun _=>J.ok (Nat.le_refl _) ha hw (fun _=>rfl))
   have:=isF_in h
   refine J.bind (Nat.le_succ _) (hF (a+1) (by omega) (by omega)) (fun v b h1 h2 h3=>?_)
   refine ih m' (out++[v]) a0 b (by omega) h2 (by omega) (fun q=>by have:=hm' (by omega);omega) ?_
   simp only[wLs,wEl,List.map_append,List.map_cons,List.map_nil,PV.wts_append,PV.wts]at *
   omega
  cases m' with
  |zero=>
   have:¬a≤k:=fun q=>by have:=hm' q;have:=A.lt';omega
   exact J.irr (by omega) (key 0 (fun q=>by omega))
  |succ m'=>exact key m' (fun q=>by have:=hm' (by omega);omega)
include A in
theorem j_list {lo:Nat} (hF:∀b,lo≤b→b≤T.length→J T en k b (wEl e) (Fs b) (Fs' b) b) (a:Nat) (hlo:lo≤a) (ha:a≤T.length):J T en k a (wLs e) (listF T Fs a) (listF T' Fs' a) a:=by
 unfold listF
 refine J.bind (Nat.le_refl _) (hF a hlo ha) (fun v b h1 h2 h3=>?_)
 refine j_listGo A e hF _ _ _ _ _ (by omega) h2 (by omega) (fun _=>by omega) ?_
 simp only[wLs,wEl,List.map_cons,List.map_nil,PV.wts]at *
 omega
include A in
theorem j_inside {lo:Nat} (hF:∀b,lo≤b→b≤T.length→J T en k b (wEl e) (Fs b) (Fs' b) b) (a:Nat) (hlo:lo≤a+1) (ha:a≤T.length):J T en k a (wLs e) (insideF T en Fs a) (insideF T' en' Fs' a) a:=by
 unfold insideF
 refine J.bind (Nat.le_refl _) (j_want1 A opn a ha) (fun v b h1 h2 h3=>?_)
 refine J.cond (fun h=>A.is h) (fun h=>?_) (fun h=>?_)
 ·have:=isF_in h
  refine J.ok (by omega) (by omega) ?_ (fun _=>rfl)
  simp only[wLs,List.map_nil,PV.wts];omega
 ·refine J.bind (Nat.le_refl _) (j_list A e hF b (by omega) h2) (fun l c h4 h5 h6=>?_)
  refine J.bind (Nat.le_refl _) (j_want1 A cls c h5) (fun _ d h7 h8 h9=>?_)
  exact J.ok (Nat.le_refl _) h8 (by omega) (fun _=>rfl)
include A in
theorem j_maybe {lo:Nat} (hF:∀b,lo≤b→b≤T.length→J T en k b (wEl e) (Fs b) (Fs' b) b) (a:Nat) (hlo:lo≤a+1) (ha:a≤T.length):J T en k a (fun l=>PV.wts (l.map e)) (maybeF T en Fs a) (maybeF T' en' Fs' a) a:=by
 unfold maybeF
 refine J.cond (fun h=>A.is h) (fun h=>?_) (fun h=>?_)
 ·have:=isF_in h
  refine J.bind (Nat.le_succ _) (j_list A e hF (a+1) hlo (by omega)) (fun l c h4 h5 h6=>?_)
  refine J.bind (Nat.le_refl _) (j_want1 A cls c h5) (fun _ d h7 h8 h9=>?_)
  exact J.ok (Nat.le_refl _) h8 (by simp only[wLs]at *;omega) (fun _=>rfl)
 ·exact J.ok (Nat.le_refl _) ha (by simp[PV.wts]) (fun _=>rfl)
end
end PA
open Go Go.AM Go.Proofs TK TR
set_option maxRecDepth 100000
namespace PA
section
variable {T T':List Tk} {k:Nat} {en en':Int} (A:Ag T T' k) {α:Type} {a0 a:Nat} {w:α→Nat}
theorem wt_ty (n:Int) (s:ByteArray) (l:List Ty):PV.wt (eT (.mk n s l))=s.size+3+PV.wts (l.map eT):=by
 have:=wT_mk n s l
 rw[wT,eTs_map]at this;exact this
theorem wt_pt (n m:Int) (s:ByteArray) (l:List Pt):PV.wt (eP (.mk n m s l))=s.size+4+PV.wts (l.map eP):=by
 have:=wP_mk n m s l
 rw[wP,ePs_map]at this;exact this
theorem wt_ex (k n:Int) (t:ByteArray) (ns:List ByteArray) (ts:List Ty) (xs:List Ex) (ms:List Arm) (p:Int):PV.wt (eE (.mk k n t ns ts xs ms p))=t.size+8+PV.wts (ns.map TR.eStr)+PV.wts (ts.map eT)+PV.wts (xs.map eE)+PV.wts (ms.map eA):=by
 have:=wE_mk k n t ns ts xs ms p
 rw[wE,eTs_map,eEs_map,eAs_map]at this;exact this
theorem wt_arm (p:Pt) (e:Ex):PV.wt (eA (.mk p e))=PV.wt (eP p)+PV.wt (eE e):=wA_mk p e
theorem wt_str (s:ByteArray):PV.wt (TR.eStr s)=s.size+1:=rfl
include A
theorem j_plainUp (ha:a≤T.length):J T en k a wB (plainUpF T en a) (plainUpF T' en' a) a:=by
 unfold plainUpF
 exact J.cond (fun h=>by rw[A.look h]) (fun _=>J.err A ha) (fun _=>j_kind A 2 (by decide) (by decide) ha)
theorem j_low (ha:a≤T.length):J T en k a (wEl TR.eStr) (kindF T en 1 a) (kindF T' en' 1 a) a:=(j_kind A 1 (by decide) (by decide) ha).weak (fun v b q=>by simp only[wEl,wB,wt_str]at *;omega)
theorem j_params (ha:a≤T.length):J T en k a (fun l=>PV.wts (l.map TR.eStr)) (paramsF T en a) (paramsF T' en' a) a:=by
 unfold paramsF
 refine J.cond (fun h=>A.is h) (fun h=>?_) (fun _=>J.ok (Nat.le_refl _) ha (by simp[PV.wts]) (fun _=>rfl))
 have:=isF_in h
 refine J.bind (Nat.le_succ _) (j_list A TR.eStr (lo:=0) (fun b _ hb=>j_low A hb) (a+1) (by omega) (by omega)) (fun l b h1 h2 h3=>?_)
 refine J.bind (Nat.le_refl _) (j_want1 A _ b h2) (fun _ c h4 h5 h6=>?_)
 exact J.ok (Nat.le_refl _) h5 (by simp only[wLs]at *;omega) (fun _=>rfl)
omit A in
theorem size_nil:(⟨#[]⟩:ByteArray).size=0:=rfl
theorem j_tys {rest rest':PR Ty} (ha:a≤T.length) (hr:J T en k a (wEl eT) rest rest' a):∀(l:List ByteArray) (i:Nat),J T en k a (wEl eT) (tysF T a rest l i) (tysF T' a rest' l i) a
 | [],i=>hr
 |s::r,i=>by
  rw[tysF,tysF]
  refine J.cond (fun h=>A.is h) (fun h=>?_) (fun _=>j_tys ha hr r (i+1))
  have:=isF_in h
  refine J.ok (by omega) (by omega) ?_ (fun _=>rfl)
  simp only[wEl,wt_ty,List.map_nil,PV.wts,size_nil];omega
theorem j_typ:∀(n n' a:Nat),a≤T.length→T.length<n+a→(a≤k→T'.length<n'+a)→J T en k a (wEl eT) (typF T en n a) (typF T' en' n' a) a:=by
 intro n
 induction n with
 |zero=>intro n' a ha hn;omega
 |succ n ih=>
  have key:∀n' a,a≤T.length→T.length<n+1+a→(a+1≤k→T'.length<n'+(a+1))→J T en k a (wEl eT) (typF T en (n+1) a) (typF T' en' (n'+1) a) a:=by
   intro n' a ha hn hn'
   have hF:∀b,a+1≤b→b≤T.length→J T en k b (wEl eT) (typF T en n b) (typF T' en' n' b) b:=fun b h1 h2=>ih n' b h2 (by omega) (fun q=>by have:=hn' (by omega);omega)
   rw[typF,typF]
   refine j_tys A ha ?_ _ _
   refine J.cond (fun h=>A.is h) (fun h=>?_) (fun _=>?_)
   ·have:=isF_in h
    refine J.ok (by omega) (by omega) ?_ (fun _=>rfl)
    simp only[wEl,wt_ty,List.map_nil,PV.wts]
    show 4+3+0+20+200*a≤_
    omega
   refine J.cond (fun h=>A.is h) (fun h=>?_) (fun _=>?_)
   ·have:=isF_in h
    refine J.bind (Nat.le_succ _) (j_inside A eT hF (a+1) (by omega) (by omega)) (fun l b h1 h2 h3=>?_)
    refine J.bind (Nat.le_refl _) (j_want1 A _ b h2) (fun _ c h4 h5 h6=>?_)
    refine J.bind (Nat.le_refl _) (hF c (by omega) h5) (fun t d h7 h8 h9=>?_)
    refine J.ok (Nat.le_refl _) h8 ?_ (fun _=>rfl)
    simp only[wEl,wLs,wt_ty,List.map_append,List.map_cons,List.map_nil,PV.wts_append,PV.wts,size_nil]at *;omega
   refine J.cond (fun h=>by rw[A.look h]) (fun h=>?_) (fun _=>?_)
   ·refine J.bind (Nat.le_refl _) (j_kind A 1 (by decide) (by decide) ha) (fun s b h1 h2 h3=>?_)
    refine J.ok (Nat.le_refl _) h2 ?_ (fun _=>rfl)
    simp only[wEl,wB,wt_ty,List.map_nil,PV.wts]at *;omega
   refine J.bind (Nat.le_refl _) (j_kind A 2 (by decide) (by decide) ha) (fun s b h1 h2 h3=>?_)
   have h1':a+1≤b:=by unfold wB at h3;omega
   refine J.cond (fun _=>rfl) (fun h=>?_) (fun _=>?_)
   ·refine J.bind (Nat.le_refl _) (j_want1 A _ b h2) (fun _ c h4 h5 h6=>?_)
    refine J.bind (Nat.le_refl _) (hF c (by omega) h5) (fun t d h7 h8 h9=>?_)
    refine J.bind (Nat.le_refl _) (j_want1 A _ d h8) (fun _ e h10 h11 h12=>?_)
    refine J.ok (Nat.le_refl _) h11 ?_ (fun _=>rfl)
    simp only[wEl,wB,wt_ty,List.map_cons,List.map_nil,PV.wts,size_nil]at *;omega
   ·refine J.bind (Nat.le_refl _) (j_maybe A eT hF b (by omega) h2) (fun l c h4 h5 h6=>?_)
    refine J.ok (Nat.le_refl _) h5 ?_ (fun _=>rfl)
    simp only[wEl,wB,wt_ty]at *;omega
  intro n' a ha hn hn'
  cases n' with
  |zero=>exact J.irr (by have:=A.lt';by_cases q:a≤k;(have:=hn' q;omega);omega) (key 0 a ha (by omega) (fun q=>by have:=hn' (by omega);omega))
  |succ n'=>exact key n' a ha (by omega) (fun q=>by have:=hn' (by omega);omega)
theorem j_ty (ha:a≤T.length):J T en k a (wEl eT) (tyF T en a) (tyF T' en' a) a:=j_typ A _ _ a ha (by omega) (fun _=>by omega)
abbrev wPar (x:ByteArray×Ty):PV:=.agg [TR.eStr x.1,eT x.2]
theorem j_par (ha:a≤T.length):J T en k a (wEl wPar) (parF T en a) (parF T' en' a) a:=by
 unfold parF
 refine J.bind (Nat.le_refl _) (j_kind A 1 (by decide) (by decide) ha) (fun s b h1 h2 h3=>?_)
 refine J.bind (Nat.le_refl _) (j_want1 A _ b h2) (fun _ c h4 h5 h6=>?_)
 refine J.bind (Nat.le_refl _) (j_ty A h5) (fun t d h7 h8 h9=>?_)
 refine J.ok (Nat.le_refl _) h8 ?_ (fun _=>rfl)
 simp only[wEl,wB,wPar,PV.wt,PV.wts,wt_str]at *;omega
omit A in
theorem wts_par:∀(l:List (ByteArray×Ty)),PV.wts (l.map wPar)=PV.wts ((l.map Prod.fst).map TR.eStr)+PV.wts ((l.map Prod.snd).map eT)
 | []=>rfl
 |x::r=>by
  have:=wts_par r
  simp only[List.map_cons,PV.wts,PV.wt,wPar]at *
  omega
theorem j_names (ha:a≤T.length):J T en k a (fun(x:List ByteArray×List Ty)=>PV.wts (x.1.map TR.eStr)+PV.wts (x.2.map eT)+20) (namesF T en a) (namesF T' en' a) a:=by
 unfold namesF
 refine J.bind (Nat.le_refl _) (j_inside A wPar (lo:=0) (fun b _ hb=>j_par A hb) a (by omega) ha) (fun l b h1 h2 h3=>?_)
 refine J.ok (Nat.le_refl _) h2 ?_ (fun _=>rfl)
 simp only[wLs,wts_par]at *;omega
abbrev wHd (f:LFu):Nat:=f.name.size+PV.wts (f.ps.map TR.eStr)+PV.wts (f.ns.map TR.eStr)+PV.wts (f.ts.map eT)+PV.wt (eT f.out)+40
theorem j_head (ha:a≤T.length):J T en k a wHd (headF T en a) (headF T' en' a) a:=by
 unfold headF
 refine J.bind (Nat.le_refl _) (j_kind A 1 (by decide) (by decide) ha) (fun s b h1 h2 h3=>?_)
 refine J.bind (Nat.le_refl _) (j_params A h2) (fun ps c h4 h5 h6=>?_)
 refine J.bind (Nat.le_refl _) (j_names A h5) (fun nt d h7 h8 h9=>?_)
 refine J.bind (Nat.le_refl _) (j_want1 A _ d h8) (fun _ e h10 h11 h12=>?_)
 refine J.bind (Nat.le_refl _) (j_ty A h11) (fun o f h13 h14 h15=>?_)
 refine J.ok (Nat.le_refl _) h14 ?_ (fun _=>rfl)
 simp only[wHd,wB,wEl]at *;omega
theorem j_bases {rest rest':PR ByteArray} (ha:a≤T.length) (hr:J T en k a wB rest rest' a):∀(l:List ByteArray),(∀s∈l,s.size≤10)→J T en k a wB (basesF T a rest l) (basesF T' a rest' l) a
 | [],_=>hr
 |s::r,hl=>by
  rw[basesF,basesF]
  refine J.cond (fun h=>A.is h) (fun h=>?_) (fun _=>j_bases ha hr r (fun s hs=>hl s (List.mem_cons_of_mem _ hs)))
  have:=isF_in h
  refine J.ok (by omega) (by omega) ?_ (fun _=>rfl)
  have:=hl s (by simp)
  unfold wB;omega
theorem j_for (ha:a≤T.length):J T en k a wB (forF T en a) (forF T' en' a) a:=j_bases A ha (j_kind A 2 (by decide) (by decide) ha) _ (by decide)
theorem j_operator (ha:a≤T.length):J T en k a wB (operatorF T en a) (operatorF T' en' a) a:=j_bases A ha (J.err A ha) _ (by decide)
theorem j_numG (pre:ByteArray) (ha:a≤T.length):J T en k a (fun _=>200) (numG T en pre a) (numG T' en' pre a) a:=by
 unfold numG
 refine J.cond (fun h=>by rw[A.look h]) (fun h=>J.err A ha) (fun h=>?_)
 have hk:(lookF T a).kind=4:=by simpa using h
 have:=look_in (T:=T) (a:=a) (by omega)
 refine J.cond (fun h=>by rw[A.look h]) (fun h=>J.err A ha) (fun h=>?_)
 exact J.ok (by omega) (by omega) (by omega) (fun h=>by rw[A.look (by omega)])
theorem j_num (minus:Bool) (ha:a≤T.length):J T en k a (fun _=>200) (numF T en minus a) (numF T' en' minus a) a:=by
 unfold numF
 refine J.cond (fun h=>by rw[A.is h]) (fun h=>?_) (fun _=>j_numG A _ ha)
 rw[Bool.and_eq_true]at h
 have:=isF_in h.2
 exact J.up (Nat.le_succ _) ((j_numG A _ (by omega)).weak (fun v b q=>by omega))
end
end PA
open Go Go.AM Go.Proofs TK TR
set_option maxRecDepth 100000
namespace PA
section
variable {T T':List Tk} {k:Nat} {en en':Int} (A:Ag T T' k) {α:Type} {a0 a:Nat} {w:α→Nat}
include A
theorem j_pat:∀(n n' a:Nat),a≤T.length→T.length<n+a→(a≤k→T'.length<n'+a)→J T en k a (wEl eP) (patF T en n a) (patF T' en' n' a) a:=by
 intro n
 induction n with
 |zero=>intro n' a ha hn;omega
 |succ n ih=>
  have key:∀n' a,a≤T.length→T.length<n+1+a→(a+1≤k→T'.length<n'+(a+1))→J T en k a (wEl eP) (patF T en (n+1) a) (patF T' en' (n'+1) a) a:=by
   intro n' a ha hn hn'
   have hF:∀b,a+1≤b→b≤T.length→J T en k b (wEl eP) (patF T en n b) (patF T' en' n' b) b:=fun b h1 h2=>ih n' b h2 (by omega) (fun q=>by have:=hn' (by omega);omega)
   rw[patF,patF]
   refine J.cond (fun h=>A.is h) (fun h=>?_) (fun _=>?_)
   ·have:=isF_in h
    refine J.ok (by omega) (by omega) ?_ (fun _=>rfl)
    simp only[wEl,wt_pt,List.map_nil,PV.wts,size_nil];omega
   refine J.cond (fun h=>A.is h) (fun h=>?_) (fun _=>?_)
   ·have:=isF_in h
    refine J.ok (by omega) (by omega) ?_ (fun _=>rfl)
    simp only[wEl,wt_pt,List.map_nil,PV.wts,size_nil];omega
   refine J.cond (fun h=>A.is h) (fun h=>?_) (fun _=>?_)
   ·have:=isF_in h
    refine J.ok (by omega) (by omega) ?_ (fun _=>rfl)
    simp only[wEl,wt_pt,List.map_nil,PV.wts,size_nil];omega
   refine J.cond (fun h=>by rw[A.look h]) (fun h=>?_) (fun _=>?_)
   ·refine J.bind (Nat.le_refl _) (j_kind A 1 (by decide) (by decide) ha) (fun s b h1 h2 h3=>?_)
    refine J.ok (Nat.le_refl _) h2 ?_ (fun _=>rfl)
    simp only[wEl,wB,wt_pt,List.map_nil,PV.wts]at *;omega
   refine J.cond (fun h=>by rw[A.look h,A.is h]) (fun h=>?_) (fun _=>?_)
   ·refine J.bind (Nat.le_refl _) (j_num A true ha) (fun v b h1 h2 h3=>?_)
    refine J.ok (Nat.le_refl _) h2 ?_ (fun _=>rfl)
    simp only[wEl,wt_pt,List.map_nil,PV.wts,size_nil]at *;omega
   refine J.cond (fun h=>by rw[A.look h]) (fun h=>?_) (fun _=>?_)
   ·have hk:(lookF T a).kind=5:=by simpa using h
    have:=look_in (T:=T) (a:=a) (by omega)
    have hs:=A.tw a (by omega)
    refine J.ok (by omega) (by omega) ?_ (fun h=>by rw[A.look (by omega)])
    simp only[wEl,wt_pt,List.map_nil,PV.wts,B_size];omega
   refine J.bind (Nat.le_refl _) (j_kind A 2 (by decide) (by decide) ha) (fun s b h1 h2 h3=>?_)
   have h1':a+1≤b:=by unfold wB at h3;omega
   refine J.bind (Nat.le_refl _) (j_maybe A eP hF b (by omega) h2) (fun l c h4 h5 h6=>?_)
   refine J.ok (Nat.le_refl _) h5 ?_ (fun _=>rfl)
   simp only[wEl,wB,wt_pt]at *;omega
  intro n' a ha hn hn'
  cases n' with
  |zero=>exact J.irr (by have:=A.lt';by_cases q:a≤k;(have:=hn' q;omega);omega) (key 0 a ha (by omega) (fun q=>by have:=hn' (by omega);omega))
  |succ n'=>exact key n' a ha (by omega) (fun q=>by have:=hn' (by omega);omega)
theorem j_pa (ha:a≤T.length):J T en k a (wEl eP) (paF T en a) (paF T' en' a) a:=j_pat A _ _ a ha (by omega) (fun _=>by omega)
section
variable {Es Es':Nat→PR Ex} {lo:Nat} (hE:∀b,lo≤b→b≤T.length→J T en k b (wEl eE) (Es b) (Es' b) b)
include hE
theorem j_two (n:Int) (hlo:lo≤a+1) (ha:a≤T.length):J T en k a (wEl eE) (twoF T en Es n a) (twoF T' en' Es' n a) a:=by
 unfold twoF
 refine J.bind (Nat.le_refl _) (j_want1 A _ a ha) (fun _ b h1 h2 h3=>?_)
 refine J.bind (Nat.le_refl _) (hE b (by omega) h2) (fun x c h4 h5 h6=>?_)
 refine J.bind (Nat.le_refl _) (j_want1 A _ c h5) (fun _ d h7 h8 h9=>?_)
 refine J.bind (Nat.le_refl _) (hE d (by omega) h8) (fun y e h10 h11 h12=>?_)
 refine J.bind (Nat.le_refl _) (j_want1 A _ e h11) (fun _ f h13 h14 h15=>?_)
 refine J.ok (Nat.le_refl _) h14 ?_ (fun _=>rfl)
 simp only[wEl,wt_ex,List.map_cons,List.map_nil,PV.wts,size_nil]at *;omega
theorem j_armsGo:∀(m m':Nat) (out:List Arm) (a0 a:Nat),lo≤a→a≤T.length→T.length<m+a→(a≤k→T'.length<m'+a)→PV.wts (out.map eA)+200*a0≤200*a→J T en k a0 (fun l=>PV.wts (l.map eA)) (armsGo T en Es m out a) (armsGo T' en' Es' m' out a) a:=by
 intro m
 induction m with
 |zero=>intro m' out a0 a _ ha hn;omega
 |succ m ih=>
  have key:∀m' (out:List Arm) a0 a,lo≤a→a≤T.length→T.length<m+1+a→(a+1≤k→T'.length<m'+(a+1))→PV.wts (out.map eA)+200*a0≤200*a→J T en k a0 (fun l=>PV.wts (l.map eA)) (armsGo T en Es (m+1) out a) (armsGo T' en' Es' (m'+1) out a) a:=by
   intro m' out a0 a hlo ha hn hn' hw
   rw[armsGo,armsGo]
   refine J.bind (Nat.le_refl _) (j_pa A ha) (fun p b h1 h2 h3=>?_)
   refine J.bind (Nat.le_refl _) (j_want1 A _ b h2) (fun _ c h4 h5 h6=>?_)
   refine J.bind (Nat.le_refl _) (hE c (by omega) h5) (fun x d h7 h8 h9=>?_)
   refine J.cond (fun h=>A.is h) (fun h=>?_) (fun _=>?_)
   ·have:=isF_in h
    refine J.up (Nat.le_succ _) (ih m' _ a0 (d+1) (by omega) (by omega) (by omega) (fun q=>by have:=hn' (by omega);omega) ?_)
    simp only[wEl,List.map_append,List.map_cons,List.map_nil,PV.wts_append,PV.wts,wt_arm]at *;omega
   ·refine J.bind (Nat.le_refl _) (j_want1 A _ d h8) (fun _ e h10 h11 h12=>?_)
    refine J.ok (Nat.le_refl _) h11 ?_ (fun _=>rfl)
    simp only[wEl,List.map_append,List.map_cons,List.map_nil,PV.wts_append,PV.wts,wt_arm]at *;omega
  intro m' out a0 a hlo ha hn hn' hw
  cases m' with
  |zero=>exact J.irr (by have:=A.lt';by_cases q:a≤k;(have:=hn' q;omega);omega) (key 0 out a0 a hlo ha (by omega) (fun q=>by have:=hn' (by omega);omega) hw)
  |succ n'=>exact key n' out a0 a hlo ha (by omega) (fun q=>by have:=hn' (by omega);omega) hw
theorem j_arms (hlo:lo≤a) (ha:a≤T.length):J T en k a (fun l=>PV.wts (l.map eA)) (armsF T en Es a) (armsF T' en' Es' a) a:=
 j_armsGo A hE _ _ [] a a hlo ha (by omega) (fun _=>by omega) (by simp[PV.wts])
theorem j_after (ms:List Arm) (a0:Nat) (hlo:lo≤a+1) (ha:a≤T.length) (hw:PV.wts (ms.map eA)+100+200*a0≤200*a):J T en k a0 (wEl eE) (afterF T en Es ms a) (afterF T' en' Es' ms a) a:=by
 unfold afterF
 refine J.cond (fun h=>A.is h) (fun h=>?_) (fun _=>?_)
 ·have:=isF_in h
  refine J.bind (Nat.le_succ _) (j_num A false (by omega)) (fun v d h1 h2 h3=>?_)
  refine J.bind (Nat.le_refl _) (j_want1 A _ d h2) (fun _ e h4 h5 h6=>?_)
  refine J.bind (Nat.le_refl _) (hE e (by omega) h5) (fun x f h7 h8 h9=>?_)
  refine J.ok (Nat.le_refl _) h8 ?_ (fun _=>rfl)
  simp only[wEl,wt_ex,List.map_cons,List.map_nil,PV.wts,size_nil]at *;omega
 ·refine J.ok (Nat.le_refl _) ha ?_ (fun _=>rfl)
  simp only[wEl,wt_ex,List.map_nil,PV.wts,size_nil];omega
theorem j_receive (hlo:lo≤a+1) (ha:a≤T.length):J T en k a (wEl eE) (receiveF T en Es a) (receiveF T' en' Es' a) a:=by
 unfold receiveF
 refine J.bind (Nat.le_refl _) (j_want1 A _ a ha) (fun _ b h1 h2 h3=>?_)
 refine J.bind (wx:=fun l=>PV.wts (l.map eA)) (Nat.le_refl _) ?_ (fun ms c h4 h5 h6=>j_after A hE ms a (by omega) h5 (by omega))
 unfold msF
 refine J.cond (fun h=>A.is h) (fun h=>?_) (fun _=>j_arms A hE (by omega) h2)
 have:=isF_in h
 exact J.ok (by omega) (by omega) (by simp only[List.map_nil,PV.wts];omega) (fun _=>rfl)
omit hE in
theorem j_last (x:Ex) (a0:Nat) (ha:a≤T.length) (hw:PV.wt (eE x)+20+200*a0≤200*a+200):J T en k a0 (wEl eE) (lastB T en x a) (lastB T' en' x a) a:=by
 unfold lastB
 refine J.bind (Nat.le_refl _) (j_want1 A _ a ha) (fun _ b h1 h2 h3=>?_)
 exact J.ok (Nat.le_refl _) h2 (by simp only[wEl];omega) (fun _=>rfl)
theorem j_bracket (hlo:lo≤a) (ha:a≤T.length):J T en k a (wEl eE) (bracketF T en Es a) (bracketF T' en' Es' a) a:=by
 unfold bracketF
 refine J.cond (fun h=>A.is h) (fun h=>?_) (fun _=>?_)
 ·have:=isF_in h
  refine J.ok (by omega) (by omega) ?_ (fun _=>rfl)
  simp only[wEl,wt_ex,List.map_nil,PV.wts,size_nil];omega
 refine J.cond (fun h=>A.is h) (fun h=>?_) (fun _=>?_)
 ·have:=isF_in h
  refine J.bind (Nat.le_succ _) (hE (a+1) (by omega) (by omega)) (fun x b h1 h2 h3=>?_)
  refine j_last A _ _ h2 ?_
  have:wNot.size=3:=rfl
  simp only[wEl,wt_ex,List.map_cons,List.map_nil,PV.wts]at *;omega
 refine J.cond (fun h=>A.is h) (fun h=>?_) (fun _=>?_)
 ·have:=isF_in h
  refine J.bind (Nat.le_succ _) (j_names A (a:=a+1) (by omega)) (fun nt b h1 h2 h3=>?_)
  refine J.bind (Nat.le_refl _) (j_want1 A _ b h2) (fun _ c h4 h5 h6=>?_)
  refine J.bind (Nat.le_refl _) (hE c (by omega) h5) (fun x d h7 h8 h9=>?_)
  refine j_last A _ _ h8 ?_
  simp only[wEl,wt_ex,List.map_cons,List.map_nil,PV.wts,size_nil]at *;omega
 refine J.bind (Nat.le_refl _) (hE a hlo ha) (fun x b h1 h2 h3=>?_)
 refine J.bind (Nat.le_refl _) (j_operator A h2) (fun s c h4 h5 h6=>?_)
 refine J.bind (Nat.le_refl _) (hE c (by omega) h5) (fun y d h7 h8 h9=>?_)
 refine j_last A _ _ h8 ?_
 simp only[wEl,wB,wt_ex,List.map_cons,List.map_nil,PV.wts]at *;omega
theorem j_one (hlo:lo≤a+1) (ha:a<T.length):J T en k a (wEl eE) (oneF T en Es a) (oneF T' en' Es' a) a:=by
 unfold oneF
 refine J.cond (fun h=>by rw[A.look h]) (fun h=>J.err A (by omega)) (fun _=>?_)
 refine J.bind (Nat.le_succ _) (j_want1 A _ (a+1) ha) (fun _ b h1 h2 h3=>?_)
 refine J.bind (Nat.le_refl _) (hE b (by omega) h2) (fun x c h4 h5 h6=>?_)
 refine J.bind (Nat.le_refl _) (j_want1 A _ c h5) (fun _ d h7 h8 h9=>?_)
 refine J.ok (Nat.le_refl _) h8 ?_ (fun h=>by rw[A.look (by omega)])
 simp only[wEl,wt_ex,List.map_cons,List.map_nil,PV.wts,size_nil]at *;omega
theorem j_word (hlo:lo≤a+1) (ha:a<T.length):J T en k a (wEl eE) (wordE T en Es a) (wordE T' en' Es' a) a:=by
 unfold wordE
 refine J.cond (fun h=>A.is h) (fun h=>?_) (fun _=>?_)
 ·refine J.ok (by omega) (by omega) ?_ (fun _=>rfl)
  simp only[wEl,wt_ex,List.map_nil,PV.wts,size_nil];omega
 refine J.cond (fun h=>A.is h) (fun h=>?_) (fun _=>?_)
 ·refine J.ok (by omega) (by omega) ?_ (fun _=>rfl)
  simp only[wEl,wt_ex,List.map_nil,PV.wts,size_nil];omega
 refine J.cond (fun h=>A.is h) (fun h=>?_) (fun _=>?_)
 ·refine J.ok (by omega) (by omega) ?_ (fun _=>rfl)
  simp only[wEl,wt_ex,List.map_nil,PV.wts,size_nil];omega
 refine J.cond (fun h=>A.is h) (fun h=>?_) (fun _=>?_)
 ·refine J.bind (Nat.le_succ _) (j_kind A 1 (by decide) (by decide) (a:=a+1) ha) (fun s b h1 h2 h3=>?_)
  refine J.bind (Nat.le_refl _) (j_want1 A _ b h2) (fun _ c h4 h5 h6=>?_)
  refine J.bind (Nat.le_refl _) (hE c (by omega) h5) (fun x d h7 h8 h9=>?_)
  refine J.bind (Nat.le_refl _) (j_want1 A _ d h8) (fun _ e h10 h11 h12=>?_)
  refine J.bind (Nat.le_refl _) (hE e (by omega) h11) (fun y f h13 h14 h15=>?_)
  refine J.ok (Nat.le_refl _) h14 ?_ (fun _=>rfl)
  simp only[wEl,wB,wt_ex,List.map_cons,List.map_nil,PV.wts]at *;omega
 refine J.cond (fun h=>A.is h) (fun h=>?_) (fun _=>?_)
 ·refine J.bind (Nat.le_succ _) (hE (a+1) (by omega) ha) (fun x b h1 h2 h3=>?_)
  refine J.bind (Nat.le_refl _) (j_want1 A _ b h2) (fun _ c h4 h5 h6=>?_)
  refine J.bind (Nat.le_refl _) (hE c (by omega) h5) (fun y d h7 h8 h9=>?_)
  refine J.bind (Nat.le_refl _) (j_want1 A _ d h8) (fun _ e h10 h11 h12=>?_)
  refine J.bind (Nat.le_refl _) (hE e (by omega) h11) (fun z f h13 h14 h15=>?_)
  refine J.ok (Nat.le_refl _) h14 ?_ (fun _=>rfl)
  simp only[wEl,wt_ex,List.map_cons,List.map_nil,PV.wts,size_nil]at *;omega
 refine J.cond (fun h=>A.is h) (fun h=>?_) (fun _=>?_)
 ·refine J.bind (Nat.le_succ _) (j_want1 A _ (a+1) ha) (fun _ b h1 h2 h3=>?_)
  refine J.bind (Nat.le_refl _) (j_list A eE hE b (by omega) h2) (fun l c h4 h5 h6=>?_)
  refine J.bind (Nat.le_refl _) (j_want1 A _ c h5) (fun _ d h7 h8 h9=>?_)
  refine J.ok (Nat.le_refl _) h8 ?_ (fun _=>rfl)
  simp only[wEl,wLs,wt_ex,List.map_nil,PV.wts,size_nil]at *;omega
 refine J.cond (fun h=>A.is h) (fun h=>?_) (fun _=>?_)
 ·refine J.bind (Nat.le_succ _) (hE (a+1) (by omega) ha) (fun x b h1 h2 h3=>?_)
  refine J.bind (Nat.le_refl _) (j_want1 A _ b h2) (fun _ c h4 h5 h6=>?_)
  refine J.bind (Nat.le_refl _) (j_arms A hE (by omega) h5) (fun ms d h7 h8 h9=>?_)
  refine J.ok (Nat.le_refl _) h8 ?_ (fun _=>rfl)
  simp only[wEl,wt_ex,List.map_cons,List.map_nil,PV.wts,size_nil]at *;omega
 refine J.cond (fun h=>A.is h) (fun h=>?_) (fun _=>?_)
 ·exact J.up (Nat.le_succ _) ((j_receive A hE (by omega) ha).weak (fun v b q=>by omega))
 refine J.cond (fun h=>A.is h) (fun h=>?_) (fun _=>?_)
 ·refine J.bind (Nat.le_succ _) (j_kind A 2 (by decide) (by decide) (a:=a+1) ha) (fun s b h1 h2 h3=>?_)
  refine J.bind (Nat.le_refl _) (j_inside A eE hE b (by omega) h2) (fun l c h4 h5 h6=>?_)
  refine J.ok (Nat.le_refl _) h5 ?_ (fun _=>rfl)
  simp only[wEl,wLs,wB,wt_ex,List.map_nil,PV.wts]at *;omega
 refine J.cond (fun h=>A.is h) (fun h=>?_) (fun _=>?_)
 ·refine J.bind (Nat.le_succ _) (j_inside A eE hE (a+1) (by omega) ha) (fun l b h1 h2 h3=>?_)
  refine J.ok (Nat.le_refl _) h2 ?_ (fun _=>rfl)
  simp only[wEl,wLs,wt_ex,List.map_nil,PV.wts,size_nil]at *;omega
 refine J.cond (fun h=>A.is h) (fun h=>?_) (fun _=>?_)
 ·exact J.up (Nat.le_succ _) ((j_two A hE 15 (by omega) ha).weak (fun v b q=>by omega))
 refine J.cond (fun h=>A.is h) (fun h=>?_) (fun _=>?_)
 ·exact J.up (Nat.le_succ _) ((j_two A hE 23 (by omega) ha).weak (fun v b q=>by omega))
 exact j_one A hE hlo ha
theorem j_form (hlo:lo≤a+1) (ha:a≤T.length):J T en k a (wEl eE) (formF T en Es a) (formF T' en' Es' a) a:=by
 unfold formF
 refine J.cond (fun h=>by rw[A.look h]) (fun h=>?_) (fun _=>?_)
 ·refine J.bind (Nat.le_refl _) (j_num A false ha) (fun v b h1 h2 h3=>?_)
  refine J.ok (Nat.le_refl _) h2 ?_ (fun _=>rfl)
  simp only[wEl,wt_ex,List.map_nil,PV.wts,size_nil]at *;omega
 refine J.cond (fun h=>by rw[A.look h]) (fun h=>?_) (fun _=>?_)
 ·have hk:(lookF T a).kind=5:=by simpa using h
  have:=look_in (T:=T) (a:=a) (by omega)
  have hs:=A.tw a (by omega)
  refine J.ok (by omega) (by omega) ?_ (fun h=>by rw[A.look (by omega)])
  simp only[wEl,wt_ex,List.map_nil,PV.wts,B_size];omega
 refine J.cond (fun h=>by rw[A.look h]) (fun h=>?_) (fun _=>?_)
 ·have hk:(lookF T a).kind=1:=by simpa using h
  have:=look_in (T:=T) (a:=a) (by omega)
  have hs:=A.tw a (by omega)
  refine J.up (Nat.le_succ _) (J.cond (fun h=>A.is h) (fun h=>?_) (fun _=>?_))
  ·refine J.bind (Nat.le_refl _) (j_inside A eE hE (a+1) (by omega) (by omega)) (fun l b h1 h2 h3=>?_)
   refine J.ok (Nat.le_refl _) h2 ?_ (fun h=>by rw[A.look (by omega)])
   simp only[wEl,wLs,wt_ex,List.map_nil,PV.wts,B_size]at *;omega
  ·refine J.ok (Nat.le_refl _) (by omega) ?_ (fun h=>by rw[A.look (by omega)])
   simp only[wEl,wt_ex,List.map_nil,PV.wts,B_size];omega
 refine J.cond (fun h=>by rw[A.look h]) (fun h=>?_) (fun _=>?_)
 ·have hk:(lookF T a).kind=2:=by simpa using h
  have:=look_in (T:=T) (a:=a) (by omega)
  have hs:=A.tw a (by omega)
  refine J.bind (Nat.le_succ _) (j_maybe A eE hE (a+1) (by omega) (by omega)) (fun l b h1 h2 h3=>?_)
  refine J.ok (Nat.le_refl _) h2 ?_ (fun h=>by rw[A.look (by omega)])
  simp only[wEl,wt_ex,List.map_nil,PV.wts,B_size]at *;omega
 refine J.cond (fun h=>by rw[A.look h]) (fun h=>?_) (fun _=>?_)
 ·refine J.cond (fun h=>A.is h) (fun h=>?_) (fun _=>?_)
  ·refine J.bind (Nat.le_refl _) (j_num A true ha) (fun v b h1 h2 h3=>?_)
   refine J.ok (Nat.le_refl _) h2 ?_ (fun _=>rfl)
   simp only[wEl,wt_ex,List.map_nil,PV.wts,size_nil]at *;omega
  refine J.cond (fun h=>A.is h) (fun h=>?_) (fun _=>J.err A ha)
  have:=isF_in h
  exact J.up (Nat.le_succ _) ((j_bracket A hE (by omega) (by omega)).weak (fun v b q=>by omega))
 refine J.cond (fun h=>by rw[A.look h]) (fun h=>?_) (fun _=>J.err A ha)
 have hk:(lookF T a).kind=3:=by simpa using h
 have:=look_in (T:=T) (a:=a) (by omega)
 exact j_word A hE hlo this
end
omit A in
theorem wt_pos (x:Ex) (p:Int):PV.wt (eE (setPos x p))=PV.wt (eE x):=by
 obtain⟨k,n,t,ns,ts,xs,ms,q⟩:=x
 rw[setPos,wt_ex,wt_ex]
theorem j_expr:∀(n n' a:Nat),a≤T.length→T.length<n+a→(a≤k→T'.length<n'+a)→J T en k a (wEl eE) (exprF T en n a) (exprF T' en' n' a) a:=by
 intro n
 induction n with
 |zero=>intro n' a ha hn;omega
 |succ n ih=>
  have key:∀n' a,a≤T.length→T.length<n+1+a→(a+1≤k→T'.length<n'+(a+1))→J T en k a (wEl eE) (exprF T en (n+1) a) (exprF T' en' (n'+1) a) a:=by
   intro n' a ha hn hn'
   have hF:∀b,a+1≤b→b≤T.length→J T en k b (wEl eE) (exprF T en n b) (exprF T' en' n' b) b:=fun b h1 h2=>ih n' b h2 (by omega) (fun q=>by have:=hn' (by omega);omega)
   rw[exprF,exprF]
   refine J.bind (Nat.le_refl _) (j_form A hF (Nat.le_refl _) ha) (fun x b h1 h2 h3=>?_)
   refine J.ok (Nat.le_refl _) h2 ?_ (fun h=>by rw[A.place en en' (by omega)])
   simp only[wEl,wt_pos]at *;omega
  intro n' a ha hn hn'
  cases n' with
  |zero=>exact J.irr (by have:=A.lt';by_cases q:a≤k;(have:=hn' q;omega);omega) (key 0 a ha (by omega) (fun q=>by have:=hn' (by omega);omega))
  |succ n'=>exact key n' a ha (by omega) (fun q=>by have:=hn' (by omega);omega)
theorem j_ex (ha:a≤T.length):J T en k a (wEl eE) (exF T en a) (exF T' en' a) a:=j_expr A _ _ a ha (by omega) (fun _=>by omega)
end
end PA
open Go Go.AM Go.Proofs TK TR
set_option maxRecDepth 100000
namespace PA
section
variable {T T':List Tk} {k:Nat} {en en':Int} (A:Ag T T' k) {α:Type} {a0 a:Nat} {w:α→Nat}
theorem wl_fu (f:LFu):PV.wt (elFu f)=f.name.size+4+PV.wts (f.ps.map TR.eStr)+PV.wts (f.ns.map TR.eStr)+PV.wts (f.ts.map eT)+PV.wt (eT f.out)+PV.wt (eE f.body):=by
 have:=wlFu_eq f
 rw[wlFu,eTs_map]at this
 unfold wT wE at this
 omega
theorem wl_ac (f:LAc):PV.wt (elAc f)=f.name.size+3+PV.wts (f.ns.map TR.eStr)+PV.wts (f.ts.map eT)+PV.wt (eT f.msg)+PV.wt (eE f.body):=by
 have:=wlAc_eq f
 rw[eTs_map]at this
 unfold wT wE at this
 omega
theorem wl_mk (m:LMk):PV.wt (elMk m)=m.name.size+2+PV.wts (m.ts.map eT):=by
 have:=wlMk_eq m
 rw[eTs_map]at this
 omega
theorem wt_ex0:PV.wt (eE ex0)=8:=rfl
include A
theorem j_function (ha:a≤T.length):J T en k a (wEl elFu) (functionF T en a) (functionF T' en' a) a:=by
 unfold functionF
 refine J.bind (Nat.le_refl _) (j_head A ha) (fun h b h1 h2 h3=>?_)
 refine J.bind (Nat.le_refl _) (j_want1 A _ b h2) (fun _ c h4 h5 h6=>?_)
 refine J.bind (Nat.le_refl _) (j_ex A h5) (fun x d h7 h8 h9=>?_)
 refine J.bind (Nat.le_refl _) (j_want1 A _ d h8) (fun _ e h10 h11 h12=>?_)
 refine J.ok (Nat.le_refl _) h11 ?_ (fun _=>rfl)
 simp only[wEl,wHd,wl_fu]at *;omega
omit A in
theorem head_body {h:LFu} {b:Nat} (q:headF T en a=.ok (h,b)):h.body=ex0:=by
 unfold headF at q
 obtain⟨_,_,_,q⟩:=bindP_inv q
 obtain⟨_,_,_,q⟩:=bindP_inv q
 obtain⟨_,_,_,q⟩:=bindP_inv q
 obtain⟨_,_,_,q⟩:=bindP_inv q
 obtain⟨_,_,_,q⟩:=bindP_inv q
 cases q
 rfl
omit A in
theorem J.and {x y:PR α} {Pv:α→Nat→Prop} (hj:J T en k a0 w x y a) (hp:∀v b,x=.ok (v,b)→Pv v b) {β:Type} {w':β→Nat} {f f':α→Nat→PR β} {a1:Nat} (hf:∀v b,Pv v b→a≤b→b≤T.length→w v+200*a0≤200*b→J T en k a1 w' (f v b) (f' v b) b):J T en k a1 w' (bindP x f) (bindP y f') a:=by
 rcases x with e|⟨v,b⟩
 ·obtain⟨j,h1,h2,h3,h4⟩:=hj.2 e rfl
  refine⟨fun v b h=>(by cases h),fun e1 h=>?_⟩
  cases h
  exact⟨j,by omega,h2,h3,fun q=>by rw[h4 q];rfl⟩
 ·obtain⟨h1,h2,h3,h4⟩:=hj.1 v b rfl
  have hk:=hf v b (hp v b rfl) h1 h2 h3
  rw[bindP_ok]
  refine⟨fun z c h=>?_,fun e h=>?_⟩
  ·obtain⟨q1,q2,q3,q4⟩:=hk.1 z c h
   exact⟨by omega,q2,q3,fun q=>by rw[h4 (by omega),bindP_ok];exact q4 q⟩
  ·obtain⟨j,q1,q2,q3,q4⟩:=hk.2 e h
   exact⟨j,by omega,q2,q3,fun q=>by rw[h4 (by omega),bindP_ok];exact q4 q⟩
theorem j_sig (ha:a≤T.length):J T en k a (wEl elFu) (sigF T en a) (sigF T' en' a) a:=by
 unfold sigF
 refine J.and (Pv:=fun(f:LFu) _=>f.body=ex0) (j_head A ha) (fun v b h=>head_body h) (fun h b hb h1 h2 h3=>?_)
 refine J.bind (Nat.le_refl _) (j_want1 A _ b h2) (fun _ c h4 h5 h6=>?_)
 refine J.ok (Nat.le_refl _) h5 ?_ (fun _=>rfl)
 simp only[wEl,wHd,wl_fu,hb,wt_ex0]at *;omega
section
variable {Fs Fs':Nat→PR LFu} {lo:Nat} (hF:∀b,lo≤b→b≤T.length→J T en k b (wEl elFu) (Fs b) (Fs' b) b)
include hF
theorem j_funcsGo:∀(m m':Nat) (out:List LFu) (a0 a:Nat),lo≤a→a≤T.length→T.length<m+a→(a≤k→T'.length<m'+a)→PV.wts (out.map elFu)+200*a0≤200*a→J T en k a0 (fun l=>PV.wts (l.map elFu)) (funcsGo T en Fs m out a) (funcsGo T' en' Fs' m' out a) a:=by
 intro m
 induction m with
 |zero=>intro m' out a0 a _ ha hn;omega
 |succ m ih=>
  have key:∀m' (out:List LFu) a0 a,lo≤a→a≤T.length→T.length<m+1+a→(a+1≤k→T'.length<m'+(a+1))→PV.wts (out.map elFu)+200*a0≤200*a→J T en k a0 (fun l=>PV.wts (l.map elFu)) (funcsGo T en Fs (m+1) out a) (funcsGo T' en' Fs' (m'+1) out a) a:=by
   intro m' out a0 a hlo ha hn hn' hw
   rw[funcsGo,funcsGo]
   refine J.cond (fun h=>A.is h) (fun h=>?_) (fun _=>?_)
   ·have:=isF_in h
    exact J.ok (by omega) (by omega) (by omega) (fun _=>rfl)
   ·refine J.bind (Nat.le_refl _) (j_want1 A _ a ha) (fun _ c h4 h5 h6=>?_)
    refine J.bind (Nat.le_refl _) (hF c (by omega) h5) (fun f d h7 h8 h9=>?_)
    refine ih m' _ a0 d (by omega) h8 (by omega) (fun q=>by have:=hn' (by omega);omega) ?_
    simp only[wEl,List.map_append,List.map_cons,List.map_nil,PV.wts_append,PV.wts]at *;omega
  intro m' out a0 a hlo ha hn hn' hw
  cases m' with
  |zero=>exact J.irr (by have:=A.lt';by_cases q:a≤k;(have:=hn' q;omega);omega) (key 0 out a0 a hlo ha (by omega) (fun q=>by have:=hn' (by omega);omega) hw)
  |succ n'=>exact key n' out a0 a hlo ha (by omega) (fun q=>by have:=hn' (by omega);omega) hw
theorem j_funcs (hlo:lo≤a+1) (ha:a≤T.length):J T en k a (fun l=>PV.wts (l.map elFu)+20) (funcsF T en Fs a) (funcsF T' en' Fs' a) a:=by
 unfold funcsF
 refine J.bind (Nat.le_refl _) (j_want1 A _ a ha) (fun _ b h1 h2 h3=>?_)
 exact(j_funcsGo A hF _ _ [] b b (by omega) h2 (by omega) (fun _=>by omega) (by simp[PV.wts])).weak (fun v c q=>by omega)
end
theorem j_makesGo:∀(m m':Nat) (out:List LMk) (a0 a:Nat),a≤T.length→T.length<m+a→(a≤k→T'.length<m'+a)→PV.wts (out.map elMk)+200*a0≤200*a→J T en k a0 (fun l=>PV.wts (l.map elMk)) (makesGo T en m out a) (makesGo T' en' m' out a) a:=by
 intro m
 induction m with
 |zero=>intro m' out a0 a ha hn;omega
 |succ m ih=>
  have key:∀m' (out:List LMk) a0 a,a≤T.length→T.length<m+1+a→(a+1≤k→T'.length<m'+(a+1))→PV.wts (out.map elMk)+200*a0≤200*a→J T en k a0 (fun l=>PV.wts (l.map elMk)) (makesGo T en (m+1) out a) (makesGo T' en' (m'+1) out a) a:=by
   intro m' out a0 a ha hn hn' hw
   rw[makesGo,makesGo]
   refine J.bind (Nat.le_refl _) (j_kind A 2 (by decide) (by decide) ha) (fun s e h1 h2 h3=>?_)
   refine J.bind (Nat.le_refl _) (j_maybe A eT (lo:=0) (fun b _ hb=>j_ty A hb) e (by omega) h2) (fun l f h4 h5 h6=>?_)
   refine J.cond (fun h=>A.is h) (fun h=>?_) (fun _=>?_)
   ·have:=isF_in h
    refine J.up (Nat.le_succ _) (ih m' _ a0 (f+1) (by omega) (by unfold wB at h3;omega) (fun q=>by have:=hn' (by omega);omega) ?_)
    simp only[wB,List.map_append,List.map_cons,List.map_nil,PV.wts_append,PV.wts,wl_mk]at *;omega
   ·refine J.ok (Nat.le_refl _) h5 ?_ (fun _=>rfl)
    simp only[wB,List.map_append,List.map_cons,List.map_nil,PV.wts_append,PV.wts,wl_mk]at *;omega
  intro m' out a0 a ha hn hn' hw
  cases m' with
  |zero=>exact J.irr (by have:=A.lt';by_cases q:a≤k;(have:=hn' q;omega);omega) (key 0 out a0 a ha (by omega) (fun q=>by have:=hn' (by omega);omega) hw)
  |succ n'=>exact key n' out a0 a ha (by omega) (fun q=>by have:=hn' (by omega);omega) hw
theorem j_data (ha:a≤T.length):J T en k a (wEl elDt) (dataF T en a) (dataF T' en' a) a:=by
 unfold dataF
 refine J.bind (Nat.le_refl _) (j_plainUp A ha) (fun nm b h1 h2 h3=>?_)
 refine J.bind (Nat.le_refl _) (j_params A h2) (fun ps c h4 h5 h6=>?_)
 refine J.bind (Nat.le_refl _) (j_want1 A _ c h5) (fun _ d h7 h8 h9=>?_)
 refine J.bind (Nat.le_refl _) (j_makesGo A _ _ [] d d h8 (by omega) (fun _=>by omega) (by simp[PV.wts])) (fun ms e h10 h11 h12=>?_)
 refine J.bind (Nat.le_refl _) (j_want1 A _ e h11) (fun _ f h13 h14 h15=>?_)
 refine J.ok (Nat.le_refl _) h14 ?_ (fun _=>rfl)
 simp only[wEl,wB,wlDt_eq]at *;omega
def wPg (p:LPg):Nat:=PV.wts (p.uses.map elUse)+PV.wts (p.datas.map elDt)+PV.wts (p.traits.map elTr)+PV.wts (p.impls.map elIm)+PV.wts (p.funcs.map elFu)+PV.wts (p.actors.map elAc)+p.name.size+8
theorem j_decl (p:LPg) (a0:Nat) (ha:a≤T.length) (hw:wPg p+200*a0≤200*a):J T en k a0 wPg (declF T en p a) (declF T' en' p a) a:=by
 unfold declF
 refine J.cond (fun h=>A.is h) (fun h=>?_) (fun _=>?_)
 ·have:=isF_in h
  refine J.bind (Nat.le_succ _) (j_kind A 1 (by decide) (by decide) (a:=a+1) (by omega)) (fun nm b h1 h2 h3=>?_)
  refine J.bind (Nat.le_refl _) (j_num A false h2) (fun lo c h4 h5 h6=>?_)
  refine J.bind (Nat.le_refl _) (j_num A false h5) (fun hi d h7 h8 h9=>?_)
  refine J.bind (Nat.le_refl _) (j_want1 A _ d h8) (fun _ e h10 h11 h12=>?_)
  refine J.ok (Nat.le_refl _) (by assumption) ?_ (fun _=>rfl)
  simp only[wPg,wEl,wB,List.map_append,List.map_cons,List.map_nil,PV.wts_append,PV.wts,wlUse_eq,wlTr_eq,wlIm_eq,wl_ac]at *;omega
 refine J.cond (fun h=>A.is h) (fun h=>?_) (fun _=>?_)
 ·have:=isF_in h
  refine J.bind (Nat.le_succ _) (j_data A (a:=a+1) (by omega)) (fun d b h1 h2 h3=>?_)
  refine J.ok (Nat.le_refl _) (by assumption) ?_ (fun _=>rfl)
  simp only[wPg,wEl,wB,List.map_append,List.map_cons,List.map_nil,PV.wts_append,PV.wts,wlUse_eq,wlTr_eq,wlIm_eq,wl_ac]at *;omega
 refine J.cond (fun h=>A.is h) (fun h=>?_) (fun _=>?_)
 ·have:=isF_in h
  refine J.bind (Nat.le_succ _) (j_kind A 2 (by decide) (by decide) (a:=a+1) (by omega)) (fun nm b h1 h2 h3=>?_)
  refine J.bind (Nat.le_refl _) (j_funcs A (lo:=0) (fun b _ hb=>j_sig A hb) (by omega) h2) (fun fs c h4 h5 h6=>?_)
  refine J.ok (Nat.le_refl _) (by assumption) ?_ (fun _=>rfl)
  simp only[wPg,wEl,wB,List.map_append,List.map_cons,List.map_nil,PV.wts_append,PV.wts,wlUse_eq,wlTr_eq,wlIm_eq,wl_ac]at *;omega
 refine J.cond (fun h=>A.is h) (fun h=>?_) (fun _=>?_)
 ·have:=isF_in h
  refine J.bind (Nat.le_succ _) (j_kind A 2 (by decide) (by decide) (a:=a+1) (by omega)) (fun nm b h1 h2 h3=>?_)
  refine J.bind (Nat.le_refl _) (j_want1 A _ b h2) (fun _ c h4 h5 h6=>?_)
  refine J.bind (Nat.le_refl _) (j_for A h5) (fun fo d h7 h8 h9=>?_)
  refine J.bind (Nat.le_refl _) (j_funcs A (lo:=0) (fun b _ hb=>j_function A hb) (by omega) h8) (fun fs e h10 h11 h12=>?_)
  refine J.ok (Nat.le_refl _) (by assumption) ?_ (fun _=>rfl)
  simp only[wPg,wEl,wB,List.map_append,List.map_cons,List.map_nil,PV.wts_append,PV.wts,wlUse_eq,wlTr_eq,wlIm_eq,wl_ac]at *;omega
 refine J.cond (fun h=>A.is h) (fun h=>?_) (fun _=>?_)
 ·have:=isF_in h
  refine J.bind (Nat.le_succ _) (j_function A (a:=a+1) (by omega)) (fun f b h1 h2 h3=>?_)
  refine J.ok (Nat.le_refl _) (by assumption) ?_ (fun _=>rfl)
  simp only[wPg,wEl,wB,List.map_append,List.map_cons,List.map_nil,PV.wts_append,PV.wts,wlUse_eq,wlTr_eq,wlIm_eq,wl_ac]at *;omega
 refine J.cond (fun h=>A.is h) (fun h=>?_) (fun _=>J.err A ha)
 have:=isF_in h
 refine J.bind (Nat.le_succ _) (j_kind A 2 (by decide) (by decide) (a:=a+1) (by omega)) (fun nm b h1 h2 h3=>?_)
 refine J.bind (Nat.le_refl _) (j_names A h2) (fun nt c h4 h5 h6=>?_)
 refine J.bind (Nat.le_refl _) (j_want1 A _ c h5) (fun _ d h7 h8 h9=>?_)
 refine J.bind (Nat.le_refl _) (j_ty A h8) (fun ty e h10 h11 h12=>?_)
 refine J.bind (Nat.le_refl _) (j_want1 A _ e h11) (fun _ f h13 h14 h15=>?_)
 refine J.bind (Nat.le_refl _) (j_ex A h14) (fun x g h16 h17 h18=>?_)
 refine J.bind (Nat.le_refl _) (j_want1 A _ g h17) (fun _ hh h19 h20 h21=>?_)
 refine J.ok (Nat.le_refl _) (by assumption) ?_ (fun _=>rfl)
 simp only[wPg,wEl,wB,List.map_append,List.map_cons,List.map_nil,PV.wts_append,PV.wts,wlUse_eq,wlTr_eq,wlIm_eq,wl_ac]at *;omega
theorem j_declsGo:∀(m m':Nat) (p:LPg) (a0 a:Nat),a≤T.length→T.length<m+a→(a≤k→T'.length<m'+a)→wPg p+200*a0≤200*a→J T en k a0 wPg (declsGo T en m p a) (declsGo T' en' m' p a) a:=by
 intro m
 induction m with
 |zero=>intro m' p a0 a ha hn;omega
 |succ m ih=>
  have key:∀m' (p:LPg) a0 a,a≤T.length→T.length<m+1+a→(a+1≤k→T'.length<m'+(a+1))→wPg p+200*a0≤200*a→J T en k a0 wPg (declsGo T en (m+1) p a) (declsGo T' en' (m'+1) p a) a:=by
   intro m' p a0 a ha hn hn' hw
   rw[declsGo,declsGo]
   refine J.cond (fun h=>by have:=A.lt;have:=A.lt';rw[decide_eq_true (by omega),decide_eq_true (by omega)]) (fun h=>?_) (fun _=>J.ok (Nat.le_refl _) ha hw (fun _=>rfl))
   have hlt:a<T.length:=of_decide_eq_true h
   refine J.and (Pv:=fun _ b=>a<b) (j_decl A p a0 ha hw) (fun q b h=>(decl_lt T en p a q b h).1) (fun q b hb h1 h2 h3=>?_)
   exact ih m' q a0 b h2 (by omega) (fun q=>by have:=hn' (by omega);omega) h3
  intro m' p a0 a ha hn hn' hw
  cases m' with
  |zero=>exact J.irr (by have:=A.lt';by_cases q:a≤k;(have:=hn' q;omega);omega) (key 0 p a0 a ha (by omega) (fun q=>by have:=hn' (by omega);omega) hw)
  |succ n'=>exact key n' p a0 a ha (by omega) (fun q=>by have:=hn' (by omega);omega) hw
end
end PA
