/-
  DERIVED. Contracts of functions that the law reaches, and the law, for every input. No conditions.
-/
import Derived.Test.YtmakmpapchiioaaGreatDoorSX3
import Derived.Lib.ParseIntBTie
open Go Go.AM Go.Proofs TR TK PA
set_option maxRecDepth 100000
namespace SX
open SH
def G {α:Type} (P:α→Prop) (x:PR α):Prop:=∀v b,x=.ok (v,b)→P v
theorem G.top {α:Type} {x:PR α}:G (fun _=>True) x:=fun _ _ _=>trivial
theorem G.err {α:Type} {P:α→Prop} {e:Int}:G P (.error e):=fun _ _ h=>by cases h
theorem G.ok {α:Type} {P:α→Prop} {v:α} {b:Nat} (h:P v):G P (.ok (v,b)):=fun _ _ q=>by cases q;exact h
theorem G.bind {α β:Type} {P:α→Prop} (Q:β→Prop) {x:PR β} {f:β→Nat→PR α} (hx:G Q x) (hf:∀v b,Q v→G P (f v b)):G P (bindP x f):=by
 intro v b h
 rcases x with e|⟨y,c⟩
 ·cases h
 ·exact hf y c (hx y c rfl) v b h
theorem G.skip {α β:Type} {P:α→Prop} {x:PR β} {f:β→Nat→PR α} (hf:∀v b,G P (f v b)):G P (bindP x f):=G.bind _ G.top fun v b _=>hf v b
theorem G.cond {α:Type} {P:α→Prop} {c:Bool} {x y:PR α} (hx:G P x) (hy:G P y):G P (bif c then x else y):=by cases c;exact hy;exact hx
theorem i64_0:i64 0:=⟨by decide,by decide⟩
theorem i64_1:i64 1:=⟨by decide,by decide⟩
theorem i64_m:i64 (-1):=⟨by decide,by decide⟩
theorem g_num (T:List Tk) (en:Int) (m:Bool) (a:Nat):G i64 (numF T en m a):=by
 have key:∀pre a,G i64 (numG T en pre a):=by
  intro pre a
  unfold numG
  refine G.cond G.err ?_
  cases hq:(numV (pre++B (lookF T a).text)).2 with
  |true=>exact G.err
  |false=>
   refine G.ok ?_
   unfold numV at hq ⊢
   generalize hp:Lib.parseIntB 64 (pre++B (lookF T a).text).data.toList=z at hq ⊢
   cases z
   all_goals first
    |(rename_i v
      have:=Lib.parseIntB_bounds hp
      simp only at this ⊢
      exact⟨by omega,by omega⟩)
    |cases hq
 unfold numF
 exact G.cond (key _ _) (key _ _)
section
variable {T:List Tk} {en:Int} {α:Type} {P:α→Prop} {Fs:Nat→PR α} (hF:∀b,G P (Fs b))
include hF
theorem g_listGo:∀(m:Nat) (out:List α) (a:Nat),(∀x∈out,P x)→G (fun l=>∀x∈l,P x) (listGo T Fs m out a)
 |0,out,a,h=>by rw[listGo];exact G.ok h
 |m+1,out,a,h=>by
  rw[listGo]
  refine G.cond (G.bind _ (hF _) fun v b hv=>g_listGo m _ b ?_) (G.ok h)
  intro x hx
  rcases List.mem_append.1 hx with hx|hx
  ·exact h x hx
  ·simp only[List.mem_cons,List.not_mem_nil,or_false]at hx;subst hx;exact hv
theorem g_list (a:Nat):G (fun l=>∀x∈l,P x) (listF T Fs a):=by
 unfold listF
 exact G.bind _ (hF _) fun v b hv=>g_listGo hF _ _ b (by simpa using hv)
theorem g_inside (a:Nat):G (fun l=>∀x∈l,P x) (insideF T en Fs a):=by
 unfold insideF
 exact G.skip fun _ b=>G.cond (G.ok (by simp)) (G.bind _ (g_list hF b) fun l c hl=>G.skip fun _ d=>G.ok hl)
theorem g_maybe (a:Nat):G (fun l=>∀x∈l,P x) (maybeF T en Fs a):=by
 unfold maybeF
 exact G.cond (G.bind _ (g_list hF _) fun l c hl=>G.skip fun _ d=>G.ok hl) (G.ok (by simp))
end
theorem rgPs_in:∀{l:List Pt},(∀x∈l,rgP x)→rgPs l
 | [],_=>by rw[rgPs];trivial
 |x::r,h=>by rw[rgPs];exact⟨h x (by simp),rgPs_in fun t ht=>h t (by simp[ht])⟩
theorem rgEs_in:∀{l:List Ex},(∀t∈l,rgE t)→rgEs l
 | [],_=>by rw[rgEs];trivial
 |x::r,h=>by rw[rgEs];exact⟨h x (by simp),rgEs_in fun t ht=>h t (by simp[ht])⟩
theorem rgAs_in:∀{l:List Arm},(∀a∈l,rgA a)→rgAs l
 | [],_=>by rw[rgAs];trivial
 |.mk p e::r,h=>by rw[rgAs];exact⟨(h (.mk p e) (by simp)).1,(h (.mk p e) (by simp)).2,rgAs_in fun t ht=>h t (by simp[ht])⟩
theorem rgP_mk {k n:Int} {s:ByteArray} {l:List Pt} (hn:i64 n) (hl:∀x∈l,rgP x):rgP (.mk k n s l):=by rw[rgP];exact⟨hn,rgPs_in hl⟩
theorem rgE_mk {k n:Int} {t:ByteArray} {ns:List ByteArray} {ts:List Ty} {xs:List Ex} {ms:List Arm} {p:Int} (hn:i64 n) (hx:∀x∈xs,rgE x) (hm:∀x∈ms,rgA x):rgE (.mk k n t ns ts xs ms p):=by rw[rgE];exact⟨hn,rgEs_in hx,rgAs_in hm⟩
theorem in0 {α:Type} {P:α→Prop}:∀x∈([]:List α),P x:=by simp
theorem in1 {α:Type} {P:α→Prop} {a:α} (h:P a):∀x∈[a],P x:=by simpa using h
theorem in2 {α:Type} {P:α→Prop} {a b:α} (h:P a) (h2:P b):∀x∈[a,b],P x:=by simpa using ⟨h,h2⟩
theorem in3 {α:Type} {P:α→Prop} {a b c:α} (h:P a) (h2:P b) (h3:P c):∀x∈[a,b,c],P x:=by simpa using ⟨h,h2,h3⟩
theorem inA {α:Type} {P:α→Prop} {l:List α} {a:α} (hl:∀x∈l,P x) (h:P a):∀x∈l++[a],P x:=by
 intro x hx
 rcases List.mem_append.1 hx with hx|hx
 ·exact hl x hx
 ·simp only[List.mem_cons,List.not_mem_nil,or_false]at hx;subst hx;exact h
theorem g_pat (T:List Tk) (en:Int):∀(n a:Nat),G rgP (patF T en n a)
 |0,a=>by rw[patF];exact G.err
 |n+1,a=>by
  rw[patF]
  refine G.cond (G.ok (rgP_mk i64_0 in0)) (G.cond (G.ok (rgP_mk i64_1 in0)) (G.cond (G.ok (rgP_mk i64_0 in0)) (G.cond (G.skip fun s b=>G.ok (rgP_mk i64_0 in0)) (G.cond (G.bind _ (g_num T en true a) fun v b hv=>G.ok (rgP_mk hv in0)) (G.cond (G.ok (rgP_mk i64_0 in0)) ?_)))))
  exact G.skip fun s b=>G.bind _ (g_maybe (g_pat T en n) b) fun l c hl=>G.ok (rgP_mk i64_0 hl)
section
variable {T:List Tk} {en:Int} {Es:Nat→PR Ex} (hE:∀b,G rgE (Es b))
include hE
theorem g_two (k:Int) (a:Nat):G rgE (twoF T en Es k a):=by
 unfold twoF
 exact G.skip fun _ b=>G.bind _ (hE b) fun x c hx=>G.skip fun _ d=>G.bind _ (hE d) fun y e hy=>G.skip fun _ f=>G.ok (rgE_mk i64_0 (in2 hx hy) in0)
theorem g_armsGo:∀(m:Nat) (out:List Arm) (a:Nat),(∀x∈out,rgA x)→G (fun l=>∀x∈l,rgA x) (armsGo T en Es m out a)
 |0,out,a,h=>by rw[armsGo];exact G.err
 |m+1,out,a,h=>by
  rw[armsGo]
  exact G.bind _ (g_pat T en _ a) fun p b hp=>G.skip fun _ c=>G.bind _ (hE c) fun x d hx=>G.cond (g_armsGo m _ _ (inA h ⟨hp,hx⟩)) (G.skip fun _ e=>G.ok (inA h ⟨hp,hx⟩))
theorem g_arms (a:Nat):G (fun l=>∀x∈l,rgA x) (armsF T en Es a):=g_armsGo hE _ _ a in0
theorem g_receive (a:Nat):G rgE (receiveF T en Es a):=by
 unfold receiveF msF afterF
 exact G.skip fun _ b=>G.bind _ (G.cond (G.ok in0) (g_arms hE b)) fun ms c hm=>G.cond (G.bind _ (g_num T en false _) fun v d hv=>G.skip fun _ e=>G.bind _ (hE e) fun x f hx=>G.ok (rgE_mk hv (in1 hx) hm)) (G.ok (rgE_mk i64_m in0 hm))
omit hE in
theorem g_last {x:Ex} (hx:rgE x) (b:Nat):G rgE (lastB T en x b):=G.skip fun _ c=>G.ok hx
theorem g_bracket (a:Nat):G rgE (bracketF T en Es a):=by
 unfold bracketF
 refine G.cond (G.ok (rgE_mk i64_0 in0 in0)) (G.cond (G.bind _ (hE _) fun x b hx=>g_last (rgE_mk i64_0 (in1 hx) in0) b) (G.cond (G.skip fun nt b=>G.skip fun _ c=>G.bind _ (hE c) fun x d hx=>g_last (rgE_mk i64_0 (in1 hx) in0) d) ?_))
 exact G.bind _ (hE a) fun x b hx=>G.skip fun s c=>G.bind _ (hE c) fun y d hy=>g_last (rgE_mk i64_0 (in2 hx hy) in0) d
theorem g_one (a:Nat):G rgE (PA.oneF T en Es a):=by
 unfold PA.oneF
 exact G.cond G.err (G.skip fun _ b=>G.bind _ (hE b) fun x c hx=>G.skip fun _ d=>G.ok (rgE_mk i64_0 (in1 hx) in0))
theorem g_word (a:Nat):G rgE (wordE T en Es a):=by
 unfold wordE
 refine G.cond (G.ok (rgE_mk i64_1 in0 in0)) (G.cond (G.ok (rgE_mk i64_0 in0 in0)) (G.cond (G.ok (rgE_mk i64_0 in0 in0)) (G.cond ?_ (G.cond ?_ (G.cond ?_ (G.cond ?_ (G.cond (g_receive hE _) (G.cond ?_ (G.cond ?_ (G.cond (g_two hE _ _) (G.cond (g_two hE _ _) (g_one hE a))))))))))))
 ·exact G.skip fun s b=>G.skip fun _ c=>G.bind _ (hE c) fun x d hx=>G.skip fun _ e=>G.bind _ (hE e) fun y f hy=>G.ok (rgE_mk i64_0 (in2 hx hy) in0)
 ·exact G.bind _ (hE _) fun x b hx=>G.skip fun _ c=>G.bind _ (hE c) fun y d hy=>G.skip fun _ e=>G.bind _ (hE e) fun z f hz=>G.ok (rgE_mk i64_0 (in3 hx hy hz) in0)
 ·exact G.skip fun _ b=>G.bind _ (g_list hE b) fun l c hl=>G.skip fun _ d=>G.ok (rgE_mk i64_0 hl in0)
 ·exact G.bind _ (hE _) fun x b hx=>G.skip fun _ c=>G.bind _ (g_arms hE c) fun ms d hm=>G.ok (rgE_mk i64_0 (in1 hx) hm)
 ·exact G.skip fun s b=>G.bind _ (g_inside hE b) fun l c hl=>G.ok (rgE_mk i64_0 hl in0)
 ·exact G.bind _ (g_inside hE _) fun l b hl=>G.ok (rgE_mk i64_0 hl in0)
theorem g_form (a:Nat):G rgE (formF T en Es a):=by
 unfold formF
 refine G.cond (G.bind _ (g_num T en false a) fun v b hv=>G.ok (rgE_mk hv in0 in0)) (G.cond (G.ok (rgE_mk i64_0 in0 in0)) (G.cond (G.cond (G.bind _ (g_inside hE _) fun l b hl=>G.ok (rgE_mk i64_0 hl in0)) (G.ok (rgE_mk i64_0 in0 in0))) (G.cond (G.bind _ (g_maybe hE _) fun l b hl=>G.ok (rgE_mk i64_0 hl in0)) (G.cond (G.cond (G.bind _ (g_num T en true a) fun v b hv=>G.ok (rgE_mk hv in0 in0)) (G.cond (g_bracket hE _) G.err)) (G.cond (g_word hE a) G.err)))))
end
theorem g_expr (T:List Tk) (en:Int):∀(n a:Nat),G rgE (exprF T en n a)
 |0,a=>by rw[exprF];exact G.err
 |n+1,a=>by
  rw[exprF]
  refine G.bind _ (g_form (g_expr T en n) a) fun e b he=>G.ok ?_
  obtain⟨k,m,t,ns,ts,xs,ms,p⟩:=e
  rw[setPos]
  rw[rgE]at he ⊢
  exact he
section
variable (T:List Tk) (en:Int)
theorem g_function (a:Nat):G (fun f=>rgE f.body) (functionF T en a):=by
 unfold functionF
 exact G.skip fun h b=>G.skip fun _ c=>G.bind _ (g_expr T en _ c) fun x d hx=>G.skip fun _ e=>G.ok hx
theorem g_funcsGo:∀(m:Nat) (out:List LFu) (a:Nat),(∀f∈out,rgE f.body)→G (fun l=>∀f∈l,rgE (LFu.body f)) (funcsGo T en (functionF T en) m out a)
 |0,out,a,h=>by rw[funcsGo];exact G.err
 |m+1,out,a,h=>by
  rw[funcsGo]
  exact G.cond (G.ok h) (G.skip fun _ c=>G.bind _ (g_function T en c) fun f d hf=>g_funcsGo m _ d (inA h hf))
theorem g_decl (p:LPg) (a:Nat) (hp:rgPg p):G rgPg (declF T en p a):=by
 obtain⟨h1,h2,h3⟩:=hp
 unfold declF
 refine G.cond ?_ (G.cond ?_ (G.cond ?_ (G.cond ?_ (G.cond ?_ (G.cond ?_ G.err)))))
 ·exact G.skip fun _ b=>G.skip fun _ c=>G.skip fun _ d=>G.skip fun _ e=>G.ok ⟨h1,h2,h3⟩
 ·exact G.skip fun _ b=>G.ok ⟨h1,h2,h3⟩
 ·exact G.skip fun _ b=>G.skip fun _ c=>G.ok ⟨h1,h2,h3⟩
 ·refine G.skip fun _ b=>G.skip fun _ c=>G.skip fun _ d=>G.bind (fun l=>∀f∈l,rgE (LFu.body f)) ?_ fun fs e hf=>G.ok ⟨inA h1 hf,h2,h3⟩
  unfold funcsF
  exact G.skip fun _ b=>g_funcsGo T en _ _ b in0
 ·exact G.bind _ (g_function T en _) fun f b hf=>G.ok ⟨h1,inA h2 hf,h3⟩
 ·exact G.skip fun _ b=>G.skip fun _ c=>G.skip fun _ d=>G.skip fun _ e=>G.skip fun _ f=>G.bind _ (g_expr T en _ f) fun x g hx=>G.skip fun _ i=>G.ok ⟨h1,h2,inA h3 hx⟩
theorem g_declsGo:∀(m:Nat) (p:LPg) (a:Nat),rgPg p→G rgPg (declsGo T en m p a)
 |0,p,a,h=>by rw[declsGo];exact G.err
 |m+1,p,a,h=>by
  rw[declsGo]
  exact G.cond (G.bind _ (g_decl T en p a h) fun q b hq=>g_declsGo m q b hq) (G.ok h)
theorem g_program (a:Nat):G rgPg (programF T en a):=by
 unfold programF
 exact G.skip fun _ b=>G.skip fun nm c=>G.skip fun v d=>G.skip fun _ e=>g_declsGo T en _ _ e ⟨in0,in0,in0⟩
end
end SX
