/- Contracts, and the law, for every input. No conditions. -/
import Derived.Test.YtdmopjgjhfhfdaaGreatDoorChecked
import Derived.Tactics
import Derived.Tactics2
import Derived.Defers
import Derived.Recover
import Derived.Test.YtdmopjgjhfhfdaaGreatDoorPAH
import Derived.Shelf.LaysC
import Derived.Ground.NamesProg
import Derived.Shelf.Strconv.ParseIntPublic10
import Derived.Test.YtdmopjgjhfhfdaaGreatDoorAMGlob
open Go Go.Proofs
set_option maxRecDepth 100000
namespace PA
theorem assert_nil (w:World):(Instr.typeAssert .nilIface 20 148 true).run Tryz.prog w=.ok (.tuple #[.agg #[.int .i64 0],.bool false]) w:=by kernel_rfl
theorem neq_nil (w:World):(binOp .neq 20 .nilIface .nilIface).run Tryz.prog w=.ok (.bool false) w:=by kernel_rfl
set_option maxHeartbeats 1000000 in
theorem catch_idle (p q r:Addr) (w:World):
 CallsD Tryz.prog 42 #[.pointer (some p),.pointer (some q),.pointer (some r)] .returning w fun e u' w'=>e=.returned (.tuple #[])∧u'=.returning∧w'=(w.alloc (.cells #[.int .i64 0] 148)).setCell ⟨w.heap.size,0,none⟩ (.int .i64 0):=by
 refine callsD_of_wpS Tryz.func42 rfl fun c₀ cs hu=>?_
 apply wpS_seq
 apply wpS_region
 simp[wpOpsS,go_sem,recoverD,hu,Tryz.ntmps42,Exit.thenS]
 apply wpS_seq
 apply wpS_region
 simp[wpOpsS,go_sem,Exit.thenS,assert_nil]
 apply wpS_seq
 apply wpS_region
 simp[wpOpsS,go_sem,Exit.thenS];refine wpS_cond (t:=false) (by simp[Act.eval,Array.replicate]) ?_;simp only[Bool.false_eq_true,if_false]
 apply wpS_seq
 apply wpS_region
 simp[wpOpsS,go_sem,Exit.thenS,neq_nil];refine wpS_cond (t:=false) (by simp[Act.eval,Array.replicate]) ?_;simp only[Bool.false_eq_true,if_false];refine wpS_of_wp (wp_skip ?_);cases c₀
 simp_all [bodyPostS,results,Tryz.results42]
end PA
open Go Go.AM Go.Proofs TK TR
set_option maxRecDepth 100000
namespace PA
theorem bindP_assoc {α β γ:Type} (x:PR α) (f:α→Nat→PR β) (g:β→Nat→PR γ):bindP (bindP x f) g=bindP x fun y a=>bindP (f y a) g:=by
 rcases x with p|⟨y,a⟩<;>rfl
def makesGo (T:List Tk) (en:Int):Nat→List LMk→Nat→PR (List LMk)
 |0,_,_=>.error 0
 |m+1,out,d=>bindP (kindF T en 2 d) fun s e=>bindP (maybeF T en (tyF T en) e) fun l f=>bif isF T ⟨#[124]⟩ f then makesGo T en m (out++[⟨s,l⟩]) (f+1) else .ok (out++[⟨s,l⟩],f)
def dataF (T:List Tk) (en:Int) (a:Nat):PR LDt:=bindP (plainUpF T en a) fun nm b=>bindP (paramsF T en b) fun ps c=>bindP (wantF T en [equs] c) fun _ d=>bindP (makesGo T en (T.length+1) [] d) fun ms e=>bindP (wantF T en [semi] e) fun _ f=>.ok (⟨nm,ps,ms⟩,f)
theorem makesGo_lt {T:List Tk} {en:Int}:∀m out a,ltP T a (makesGo T en m out a)
 |0,_,_=>ltP_err
 |m+1,out,a=>by
  rw[makesGo];refine leP_lt (kind_lt T en 2 (by decide) a) fun s e _ _ he=>leP_bind (maybe_le (ty_lt T en) e he) fun l f _ _ hf=>?_
  cases hi:isF T ⟨#[124]⟩ f with
  |true=>exact fun y g h=>by have:=makesGo_lt m _ _ y g h;omega
  |false=>exact leP_ok (Nat.le_refl _) hf
theorem data_lt (T:List Tk) (en:Int) (a:Nat):ltP T a (dataF T en a):=leP_lt (plainUp_lt T en a) fun _ b _ _ hb=>leP_bind (params_le T en b hb) fun _ c _ _ hc=>leP_bind (want_le T en _ c hc) fun _ d _ _ hd=>leP_bind (makesGo_lt _ _ d).le fun _ e _ _ he=>leP_bind (want_le T en _ e he) fun _ f _ _ hf=>leP_ok (Nat.le_refl _) hf
theorem data_spec (T:List Tk) (hT:T.length≤4000) (en:Int) (a:Nat) (ha:a≤T.length):AMemO Tryz.prog 94 [.ptr 1000000000 0] (hR T en a) (oR T en (fun y=>.p (elDt y)) (dataF T en a)):=by
 generalize hx:dataF T en a=X;unfold dataF at hx;refine oI Tryz.func94 rfl (by rfl) (by show 1≤_;decide) (fun _=>rfl) (by kernel_rfl) ?_;intro hX;(conv=>whnf);refine oC 500 (plainUp_spec T hT en a ha) (fun p hp=>?_) (fun nm b hy=>?_)
 ·rw[hp]at hx;subst hx;exact okE hX
 rw[hy,bindP_ok]at hx;(conv=>whnf);obtain⟨q1,q2⟩:=plainUp_lt T en a nm b hy;refine oC 500 (params_spec T hT en b q2) (fun p hp=>?_) (fun ps c hy=>?_)
 ·rw[hp]at hx;subst hx;exact okE hX
 rw[hy,bindP_ok]at hx;(conv=>whnf);obtain⟨q3,q4⟩:=params_le T en b q2 ps c hy;refine oC 500 (want_spec T hT en c q4 [equs] (by decide)) (fun p hp=>?_) (fun u d hy=>?_)
 ·rw[hp]at hx;subst hx;exact okE hX
 rw[hy,bindP_ok]at hx;(conv=>whnf);obtain⟨q5,q6⟩:=want_le T en _ c q4 u d hy;refine lp_le 3 (.cells [.p (.s nm),.p (.sl 1 (ps.map PV.s)),.so 2 []]) rfl ⟨.inl rfl,.inl rfl,.inr (.inr ⟨rfl,1,rfl⟩),trivial⟩ ?_;refine loopS (tyOf_ok _) hmix (by kernel_rfl) T.length [0,2,3] [2,3,1000000000] (fun k (s:List LMk×Nat)=>[.ptr 1000000000 0,.ptr 2 0,.ptr 3 0]) (fun k s=>[.cells [.p (.s ⟨#[]⟩),.nilS,.nilS],.cells [.p (.s nm),.p (.sl 1 (ps.map PV.s)),.so 2 (s.1.map elMk)],.cells [.p (.sl 3 (T.map eTk)),.p (.i .i64 s.2),.p (.i .i64 en)]]) (fun k s=>k≤s.2∧s.2≤T.length∧s.1.length≤k∧bindP (makesGo T en (T.length+1-k) s.1 s.2) (fun ms e=>bindP (wantF T en [semi] e) fun _ f=>.ok (⟨nm,ps,ms⟩,f))=X) ([],d) ⟨rfl,rfl,rfl,rfl⟩ ⟨by simp,q6,by simp,hx⟩ ?_;rintro k ⟨out,s⟩ hk ⟨hs1,hs,hs3,hx⟩;simp only at hs1 hs hs3 hx ⊢;rw[show T.length+1-k=(T.length-k)+1 by omega,makesGo,bindP_assoc]at hx;(conv=>whnf);refine oC 500 (up_spec T hT en s hs) (fun p hp=>?_) (fun nn e hy=>?_)
 ·rw[hp]at hx;subst hx;exact okE hX
 rw[hy,bindP_ok,bindP_assoc]at hx;(conv=>whnf);obtain⟨q7,q8⟩:=kind_lt T en 2 (by decide) s nn e hy;refine oC 500 (maybeT_spec T hT en 102 _ (ty_lt T en) e q8 (fun z h3 h4=>ty_spec T hT en z h4)) (fun p hp=>?_) (fun l f hy=>?_)
 ·rw[hp]at hx;subst hx;exact okE hX
 rw[hy,bindP_ok]at hx;obtain⟨q9,q10⟩:=maybe_le (ty_lt T en) e q8 l f hy;(conv=>whnf);refine aneed (Nat.le_trans (Nat.mul_le_mul_right _ (show _≤5000 by simp only[List.length_map,List.length_cons,List.length_nil];omega)) (Nat.le_of_ble_eq_true (by kernel_rfl))) ?_;(conv=>whnf)
 first|refine aneed (.inl (by kernel_rfl)) ?_|refine aneed (by kernel_rfl) ?_
 conv=>whnf
 have hmap:(out++[(⟨nn,l⟩:LMk)]).map elMk=out.map elMk++[.agg [.s nn,.sl 3 (l.map eT)]]:=by
  simp only[List.map_append,List.map_cons,List.map_nil,elMk,eTs_map]
 refine oL 500 (take_spec T hT en f q10 ⟨#[124]⟩) ?_;(conv=>whnf);unfold takeF
 cases hi:isF T ⟨#[124]⟩ f with
 |true=>
  have:=isF_in hi;rw[hi,cond_true]at hx;(conv=>whnf);refine⟨by omega,(out++[⟨nn,l⟩],f+1),?_,by show k+1≤f+1;omega,by show f+1≤_;omega,by show(out++[_]).length≤k+1;simp only[List.length_append,List.length_cons,List.length_nil];omega,?_⟩
  ·rw[hmap]
   exact⟨rfl,rfl,rfl,rfl⟩
  ·rw[show T.length+1-(k+1)=T.length-k by omega];exact hx
 |false=>
  rw[hi,cond_false,bindP_ok]at hx;(conv=>whnf);refine oC 500 (want_spec T hT en f q10 [semi] (by decide)) (fun p hp=>?_) (fun u g hy=>?_)
  ·rw[hp]at hx;subst hx;exact okE hX
  rw[hy,bindP_ok]at hx;(conv=>whnf);subst hx;refine⟨?_,ob_refl _,trivial⟩
  left
  show _=AV.p (.agg [.s nm,.sl 1 _,.sl 2 ((out++[(⟨nn,l⟩:LMk)]).map elMk)]);rw[hmap];rfl
end PA
open Go Go.AM Go.Proofs TK TR
set_option maxRecDepth 100000
namespace PA
def pgCells (p:LPg):List AV:=[.p (.s p.name),.p (.i .i64 p.ver),.so 3 (p.uses.map elUse),.so 3 (p.datas.map elDt),.so 2 (p.traits.map elTr),.so 3 (p.impls.map elIm),.so 15 (p.funcs.map elFu),.so 14 (p.actors.map elAc)]
def hP (G:Nat) (tab:List Value) (T:List Tk) (en:Int) (a:Nat) (p:LPg):Heap:=[(1000000000,.cells [.p (.sl 3 (T.map eTk)),.p (.i .i64 a),.p (.i .i64 en)]),(1000000001,.glob G tab),(1000000002,.cells (pgCells p))]
def oP (G:Nat) (tab:List Value) (T:List Tk) (en:Int):PR LPg→Except Value (AV×Heap)
 |.ok (p,a)=>.ok (.tup [],hP G tab T en a p)
 |.error p=>.error (failV p)
def LPB (p:LPg) (n:Nat):Prop:=p.uses.length≤n∧p.datas.length≤n∧p.traits.length≤n∧p.impls.length≤n∧p.funcs.length≤n∧p.actors.length≤n
theorem oIP {G:Nat} {tab:List Value} {T:List Tk} {en:Int} {a:Nat} {p:LPg} {x:PR LPg} {f:Nat} {fn:Func} {c:Code} {args:List AV} (hf:Tryz.prog.funcs[f]?=some fn) (hb:fn.body=some c) (hname:(fn.name== "runtime.NumGoroutine")=false) (hlen:args.length≤fn.ntmps) (hok:codeOK fn.ntmps c=true)
 (hk:okX (oP G tab T en x)=true→awp (tyOf Tryz.prog) (pcall Tryz.prog) (lpOf Tryz.prog fn.ntmps) c (fun x' e' h=>match oP G tab T en x with|.ok y=>retKM (tyOf Tryz.prog) fn.results.toList fn.resultTypes.toList y.1 y.2 x' e' h|.error _=>False) (argEnv 0 args) (hP G tab T en a p)):AMemO Tryz.prog f args (hP G tab T en a p) (oP G tab T en x):=by
 refine AMemO.intro (tyOf_ok Tryz.prog) hmix hf hb hname hlen hok hk ?_;intro r h' hr;rcases x with q|⟨y,a'⟩
 ·cases hr
 ·simp only[oP,Except.ok.injEq,Prod.mk.injEq]at hr
  obtain⟨rfl,rfl⟩:=hr;show(true&&true&&(Nat.beq G G&&true))=true;rw[Nat.beq_refl];rfl
def declF (T:List Tk) (en:Int) (p:LPg) (a:Nat):PR LPg:=
 bif isF T ⟨#[117,115,101]⟩ a then bindP (kindF T en 1 (a+1)) fun nm b=>bindP (numF T en false b) fun lo c=>bindP (numF T en false c) fun hi d=>bindP (wantF T en [semi] d) fun _ e=>.ok ({ p with uses:=p.uses++[⟨nm,lo,hi⟩] },e) else
 bif isF T ⟨#[100,97,116,97]⟩ a then bindP (dataF T en (a+1)) fun d b=>.ok ({ p with datas:=p.datas++[d] },b) else
 bif isF T ⟨#[116,114,97,105,116]⟩ a then bindP (kindF T en 2 (a+1)) fun nm b=>bindP (funcsF T en (sigF T en) b) fun fs c=>.ok ({ p with traits:=p.traits++[⟨nm,fs⟩] },c) else
 bif isF T ⟨#[105,109,112,108]⟩ a then bindP (kindF T en 2 (a+1)) fun nm b=>bindP (wantF T en [⟨#[102,111,114]⟩] b) fun _ c=>bindP (forF T en c) fun fo d=>bindP (funcsF T en (functionF T en) d) fun fs e=>.ok ({ p with impls:=p.impls++[⟨nm,fo,fs⟩] },e) else
 bif isF T ⟨#[102,117,110]⟩ a then bindP (functionF T en (a+1)) fun f b=>.ok ({ p with funcs:=p.funcs++[f] },b) else
 bif isF T ⟨#[97,99,116,111,114]⟩ a then bindP (kindF T en 2 (a+1)) fun nm b=>bindP (namesF T en b) fun nt c=>bindP (wantF T en [⟨#[58]⟩] c) fun _ d=>bindP (tyF T en d) fun ty e=>bindP (wantF T en [equs] e) fun _ f=>bindP (exF T en f) fun x g=>bindP (wantF T en [semi] g) fun _ h=>.ok ({ p with actors:=p.actors++[⟨nm,nt.1,nt.2,ty,x⟩] },h) else
 .error (placeF T en a)
theorem decl_lt (T:List Tk) (en:Int) (p:LPg) (a:Nat):ltP T a (declF T en p a):=by
 unfold declF
 cases hi:isF T ⟨#[117,115,101]⟩ a with
 |true=>
  exact ltP_step (Nat.lt_succ_self a) (leP_bind (kind_lt T en 1 (by decide) (a+1)).le fun _ b _ _ _=>leP_bind (num_lt T en false b).le fun _ c _ _ _=>leP_bind (num_lt T en false c).le fun _ d _ _ hd=>leP_bind (want_le T en _ d hd) fun _ e _ _ he=>leP_ok (Nat.le_refl _) he)
 |false=>
  rw[cond_false];clear hi
  cases hi:isF T ⟨#[100,97,116,97]⟩ a with
  |true=>
   exact ltP_step (Nat.lt_succ_self a) (leP_bind (data_lt T en (a+1)).le fun _ e _ _ he=>leP_ok (Nat.le_refl _) he)
  |false=>
   rw[cond_false];clear hi
   cases hi:isF T ⟨#[116,114,97,105,116]⟩ a with
   |true=>
    exact ltP_step (Nat.lt_succ_self a) (leP_bind (kind_lt T en 2 (by decide) (a+1)).le fun _ b _ _ _=>leP_bind (funcs_lt (sig_lt T en) b).le fun _ e _ _ he=>leP_ok (Nat.le_refl _) he)
   |false=>
    rw[cond_false];clear hi
    cases hi:isF T ⟨#[105,109,112,108]⟩ a with
    |true=>
     exact ltP_step (Nat.lt_succ_self a) (leP_bind (kind_lt T en 2 (by decide) (a+1)).le fun _ b _ _ hb=>leP_bind (want_le T en _ b hb) fun _ c _ _ _=>leP_bind (for_lt T en c).le fun _ d _ _ _=>leP_bind (funcs_lt (function_lt T en) d).le fun _ e _ _ he=>leP_ok (Nat.le_refl _) he)
    |false=>
     rw[cond_false];clear hi
     cases hi:isF T ⟨#[102,117,110]⟩ a with
     |true=>
      exact ltP_step (Nat.lt_succ_self a) (leP_bind (function_lt T en (a+1)).le fun _ e _ _ he=>leP_ok (Nat.le_refl _) he)
     |false=>
      rw[cond_false];clear hi
      cases hi:isF T ⟨#[97,99,116,111,114]⟩ a with
      |true=>
       exact ltP_step (Nat.lt_succ_self a) (leP_bind (kind_lt T en 2 (by decide) (a+1)).le fun _ b _ _ _=>leP_bind (names_lt T en b).le fun _ c _ _ hc=>leP_bind (want_le T en _ c hc) fun _ d _ _ _=>leP_bind (ty_lt T en d).le fun _ e _ _ he=>leP_bind (want_le T en _ e he) fun _ f _ _ _=>leP_bind (ex_lt T en f).le fun _ g _ _ hg=>leP_bind (want_le T en _ g hg) fun _ h _ _ hh=>leP_ok (Nat.le_refl _) hh)
      |false=>
       rw[cond_false];clear hi;exact ltP_err
theorem decl_spec {G:Nat} {tab:List Value} (hPI:PIC G tab) (T:List Tk) (hT:TOK T) (en:Int) (p:LPg) (hp:LPB p 4000) (a:Nat) (ha:a≤T.length):AMemO Tryz.prog 61 [.ptr 1000000000 0,.ptr 1000000002 0] (hP G tab T en a p) (oP G tab T en (declF T en p a)):=by
 have hlen:=hT.len;obtain⟨nm0,ver,us,ds,ts,is,fs0,acs⟩:=p;obtain⟨b1,b2,b3,b4,b5,b6⟩:=hp;simp only at b1 b2 b3 b4 b5 b6;generalize hx:declF T en _ a=X;unfold declF at hx;refine oIP Tryz.func61 rfl (by rfl) (by show 2≤_;decide) (by kernel_rfl) ?_;intro hX;(conv=>whnf);refine oL 500 (take_spec T hlen en a ha ⟨#[117,115,101]⟩) ?_;(conv=>whnf);unfold takeF
 cases h0:isF T ⟨#[117,115,101]⟩ a with
 |true=>
  have:=isF_in h0;rw[h0,cond_true]at hx;(conv=>whnf);refine oC 500 (low_spec T hlen en (a+1) (by omega)) (fun p hp=>?_) (fun nm b hy=>?_)
  ·rw[hp]at hx;subst hx;exact okE hX
  rw[hy,bindP_ok]at hx;(conv=>whnf);obtain⟨q1,q2⟩:=kind_lt T en 1 (by decide) (a+1) nm b hy;refine oCG 1000000001 500 (num_spec hPI T hT en false b q2) (fun p hp=>?_) (fun lo c hy=>?_)
  ·rw[hp]at hx;subst hx;exact okE hX
  rw[hy,bindP_ok]at hx;(conv=>whnf);obtain⟨q3,q4⟩:=num_lt T en false b lo c hy;refine oCG 1000000001 500 (num_spec hPI T hT en false c q4) (fun p hp=>?_) (fun hi d hy=>?_)
  ·rw[hp]at hx;subst hx;exact okE hX
  rw[hy,bindP_ok]at hx;(conv=>whnf);obtain⟨q5,q6⟩:=num_lt T en false c hi d hy
  first|refine aneed (.inl (by kernel_rfl)) ?_|refine aneed (by kernel_rfl) ?_
  (conv=>whnf);refine oC 500 (want_spec T hlen en d q6 [semi] (by decide)) (fun p hp=>?_) (fun u e hy=>?_)
  ·rw[hp]at hx;subst hx;exact okE hX
  rw[hy,bindP_ok]at hx;(conv=>whnf);refine aneed (Nat.le_trans (Nat.mul_le_mul_right _ (show _≤5000 by simp only[List.length_map,List.length_cons,List.length_nil];omega)) (Nat.le_of_ble_eq_true (by kernel_rfl))) ?_;(conv=>whnf)
  first|refine aneed (.inl (by kernel_rfl)) ?_|refine aneed (by kernel_rfl) ?_
  (conv=>whnf);subst hx;refine⟨.inl rfl,ob_refl _,⟨rfl,rfl⟩,?_,trivial⟩;unfold pgCells;rw[show(us++[(⟨nm,lo,hi⟩:LUse)]).map elUse=us.map elUse++[.agg [.s nm,.i .i64 lo,.i .i64 hi]] by simp[elUse]];exact ob_refl _
 |false=>
  rw[h0,cond_false]at hx;(conv=>whnf);refine oL 500 (take_spec T hlen en a ha ⟨#[100,97,116,97]⟩) ?_;(conv=>whnf);unfold takeF
  cases h1:isF T ⟨#[100,97,116,97]⟩ a with
  |true=>
   have:=isF_in h1;rw[h1,cond_true]at hx;(conv=>whnf);refine oC 500 (data_spec T hlen en (a+1) (by omega)) (fun p hp=>?_) (fun d b hy=>?_)
   ·rw[hp]at hx;subst hx;exact okE hX
   rw[hy,bindP_ok]at hx;(conv=>whnf);obtain⟨dn,dp,dm⟩:=d;(conv=>whnf);refine aneed (Nat.le_trans (Nat.mul_le_mul_right _ (show _≤5000 by simp only[List.length_map,List.length_cons,List.length_nil];omega)) (Nat.le_of_ble_eq_true (by kernel_rfl))) ?_;(conv=>whnf)
   first|refine aneed (.inl (by kernel_rfl)) ?_|refine aneed (by kernel_rfl) ?_
   (conv=>whnf);subst hx;refine⟨.inl rfl,ob_refl _,⟨rfl,rfl⟩,?_,trivial⟩;unfold pgCells;rw[show(ds++[(⟨dn,dp,dm⟩:LDt)]).map elDt=ds.map elDt++[elDt ⟨dn,dp,dm⟩] by simp];exact ob_refl _
  |false=>
   rw[h1,cond_false]at hx;(conv=>whnf);refine oL 500 (take_spec T hlen en a ha ⟨#[116,114,97,105,116]⟩) ?_;(conv=>whnf);unfold takeF
   cases h2:isF T ⟨#[116,114,97,105,116]⟩ a with
   |true=>
    have:=isF_in h2;rw[h2,cond_true]at hx;(conv=>whnf);refine oC 500 (up_spec T hlen en (a+1) (by omega)) (fun p hp=>?_) (fun nm b hy=>?_)
    ·rw[hp]at hx;subst hx;exact okE hX
    rw[hy,bindP_ok]at hx;(conv=>whnf);obtain⟨q1,q2⟩:=kind_lt T en 2 (by decide) (a+1) nm b hy;refine oCN 2 500 (funcsN_spec T hlen en 97 _ (sig_lt T en) b q2 (fun z h4=>sig_spec T hlen en z h4)) (fun p hp=>?_) (fun fs c hy=>?_)
    ·rw[hp]at hx;subst hx;exact okE hX
    rw[hy,bindP_ok]at hx;(conv=>whnf);refine aneed (Nat.le_trans (Nat.mul_le_mul_right _ (show _≤5000 by simp only[List.length_map,List.length_cons,List.length_nil];omega)) (Nat.le_of_ble_eq_true (by kernel_rfl))) ?_;(conv=>whnf)
    first|refine aneed (.inl (by kernel_rfl)) ?_|refine aneed (by kernel_rfl) ?_
    (conv=>whnf);subst hx;refine⟨.inl rfl,ob_refl _,⟨rfl,rfl⟩,?_,trivial⟩;unfold pgCells;rw[show(ts++[(⟨nm,fs⟩:LTr)]).map elTr=ts.map elTr++[.agg [.s nm,.sl 15 (fs.map elFu)]] by simp[elTr]];exact ob_refl _
   |false=>
    rw[h2,cond_false]at hx;(conv=>whnf);refine oL 500 (take_spec T hlen en a ha ⟨#[105,109,112,108]⟩) ?_;(conv=>whnf);unfold takeF
    cases h3:isF T ⟨#[105,109,112,108]⟩ a with
    |true=>
     have:=isF_in h3;rw[h3,cond_true]at hx;(conv=>whnf);refine oC 500 (up_spec T hlen en (a+1) (by omega)) (fun p hp=>?_) (fun nm b hy=>?_)
     ·rw[hp]at hx;subst hx;exact okE hX
     rw[hy,bindP_ok]at hx;(conv=>whnf);obtain⟨q1,q2⟩:=kind_lt T en 2 (by decide) (a+1) nm b hy;refine oC 500 (want_spec T hlen en b q2 [⟨#[102,111,114]⟩] (by decide)) (fun p hp=>?_) (fun u c hy=>?_)
     ·rw[hp]at hx;subst hx;exact okE hX
     rw[hy,bindP_ok]at hx;(conv=>whnf);obtain⟨q3,q4⟩:=want_le T en _ b q2 u c hy;refine oC 500 (for_spec T hlen en c q4) (fun p hp=>?_) (fun fo d hy=>?_)
     ·rw[hp]at hx;subst hx;exact okE hX
     rw[hy,bindP_ok]at hx;(conv=>whnf);obtain⟨q5,q6⟩:=for_lt T en c fo d hy;refine oCG 1000000001 500 (funcsG_spec T hlen en 100 _ (function_lt T en) d q6 (fun z h4=>function_spec hPI T hT en z h4)) (fun p hp=>?_) (fun fs e hy=>?_)
     ·rw[hp]at hx;subst hx;exact okE hX
     rw[hy,bindP_ok]at hx;(conv=>whnf);refine aneed (Nat.le_trans (Nat.mul_le_mul_right _ (show _≤5000 by simp only[List.length_map,List.length_cons,List.length_nil];omega)) (Nat.le_of_ble_eq_true (by kernel_rfl))) ?_;(conv=>whnf)
     first|refine aneed (.inl (by kernel_rfl)) ?_|refine aneed (by kernel_rfl) ?_
     (conv=>whnf);subst hx;refine⟨.inl rfl,ob_refl _,⟨rfl,rfl⟩,?_,trivial⟩;unfold pgCells;rw[show(is++[(⟨nm,fo,fs⟩:LIm)]).map elIm=is.map elIm++[.agg [.s nm,.s fo,.sl 15 (fs.map elFu)]] by simp[elIm]];exact ob_refl _
    |false=>
     rw[h3,cond_false]at hx;(conv=>whnf);refine oL 500 (take_spec T hlen en a ha ⟨#[102,117,110]⟩) ?_;(conv=>whnf);unfold takeF
     cases h4:isF T ⟨#[102,117,110]⟩ a with
     |true=>
      have:=isF_in h4;rw[h4,cond_true]at hx;(conv=>whnf);refine oCG 1000000001 500 (function_spec hPI T hT en (a+1) (by omega)) (fun p hp=>?_) (fun f b hy=>?_)
      ·rw[hp]at hx;subst hx;exact okE hX
      rw[hy,bindP_ok]at hx;obtain⟨fn,fps,fns,fts,⟨fok,fon,foa⟩,⟨bk,bn,bt,bns,bts,bxs,bms,bp⟩⟩:=f;(conv=>whnf);refine aneed (Nat.le_trans (Nat.mul_le_mul_right _ (show _≤5000 by simp only[List.length_map,List.length_cons,List.length_nil];omega)) (Nat.le_of_ble_eq_true (by kernel_rfl))) ?_;(conv=>whnf)
      first|refine aneed (.inl (by kernel_rfl)) ?_|refine aneed (by kernel_rfl) ?_
      (conv=>whnf);subst hx;refine⟨.inl rfl,ob_refl _,⟨rfl,rfl⟩,?_,trivial⟩;unfold pgCells;rw[List.map_append,List.map_cons,List.map_nil];exact ob_refl _
     |false=>
      rw[h4,cond_false]at hx;(conv=>whnf);refine oL 500 (take_spec T hlen en a ha ⟨#[97,99,116,111,114]⟩) ?_;(conv=>whnf);unfold takeF
      cases h5:isF T ⟨#[97,99,116,111,114]⟩ a with
      |true=>
       have:=isF_in h5;rw[h5,cond_true]at hx;(conv=>whnf);refine oC 500 (up_spec T hlen en (a+1) (by omega)) (fun p hp=>?_) (fun nm b hy=>?_)
       ·rw[hp]at hx;subst hx;exact okE hX
       rw[hy,bindP_ok]at hx;(conv=>whnf);obtain⟨q1,q2⟩:=kind_lt T en 2 (by decide) (a+1) nm b hy;refine oC 500 (names_spec T hlen en b q2) (fun p hp=>?_) (fun nt c hy=>?_)
       ·rw[hp]at hx;subst hx;exact okE hX
       rw[hy,bindP_ok]at hx;(conv=>whnf);obtain⟨q3,q4⟩:=names_lt T en b nt c hy;refine oC 500 (want_spec T hlen en c q4 [⟨#[58]⟩] (by decide)) (fun p hp=>?_) (fun u d hy=>?_)
       ·rw[hp]at hx;subst hx;exact okE hX
       rw[hy,bindP_ok]at hx;(conv=>whnf);obtain⟨q5,q6⟩:=want_le T en _ c q4 u d hy;refine oC 500 (ty_spec T hlen en d q6) (fun p hp=>?_) (fun ty e hy=>?_)
       ·rw[hp]at hx;subst hx;exact okE hX
       rw[hy,bindP_ok]at hx;(conv=>whnf);obtain⟨q7,q8⟩:=ty_lt T en d ty e hy;obtain⟨tk,tn,ta⟩:=ty;(conv=>whnf);refine oC 500 (want_spec T hlen en e q8 [equs] (by decide)) (fun p hp=>?_) (fun u f hy=>?_)
       ·rw[hp]at hx;subst hx;exact okE hX
       rw[hy,bindP_ok]at hx;(conv=>whnf);obtain⟨q9,q10⟩:=want_le T en _ e q8 u f hy;refine oCG 1000000001 500 (ex_spec hPI T hT en f q10) (fun p hp=>?_) (fun x g hy=>?_)
       ·rw[hp]at hx;subst hx;exact okE hX
       rw[hy,bindP_ok]at hx;(conv=>whnf);obtain⟨q11,q12⟩:=ex_lt T en f x g hy;obtain⟨xk,xn,xt,xns,xts,xxs,xms,xp⟩:=x;(conv=>whnf);refine oC 500 (want_spec T hlen en g q12 [semi] (by decide)) (fun p hp=>?_) (fun u h hy=>?_)
       ·rw[hp]at hx;subst hx;exact okE hX
       rw[hy,bindP_ok]at hx;(conv=>whnf);refine aneed (Nat.le_trans (Nat.mul_le_mul_right _ (show _≤5000 by simp only[List.length_map,List.length_cons,List.length_nil];omega)) (Nat.le_of_ble_eq_true (by kernel_rfl))) ?_;(conv=>whnf)
       first|refine aneed (.inl (by kernel_rfl)) ?_|refine aneed (by kernel_rfl) ?_
       (conv=>whnf);subst hx;refine⟨.inl rfl,ob_refl _,⟨rfl,rfl⟩,?_,trivial⟩;unfold pgCells;rw[List.map_append,List.map_cons,List.map_nil,elAc,eTs_map nt.2];exact ob_refl _
      |false=>
       rw[h5,cond_false]at hx;(conv=>whnf);subst hx;exact(okE hX).elim
end PA
open Go Go.AM Go.Proofs TK TR
set_option maxRecDepth 100000
namespace PA
theorem oCP {G:Nat} {tab:List Value} {T:List Tk} {en:Int} {a:Nat} {pg:LPg} {o:PR LPg} {f:Nat} {args:List AV} {h:Heap} {K:List Nat→Heap→AV→Prop} (l B:Nat) (c:AMemO Tryz.prog f (AV.rens (toBig [1000000000,1000000001,l] 0) args) (hP G tab T en a pg) (oP G tab T en o)) (hp:∀p,o=.error p→False)
 (hk:∀y a',o=.ok (y,a')→K [1000000000,1000000001,l] (backH [1000000000,1000000001,l] B (hP G tab T en a' y)) (.tup []))
 (h2:subH h (toBig [1000000000,1000000001,l] 0) (memB [1000000000,1000000001,l]) [1000000000,1000000001,l] 0=some (hP G tab T en a pg):=by rfl) (h1:(AV.withins (memB [1000000000,1000000001,l]) args&&nodupB [1000000000,1000000001,l])=true:=by rfl) (h3:newCk h B 3 [1000000000,1000000001,1000000002]=true:=by rfl):pcall Tryz.prog f args h K:=by
 rcases o with p|⟨y,a'⟩
 ·exact(hp p rfl).elim
 ·exact(amc [1000000000,1000000001,l] B (c _ _ rfl) (hk y a' rfl) h2 h1 (by show(true&&newCk h B 3 [1000000000,1000000001,1000000002]&&true)=true;rw[h3];rfl))
theorem decl_LPB {T:List Tk} {en:Int} {p q:LPg} {a b n:Nat} (h:declF T en p a=.ok (q,b)) (hp:LPB p n):LPB q (n+1):=by
 obtain⟨nm0,ver,us,ds,ts,is,fs0,acs⟩:=p;obtain⟨b1,b2,b3,b4,b5,b6⟩:=hp;simp only at b1 b2 b3 b4 b5 b6;unfold declF at h;unfold LPB;generalize isF T ⟨#[117,115,101]⟩ a=c1 at h;generalize isF T ⟨#[100,97,116,97]⟩ a=c2 at h;generalize isF T ⟨#[116,114,97,105,116]⟩ a=c3 at h;generalize isF T ⟨#[105,109,112,108]⟩ a=c4 at h;generalize isF T ⟨#[102,117,110]⟩ a=c5 at h;generalize isF T ⟨#[97,99,116,111,114]⟩ a=c6 at h
 cases c1 with
 |true=>
  rw[cond_true]at h;obtain⟨_,_,_,h⟩:=bindP_inv h;obtain⟨_,_,_,h⟩:=bindP_inv h;obtain⟨_,_,_,h⟩:=bindP_inv h;obtain⟨_,_,_,h⟩:=bindP_inv h;cases h;simp only[List.length_append,List.length_cons,List.length_nil];omega
 |false=>
  rw[cond_false]at h
  cases c2 with
  |true=>
   rw[cond_true]at h;obtain⟨_,_,_,h⟩:=bindP_inv h;cases h;simp only[List.length_append,List.length_cons,List.length_nil];omega
  |false=>
   rw[cond_false]at h
   cases c3 with
   |true=>
    rw[cond_true]at h;obtain⟨_,_,_,h⟩:=bindP_inv h;obtain⟨_,_,_,h⟩:=bindP_inv h;cases h;simp only[List.length_append,List.length_cons,List.length_nil];omega
   |false=>
    rw[cond_false]at h
    cases c4 with
    |true=>
     rw[cond_true]at h;obtain⟨_,_,_,h⟩:=bindP_inv h;obtain⟨_,_,_,h⟩:=bindP_inv h;obtain⟨_,_,_,h⟩:=bindP_inv h;obtain⟨_,_,_,h⟩:=bindP_inv h;cases h;simp only[List.length_append,List.length_cons,List.length_nil];omega
    |false=>
     rw[cond_false]at h
     cases c5 with
     |true=>
      rw[cond_true]at h;obtain⟨_,_,_,h⟩:=bindP_inv h;cases h;simp only[List.length_append,List.length_cons,List.length_nil];omega
     |false=>
      rw[cond_false]at h
      cases c6 with
      |true=>
       rw[cond_true]at h;obtain⟨_,_,_,h⟩:=bindP_inv h;obtain⟨_,_,_,h⟩:=bindP_inv h;obtain⟨_,_,_,h⟩:=bindP_inv h;obtain⟨_,_,_,h⟩:=bindP_inv h;obtain⟨_,_,_,h⟩:=bindP_inv h;obtain⟨_,_,_,h⟩:=bindP_inv h;obtain⟨_,_,_,h⟩:=bindP_inv h;cases h;simp only[List.length_append,List.length_cons,List.length_nil];omega
      |false=>cases h
def declsGo (T:List Tk) (en:Int):Nat→LPg→Nat→PR LPg
 |0,_,_=>.error 0
 |m+1,p,a=>bif decide (a<T.length) then bindP (declF T en p a) fun q b=>declsGo T en m q b else .ok (p,a)
abbrev wModule:ByteArray:=⟨#[109,111,100,117,108,101]⟩
def programF (T:List Tk) (en:Int) (a:Nat):PR LPg:=bindP (wantF T en [wModule] a) fun _ b=>bindP (kindF T en 1 b) fun nm c=>bindP (numF T en false c) fun v d=>bindP (wantF T en [semi] d) fun _ e=>declsGo T en (T.length+1) ⟨nm,v,[],[],[],[],[],[]⟩ e
theorem program_spec {G:Nat} {tab:List Value} (hPI:PIC G tab) (T:List Tk) (hT:TOK T) (en:Int) (a:Nat) (ha:a≤T.length):AMemO Tryz.prog 43 [.ptr 1000000000 0] (hG G tab T en a) (oG G tab T en (fun p=>.p (elPg p)) (programF T en a)):=by
 have hlen:=hT.len;have hl:(T.map eTk).length=T.length:=List.length_map _;generalize hx:programF T en a=X;unfold programF at hx;refine oIG Tryz.func43 rfl (by rfl) (by show 1≤_;decide) (fun _=>rfl) (by kernel_rfl) ?_;intro hX;(conv=>whnf);refine oC 500 (want_spec T hlen en a ha [wModule] (by decide)) (fun p hp=>?_) (fun u b hy=>?_)
 ·rw[hp]at hx;subst hx;exact okE hX
 rw[hy,bindP_ok]at hx;(conv=>whnf);obtain⟨q1,q2⟩:=want_lt T en _ [] a u b hy;refine oC 500 (low_spec T hlen en b q2) (fun p hp=>?_) (fun nm c hy=>?_)
 ·rw[hp]at hx;subst hx;exact okE hX
 rw[hy,bindP_ok]at hx;(conv=>whnf);obtain⟨q3,q4⟩:=kind_lt T en 1 (by decide) b nm c hy;refine oCG 1000000001 500 (num_spec hPI T hT en false c q4) (fun p hp=>?_) (fun v d hy=>?_)
 ·rw[hp]at hx;subst hx;exact okE hX
 rw[hy,bindP_ok]at hx;(conv=>whnf);obtain⟨q5,q6⟩:=num_lt T en false c v d hy;refine oC 500 (want_spec T hlen en d q6 [semi] (by decide)) (fun p hp=>?_) (fun u e hy=>?_)
 ·rw[hp]at hx;subst hx;exact okE hX
 rw[hy,bindP_ok]at hx;(conv=>whnf);obtain⟨q7,q8⟩:=want_le T en _ d q6 u e hy;refine lp_le 3 (.cells (pgCells ⟨nm,v,[],[],[],[],[],[]⟩)) rfl ⟨.inl rfl,.inl rfl,.inr (.inr ⟨rfl,2,rfl⟩),.inr (.inr ⟨rfl,2,rfl⟩),.inr (.inr ⟨rfl,1,rfl⟩),.inr (.inr ⟨rfl,2,rfl⟩),.inr (.inr ⟨rfl,14,rfl⟩),.inr (.inr ⟨rfl,13,rfl⟩),trivial⟩ ?_;refine loopS (tyOf_ok _) hmix (by kernel_rfl) T.length [0,2,3] [2,3,1000000000,1000000001] (fun k (s:LPg×Nat)=>[.ptr 1000000000 0,.ptr 2 0,.ptr 3 0]) (fun k s=>[.cells [.p (.s ⟨#[]⟩),.p (.i .i64 0),.nilS,.nilS,.nilS,.nilS,.nilS,.nilS],.cells (pgCells s.1),.cells [.p (.sl 3 (T.map eTk)),.p (.i .i64 s.2),.p (.i .i64 en)],.glob G tab]) (fun k s=>k≤s.2∧s.2≤T.length∧LPB s.1 k∧declsGo T en (T.length+1-k) s.1 s.2=X) (⟨nm,v,[],[],[],[],[],[]⟩,e) ⟨rfl,rfl,rfl,rfl⟩ ⟨by simp,q8,⟨Nat.le_refl _,Nat.le_refl _,Nat.le_refl _,Nat.le_refl _,Nat.le_refl _,Nat.le_refl _⟩,hx⟩ ?_;rintro k ⟨pg,s⟩ hk ⟨hs1,hs,hs3,hx⟩;simp only at hs1 hs hs3 hx ⊢;rw[show T.length+1-k=(T.length-k)+1 by omega,declsGo]at hx;(conv=>whnf)
 first|refine aneed (.inl (by kernel_rfl)) ?_|refine aneed (by kernel_rfl) ?_
 (conv=>whnf);refine asplit ?_ ?_<;>intro h<;>conv=>whnf
 ·have h:=of_decide_eq_true h
  rw[hl]at h;have h:s<T.length:=by omega
  rw[decide_eq_true h,cond_true]at hx;have hB:LPB pg 4000:=by obtain⟨r1,r2,r3,r4,r5,r6⟩:=hs3;exact⟨by omega,by omega,by omega,by omega,by omega,by omega⟩
  refine oCP 3 500 (decl_spec hPI T hT en pg hB s hs) (fun p hp=>?_) (fun y b hy=>?_)
  ·rw[hp]at hx;subst hx;exact okE hX
  rw[hy,bindP_ok]at hx;obtain⟨q9,q10⟩:=decl_lt T en pg s y b hy;(conv=>whnf);refine⟨by omega,(y,b),⟨rfl,rfl,rfl,rfl⟩,by show k+1≤b;omega,q10,decl_LPB hy hs3,?_⟩;rw[show T.length+1-(k+1)=T.length-k by omega];exact hx
 ·have h:=of_decide_eq_false h
  rw[hl]at h;rw[decide_eq_false (by omega),cond_false]at hx;subst hx;exact⟨.inl rfl,ob_refl _,⟨rfl,rfl⟩,trivial⟩
end PA
namespace Go.Proofs
open Go.Shelf
def Tryz.lays174_ren:Go.Shelf.Ren:=⟨fun|174=>93|247=>128|245=>129|287=>152|279=>153|280=>154|281=>155|282=>156|321=>177|322=>178|316=>179|171=>181|205=>180|243=>191|246=>194|283=>197|284=>198|285=>199|286=>200|129=>203|317=>202|318=>204|319=>205|320=>206|337=>207|338=>208|n=>n,fun|9=>9|3=>3|2=>2|75=>224|85=>225|4=>4|167=>270|5=>5|53=>271|175=>272|46=>266|168=>274|37=>248|0=>0|210=>293|21=>21|127=>300|145=>303|143=>301|171=>309|173=>312|212=>318|51=>286|20=>20|213=>319|232=>322|233=>323|80=>186|n=>n,fun|15=>1|16=>2|17=>5|18=>6|19=>7|n=>n⟩
theorem Tryz.lays174:Go.Proofs.LaysC.n174 Tryz.prog Tryz.lays174_ren:={
 mixed:=by kernel_rfl
 f129:=Tryz.func203.trans (congrArg some (by kernel_rfl))
 f171:=Tryz.func181.trans (congrArg some (by kernel_rfl))
 f174:=Tryz.func93.trans (congrArg some (by kernel_rfl))
 f205:=Tryz.func180.trans (congrArg some (by kernel_rfl))
 f243:=Tryz.func191.trans (congrArg some (by kernel_rfl))
 f245:=Tryz.func129.trans (congrArg some (by kernel_rfl))
 f246:=Tryz.func194.trans (congrArg some (by kernel_rfl))
 f247:=Tryz.func128.trans (congrArg some (by kernel_rfl))
 f279:=Tryz.func153.trans (congrArg some (by kernel_rfl))
 f280:=Tryz.func154.trans (congrArg some (by kernel_rfl))
 f281:=Tryz.func155.trans (congrArg some (by kernel_rfl))
 f282:=Tryz.func156.trans (congrArg some (by kernel_rfl))
 f283:=Tryz.func197.trans (congrArg some (by kernel_rfl))
 f284:=Tryz.func198.trans (congrArg some (by kernel_rfl))
 f285:=Tryz.func199.trans (congrArg some (by kernel_rfl))
 f286:=Tryz.func200.trans (congrArg some (by kernel_rfl))
 f287:=Tryz.func152.trans (congrArg some (by kernel_rfl))
 f316:=Tryz.func179.trans (congrArg some (by kernel_rfl))
 f317:=Tryz.func202.trans (congrArg some (by kernel_rfl))
 f318:=Tryz.func204.trans (congrArg some (by kernel_rfl))
 f319:=Tryz.func205.trans (congrArg some (by kernel_rfl))
 f320:=Tryz.func206.trans (congrArg some (by kernel_rfl))
 f321:=Tryz.func177.trans (congrArg some (by kernel_rfl))
 f322:=Tryz.func178.trans (congrArg some (by kernel_rfl))
 f337:=Tryz.func207.trans (congrArg some (by kernel_rfl))
 f338:=Tryz.func208.trans (congrArg some (by kernel_rfl))
 t0:=Tryz.underlying0
 a0:=Tryz.isAgg0
 z0:=Tryz.sizeOf0
 v0:=Tryz.zeroValue0
 t2:=Tryz.underlying2
 a2:=Tryz.isAgg2
 z2:=Tryz.sizeOf2
 v2:=Tryz.zeroValue2
 t3:=Tryz.underlying3
 a3:=Tryz.isAgg3
 z3:=Tryz.sizeOf3
 v3:=Tryz.zeroValue3
 t4:=Tryz.underlying4
 a4:=Tryz.isAgg4
 z4:=Tryz.sizeOf4
 v4:=Tryz.zeroValue4
 t5:=Tryz.underlying5
 a5:=Tryz.isAgg5
 z5:=Tryz.sizeOf5
 v5:=Tryz.zeroValue5
 t9:=Tryz.underlying9
 a9:=Tryz.isAgg9
 z9:=Tryz.sizeOf9
 v9:=Tryz.zeroValue9
 t20:=Tryz.underlying20
 a20:=Tryz.isAgg20
 z20:=Tryz.sizeOf20
 v20:=Tryz.zeroValue20
 t21:=Tryz.underlying21
 a21:=Tryz.isAgg21
 z21:=Tryz.sizeOf21
 v21:=Tryz.zeroValue21
 t37:=Tryz.underlying248
 a37:=Tryz.isAgg248
 z37:=Tryz.sizeOf248
 v37:=Tryz.zeroValue248
 t46:=Tryz.underlying266
 a46:=Tryz.isAgg266
 z46:=Tryz.sizeOf266
 v46:=Tryz.zeroValue266
 t51:=Tryz.underlying286
 a51:=Tryz.isAgg286
 z51:=Tryz.sizeOf286
 v51:=Tryz.zeroValue286
 t53:=Tryz.underlying271
 a53:=Tryz.isAgg271
 z53:=Tryz.sizeOf271
 v53:=Tryz.zeroValue271
 t75:=Tryz.underlying224
 a75:=Tryz.isAgg224
 z75:=Tryz.sizeOf224
 v75:=Tryz.zeroValue224
 t85:=Tryz.underlying225
 a85:=Tryz.isAgg225
 z85:=Tryz.sizeOf225
 v85:=Tryz.zeroValue225
 t127:=Tryz.underlying300
 a127:=Tryz.isAgg300
 z127:=Tryz.sizeOf300
 v127:=Tryz.zeroValue300
 t143:=Tryz.underlying301
 a143:=Tryz.isAgg301
 z143:=Tryz.sizeOf301
 v143:=Tryz.zeroValue301
 t145:=Tryz.underlying303
 a145:=Tryz.isAgg303
 z145:=Tryz.sizeOf303
 v145:=Tryz.zeroValue303
 t167:=Tryz.underlying270
 a167:=Tryz.isAgg270
 z167:=Tryz.sizeOf270
 v167:=Tryz.zeroValue270
 t168:=Tryz.underlying274
 a168:=Tryz.isAgg274
 z168:=Tryz.sizeOf274
 v168:=Tryz.zeroValue274
 t171:=Tryz.underlying309
 a171:=Tryz.isAgg309
 z171:=Tryz.sizeOf309
 v171:=Tryz.zeroValue309
 t173:=Tryz.underlying312
 a173:=Tryz.isAgg312
 z173:=Tryz.sizeOf312
 v173:=Tryz.zeroValue312
 t175:=Tryz.underlying272
 a175:=Tryz.isAgg272
 z175:=Tryz.sizeOf272
 v175:=Tryz.zeroValue272
 t210:=Tryz.underlying293
 a210:=Tryz.isAgg293
 z210:=Tryz.sizeOf293
 v210:=Tryz.zeroValue293
 t212:=Tryz.underlying318
 a212:=Tryz.isAgg318
 z212:=Tryz.sizeOf318
 v212:=Tryz.zeroValue318
 t213:=Tryz.underlying319
 a213:=Tryz.isAgg319
 z213:=Tryz.sizeOf319
 t232:=Tryz.underlying322
 a232:=Tryz.isAgg322
 z232:=Tryz.sizeOf322
 v232:=Tryz.zeroValue322
 t233:=Tryz.underlying323
 a233:=Tryz.isAgg323
 z233:=Tryz.sizeOf323
 v233:=Tryz.zeroValue323
 g15:=by kernel_rfl
 g16:=by kernel_rfl
 g17:=by kernel_rfl
 g18:=by kernel_rfl
 g19:=by kernel_rfl
 t80:=Tryz.underlying186
 a80:=Tryz.isAgg186
 z80:=Tryz.sizeOf186
 v80:=Tryz.zeroValue186
 i0:=by kernel_rfl
 i2:=by kernel_rfl
 i3:=by kernel_rfl
 i4:=by kernel_rfl
 i5:=by kernel_rfl
 i9:=by kernel_rfl
 i20:=by kernel_rfl
 i21:=by kernel_rfl
 i37:=by kernel_rfl
 i46:=by kernel_rfl
 i51:=by kernel_rfl
 i53:=by kernel_rfl
 i75:=by kernel_rfl
 i80:=by kernel_rfl
 i85:=by kernel_rfl
 i127:=by kernel_rfl
 i143:=by kernel_rfl
 i145:=by kernel_rfl
 i167:=by kernel_rfl
 i168:=by kernel_rfl
 i171:=by kernel_rfl
 i173:=by kernel_rfl
 i175:=by kernel_rfl
 i210:=by kernel_rfl
 i212:=by kernel_rfl
 i232:=by kernel_rfl
 i233:=by kernel_rfl
 m15:=by kernel_rfl
 m16:=by kernel_rfl
 m17:=by kernel_rfl
 m18:=by kernel_rfl
 m19:=by kernel_rfl
 c0:=by kernel_rfl
 c2:=by kernel_rfl
 c3:=by kernel_rfl
 c4:=by kernel_rfl
 c5:=by kernel_rfl
 c9:=by kernel_rfl
 c20:=by kernel_rfl
 c21:=by kernel_rfl
 c37:=by kernel_rfl
 c46:=by kernel_rfl
 c51:=by kernel_rfl
 c53:=by kernel_rfl
 c75:=by kernel_rfl
 c80:=by kernel_rfl
 c85:=by kernel_rfl
 c127:=by kernel_rfl
 c143:=by kernel_rfl
 c145:=by kernel_rfl
 c167:=by kernel_rfl
 c168:=by kernel_rfl
 c171:=by kernel_rfl
 c173:=by kernel_rfl
 c175:=by kernel_rfl
 c210:=by kernel_rfl
 c212:=by kernel_rfl
 c213:=by kernel_rfl
 c232:=by kernel_rfl
 c233:=by kernel_rfl }
end Go.Proofs
open Go Go.AM Go.Proofs TK TR
set_option maxRecDepth 100000
namespace PA
theorem bytesWorld_grow (w:World) (e:TypeId) (t:ByteArray):w.heap.size≤(Lib.bytesWorld w e t).heap.size∧(Lib.bytesWorld w e t).os=w.os∧(Lib.bytesWorld w e t).output=w.output∧∀b,b<w.heap.size→(Lib.bytesWorld w e t).heap[b]?=w.heap[b]?:=by
 refine⟨by rw[Lib.bytesWorld_size];omega,?_,?_,fun b hb=>Lib.bytesWorld_at_old w e t b hb⟩
 ·unfold Lib.bytesWorld;generalize Lib.bytesCells w e t=cs;unfold World.freeze;repeat' split<;>rfl
 ·unfold Lib.bytesWorld;generalize Lib.bytesCells w e t=cs;unfold World.freeze;repeat' split<;>rfl
theorem pi_holds (ev:Value) (hev:ev=.nilIface∨∃te pe,ev=.iface te pe):PIC 2 [ev]:=by
 intro s hs hne;have hbody:hasBody Tryz.prog 93:=TK.body_of Tryz.func93 rfl (by rfl);refine⟨⟨hbody,rfl⟩,fun g w us hh hbn hlen hrel=>?_⟩
 match us,hlen with
 | [u1,u2,u3],_=>
 have r1:=(hrel 0 u1 _ rfl rfl).pv;have r2:=(hrel 1 u2 _ rfl rfl).pv;have r3:=(hrel 2 u3 _ rfl rfl).pv
 cases r1;cases r2;cases r3
 have hob:=hh.obj 1000000000 (.glob 2 [ev]) (hget_self ..)
 cases hob with
 |glob _ _ hgl=>
 obtain⟨hown,E,fr,hblk⟩:=hgl
 have fin:∀(w':World) (v:Value) (b:Bool),ifcOK b v→w.heap.size≤w'.heap.size→w'.os=w.os→w'.output=w.output→(∀b,b<w.heap.size→w'.heap[b]?=w.heap[b]?)→∀n:Int,
  ∃v0 g',Ending.returned (.tuple #[.int .i64 n,v])=Ending.returned v0∧VRel g' w' (domOf [(1000000000,AObj.glob 2 [ev])]) (some .ret) v0 (.tup [.p (.i .i64 n),.ifc b])∧HRel g' w' [(1000000000,AObj.glob 2 [ev])]∧(∀b ow,g'.own b=some ow→b<w'.heap.size)∧Ext g w g' w':=by
  intro w' v b hv h1 h2 h3 h4 n;refine⟨_,g,rfl,?_,glob_hrel hown ⟨E,fr,?_⟩,fun b ow ho=>Nat.lt_of_lt_of_le (hbn b ow ho) h1,ext_grown h1 h2 h3 h4⟩
  ·refine .tup _ [.int .i64 n,v] _ rfl ?_
   intro j x c hj hc
   match j with
   |0=>cases hj;cases hc;exact .p _ _ _ (.i _ _)
   |1=>cases hj;cases hc;exact .ifc _ _ _ hv
   |j+2=>simp at hj
  ·rw[h4 2 (Array.getElem?_eq_some_iff.1 hblk).1];exact hblk
 unfold numV;rcases hp:Lib.parseIntB 64 s.data.toList with v|_|_
 ·refine(Any.strconv_ParseInt_10_at64_ok Tryz.lays174 s (by omega) v hp w).mono ?_
  rintro e w' ⟨rfl,hw⟩;rcases hw with rfl|⟨t,rfl⟩
  ·exact fin w' .nilIface false rfl (Nat.le_refl _) rfl rfl (fun _ _=>rfl) v
  ·obtain⟨k1,k2,k3,k4⟩:=bytesWorld_grow w (Tryz.lays174_ren.t 5) t
   exact fin _ .nilIface false rfl k1 k2 k3 k4 v
 ·rw[hp]at hne;cases hne
 ·refine(Any.strconv_ParseInt_10_at64_range Tryz.lays174 s (by omega) hp ev w ?_ hev).mono ?_
  ·show w.cell? ⟨2,0,none⟩=some ev
   simp[World.cell?,hblk]
  ·rintro e w' ⟨N,rfl,_,_,hB⟩
   exact fin w' _ true ⟨_,_,rfl⟩ hB.size hB.os hB.output hB.block _
end PA
open Go Go.AM Go.Proofs TK TR
set_option maxRecDepth 100000
namespace PA
def zPg:List AV:=[.p (.s ⟨#[]⟩),.p (.i .i64 0),.nilS,.nilS,.nilS,.nilS,.nilS,.nilS]
theorem HRel.pushed {g:Gh} {w:World} {h:Heap} (hH:HRel g w h) (hbn:∀b ow,g.own b=some ow→b<w.heap.size) (ob:Obj) (hglob:∀l b vs,hget h l=some (.glob b vs)→True):HRel (g.new w.heap.size 0 none) (World.push w ob) h:=by
 have hp:∀b,b<w.heap.size→(g.new w.heap.size 0 none).pre b=g.pre b∧(g.new w.heap.size 0 none).own b=g.own b:=fun b hb=>by simp[Gh.new,Nat.ne_of_lt hb]
 have hd:∀l,domOf h l→domOf h l∧(g.new w.heap.size 0 none).ρ l=g.ρ l:=fun l hl=>⟨hl,rfl⟩
 refine⟨fun l o ho=>?_,fun l o ho hq=>?_,fun l o ho hq=>?_⟩
 ·have hdl:domOf h l:=by simp[domOf,ho]
  exact(hH.obj l o ho).push hp hd hbn hdl
 ·have this:=hH.own l o ho hq
  show(g.new w.heap.size 0 none).own (g.ρ l)=_;rw[(hp _ (hbn _ _ this)).2];exact this
 ·have this:=hH.own l o ho hq
  show(g.new w.heap.size 0 none).pre (g.ρ l)=_;rw[(hp _ (hbn _ _ this)).1];exact hH.pre l o ho hq
theorem catch_none (g:Gh) (w:World) (h:Heap) (p q r:Addr) (hH:HRel g w h) (hbn:∀b ow,g.own b=some ow→b<w.heap.size):
 CallsD Tryz.prog 42 #[.pointer (some p),.pointer (some q),.pointer (some r)] .returning w fun e u' w'=>e=.returned (.tuple #[])∧u'=.returning∧∃g',HRel g' w' h∧(∀l,g'.ρ l=g.ρ l)∧Ext g w g' w':=by
 refine(catch_idle p q r w).mono ?_;rintro e u' w' ⟨rfl,rfl,rfl⟩
 have hw:(w.alloc (.cells #[.int .i64 0] 148)).setCell ⟨w.heap.size,0,none⟩ (.int .i64 0)=World.push w (.cells #[.int .i64 0] 148 (0,0)):=by
  unfold World.setCell World.alloc World.push
  congr 1
  apply Array.ext_getElem?
  intro i;rw[Array.getElem?_modify]
  by_cases hi:w.heap.size=i
  ·subst hi;simp
  ·rw[if_neg hi]
 rw[hw];exact⟨rfl,rfl,g.new w.heap.size 0 none,HRel.pushed hH hbn _ (fun _ _ _ _=>trivial),fun _=>rfl,Ext.push (fun b hb=>by simp[Gh.new,Nat.ne_of_lt hb]) (fun a=>frozen_push a) (fun _ _=>rfl)⟩
end PA
