/- Contracts, and the law, for every input. No conditions. -/
import Derived.Test.YtldppkdekklpkaaGreatDoorTS2
import Derived.Test.YtldppkdekklpkaaGreatDoorTOC
set_option linter.all false
open Go Go.AM Go.Proofs TR
set_option maxRecDepth 100000
namespace Go.Proofs.YtldppkdekklpkaaGreatDoor
theorem traitOne_pure (ev:Value) (hev:ev=.nilIface∨∃te pe,ev=.iface te pe) (xss:List (List PV)) (h:TPs Tryz.prog [29,32] xss) (hB:wtss xss≤1048576):
 AMem Tryz.prog 3 (mkArgs Tryz.prog [29,32] xss) (PA.hE ev) (.p (.b true)) (PA.hE ev):=by
 cases h with
 |cons _ _ x0 _ h0 h=>
 cases h with
 |cons _ _ x1 _ h1 h=>
 cases h;obtain⟨p,e0,_⟩:=decl_pg x0 h0;obtain⟨t,e1,_⟩:=dec_ty _ x1 (Nat.lt_succ_self _) h1;have t0:aggT Tryz.prog 29=true:=by kernel_rfl
 have t1:aggT Tryz.prog 32=true:=by kernel_rfl
 have hw:wlPg p=PV.wts x0:=by rw[wlPg,←e0,PV.wt]
 simp only[wtss]at hB;have:=TR.TO.law_spec ev hev p (by omega) t;simpa only[mkArgs,mkArg,t0,t1,if_true,e0,e1] using this
set_option maxRecDepth 100000 in
theorem traitOne_reads (os:Os) {H:Type} (enc:TypeId×Value→H):∃places,DataW.whole enc Tryz.prog ((World.laidAll Tryz.prog os Rows.traitOneUptoRow.laid).forCall (fun _ _=>0) ⟨#[],#[.agg #[.string .empty,.int .i64 0,.slice none 0 0,.slice none 0 0,.slice none 0 0,.slice none 0 0,.slice none 0 0,.slice none 0 0],.agg #[.int .i64 0,.string .empty,.slice none 0 0]],[]⟩).memory Tryz.f3.params.toList Rows.traitOneSpec.vars false (#[.agg #[.string .empty,.int .i64 0,.slice none 0 0,.slice none 0 0,.slice none 0 0,.slice none 0 0,.slice none 0 0,.slice none 0 0],.agg #[.int .i64 0,.string .empty,.slice none 0 0]]:Array Value).toList 8=some ([.agg [.lit (.string []),.lit (.int .i64 0),.nil,.nil,.nil,.nil,.nil,.nil],.agg [.lit (.int .i64 0),.lit (.string []),.nil]],[],places):=
 ⟨[],by kernel_rfl⟩
set_option maxRecDepth 100000 in
theorem traitOne_lifted (os:Os) (started:os.Started) (H:Type) (enc:TypeId×Value→H) (F:Stop.Interp):
 ReturnsInHanded {} Tryz.checked os 3 .any ((Rows.OpenSpec.upto Rows.traitOneSpec).preRow enc Tryz.prog Tryz.f3 Rows.traitOneUptoRow.domain false Rows.traitOneUptoRow.laid) (((Rows.OpenSpec.upto Rows.traitOneSpec).at F).post enc Tryz.prog Tryz.f3 false true false false):=by
 obtain⟨places,hx⟩:=traitOne_reads os enc
 refine returnsInHanded_of_row (C:=Tryz.checked) (s:=Rows.OpenSpec.upto Rows.traitOneSpec) Tryz.own started (by kernel_rfl) Tryz.func3
  (witness_row_atRef (enc:=enc) (C:=Tryz.checked) false (World.laidAll Tryz.prog os Rows.traitOneUptoRow.laid) #[.agg #[.string .empty,.int .i64 0,.slice none 0 0,.slice none 0 0,.slice none 0 0,.slice none 0 0,.slice none 0 0,.slice none 0 0],.agg #[.int .i64 0,.string .empty,.slice none 0 0]] (World.laidAll_os _ _ _) (by kernel_rfl) (by kernel_rfl) (by kernel_rfl)
    (OpenSpec.preRow_of_cond 8 hx (by kernel_rfl) (fun k hk=>by cases hk;kernel_rfl) (by kernel_rfl) (laidMet_laidAll _ (by kernel_rfl) (by kernel_rfl)))) ?_
 intro W base args ds gs before hval0 hW _ hcond hsz0 hl _ _;obtain⟨ev,hev,hE2⟩:=errR_met hl (by simp[Rows.traitOneUptoRow])
 exact law_uptoG (gh:=PA.hE ev) (P:=Tryz.prog) (F:=3) (fn:=Tryz.f3) (s:=Rows.traitOneSpec) (tb:=4) 1048576 [29,32] rfl (by kernel_rfl) (by kernel_rfl) (by kernel_rfl) (by kernel_rfl)
  (fun ds hds=>by match ds,hds with | [a,b],_=>exact⟨rfl,rfl,rfl⟩) W base args ds gs before hval0 hW hsz0 rfl (small_of (hcond _ rfl)) (glob_hrel rfl hE2) (traitOne_pure ev hev)
theorem traitOne_f1:(Rows.traitOneUptoRow.inPlace==Tryz.pinned.checked.prog.inPlace 3)=true:=by kernel_rfl
theorem traitOne_f2:(Rows.traitOneUptoRow.unfollowed==Tryz.pinned.checked.prog.unfollowed 3)=true:=by kernel_rfl
theorem traitOne_f3:(Rows.traitOneUptoRow.recurses==Tryz.pinned.checked.prog.recurses 3)=true:=by kernel_rfl
theorem traitOne_f4:(Rows.traitOneUptoRow.named==Tryz.pinned.checked.prog.varsNamed 3)=true:=by kernel_rfl
theorem traitOne_f5:joinedFacts Tryz.pinned.checked.prog 3 Tryz.f3 (Rows.OpenSpec.upto Rows.traitOneSpec).bare Rows.traitOneUptoRow=true:=by
 unfold joinedFacts;rw[traitOne_f1,traitOne_f2,traitOne_f3,traitOne_f4]
 kernel_rfl
theorem traitOne_said:Rows.TraitOneUptoSaid:=
 OpenClaim.holds_of_cond 3 Tryz.f3 rfl rfl rfl rfl rfl rfl rfl ⟨rfl,rfl,rfl,rfl,rfl⟩ rfl rfl rfl rfl rfl (by kernel_rfl) Tryz.func3 traitOne_f5
  (of_decide_eq_true (by kernel_rfl)) (by unfold Func.isWrapper;first|(rw[if_pos (by decide +kernel)];kernel_rfl)|(rw[if_neg (by decide +kernel)];exact⟨rfl,rfl⟩))
  (fun os started H enc _ F=>by rw[OpenClaim.pre_eq_preRow];exact traitOne_lifted os started H enc F)
theorem traitOne_plain (f:FuncId) (fn:Func) (hf:Tryz.pinned.checked.prog.funcNamed "roadstead/roadkeep2.TraitOne"=some f) (hfn:Tryz.pinned.checked.prog.funcs[f]?=some fn):
 true=Tryz.pinned.checked.prog.looks []∧∀(j:Nat) t,fn.params[j]?=some t→Tryz.pinned.checked.prog.wantsStandIn t=false:=by
 obtain rfl:f=3:=Option.some.inj ((show Tryz.prog.funcNamed "roadstead/roadkeep2.TraitOne"=some 3 by kernel_rfl).symm.trans hf) |>.symm
 obtain rfl:fn=Tryz.f3:=(Option.some.inj (Tryz.func3.symm.trans hfn)).symm;refine⟨by kernel_rfl,fun j t ht=>?_⟩;rw[Tryz.params3]at ht;have:=Array.mem_of_getElem? ht;have hall:([29,32]:List Nat).all (fun t=>!(Tryz.pinned.checked.prog.wantsStandIn t))=true:=by kernel_rfl
 have hm:t∈([29,32]:List Nat):=by simpa using this
 have:=List.all_eq_true.1 hall t hm;simpa using this
theorem traitOne_holds:Rows.TraitOneUptoCardSaid:=
 Claim7.holds_tied_plain_at .later [] _ _ _ _ traitOne_said (fun _ h=>by cases h) (by kernel_rfl) (fun _ h=>by cases h) traitOneUpto_row_tie rfl ⟨rfl,rfl⟩ (by kernel_rfl) rfl traitOne_plain (by kernel_rfl)
end Go.Proofs.YtldppkdekklpkaaGreatDoor
