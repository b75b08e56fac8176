/- Contracts, and the law, for every input. No conditions. -/
import Derived.Test.YtdmopjgjhfhfdaaGreatDoorME9
import Derived.Test.YtdmopjgjhfhfdaaGreatDoorPRW
open Go Go.AM Go.Proofs TR
set_option maxRecDepth 100000
namespace Go.Proofs.YtdmopjgjhfhfdaaGreatDoor
theorem meanGone_pure (ev:Value) (hev:ev=.nilIface∨∃te pe,ev=.iface te pe) (xss:List (List PV)) (h:TPs Tryz.prog [3,3] xss):
 AMem Tryz.prog 8 (mkArgs Tryz.prog [3,3] xss) (PA.hE ev) (.p (.b true)) (PA.hE ev):=by
 cases h with
 |cons _ _ x0 _ h0 h=>
 cases h with
 |cons _ _ x1 _ h1 h=>
 cases h;obtain⟨a0,e0,_⟩:=tp_int (k:=.i64) (by kernel_rfl) h0;obtain⟨a1,e1,_⟩:=tp_int (k:=.i64) (by kernel_rfl) h1;subst e0;subst e1;have t0:aggT Tryz.prog 3=false:=by kernel_rfl
 have:=MN.gone_spec ev hev a0 a1;simpa only[mkArgs,mkArg,t0,Bool.false_eq_true,if_false,List.headD_cons] using this
set_option maxRecDepth 100000 in
theorem meanGone_reads (os:Os) {H:Type} (enc:TypeId×Value→H):∃places,DataW.whole enc Tryz.prog ((World.laidAll Tryz.prog os Rows.meanGoneRow.laid).forCall (fun _ _=>0) ⟨#[],#[.int .i64 0,.int .i64 0],[]⟩).memory Tryz.f8.params.toList Rows.meanGoneSpec.vars false (#[.int .i64 0,.int .i64 0]:Array Value).toList 8=some ([.lit (.int .i64 0),.lit (.int .i64 0)],[],places):=
 ⟨[],by kernel_rfl⟩
set_option maxRecDepth 100000 in
theorem meanGone_lifted (os:Os) (started:os.Started) (H:Type) (enc:TypeId×Value→H) (F:Stop.Interp):
 ReturnsInHanded {} Tryz.checked os 8 .any ((OpenSpec.ofChange Rows.meanGoneSpec).preRow enc Tryz.prog Tryz.f8 Rows.meanGoneRow.domain false Rows.meanGoneRow.laid) (((OpenSpec.ofChange Rows.meanGoneSpec).at F).post enc Tryz.prog Tryz.f8 false true false false):=by
 obtain⟨places,hx⟩:=meanGone_reads os enc
 refine returnsInHanded_of_row (C:=Tryz.checked) (s:=OpenSpec.ofChange Rows.meanGoneSpec) Tryz.own started (by kernel_rfl) Tryz.func8
  (witness_row_atRef (enc:=enc) (C:=Tryz.checked) false (World.laidAll Tryz.prog os Rows.meanGoneRow.laid) #[.int .i64 0,.int .i64 0] (World.laidAll_os _ _ _) (by kernel_rfl) (by kernel_rfl) (by kernel_rfl)
    (OpenSpec.preRow_of_cond 8 hx (by kernel_rfl) (fun k hk=>by cases hk) (by kernel_rfl) (laidMet_laidAll _ (by kernel_rfl) (by kernel_rfl)))) ?_
 intro W base args ds gs before hval0 hW _ hcond hsz0 hl _ _;obtain⟨ev,hev,hE2⟩:=errR_met hl (by simp[Rows.meanGoneRow])
 exact law_ofG (gh:=PA.hE ev) (P:=Tryz.prog) (F:=8) (fn:=Tryz.f8) (s:=Rows.meanGoneSpec) (tb:=4) [3,3] rfl (by kernel_rfl) (by kernel_rfl) (by kernel_rfl) (by kernel_rfl)
  (fun ds hds=>by match ds,hds with | [a,b],_=>exact⟨rfl,rfl,rfl⟩) W base args ds gs before hval0 hW hsz0 rfl (glob_hrel rfl hE2) (meanGone_pure ev hev)
theorem meanGone_said:Rows.MeanGoneSaid:=
 OpenClaim.holds_of_cond 8 Tryz.f8 rfl rfl rfl rfl rfl rfl rfl ⟨rfl,rfl,rfl,rfl,rfl⟩ rfl rfl rfl rfl rfl (by kernel_rfl) Tryz.func8 (by kernel_rfl)
  (of_decide_eq_true (by kernel_rfl)) (by unfold Func.isWrapper;first|(rw[if_pos (by decide +kernel)];kernel_rfl)|(rw[if_neg (by decide +kernel)];exact⟨rfl,rfl⟩))
  (fun os started H enc _ F=>by rw[OpenClaim.pre_eq_preRow];exact meanGone_lifted os started H enc F)
theorem meanGone_plain (f:FuncId) (fn:Func) (hf:Tryz.pinned.checked.prog.funcNamed "roadstead/roadkeep2.MeanGone"=some f) (hfn:Tryz.pinned.checked.prog.funcs[f]?=some fn):
 true=Tryz.pinned.checked.prog.looks []∧∀(j:Nat) t,fn.params[j]?=some t→Tryz.pinned.checked.prog.wantsStandIn t=false:=by
 obtain rfl:f=8:=Option.some.inj ((show Tryz.prog.funcNamed "roadstead/roadkeep2.MeanGone"=some 8 by kernel_rfl).symm.trans hf) |>.symm
 obtain rfl:fn=Tryz.f8:=(Option.some.inj (Tryz.func8.symm.trans hfn)).symm;refine⟨by kernel_rfl,fun j t ht=>?_⟩;rw[Tryz.params8]at ht;have:=Array.mem_of_getElem? ht;have hall:([3,3]:List Nat).all (fun t=>!(Tryz.pinned.checked.prog.wantsStandIn t))=true:=by kernel_rfl
 have hm:t∈([3,3]:List Nat):=by simpa using this
 have:=List.all_eq_true.1 hall t hm;simpa using this
theorem meanGone_holds:Rows.MeanGoneCardSaid:=
 Claim7.holds_tied_plain_at .later [] _ _ _ _ meanGone_said (fun _ h=>by cases h) (by kernel_rfl) (fun _ h=>by cases h) meanGone_row_tie rfl ⟨rfl,rfl⟩ (by kernel_rfl) rfl meanGone_plain (by kernel_rfl)
end Go.Proofs.YtdmopjgjhfhfdaaGreatDoor
