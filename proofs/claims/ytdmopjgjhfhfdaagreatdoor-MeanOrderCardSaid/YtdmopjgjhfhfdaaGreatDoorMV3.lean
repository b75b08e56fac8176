/- Contracts, and the law, for every input. No conditions. -/
import Derived.Test.YtdmopjgjhfhfdaaGreatDoorME3
import Derived.Test.YtdmopjgjhfhfdaaGreatDoorPRW
open Go Go.AM Go.Proofs TR
set_option maxRecDepth 100000
namespace Go.Proofs.YtdmopjgjhfhfdaaGreatDoor
theorem meanOrder_pure (ev:Value) (hev:ev=.nilIface∨∃te pe,ev=.iface te pe) (xss:List (List PV)) (h:TPs Tryz.prog [4,4,4] xss):
 AMem Tryz.prog 4 (mkArgs Tryz.prog [4,4,4] xss) (PA.hE ev) (.p (.b true)) (PA.hE ev):=by
 cases h with
 |cons _ _ x0 _ h0 h=>
 cases h with
 |cons _ _ x1 _ h1 h=>
 cases h with
 |cons _ _ x2 _ h2 h=>
 cases h;obtain⟨a0,e0⟩:=tp_bool (by kernel_rfl) h0;obtain⟨a1,e1⟩:=tp_bool (by kernel_rfl) h1;obtain⟨a2,e2⟩:=tp_bool (by kernel_rfl) h2;subst e0;subst e1;subst e2;have t0:aggT Tryz.prog 4=false:=by kernel_rfl
 have:=MN.order_spec ev hev a0 a1 a2;simpa only[mkArgs,mkArg,t0,Bool.false_eq_true,if_false,List.headD_cons] using this
set_option maxRecDepth 100000 in
theorem meanOrder_reads (os:Os) {H:Type} (enc:TypeId×Value→H):∃places,DataW.whole enc Tryz.prog ((World.laidAll Tryz.prog os Rows.meanOrderRow.laid).forCall (fun _ _=>0) ⟨#[],#[.bool false,.bool false,.bool false],[]⟩).memory Tryz.f4.params.toList Rows.meanOrderSpec.vars false (#[.bool false,.bool false,.bool false]:Array Value).toList 8=some ([.lit (.bool false),.lit (.bool false),.lit (.bool false)],[],places):=
 ⟨[],by kernel_rfl⟩
set_option maxRecDepth 100000 in
theorem meanOrder_lifted (os:Os) (started:os.Started) (H:Type) (enc:TypeId×Value→H) (F:Stop.Interp):
 ReturnsInHanded {} Tryz.checked os 4 .any ((OpenSpec.ofChange Rows.meanOrderSpec).preRow enc Tryz.prog Tryz.f4 Rows.meanOrderRow.domain false Rows.meanOrderRow.laid) (((OpenSpec.ofChange Rows.meanOrderSpec).at F).post enc Tryz.prog Tryz.f4 false true false false):=by
 obtain⟨places,hx⟩:=meanOrder_reads os enc
 refine returnsInHanded_of_row (C:=Tryz.checked) (s:=OpenSpec.ofChange Rows.meanOrderSpec) Tryz.own started (by kernel_rfl) Tryz.func4
  (witness_row_atRef (enc:=enc) (C:=Tryz.checked) false (World.laidAll Tryz.prog os Rows.meanOrderRow.laid) #[.bool false,.bool false,.bool false] (World.laidAll_os _ _ _) (by kernel_rfl) (by kernel_rfl) (by kernel_rfl)
    (OpenSpec.preRow_of_cond 8 hx (by kernel_rfl) (fun k hk=>by cases hk) (by kernel_rfl) (laidMet_laidAll _ (by kernel_rfl) (by kernel_rfl)))) ?_
 intro W base args ds gs before hval0 hW _ hcond hsz0 hl _ _;obtain⟨ev,hev,hE2⟩:=errR_met hl (by simp[Rows.meanOrderRow])
 exact law_ofG (gh:=PA.hE ev) (P:=Tryz.prog) (F:=4) (fn:=Tryz.f4) (s:=Rows.meanOrderSpec) (tb:=4) [4,4,4] rfl (by kernel_rfl) (by kernel_rfl) (by kernel_rfl) (by kernel_rfl)
  (fun ds hds=>by match ds,hds with | [a,b,c],_=>exact⟨rfl,rfl,rfl⟩) W base args ds gs before hval0 hW hsz0 rfl (glob_hrel rfl hE2) (meanOrder_pure ev hev)
theorem meanOrder_said:Rows.MeanOrderSaid:=
 OpenClaim.holds_of_cond 4 Tryz.f4 rfl rfl rfl rfl rfl rfl rfl ⟨rfl,rfl,rfl,rfl,rfl⟩ rfl rfl rfl rfl rfl (by kernel_rfl) Tryz.func4 (by kernel_rfl)
  (of_decide_eq_true (by kernel_rfl)) (by unfold Func.isWrapper;first|(rw[if_pos (by decide +kernel)];kernel_rfl)|(rw[if_neg (by decide +kernel)];exact⟨rfl,rfl⟩))
  (fun os started H enc _ F=>by rw[OpenClaim.pre_eq_preRow];exact meanOrder_lifted os started H enc F)
theorem meanOrder_plain (f:FuncId) (fn:Func) (hf:Tryz.pinned.checked.prog.funcNamed "roadstead/roadkeep2.MeanOrder"=some f) (hfn:Tryz.pinned.checked.prog.funcs[f]?=some fn):
 true=Tryz.pinned.checked.prog.looks []∧∀(j:Nat) t,fn.params[j]?=some t→Tryz.pinned.checked.prog.wantsStandIn t=false:=by
 obtain rfl:f=4:=Option.some.inj ((show Tryz.prog.funcNamed "roadstead/roadkeep2.MeanOrder"=some 4 by kernel_rfl).symm.trans hf) |>.symm
 obtain rfl:fn=Tryz.f4:=(Option.some.inj (Tryz.func4.symm.trans hfn)).symm;refine⟨by kernel_rfl,fun j t ht=>?_⟩;rw[Tryz.params4]at ht;have:=Array.mem_of_getElem? ht;have hall:([4,4,4]:List Nat).all (fun t=>!(Tryz.pinned.checked.prog.wantsStandIn t))=true:=by kernel_rfl
 have hm:t∈([4,4,4]:List Nat):=by simpa using this
 have:=List.all_eq_true.1 hall t hm;simpa using this
theorem meanOrder_holds:Rows.MeanOrderCardSaid:=
 Claim7.holds_tied_plain_at .later [] _ _ _ _ meanOrder_said (fun _ h=>by cases h) (by kernel_rfl) (fun _ h=>by cases h) meanOrder_row_tie rfl ⟨rfl,rfl⟩ (by kernel_rfl) rfl meanOrder_plain (by kernel_rfl)
end Go.Proofs.YtdmopjgjhfhfdaaGreatDoor
