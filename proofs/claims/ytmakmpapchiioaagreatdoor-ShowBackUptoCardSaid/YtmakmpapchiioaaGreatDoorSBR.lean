/-
  DERIVED. Contracts of functions that the law reaches, and the law, for every input. No conditions.
-/
import Derived.Test.YtmakmpapchiioaaGreatDoorSX5
import Derived.Test.YtmakmpapchiioaaGreatDoorPRX
open Go Go.AM Go.Proofs TR
set_option maxRecDepth 100000
namespace Go.Proofs.YtmakmpapchiioaaGreatDoor
theorem back_pure (ev:Value) (hev:ev=.nilIface∨∃te pe,ev=.iface te pe) (xss:List (List PV)) (h:TPs Tryz.prog [30] xss) (hB:wtss xss≤1048576):
 AMem Tryz.prog 4 (mkArgs Tryz.prog [30] xss) (glob2H 0 SW.powL 2 [ev]) (.p (.b true)) (glob2H 0 SW.powL 2 [ev]):=by
 cases h with
 |cons _ _ x1 _ h1 h=>
 cases h
 obtain⟨p,e1,hr⟩:=decl_pg x1 h1
 have a1:aggT Tryz.prog 30=true:=by kernel_rfl
 have hw:wlPg p=PV.wts x1:=by rw[wlPg,←e1,PV.wt]
 simp only[wtss]at hB
 have:=SX.back_spec SW.itoa_spec ev hev p hr (by omega)
 simpa only[mkArgs,mkArg,a1,if_true,e1] using this
set_option maxRecDepth 100000 in
theorem showBack_reads (os:Os) {H:Type} (enc:TypeId×Value→H):∃places,DataW.whole enc Tryz.prog ((World.laidAll Tryz.prog os Rows.showBackUptoRow.laid).forCall (fun _ _=>0) ⟨#[],#[.agg #[.string .empty,.int .i64 0,.slice none 0 0,.slice none 0 0,.slice none 0 0,.slice none 0 0,.slice none 0 0,.slice none 0 0]],[]⟩).memory Tryz.f4.params.toList Rows.showBackSpec.vars false (#[.agg #[.string .empty,.int .i64 0,.slice none 0 0,.slice none 0 0,.slice none 0 0,.slice none 0 0,.slice none 0 0,.slice none 0 0]]:Array Value).toList 8=some ([.agg [.lit (.string []),.lit (.int .i64 0),.nil,.nil,.nil,.nil,.nil,.nil]],[],places):=
 ⟨[],by kernel_rfl⟩
set_option maxRecDepth 100000 in
theorem showBack_lifted (os:Os) (started:os.Started) (H:Type) (enc:TypeId×Value→H) (F:Stop.Interp):
 ReturnsInHanded {} Tryz.checked os 4 .any ((Rows.OpenSpec.upto Rows.showBackSpec).preRow enc Tryz.prog Tryz.f4 Rows.showBackUptoRow.domain false Rows.showBackUptoRow.laid) (((Rows.OpenSpec.upto Rows.showBackSpec).at F).post enc Tryz.prog Tryz.f4 false true false false):=by
 obtain⟨places,hx⟩:=showBack_reads os enc
 refine returnsInHanded_of_row (C:=Tryz.checked) (s:=Rows.OpenSpec.upto Rows.showBackSpec) Tryz.own started (by kernel_rfl) Tryz.func4
  (witness_row_atRef (enc:=enc) (C:=Tryz.checked) false (World.laidAll Tryz.prog os Rows.showBackUptoRow.laid) #[.agg #[.string .empty,.int .i64 0,.slice none 0 0,.slice none 0 0,.slice none 0 0,.slice none 0 0,.slice none 0 0,.slice none 0 0]] (World.laidAll_os _ _ _) (by kernel_rfl) (by kernel_rfl) (by kernel_rfl)
    (OpenSpec.preRow_of_cond 8 hx (by kernel_rfl) (fun k hk=>by cases hk;kernel_rfl) (by kernel_rfl) (laidMet_laidAll _ (by kernel_rfl) (by kernel_rfl)))) ?_
 intro W base args ds gs before hval0 hW _ hcond hsz0 hl _ _
 obtain⟨ev,hev,hE2⟩:=errR_met hl (by simp[Rows.showBackUptoRow])
 exact law_uptoG (gh:=glob2H 0 SW.powL 2 [ev]) (P:=Tryz.prog) (F:=4) (fn:=Tryz.f4) (s:=Rows.showBackSpec) (tb:=4) 1048576 [30] rfl (by kernel_rfl) (by kernel_rfl) (by kernel_rfl) (by kernel_rfl)
  (fun ds hds=>by match ds,hds with | [a],_=>exact⟨rfl,rfl,rfl⟩) W base args ds gs before hval0 hW hsz0 rfl (small_of (hcond _ rfl)) (glob2_hrel rfl rfl (pow_met hl (by simp[Rows.showBackUptoRow])) hE2) (back_pure ev hev)
theorem showBack_said:Rows.ShowBackUptoSaid:=
 OpenClaim.holds_of_cond 4 Tryz.f4 rfl rfl rfl rfl rfl rfl rfl ⟨rfl,rfl,rfl,rfl,rfl⟩ rfl rfl rfl rfl rfl (by kernel_rfl) Tryz.func4 (by kernel_rfl)
  (of_decide_eq_true (by kernel_rfl)) (by unfold Func.isWrapper;first|(rw[if_pos (by decide +kernel)];kernel_rfl)|(rw[if_neg (by decide +kernel)];exact⟨rfl,rfl⟩))
  (fun os started H enc _ F=>by rw[OpenClaim.pre_eq_preRow];exact showBack_lifted os started H enc F)
theorem showBack_plain (f:FuncId) (fn:Func) (hf:Tryz.pinned.checked.prog.funcNamed "roadstead/roadkeep2.ShowBack"=some f) (hfn:Tryz.pinned.checked.prog.funcs[f]?=some fn):
 true=Tryz.pinned.checked.prog.looks []∧∀(j:Nat) t,fn.params[j]?=some t→Tryz.pinned.checked.prog.wantsStandIn t=false:=by
 obtain rfl:f=4:=Option.some.inj ((show Tryz.prog.funcNamed "roadstead/roadkeep2.ShowBack"=some 4 by kernel_rfl).symm.trans hf) |>.symm
 obtain rfl:fn=Tryz.f4:=(Option.some.inj (Tryz.func4.symm.trans hfn)).symm
 refine⟨by kernel_rfl,fun j t ht=>?_⟩
 rw[Tryz.params4]at ht
 have:=Array.mem_of_getElem? ht
 have hall:([30]:List Nat).all (fun t=>!(Tryz.pinned.checked.prog.wantsStandIn t))=true:=by kernel_rfl
 have hm:t∈([30]:List Nat):=by simpa using this
 have:=List.all_eq_true.1 hall t hm
 simpa using this
theorem showBack_holds:Rows.ShowBackUptoCardSaid:=
 Claim7.holds_tied_plain_at .later [] _ _ _ _ showBack_said (fun _ h=>by cases h) (by kernel_rfl) (fun _ h=>by cases h) showBackUpto_row_tie rfl ⟨rfl,rfl⟩ (by kernel_rfl) rfl showBack_plain (by kernel_rfl)
end Go.Proofs.YtmakmpapchiioaaGreatDoor
