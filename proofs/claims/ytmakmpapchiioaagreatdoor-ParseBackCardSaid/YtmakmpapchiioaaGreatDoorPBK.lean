/-
  DERIVED. Contracts of functions that the law reaches, and the law, for every input. No conditions.
-/
import Derived.Test.YtmakmpapchiioaaGreatDoorSX7
import Derived.Test.YtmakmpapchiioaaGreatDoorPRX
open Go Go.AM Go.Proofs TR
set_option maxRecDepth 100000
namespace Go.Proofs.YtmakmpapchiioaaGreatDoor
theorem pback_pure (ev:Value) (hev:ev=.nilIface∨∃te pe,ev=.iface te pe) (xss:List (List PV)) (h:TPs Tryz.prog [9] xss):
 AMem Tryz.prog 5 (mkArgs Tryz.prog [9] xss) (glob2H 0 SW.powL 2 [ev]) (.p (.b true)) (glob2H 0 SW.powL 2 [ev]):=by
 cases h with
 |cons _ _ x1 _ h1 h=>
 cases h
 obtain⟨s,e1,b1⟩:=tp_str (by kernel_rfl) h1
 subst e1
 have a1:aggT Tryz.prog 9=false:=by kernel_rfl
 have:=SX.pback_spec SW.itoa_spec ev hev s.data.toList
 rw[←B_of]at this
 simpa only[mkArgs,mkArg,a1,Bool.false_eq_true,if_false,List.headD_cons] using this
set_option maxRecDepth 100000 in
theorem parseBack_reads (os:Os) {H:Type} (enc:TypeId×Value→H):∃places,DataW.whole enc Tryz.prog ((World.laidAll Tryz.prog os Rows.parseBackRow.laid).forCall (fun _ _=>0) ⟨#[],#[.string .empty],[]⟩).memory Tryz.f5.params.toList Rows.parseBackSpec.vars false (#[.string .empty]:Array Value).toList 8=some ([.lit (.string [])],[],places):=
 ⟨[],by kernel_rfl⟩
set_option maxRecDepth 100000 in
theorem parseBack_lifted (os:Os) (started:os.Started) (H:Type) (enc:TypeId×Value→H) (F:Stop.Interp):
 ReturnsInHanded {} Tryz.checked os 5 .any ((OpenSpec.ofChange Rows.parseBackSpec).preRow enc Tryz.prog Tryz.f5 Rows.parseBackRow.domain false Rows.parseBackRow.laid) (((OpenSpec.ofChange Rows.parseBackSpec).at F).post enc Tryz.prog Tryz.f5 false true false false):=by
 obtain⟨places,hx⟩:=parseBack_reads os enc
 refine returnsInHanded_of_row (C:=Tryz.checked) (s:=OpenSpec.ofChange Rows.parseBackSpec) Tryz.own started (by kernel_rfl) Tryz.func5
  (witness_row_atRef (enc:=enc) (C:=Tryz.checked) false (World.laidAll Tryz.prog os Rows.parseBackRow.laid) #[.string .empty] (World.laidAll_os _ _ _) (by kernel_rfl) (by kernel_rfl) (by kernel_rfl)
    (OpenSpec.preRow_of_cond 8 hx (by kernel_rfl) (fun k hk=>by cases hk) (by kernel_rfl) (laidMet_laidAll _ (by kernel_rfl) (by kernel_rfl)))) ?_
 intro W base args ds gs before hval0 hW _ hcond hsz0 hl _ _
 obtain⟨ev,hev,hE2⟩:=errR_met hl (by simp[Rows.parseBackRow])
 exact law_ofG (gh:=glob2H 0 SW.powL 2 [ev]) (P:=Tryz.prog) (F:=5) (fn:=Tryz.f5) (s:=Rows.parseBackSpec) (tb:=4) [9] rfl (by kernel_rfl) (by kernel_rfl) (by kernel_rfl) (by kernel_rfl)
  (fun ds hds=>by match ds,hds with | [a],_=>exact⟨rfl,rfl,rfl⟩) W base args ds gs before hval0 hW hsz0 rfl  (glob2_hrel rfl rfl (pow_met hl (by simp[Rows.parseBackRow])) hE2) (pback_pure ev hev)
theorem parseBack_said:Rows.ParseBackSaid:=
 OpenClaim.holds_of_cond 5 Tryz.f5 rfl rfl rfl rfl rfl rfl rfl ⟨rfl,rfl,rfl,rfl,rfl⟩ rfl rfl rfl rfl rfl (by kernel_rfl) Tryz.func5 (by kernel_rfl)
  (of_decide_eq_true (by kernel_rfl)) (by unfold Func.isWrapper;first|(rw[if_pos (by decide +kernel)];kernel_rfl)|(rw[if_neg (by decide +kernel)];exact⟨rfl,rfl⟩))
  (fun os started H enc _ F=>by rw[OpenClaim.pre_eq_preRow];exact parseBack_lifted os started H enc F)
theorem parseBack_plain (f:FuncId) (fn:Func) (hf:Tryz.pinned.checked.prog.funcNamed "roadstead/roadkeep2.ParseBack"=some f) (hfn:Tryz.pinned.checked.prog.funcs[f]?=some fn):
 true=Tryz.pinned.checked.prog.looks []∧∀(j:Nat) t,fn.params[j]?=some t→Tryz.pinned.checked.prog.wantsStandIn t=false:=by
 obtain rfl:f=5:=Option.some.inj ((show Tryz.prog.funcNamed "roadstead/roadkeep2.ParseBack"=some 5 by kernel_rfl).symm.trans hf) |>.symm
 obtain rfl:fn=Tryz.f5:=(Option.some.inj (Tryz.func5.symm.trans hfn)).symm
 refine⟨by kernel_rfl,fun j t ht=>?_⟩
 rw[Tryz.params5]at ht
 have:=Array.mem_of_getElem? ht
 have hall:([9]:List Nat).all (fun t=>!(Tryz.pinned.checked.prog.wantsStandIn t))=true:=by kernel_rfl
 have hm:t∈([9]:List Nat):=by simpa using this
 have:=List.all_eq_true.1 hall t hm
 simpa using this
theorem parseBack_holds:Rows.ParseBackCardSaid:=
 Claim7.holds_tied_plain_at .later [] _ _ _ _ parseBack_said (fun _ h=>by cases h) (by kernel_rfl) (fun _ h=>by cases h) parseBack_row_tie rfl ⟨rfl,rfl⟩ (by kernel_rfl) rfl parseBack_plain (by kernel_rfl)
end Go.Proofs.YtmakmpapchiioaaGreatDoor
