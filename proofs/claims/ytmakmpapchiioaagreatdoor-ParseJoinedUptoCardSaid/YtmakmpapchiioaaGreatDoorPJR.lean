/-
  DERIVED. Contracts of functions that the law reaches, and the law, for every input. No conditions.
-/
import Derived.Test.YtmakmpapchiioaaGreatDoorSX8
import Derived.Test.YtmakmpapchiioaaGreatDoorPRX
open Go Go.AM Go.Proofs TR
set_option maxRecDepth 100000
namespace Go.Proofs.YtmakmpapchiioaaGreatDoor
theorem joined_pure (ev:Value) (hev:ev=.nilIface∨∃te pe,ev=.iface te pe) (xss:List (List PV)) (h:TPs Tryz.prog [30,30] xss) (hB:wtss xss≤1048576):
 AMem Tryz.prog 6 (mkArgs Tryz.prog [30,30] xss) (glob2H 0 SW.powL 2 [ev]) (.p (.b true)) (glob2H 0 SW.powL 2 [ev]):=by
 cases h with
 |cons _ _ x1 _ h1 h=>
 cases h with
 |cons _ _ x2 _ h2 h=>
 cases h
 obtain⟨p,e1,hr1⟩:=decl_pg x1 h1
 obtain⟨q,e2,hr2⟩:=decl_pg x2 h2
 have a1:aggT Tryz.prog 30=true:=by kernel_rfl
 have hw1:wlPg p=PV.wts x1:=by rw[wlPg,←e1,PV.wt]
 have hw2:wlPg q=PV.wts x2:=by rw[wlPg,←e2,PV.wt]
 simp only[wtss]at hB
 have:=SX.joined_spec SW.itoa_spec ev hev p q hr1 hr2 (by omega)
 simpa only[mkArgs,mkArg,a1,if_true,e1,e2] using this
set_option maxRecDepth 100000 in
theorem parseJoined_reads (os:Os) {H:Type} (enc:TypeId×Value→H):∃places,DataW.whole enc Tryz.prog ((World.laidAll Tryz.prog os Rows.parseJoinedUptoRow.laid).forCall (fun _ _=>0) ⟨#[],#[.agg #[.string .empty,.int .i64 0,.slice none 0 0,.slice none 0 0,.slice none 0 0,.slice none 0 0,.slice none 0 0,.slice none 0 0],.agg #[.string .empty,.int .i64 0,.slice none 0 0,.slice none 0 0,.slice none 0 0,.slice none 0 0,.slice none 0 0,.slice none 0 0]],[]⟩).memory Tryz.f6.params.toList Rows.parseJoinedSpec.vars false (#[.agg #[.string .empty,.int .i64 0,.slice none 0 0,.slice none 0 0,.slice none 0 0,.slice none 0 0,.slice none 0 0,.slice none 0 0],.agg #[.string .empty,.int .i64 0,.slice none 0 0,.slice none 0 0,.slice none 0 0,.slice none 0 0,.slice none 0 0,.slice none 0 0]]:Array Value).toList 8=some ([.agg [.lit (.string []),.lit (.int .i64 0),.nil,.nil,.nil,.nil,.nil,.nil],.agg [.lit (.string []),.lit (.int .i64 0),.nil,.nil,.nil,.nil,.nil,.nil]],[],places):=
 ⟨[],by kernel_rfl⟩
set_option maxRecDepth 100000 in
theorem parseJoined_lifted (os:Os) (started:os.Started) (H:Type) (enc:TypeId×Value→H) (F:Stop.Interp):
 ReturnsInHanded {} Tryz.checked os 6 .any ((Rows.OpenSpec.upto Rows.parseJoinedSpec).preRow enc Tryz.prog Tryz.f6 Rows.parseJoinedUptoRow.domain false Rows.parseJoinedUptoRow.laid) (((Rows.OpenSpec.upto Rows.parseJoinedSpec).at F).post enc Tryz.prog Tryz.f6 false true false false):=by
 obtain⟨places,hx⟩:=parseJoined_reads os enc
 refine returnsInHanded_of_row (C:=Tryz.checked) (s:=Rows.OpenSpec.upto Rows.parseJoinedSpec) Tryz.own started (by kernel_rfl) Tryz.func6
  (witness_row_atRef (enc:=enc) (C:=Tryz.checked) false (World.laidAll Tryz.prog os Rows.parseJoinedUptoRow.laid) #[.agg #[.string .empty,.int .i64 0,.slice none 0 0,.slice none 0 0,.slice none 0 0,.slice none 0 0,.slice none 0 0,.slice none 0 0],.agg #[.string .empty,.int .i64 0,.slice none 0 0,.slice none 0 0,.slice none 0 0,.slice none 0 0,.slice none 0 0,.slice none 0 0]] (World.laidAll_os _ _ _) (by kernel_rfl) (by kernel_rfl) (by kernel_rfl)
    (OpenSpec.preRow_of_cond 8 hx (by kernel_rfl) (fun k hk=>by cases hk;kernel_rfl) (by kernel_rfl) (laidMet_laidAll _ (by kernel_rfl) (by kernel_rfl)))) ?_
 intro W base args ds gs before hval0 hW _ hcond hsz0 hl _ _
 obtain⟨ev,hev,hE2⟩:=errR_met hl (by simp[Rows.parseJoinedUptoRow])
 exact law_uptoG (gh:=glob2H 0 SW.powL 2 [ev]) (P:=Tryz.prog) (F:=6) (fn:=Tryz.f6) (s:=Rows.parseJoinedSpec) (tb:=4) 1048576 [30,30] rfl (by kernel_rfl) (by kernel_rfl) (by kernel_rfl) (by kernel_rfl)
  (fun ds hds=>by match ds,hds with | [a,b],_=>exact⟨rfl,rfl,rfl⟩) W base args ds gs before hval0 hW hsz0 rfl (small_of (hcond _ rfl)) (glob2_hrel rfl rfl (pow_met hl (by simp[Rows.parseJoinedUptoRow])) hE2) (joined_pure ev hev)
theorem parseJoined_said:Rows.ParseJoinedUptoSaid:=
 OpenClaim.holds_of_cond 6 Tryz.f6 rfl rfl rfl rfl rfl rfl rfl ⟨rfl,rfl,rfl,rfl,rfl⟩ rfl rfl rfl rfl rfl (by kernel_rfl) Tryz.func6 (by kernel_rfl)
  (of_decide_eq_true (by kernel_rfl)) (by unfold Func.isWrapper;first|(rw[if_pos (by decide +kernel)];kernel_rfl)|(rw[if_neg (by decide +kernel)];exact⟨rfl,rfl⟩))
  (fun os started H enc _ F=>by rw[OpenClaim.pre_eq_preRow];exact parseJoined_lifted os started H enc F)
theorem parseJoined_plain (f:FuncId) (fn:Func) (hf:Tryz.pinned.checked.prog.funcNamed "roadstead/roadkeep2.ParseJoined"=some f) (hfn:Tryz.pinned.checked.prog.funcs[f]?=some fn):
 true=Tryz.pinned.checked.prog.looks []∧∀(j:Nat) t,fn.params[j]?=some t→Tryz.pinned.checked.prog.wantsStandIn t=false:=by
 obtain rfl:f=6:=Option.some.inj ((show Tryz.prog.funcNamed "roadstead/roadkeep2.ParseJoined"=some 6 by kernel_rfl).symm.trans hf) |>.symm
 obtain rfl:fn=Tryz.f6:=(Option.some.inj (Tryz.func6.symm.trans hfn)).symm
 refine⟨by kernel_rfl,fun j t ht=>?_⟩
 rw[Tryz.params6]at ht
 have:=Array.mem_of_getElem? ht
 have hall:([30,30]:List Nat).all (fun t=>!(Tryz.pinned.checked.prog.wantsStandIn t))=true:=by kernel_rfl
 have hm:t∈([30,30]:List Nat):=by simpa using this
 have:=List.all_eq_true.1 hall t hm
 simpa using this
theorem parseJoined_holds:Rows.ParseJoinedUptoCardSaid:=
 Claim7.holds_tied_plain_at .later [] _ _ _ _ parseJoined_said (fun _ h=>by cases h) (by kernel_rfl) (fun _ h=>by cases h) parseJoinedUpto_row_tie rfl ⟨rfl,rfl⟩ (by kernel_rfl) rfl parseJoined_plain (by kernel_rfl)
end Go.Proofs.YtmakmpapchiioaaGreatDoor
