/- Contracts, and the law, for every input. No conditions. -/
import Derived.Test.YtdmopjgjhfhfdaaGreatDoorRMX
set_option linter.all false
open Go Go.AM Go.Proofs TR
set_option maxRecDepth 100000
namespace Go.Proofs.YtdmopjgjhfhfdaaGreatDoor
theorem zH (ev:Value) (hev:ev=.nilIface∨∃te pe,ev=.iface te pe) (xss:List (List PV)) (h:Nh Tryz.prog [30,9,37,44,44,49] xss) (hB:Dx xss≤1048576):
 av Tryz.prog 7 (mG Tryz.prog [30,9,37,44,44,49] xss) (PA.hE ev) (.p (.b true)) (PA.hE ev):=by
 cases h with
 |cons _ _ x0 _ h0 h=>
 cases h with
 |cons _ _ x1 _ h1 h=>
 cases h with
 |cons _ _ x2 _ h2 h=>
 cases h with
 |cons _ _ x3 _ h3 h=>
 cases h with
 |cons _ _ x4 _ h4 h=>
 cases h with
 |cons _ _ x5 _ h5 h=>
 cases h;obtain⟨p,e0,_⟩:=Lb x0 h0;obtain⟨nm,e1,_⟩:=iw (by kernel_rfl) h1;obtain⟨st,e2⟩:=L9 h2;obtain⟨f3,e3⟩:=Ec h3;obtain⟨f4,e4⟩:=Ec h4;obtain⟨l5,e5⟩:=Kj h5;have t0:mU Tryz.prog 44=false:=by kernel_rfl
 have t1:mU Tryz.prog 30=true:=by kernel_rfl
 have t2:mU Tryz.prog 9=false:=by kernel_rfl
 have t3:mU Tryz.prog 49=false:=by kernel_rfl
 have t4:mU Tryz.prog 37=false:=by kernel_rfl
 have hw:uY p=PV.cH x0:=by rw[uY,←e0,PV.wt]
 subst e1;subst e2;subst e3;subst e4;subst e5;simp only[Dx,PV.cH,PV.wt]at hB;have g3:=qN MN.mz (fun x=>by simp only[MN.mz,PV.wt];omega) f3;have g4:=qN MN.mz (fun x=>by simp only[MN.mz,PV.wt];omega) f4;have:=MN.zS ev hev p (by omega) nm st f3 f4 (by omega) (by omega) l5 (MZ (by omega) (by omega));simpa only[mG,mkArg,t0,t1,t2,t3,t4,if_true,Bool.false_eq_true,if_false,List.headD_cons,e0] using this
set_option maxRecDepth 100000 in
theorem yY (os:Os) {H:Type} (enc:TypeId×Value→H):∃places,DataW.whole enc Tryz.prog ((World.laidAll Tryz.prog os Rows.meanFuelUptoRow.laid).forCall (fun _ _=>0) ⟨#[],#[.agg #[.string .empty,.int .i64 0,.slice none 0 0,.slice none 0 0,.slice none 0 0,.slice none 0 0,.slice none 0 0,.slice none 0 0],.string .empty,.slice none 0 0,.slice none 0 0,.slice none 0 0,.slice none 0 0],[]⟩).memory Tryz.f7.params.toList Rows.meanFuelSpec.vars false (#[.agg #[.string .empty,.int .i64 0,.slice none 0 0,.slice none 0 0,.slice none 0 0,.slice none 0 0,.slice none 0 0,.slice none 0 0],.string .empty,.slice none 0 0,.slice none 0 0,.slice none 0 0,.slice none 0 0]:Array Value).toList 8=some ([.agg [.lit (.string []),.lit (.int .i64 0),.nil,.nil,.nil,.nil,.nil,.nil],.lit (.string []),.nil,.nil,.nil,.nil],[],places):=
 ⟨[],by kernel_rfl⟩
set_option maxRecDepth 100000 in
theorem vZ (os:Os) (started:os.Started) (H:Type) (enc:TypeId×Value→H) (F:Stop.Interp):
 ReturnsInHanded {} Tryz.checked os 7 .any ((Rows.OpenSpec.upto Rows.meanFuelSpec).preRow enc Tryz.prog Tryz.f7 Rows.meanFuelUptoRow.domain false Rows.meanFuelUptoRow.laid) (((Rows.OpenSpec.upto Rows.meanFuelSpec).at F).post enc Tryz.prog Tryz.f7 false true false false):=by
 obtain⟨places,hx⟩:=yY os enc
 refine returnsInHanded_of_row (C:=Tryz.checked) (s:=Rows.OpenSpec.upto Rows.meanFuelSpec) Tryz.own started (by kernel_rfl) Tryz.func7
  (witness_row_atRef (enc:=enc) (C:=Tryz.checked) false (World.laidAll Tryz.prog os Rows.meanFuelUptoRow.laid) #[.agg #[.string .empty,.int .i64 0,.slice none 0 0,.slice none 0 0,.slice none 0 0,.slice none 0 0,.slice none 0 0,.slice none 0 0],.string .empty,.slice none 0 0,.slice none 0 0,.slice none 0 0,.slice none 0 0] (World.laidAll_os _ _ _) (by kernel_rfl) (by kernel_rfl) (by kernel_rfl)
    (OpenSpec.preRow_of_cond 8 hx (by kernel_rfl) (fun k hk=>by cases hk;kernel_rfl) (by kernel_rfl) (laidMet_laidAll _ (by kernel_rfl) (by kernel_rfl)))) ?_
 intro W base args ds gs before hval0 hW _ hcond hsz0 hl _ _;obtain⟨ev,hev,hE2⟩:=Jm hl (by simp[Rows.meanFuelUptoRow])
 exact Ii (gh:=PA.hE ev) (P:=Tryz.prog) (F:=7) (fn:=Tryz.f7) (s:=Rows.meanFuelSpec) (tb:=4) 1048576 [30,9,37,44,44,49] rfl (by kernel_rfl) (by kernel_rfl) (by kernel_rfl) (by kernel_rfl)
  (fun ds hds=>by match ds,hds with | [a,b,c,d,e,f],_=>exact⟨rfl,rfl,rfl⟩) W base args ds gs before hval0 hW hsz0 rfl (I0 (hcond _ rfl)) (Au rfl hE2) (zH ev hev)
theorem CQ:(Rows.meanFuelUptoRow.inPlace==Tryz.pinned.checked.prog.inPlace 7)=true:=by kernel_rfl
theorem Cq:(Rows.meanFuelUptoRow.unfollowed==Tryz.pinned.checked.prog.unfollowed 7)=true:=by kernel_rfl
theorem Dz:(Rows.meanFuelUptoRow.recurses==Tryz.pinned.checked.prog.recurses 7)=true:=by kernel_rfl
theorem DD:(Rows.meanFuelUptoRow.named==Tryz.pinned.checked.prog.varsNamed 7)=true:=by kernel_rfl
theorem Cx:joinedFacts Tryz.pinned.checked.prog 7 Tryz.f7 (Rows.OpenSpec.upto Rows.meanFuelSpec).bare Rows.meanFuelUptoRow=true:=by
 unfold joinedFacts;rw[CQ,Cq,Dz,DD]
 kernel_rfl
theorem zA:Rows.MeanFuelUptoSaid:=
 OpenClaim.holds_of_cond 7 Tryz.f7 rfl rfl rfl rfl rfl rfl rfl ⟨rfl,rfl,rfl,rfl,rfl⟩ rfl rfl rfl rfl rfl (by kernel_rfl) Tryz.func7 Cx
  (of_decide_eq_true (by kernel_rfl)) (by unfold Func.isWrapper;first|(rw[if_pos (by decide +kernel)];kernel_rfl)|(rw[if_neg (by decide +kernel)];exact⟨rfl,rfl⟩))
  (fun os started H enc _ F=>by rw[OpenClaim.pre_eq_preRow];exact vZ os started H enc F)
theorem yj (f:FuncId) (fn:Func) (hf:Tryz.pinned.checked.prog.funcNamed "roadstead/roadkeep2.MeanFuel"=some f) (hfn:Tryz.pinned.checked.prog.funcs[f]?=some fn):
 true=Tryz.pinned.checked.prog.looks []∧∀(j:Nat) t,fn.params[j]?=some t→Tryz.pinned.checked.prog.wantsStandIn t=false:=by
 obtain rfl:f=7:=Option.some.inj ((show Tryz.prog.funcNamed "roadstead/roadkeep2.MeanFuel"=some 7 by kernel_rfl).symm.trans hf) |>.symm
 obtain rfl:fn=Tryz.f7:=(Option.some.inj (Tryz.func7.symm.trans hfn)).symm;refine⟨by kernel_rfl,fun j t ht=>?_⟩;rw[Tryz.params7]at ht;have:=Array.mem_of_getElem? ht;have hall:([30,9,37,44,44,49]:List Nat).all (fun t=>!(Tryz.pinned.checked.prog.wantsStandIn t))=true:=by kernel_rfl
 have hm:t∈([30,9,37,44,44,49]:List Nat):=by simpa using this
 have:=List.all_eq_true.1 hall t hm;simpa using this
theorem meanFuel_holds:Rows.MeanFuelUptoCardSaid:=
 Claim7.holds_tied_plain_at .later [] _ _ _ _ zA (fun _ h=>by cases h) (by kernel_rfl) (fun _ h=>by cases h) meanFuelUpto_row_tie rfl ⟨rfl,rfl⟩ (by kernel_rfl) rfl yj (by kernel_rfl)
end Go.Proofs.YtdmopjgjhfhfdaaGreatDoor
