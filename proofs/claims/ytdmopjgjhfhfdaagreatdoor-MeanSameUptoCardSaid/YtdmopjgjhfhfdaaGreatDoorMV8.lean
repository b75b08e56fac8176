/- Contracts, and the law, for every input. No conditions. -/
import Derived.Test.YtdmopjgjhfhfdaaGreatDoorRMX
set_option linter.all false
open Go Go.AM Go.Proofs TR
set_option maxRecDepth 100000
namespace Go.Proofs.YtdmopjgjhfhfdaaGreatDoor
theorem zG (ev:Value) (hev:ev=.nilIface∨∃te pe,ev=.iface te pe) (xss:List (List PV)) (h:Np Tryz.prog [30,9,37,49] xss) (hB:DA xss≤1048576):
 av Tryz.prog 9 (mB Tryz.prog [30,9,37,49] xss) (PA.hE ev) (.p (.b true)) (PA.hE ev):=by
 cases h with
 |cons _ _ x0 _ h0 h=>
 cases h with
 |cons _ _ x1 _ h1 h=>
 cases h with
 |cons _ _ x2 _ h2 h=>
 cases h with
 |cons _ _ x3 _ h3 h=>
 cases h;obtain⟨p,e0,_⟩:=Ll x0 h0;obtain⟨nm,e1,_⟩:=gV (by kernel_rfl) h1;obtain⟨st,e2⟩:=Lj h2;obtain⟨l3,e3⟩:=Jz h3;have t0:ny Tryz.prog 30=true:=by kernel_rfl
 have t1:ny Tryz.prog 9=false:=by kernel_rfl
 have t2:ny Tryz.prog 49=false:=by kernel_rfl
 have t3:ny Tryz.prog 37=false:=by kernel_rfl
 have hw:uo p=PV.cG x0:=by rw[uo,←e0,PV.wt]
 subst e1;subst e2;subst e3;simp only[DA,PV.cG,PV.wt]at hB;have:=MN.zH ev hev p (by omega) nm st l3 (M4 (by omega) (by omega));simpa only[mB,mkArg,t0,t1,t2,t3,if_true,Bool.false_eq_true,if_false,List.headD_cons,e0] using this
set_option maxRecDepth 100000 in
theorem xy (os:Os) {H:Type} (enc:TypeId×Value→H):∃places,DataW.whole enc Tryz.prog ((World.laidAll Tryz.prog os Rows.meanSameUptoRow.laid).forCall (fun _ _=>0) ⟨#[],#[.agg #[.string .empty,.int .i64 0,.slice none 0 0,.slice none 0 0,.slice none 0 0,.slice none 0 0,.slice none 0 0,.slice none 0 0],.string .empty,.slice none 0 0,.slice none 0 0],[]⟩).memory Tryz.f9.params.toList Rows.meanSameSpec.vars false (#[.agg #[.string .empty,.int .i64 0,.slice none 0 0,.slice none 0 0,.slice none 0 0,.slice none 0 0,.slice none 0 0,.slice none 0 0],.string .empty,.slice none 0 0,.slice none 0 0]:Array Value).toList 8=some ([.agg [.lit (.string []),.lit (.int .i64 0),.nil,.nil,.nil,.nil,.nil,.nil],.lit (.string []),.nil,.nil],[],places):=
 ⟨[],by kernel_rfl⟩
set_option maxRecDepth 100000 in
theorem vH (os:Os) (started:os.Started) (H:Type) (enc:TypeId×Value→H) (F:Stop.Interp):
 ReturnsInHanded {} Tryz.checked os 9 .any ((Rows.OpenSpec.upto Rows.meanSameSpec).preRow enc Tryz.prog Tryz.f9 Rows.meanSameUptoRow.domain false Rows.meanSameUptoRow.laid) (((Rows.OpenSpec.upto Rows.meanSameSpec).at F).post enc Tryz.prog Tryz.f9 false true false false):=by
 obtain⟨places,hx⟩:=xy os enc
 refine returnsInHanded_of_row (C:=Tryz.checked) (s:=Rows.OpenSpec.upto Rows.meanSameSpec) Tryz.own started (by kernel_rfl) Tryz.func9
  (witness_row_atRef (enc:=enc) (C:=Tryz.checked) false (World.laidAll Tryz.prog os Rows.meanSameUptoRow.laid) #[.agg #[.string .empty,.int .i64 0,.slice none 0 0,.slice none 0 0,.slice none 0 0,.slice none 0 0,.slice none 0 0,.slice none 0 0],.string .empty,.slice none 0 0,.slice none 0 0] (World.laidAll_os _ _ _) (by kernel_rfl) (by kernel_rfl) (by kernel_rfl)
    (OpenSpec.preRow_of_cond 8 hx (by kernel_rfl) (fun k hk=>by cases hk;kernel_rfl) (by kernel_rfl) (laidMet_laidAll _ (by kernel_rfl) (by kernel_rfl)))) ?_
 intro W base args ds gs before hval0 hW _ hcond hsz0 hl _ _;obtain⟨ev,hev,hE2⟩:=I5 hl (by simp[Rows.meanSameUptoRow])
 exact Hy (gh:=PA.hE ev) (P:=Tryz.prog) (F:=9) (fn:=Tryz.f9) (s:=Rows.meanSameSpec) (tb:=4) 1048576 [30,9,37,49] rfl (by kernel_rfl) (by kernel_rfl) (by kernel_rfl) (by kernel_rfl)
  (fun ds hds=>by match ds,hds with | [a,b,c,d],_=>exact⟨rfl,rfl,rfl⟩) W base args ds gs before hval0 hW hsz0 rfl (I7 (hcond _ rfl)) (Ab rfl hE2) (zG ev hev)
theorem Co:(Rows.meanSameUptoRow.inPlace==Tryz.pinned.checked.prog.inPlace 9)=true:=by kernel_rfl
theorem DW:(Rows.meanSameUptoRow.unfollowed==Tryz.pinned.checked.prog.unfollowed 9)=true:=by kernel_rfl
theorem CK:(Rows.meanSameUptoRow.recurses==Tryz.pinned.checked.prog.recurses 9)=true:=by kernel_rfl
theorem DE:(Rows.meanSameUptoRow.named==Tryz.pinned.checked.prog.varsNamed 9)=true:=by kernel_rfl
theorem DF:joinedFacts Tryz.pinned.checked.prog 9 Tryz.f9 (Rows.OpenSpec.upto Rows.meanSameSpec).bare Rows.meanSameUptoRow=true:=by
 unfold joinedFacts;rw[Co,DW,CK,DE]
 kernel_rfl
theorem zA:Rows.MeanSameUptoSaid:=
 OpenClaim.holds_of_cond 9 Tryz.f9 rfl rfl rfl rfl rfl rfl rfl ⟨rfl,rfl,rfl,rfl,rfl⟩ rfl rfl rfl rfl rfl (by kernel_rfl) Tryz.func9 DF
  (of_decide_eq_true (by kernel_rfl)) (by unfold Func.isWrapper;first|(rw[if_pos (by decide +kernel)];kernel_rfl)|(rw[if_neg (by decide +kernel)];exact⟨rfl,rfl⟩))
  (fun os started H enc _ F=>by rw[OpenClaim.pre_eq_preRow];exact vH os started H enc F)
theorem zc (f:FuncId) (fn:Func) (hf:Tryz.pinned.checked.prog.funcNamed "roadstead/roadkeep2.MeanSame"=some f) (hfn:Tryz.pinned.checked.prog.funcs[f]?=some fn):
 true=Tryz.pinned.checked.prog.looks []∧∀(j:Nat) t,fn.params[j]?=some t→Tryz.pinned.checked.prog.wantsStandIn t=false:=by
 obtain rfl:f=9:=Option.some.inj ((show Tryz.prog.funcNamed "roadstead/roadkeep2.MeanSame"=some 9 by kernel_rfl).symm.trans hf) |>.symm
 obtain rfl:fn=Tryz.f9:=(Option.some.inj (Tryz.func9.symm.trans hfn)).symm;refine⟨by kernel_rfl,fun j t ht=>?_⟩;rw[Tryz.params9]at ht;have:=Array.mem_of_getElem? ht;have hall:([30,9,37,49]:List Nat).all (fun t=>!(Tryz.pinned.checked.prog.wantsStandIn t))=true:=by kernel_rfl
 have hm:t∈([30,9,37,49]:List Nat):=by simpa using this
 have:=List.all_eq_true.1 hall t hm;simpa using this
theorem meanSame_holds:Rows.MeanSameUptoCardSaid:=
 Claim7.holds_tied_plain_at .later [] _ _ _ _ zA (fun _ h=>by cases h) (by kernel_rfl) (fun _ h=>by cases h) meanSameUpto_row_tie rfl ⟨rfl,rfl⟩ (by kernel_rfl) rfl zc (by kernel_rfl)
end Go.Proofs.YtdmopjgjhfhfdaaGreatDoor
