/-
  DERIVED. Contracts, and the law, for every input. No conditions.
-/
import Derived.Test.YtdmopjgjhfhfdaaGreatDoorME1
import Derived.Test.YtdmopjgjhfhfdaaGreatDoorPRW
open Go Go.AM Go.Proofs TR
set_option maxRecDepth 100000
namespace Go.Proofs.YtdmopjgjhfhfdaaGreatDoor
theorem dec_int (y:List PV) (h:TP Tryz.prog 3 y):∃k:Int,y=[.i .i64 k]:=by
 obtain⟨m,e,_⟩:=tp_int (k:=.i64) (by kernel_rfl) h;exact⟨m,e⟩
theorem dec_bool (y:List PV) (h:TP Tryz.prog 4 y):∃k:Bool,y=[.b k]:=tp_bool (by kernel_rfl) h
theorem meanCells_pure (ev:Value) (hev:ev=.nilIface∨∃te pe,ev=.iface te pe) (xss:List (List PV)) (h:TPs Tryz.prog [3,3,4] xss):
 AMem Tryz.prog 3 (mkArgs Tryz.prog [3,3,4] xss) (PA.hE ev) (.p (.b true)) (PA.hE ev):=by
 cases h with
 |cons _ _ x1 _ h1 h=>
 cases h with
 |cons _ _ x2 _ h2 h=>
 cases h with
 |cons _ _ x3 _ h3 h=>
 cases h;obtain⟨a,e1⟩:=dec_int x1 h1;obtain⟨b,e2⟩:=dec_int x2 h2;obtain⟨c,e3⟩:=dec_bool x3 h3;subst e1;subst e2;subst e3;have a1:aggT Tryz.prog 3=false:=by kernel_rfl
 have a2:aggT Tryz.prog 4=false:=by kernel_rfl
 have:=MN.cells_spec ev hev a b c;simpa only[mkArgs,mkArg,a1,a2,Bool.false_eq_true,if_false,List.headD_cons] using this
set_option maxRecDepth 100000 in
theorem meanCells_reads (os:Os) {H:Type} (enc:TypeId×Value→H):∃places,DataW.whole enc Tryz.prog ((World.laidAll Tryz.prog os Rows.meanCellsRow.laid).forCall (fun _ _=>0) ⟨#[],#[.int .i64 0,.int .i64 0,.bool false],[]⟩).memory Tryz.f3.params.toList Rows.meanCellsSpec.vars false (#[.int .i64 0,.int .i64 0,.bool false]:Array Value).toList 8=some ([.lit (.int .i64 0),.lit (.int .i64 0),.lit (.bool false)],[],places):=
 ⟨[],by kernel_rfl⟩
set_option maxRecDepth 100000 in
theorem meanCells_lifted (os:Os) (started:os.Started) (H:Type) (enc:TypeId×Value→H) (F:Stop.Interp):
 ReturnsInHanded {} Tryz.checked os 3 .any ((OpenSpec.ofChange Rows.meanCellsSpec).preRow enc Tryz.prog Tryz.f3 Rows.meanCellsRow.domain false Rows.meanCellsRow.laid) (((OpenSpec.ofChange Rows.meanCellsSpec).at F).post enc Tryz.prog Tryz.f3 false true false false):=by
 obtain⟨places,hx⟩:=meanCells_reads os enc
 refine returnsInHanded_of_row (C:=Tryz.checked) (s:=OpenSpec.ofChange Rows.meanCellsSpec) Tryz.own started (by kernel_rfl) Tryz.func3
  (witness_row_atRef (enc:=enc) (C:=Tryz.checked) false (World.laidAll Tryz.prog os Rows.meanCellsRow.laid) #[.int .i64 0,.int .i64 0,.bool false] (World.laidAll_os _ _ _) (by kernel_rfl) (by kernel_rfl) (by kernel_rfl)
    (OpenSpec.preRow_of_cond 8 hx (by kernel_rfl) (fun k hk=>by cases hk) (by kernel_rfl) (laidMet_laidAll _ (by kernel_rfl) (by kernel_rfl)))) ?_
 intro W base args ds gs before hval0 hW _ hcond hsz0 hl _ _;obtain⟨ev,hev,hE2⟩:=errR_met hl (by simp[Rows.meanCellsRow])
 exact law_ofG (gh:=PA.hE ev) (P:=Tryz.prog) (F:=3) (fn:=Tryz.f3) (s:=Rows.meanCellsSpec) (tb:=4) [3,3,4] rfl (by kernel_rfl) (by kernel_rfl) (by kernel_rfl) (by kernel_rfl)
  (fun ds hds=>by match ds,hds with | [a,b,c],_=>exact⟨rfl,rfl,rfl⟩) W base args ds gs before hval0 hW hsz0 rfl (glob_hrel rfl hE2) (meanCells_pure ev hev)
theorem meanCells_said:Rows.MeanCellsSaid:=
 OpenClaim.holds_of_cond 3 Tryz.f3 rfl rfl rfl rfl rfl rfl rfl ⟨rfl,rfl,rfl,rfl,rfl⟩ rfl rfl rfl rfl rfl (by kernel_rfl) Tryz.func3 (by kernel_rfl)
  (of_decide_eq_true (by kernel_rfl)) (by unfold Func.isWrapper;first|(rw[if_pos (by decide +kernel)];kernel_rfl)|(rw[if_neg (by decide +kernel)];exact⟨rfl,rfl⟩))
  (fun os started H enc _ F=>by rw[OpenClaim.pre_eq_preRow];exact meanCells_lifted os started H enc F)
theorem meanCells_plain (f:FuncId) (fn:Func) (hf:Tryz.pinned.checked.prog.funcNamed "roadstead/roadkeep2.MeanCells"=some f) (hfn:Tryz.pinned.checked.prog.funcs[f]?=some fn):
 true=Tryz.pinned.checked.prog.looks []∧∀(j:Nat) t,fn.params[j]?=some t→Tryz.pinned.checked.prog.wantsStandIn t=false:=by
 obtain rfl:f=3:=Option.some.inj ((show Tryz.prog.funcNamed "roadstead/roadkeep2.MeanCells"=some 3 by kernel_rfl).symm.trans hf) |>.symm
 obtain rfl:fn=Tryz.f3:=(Option.some.inj (Tryz.func3.symm.trans hfn)).symm;refine⟨by kernel_rfl,fun j t ht=>?_⟩;rw[Tryz.params3]at ht;have:=Array.mem_of_getElem? ht;have hall:([3,3,4]:List Nat).all (fun t=>!(Tryz.pinned.checked.prog.wantsStandIn t))=true:=by kernel_rfl
 have hm:t∈([3,3,4]:List Nat):=by simpa using this
 have:=List.all_eq_true.1 hall t hm;simpa using this
theorem meanCells_holds:Rows.MeanCellsCardSaid:=
 Claim7.holds_tied_plain_at .later [] _ _ _ _ meanCells_said (fun _ h=>by cases h) (by kernel_rfl) (fun _ h=>by cases h) meanCells_row_tie rfl ⟨rfl,rfl⟩ (by kernel_rfl) rfl meanCells_plain (by kernel_rfl)
end Go.Proofs.YtdmopjgjhfhfdaaGreatDoor
