/-
  DERIVED. Contracts of functions that the law reaches, and the law, for every input. No conditions.
-/
import Derived.Test.YtndhaojhhmkfaaaGreatDoorCXD
import Derived.Test.YtndhaojhhmkfaaaGreatDoorPRW
open Go Go.AM Go.Proofs TR CV
set_option maxRecDepth 100000
namespace Go.Proofs.YtndhaojhhmkfaaaGreatDoor
theorem dec_int (y:PV) (h:TP Tryz.prog 3 [y]):∃k:Int,y=PV.i .i64 k∧R64 k:=by
 obtain⟨m,e,w⟩:=tp_int (k:=.i64) (by kernel_rfl) h
 cases e
 refine⟨m,rfl,?_⟩
 unfold R64
 have hmin:IntKind.i64.min=-9223372036854775808:=by kernel_rfl
 simpa[Lit.wf,hmin] using w
theorem dec_ints (x:List PV) (h:TP Tryz.prog 22 x):∃l:List Int,x=[.sl 1 (eI l)]∧(∀k∈l,R64 k)∧l.length≤20000000000000:=by
 obtain⟨l,e,hb,hq⟩:=tp_list1 (e:=3) (c:=1) (b:=8) (by kernel_rfl) h dec_int
 exact⟨l,e,hq,by omega⟩
theorem coverWhole_pure (ev:Value) (hev:ev=.nilIface∨∃te pe,ev=.iface te pe) (xss:List (List PV)) (h:TPs Tryz.prog [22] xss):
 AMem Tryz.prog 5 (mkArgs Tryz.prog [22] xss) (PA.hE ev) (.p (.b true)) (PA.hE ev):=by
 cases h with
 |cons _ _ x1 _ h1 h=>
 cases h
 obtain⟨ks,e1,hk,hkl⟩:=dec_ints x1 h1
 subst e1
 have a1:aggT Tryz.prog 22=false:=by kernel_rfl
 have a2:aggT Tryz.prog 3=false:=by kernel_rfl
 have:=CV.whole_spec ev hev ks hk hkl
 simpa only[mkArgs,mkArg,a1,a2,Bool.false_eq_true,if_false,List.headD_cons] using this
set_option maxRecDepth 100000 in
theorem coverWhole_reads (os:Os) {H:Type} (enc:TypeId×Value→H):∃places,DataW.whole enc Tryz.prog ((World.laidAll Tryz.prog os Rows.coverWholeRow.laid).forCall (fun _ _=>0) ⟨#[],#[.slice none 0 0],[]⟩).memory Tryz.f5.params.toList Rows.coverWholeSpec.vars false (#[.slice none 0 0]:Array Value).toList 8=some ([.nil],[],places):=
 ⟨[],by kernel_rfl⟩
set_option maxRecDepth 100000 in
theorem coverWhole_lifted (os:Os) (started:os.Started) (H:Type) (enc:TypeId×Value→H) (F:Stop.Interp):
 ReturnsInHanded {} Tryz.checked os 5 .any ((OpenSpec.ofChange Rows.coverWholeSpec).preRow enc Tryz.prog Tryz.f5 Rows.coverWholeRow.domain false Rows.coverWholeRow.laid) (((OpenSpec.ofChange Rows.coverWholeSpec).at F).post enc Tryz.prog Tryz.f5 false true false false):=by
 obtain⟨places,hx⟩:=coverWhole_reads os enc
 refine returnsInHanded_of_row (C:=Tryz.checked) (s:=OpenSpec.ofChange Rows.coverWholeSpec) Tryz.own started (by kernel_rfl) Tryz.func5
  (witness_row_atRef (enc:=enc) (C:=Tryz.checked) false (World.laidAll Tryz.prog os Rows.coverWholeRow.laid) #[.slice none 0 0] (World.laidAll_os _ _ _) (by kernel_rfl) (by kernel_rfl) (by kernel_rfl)
    (OpenSpec.preRow_of_cond 8 hx (by kernel_rfl) (fun k hk=>by cases hk) (by kernel_rfl) (laidMet_laidAll _ (by kernel_rfl) (by kernel_rfl)))) ?_
 intro W base args ds gs before hval0 hW _ hcond hsz0 hl _ _
 obtain⟨ev,hev,hE2⟩:=errR_met hl (by simp[Rows.coverWholeRow])
 exact law_ofG (gh:=PA.hE ev) (P:=Tryz.prog) (F:=5) (fn:=Tryz.f5) (s:=Rows.coverWholeSpec) (tb:=4) [22] rfl (by kernel_rfl) (by kernel_rfl) (by kernel_rfl) (by kernel_rfl)
  (fun ds hds=>by match ds,hds with | [a],_=>exact⟨rfl,rfl,rfl⟩) W base args ds gs before hval0 hW hsz0 rfl (glob_hrel rfl hE2) (coverWhole_pure ev hev)
theorem coverWhole_said:Rows.CoverWholeSaid:=
 OpenClaim.holds_of_cond 5 Tryz.f5 rfl rfl rfl rfl rfl rfl rfl ⟨rfl,rfl,rfl,rfl,rfl⟩ rfl rfl rfl rfl rfl (by kernel_rfl) Tryz.func5 (by kernel_rfl)
  (of_decide_eq_true (by kernel_rfl)) (by unfold Func.isWrapper;first|(rw[if_pos (by decide +kernel)];kernel_rfl)|(rw[if_neg (by decide +kernel)];exact⟨rfl,rfl⟩))
  (fun os started H enc _ F=>by rw[OpenClaim.pre_eq_preRow];exact coverWhole_lifted os started H enc F)
theorem coverWhole_plain (f:FuncId) (fn:Func) (hf:Tryz.pinned.checked.prog.funcNamed "roadstead/roadkeep2.CoverWhole"=some f) (hfn:Tryz.pinned.checked.prog.funcs[f]?=some fn):
 true=Tryz.pinned.checked.prog.looks []∧∀(j:Nat) t,fn.params[j]?=some t→Tryz.pinned.checked.prog.wantsStandIn t=false:=by
 obtain rfl:f=5:=Option.some.inj ((show Tryz.prog.funcNamed "roadstead/roadkeep2.CoverWhole"=some 5 by kernel_rfl).symm.trans hf) |>.symm
 obtain rfl:fn=Tryz.f5:=(Option.some.inj (Tryz.func5.symm.trans hfn)).symm
 refine⟨by kernel_rfl,fun j t ht=>?_⟩
 rw[Tryz.params5]at ht
 have:=Array.mem_of_getElem? ht
 have hall:([22]:List Nat).all (fun t=>!(Tryz.pinned.checked.prog.wantsStandIn t))=true:=by kernel_rfl
 have hm:t∈([22]:List Nat):=by simpa using this
 have:=List.all_eq_true.1 hall t hm
 simpa using this
theorem coverWhole_holds:Rows.CoverWholeCardSaid:=
 Claim7.holds_tied_plain_at .later [] _ _ _ _ coverWhole_said (fun _ h=>by cases h) (by kernel_rfl) (fun _ h=>by cases h) coverWhole_row_tie rfl ⟨rfl,rfl⟩ (by kernel_rfl) rfl coverWhole_plain (by kernel_rfl)
end Go.Proofs.YtndhaojhhmkfaaaGreatDoor
