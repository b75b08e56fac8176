/- Contracts, and the law, for every input. No conditions. -/
import Derived.Test.YtdmopjgjhfhfdaaGreatDoorRM4
set_option linter.all false
set_option maxRecDepth 100000
open Go Go.AM Go.Proofs TR
namespace Go.Proofs.YtdmopjgjhfhfdaaGreatDoor
theorem B8 (ev:Value) (hev:ev=.nilIface\/∃te pe,ev=.iface te pe) (xss:List (List PV)) (h:OB Tryz.prog [30,9,37,49,49] xss) (hB:EZ xss<=1048576):
 au Tryz.prog 10 (ng Tryz.prog [30,9,37,49,49] xss) (PA.hE ev) (.p (.b true)) (PA.hE ev):=by
 cases h with
 |cons _ _ x0 _ h0 h=>
 cases h with
 |cons _ _ x1 _ h1 h=>
 cases h with
 |cons _ _ x2 _ h2 h=>
 cases h with
 |cons _ _ x3 _ h3 h=>
 cases h with
 |cons _ _ x4 _ h4 h=>
 cases h;obtain⟨p,e0,_⟩:=Ms x0 h0;obtain⟨nm,e1,_⟩:=iw (by kernel_rfl) h1;obtain⟨st,e2⟩:=M9 h2;obtain⟨l3,e3⟩:=Du h3;obtain⟨l4,e4⟩:=Du h4;have t0:oP Tryz.prog 30=true:=by kernel_rfl
 have t1:oP Tryz.prog 9=false:=by kernel_rfl
 have t2:oP Tryz.prog 49=false:=by kernel_rfl
 have t3:oP Tryz.prog 37=false:=by kernel_rfl
 have hw:vH p=PV.cH x0:=by rw[vH,<-e0,PV.wt]
 subst e1;subst e2;subst e3;subst e4;simp only[EZ,PV.cH,PV.wt]at hB;have g:∀l:List MN.gV,l.length<=PV.cH (MN.cP l):=uj MN.Et fun x=>by obtain⟨a,k,n,t,l⟩:=x;simp only[MN.Et,PV.wt,PV.cH];omega
 have g3:=g l3;have g4:=g l4;have:=MN.C7 ev hev p (by omega) nm st l3 l4 (LM (by omega) (by omega)) (LM (st:=st) (l:=l4) (by omega) (by omega)).ls (by omega) (by omega);simpa only[ng,mkArg,t0,t1,t2,t3,if_true,Bool.false_eq_true,if_false,List.headD_cons,e0] using this
set_option maxRecDepth 100000 in
theorem AB (os:Os) {H:Type} (enc:TypeId×Value->H):∃places,DataW.whole enc Tryz.prog ((World.laidAll Tryz.prog os Rows.meanTopUptoRow.laid).forCall (fun _ _=>0) ⟨#[],#[.agg #[.string .empty,.int .i64 0,.slice none 0 0,.slice none 0 0,.slice none 0 0,.slice none 0 0,.slice none 0 0,.slice none 0 0],.string .empty,.slice none 0 0,.slice none 0 0,.slice none 0 0],[]⟩).memory Tryz.f10.params.toList Rows.meanTopSpec.vars false (#[.agg #[.string .empty,.int .i64 0,.slice none 0 0,.slice none 0 0,.slice none 0 0,.slice none 0 0,.slice none 0 0,.slice none 0 0],.string .empty,.slice none 0 0,.slice none 0 0,.slice none 0 0]:Array Value).toList 8=some ([.agg [.lit (.string []),.lit (.int .i64 0),.nil,.nil,.nil,.nil,.nil,.nil],.lit (.string []),.nil,.nil,.nil],[],places):=
 ⟨[],by kernel_rfl⟩
set_option maxRecDepth 100000 in
theorem yQ (os:Os) (started:os.Started) (H:Type) (enc:TypeId×Value->H) (F:Stop.Interp):
 ReturnsInHanded {} Tryz.checked os 10 .any ((Rows.OpenSpec.upto Rows.meanTopSpec).preRow enc Tryz.prog Tryz.f10 Rows.meanTopUptoRow.domain false Rows.meanTopUptoRow.laid) (((Rows.OpenSpec.upto Rows.meanTopSpec).at F).post enc Tryz.prog Tryz.f10 false true false false):=by
 obtain⟨places,hx⟩:=AB os enc
 refine returnsInHanded_of_row (C:=Tryz.checked) (s:=Rows.OpenSpec.upto Rows.meanTopSpec) Tryz.own started (by kernel_rfl) Tryz.func10
  (witness_row_atRef (enc:=enc) (C:=Tryz.checked) false (World.laidAll Tryz.prog os Rows.meanTopUptoRow.laid) #[.agg #[.string .empty,.int .i64 0,.slice none 0 0,.slice none 0 0,.slice none 0 0,.slice none 0 0,.slice none 0 0,.slice none 0 0],.string .empty,.slice none 0 0,.slice none 0 0,.slice none 0 0] (World.laidAll_os _ _ _) (by kernel_rfl) (by kernel_rfl) (by kernel_rfl)
    (OpenSpec.preRow_of_cond 8 hx (by kernel_rfl) (fun k hk=>by cases hk;kernel_rfl) (by kernel_rfl) (laidMet_laidAll _ (by kernel_rfl) (by kernel_rfl)))) ?_
 intro W base args ds gs before hval0 hW _ hcond hsz0 hl _ _;obtain⟨ev,hev,hE2⟩:=Ll hl (by simp[Rows.meanTopUptoRow])
 exact IW (gh:=PA.hE ev) (P:=Tryz.prog) (F:=10) (fn:=Tryz.f10) (s:=Rows.meanTopSpec) (tb:=4) 1048576 [30,9,37,49,49] rfl (by kernel_rfl) (by kernel_rfl) (by kernel_rfl) (by kernel_rfl)
  (fun ds hds=>by match ds,hds with | [a,b,c,d,e],_=>exact⟨rfl,rfl,rfl⟩) W base args ds gs before hval0 hW hsz0 rfl (K4 (hcond _ rfl)) (A4 rfl hE2) (B8 ev hev)
theorem FW:(Rows.meanTopUptoRow.inPlace==Tryz.pinned.checked.prog.inPlace 10)=true:=by kernel_rfl
theorem Gt:(Rows.meanTopUptoRow.unfollowed==Tryz.pinned.checked.prog.unfollowed 10)=true:=by kernel_rfl
theorem Fl:(Rows.meanTopUptoRow.recurses==Tryz.pinned.checked.prog.recurses 10)=true:=by kernel_rfl
theorem GC:(Rows.meanTopUptoRow.named==Tryz.pinned.checked.prog.varsNamed 10)=true:=by kernel_rfl
theorem G4:joinedFacts Tryz.pinned.checked.prog 10 Tryz.f10 (Rows.OpenSpec.upto Rows.meanTopSpec).bare Rows.meanTopUptoRow=true:=by
 unfold joinedFacts;rw[FW,Gt,Fl,GC]
 kernel_rfl
theorem CI:Rows.MeanTopUptoSaid:=
 OpenClaim.holds_of_cond 10 Tryz.f10 rfl rfl rfl rfl rfl rfl rfl ⟨rfl,rfl,rfl,rfl,rfl⟩ rfl rfl rfl rfl rfl (by kernel_rfl) Tryz.func10 G4
  (of_decide_eq_true (by kernel_rfl)) (by unfold Func.isWrapper;first|(rw[if_pos (by decide +kernel)];kernel_rfl)|(rw[if_neg (by decide +kernel)];exact⟨rfl,rfl⟩))
  (fun os started H enc _ F=>by rw[OpenClaim.pre_eq_preRow];exact yQ os started H enc F)
theorem AJ (f:FuncId) (fn:Func) (hf:Tryz.pinned.checked.prog.funcNamed "roadstead/roadkeep2.MeanTop"=some f) (hfn:Tryz.pinned.checked.prog.funcs[f]?=some fn):
 true=Tryz.pinned.checked.prog.looks []/\∀(j:Nat) t,fn.params[j]?=some t->Tryz.pinned.checked.prog.wantsStandIn t=false:=by
 obtain rfl:f=10:=Option.some.inj ((show Tryz.prog.funcNamed "roadstead/roadkeep2.MeanTop"=some 10 by kernel_rfl).symm.trans hf) |>.symm
 obtain rfl:fn=Tryz.f10:=(Option.some.inj (Tryz.func10.symm.trans hfn)).symm;refine⟨by kernel_rfl,fun j t ht=>?_⟩;rw[Tryz.params10]at ht;have:=Array.mem_of_getElem? ht;have hall:([30,9,37,49,49]:List Nat).all (fun t=>!(Tryz.pinned.checked.prog.wantsStandIn t))=true:=by kernel_rfl
 have hm:t∈([30,9,37,49,49]:List Nat):=by simpa using this
 have:=List.all_eq_true.1 hall t hm;simpa using this
theorem meanTop_holds:Rows.MeanTopUptoCardSaid:=
 Claim7.holds_tied_plain_at .later [] _ _ _ _ CI (fun _ h=>by cases h) (by kernel_rfl) (fun _ h=>by cases h) meanTopUpto_row_tie rfl ⟨rfl,rfl⟩ (by kernel_rfl) rfl AJ (by kernel_rfl)
end Go.Proofs.YtdmopjgjhfhfdaaGreatDoor
