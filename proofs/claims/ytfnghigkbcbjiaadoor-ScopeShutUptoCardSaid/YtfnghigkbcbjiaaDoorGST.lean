/-
  DERIVED. Contracts of the functions that the law reaches, and the law itself, for every input. No conditions.
-/
import Derived.Test.YtfnghigkbcbjiaaDoorGSX
import Derived.Test.YtfnghigkbcbjiaaDoorGLR
namespace GL
open Go Go.AM Go.Proofs Go.Proofs.YtfnghigkbcbjiaaDoor TR
theorem pow_reads : (Rows.laid_internal_strconv_uint64pow10 : DataW Unit) = Lib.tabData .u64 Lib.pow10Tab := by kernel_rfl
theorem tabs_met {W : World} (h : laidMetH Tryd.prog Rows.scopeShutUptoRow.laid W) : HRel (allG W) W (glob2H 0 tabL 5 powL) := by
  have h1 := Lib.laidMet.reads (laidMetH_iff.1 h).1 (n := "strings.asciiSpace") (d := Rows.laid_strings_asciiSpace) (List.mem_filter.2 ⟨by simp [Rows.scopeShutUptoRow], by kernel_rfl⟩)
  have h2 := Lib.laidMet.reads (laidMetH_iff.1 h).1 (n := "internal/strconv.uint64pow10") (d := Rows.laid_internal_strconv_uint64pow10) (List.mem_filter.2 ⟨by simp [Rows.scopeShutUptoRow], by kernel_rfl⟩)
  rw [tab_reads] at h1
  rw [pow_reads] at h2
  exact glob2_hrel rfl rfl (tab_block asci_name (tabIs_of_reads (t := 134) (e := 5) (n := 256) asci_name (by kernel_rfl) (by kernel_rfl) (by kernel_rfl) (by kernel_rfl) (by kernel_rfl) h1))
    (tab_block pow_name (tabIs_of_reads (t := 179) (e := 172) (n := 20) pow_name (by kernel_rfl) (by kernel_rfl) (by kernel_rfl) (by kernel_rfl) (by kernel_rfl) h2))
end GL
namespace Go.Proofs.YtfnghigkbcbjiaaDoor
open Go Go.AM Go.Proofs TR
theorem scopeShut_pure (xss : List (List PV)) (h : TPs Tryd.prog [39, 22] xss) (hB : wtss xss ≤ 1048576) :
    AMem Tryd.prog 4 (mkArgs Tryd.prog [39, 22] xss) (glob2H 0 GL.tabL 5 GL.powL) (.p (.b true)) (glob2H 0 GL.tabL 5 GL.powL) := by
  cases h with
  | cons _ _ x1 _ h1 h =>
  cases h with
  | cons _ _ x2 _ h2 h =>
  cases h
  obtain ⟨p, e1, hr⟩ := dcrl_pg x1 h1
  obtain ⟨l, e2, _⟩ := tp_list1 (e := 9) (c := 1) (b := 16) (by kernel_rfl) h2 dec_str
  subst e2
  have a1 : aggT Tryd.prog 39 = true := by kernel_rfl
  have a3 : aggT Tryd.prog 22 = false := by kernel_rfl
  have hw : wlPg p = PV.wts x1 := by rw [wlPg, ← e1, PV.wt]
  have hl := wSs_len l
  simp only [wtss, PV.wts, PV.wt] at hB
  obtain ⟨S, G, C, hW⟩ := GL.world
  obtain ⟨B, hCB⟩ := GL.conB
  have := GL.shut_spec S G C B GL.tabL GL.powL hW hCB GL.itoa_spec p l (by omega) (by omega) hr
  simpa only [mkArgs, mkArg, a1, a3, if_true, Bool.false_eq_true, if_false, List.headD_cons, e1] using this

set_option maxRecDepth 100000 in
theorem scopeShut_reads (os : Os) {H : Type} (enc : TypeId × Value → H) : ∃ places, DataW.whole enc Tryd.prog ((World.laidAll Tryd.prog os Rows.scopeShutUptoRow.laid).forCall (fun _ _ => 0) ⟨#[], #[.agg #[.string .empty, .int .i64 0, .slice none 0 0, .slice none 0 0, .slice none 0 0, .slice none 0 0, .slice none 0 0, .slice none 0 0], .slice none 0 0], []⟩).memory Tryd.f4.params.toList Rows.scopeShutSpec.vars false (#[.agg #[.string .empty, .int .i64 0, .slice none 0 0, .slice none 0 0, .slice none 0 0, .slice none 0 0, .slice none 0 0, .slice none 0 0], .slice none 0 0] : Array Value).toList 8 = some ([.agg [.lit (.string []), .lit (.int .i64 0), .nil, .nil, .nil, .nil, .nil, .nil], .nil], [], places) :=
  ⟨[], by kernel_rfl⟩
set_option maxRecDepth 100000 in
theorem scopeShut_lifted (os : Os) (started : os.Started) (H : Type) (enc : TypeId × Value → H) (F : Stop.Interp) :
    ReturnsInHanded {} Tryd.checked os 4 .any ((Rows.OpenSpec.upto Rows.scopeShutSpec).preRow enc Tryd.prog Tryd.f4 Rows.scopeShutUptoRow.domain false Rows.scopeShutUptoRow.laid) (((Rows.OpenSpec.upto Rows.scopeShutSpec).at F).post enc Tryd.prog Tryd.f4 false true false false) := by
  obtain ⟨places, hx⟩ := scopeShut_reads os enc
  refine returnsInHanded_of_row (C := Tryd.checked) (s := Rows.OpenSpec.upto Rows.scopeShutSpec) Tryd.own started (by kernel_rfl) Tryd.func4
    (witness_row_atRef (enc := enc) (C := Tryd.checked) false (World.laidAll Tryd.prog os Rows.scopeShutUptoRow.laid) #[.agg #[.string .empty, .int .i64 0, .slice none 0 0, .slice none 0 0, .slice none 0 0, .slice none 0 0, .slice none 0 0, .slice none 0 0], .slice none 0 0] (World.laidAll_os _ _ _) (by kernel_rfl) (by kernel_rfl) (by kernel_rfl)
      (OpenSpec.preRow_of_cond 8 hx (by kernel_rfl) (fun k hk => by cases hk; kernel_rfl) (by kernel_rfl) (laidMet_laidAll _ (by kernel_rfl) (by kernel_rfl)))) ?_
  intro W base args ds gs before hval0 hW _ hcond hsz0 hl _ _
  exact law_uptoG (P := Tryd.prog) (F := 4) (fn := Tryd.f4) (s := Rows.scopeShutSpec) (tb := 4) 1048576 [39, 22] rfl (by kernel_rfl) (by kernel_rfl) (by kernel_rfl) (by kernel_rfl)
    (fun ds hds => by match ds, hds with | [a, b], _ => exact ⟨rfl, rfl, rfl⟩) W base args ds gs before hval0 hW hsz0 rfl (small_of (hcond _ rfl)) (GL.tabs_met hl) scopeShut_pure

theorem scopeShut_said : Rows.ScopeShutUptoSaid :=
  OpenClaim.holds_of_cond 4 Tryd.f4 rfl rfl rfl rfl rfl rfl rfl ⟨rfl, rfl, rfl, rfl, rfl⟩ rfl rfl rfl rfl rfl (by kernel_rfl) Tryd.func4 (by kernel_rfl)
    (of_decide_eq_true (by kernel_rfl)) (by unfold Func.isWrapper; first | (rw [if_pos (by decide +kernel)]; kernel_rfl) | (rw [if_neg (by decide +kernel)]; exact ⟨rfl, rfl⟩))
    (fun os started H enc _ F => by rw [OpenClaim.pre_eq_preRow]; exact scopeShut_lifted os started H enc F)
theorem scopeShut_plain (f : FuncId) (fn : Func) (hf : Tryd.pinned.checked.prog.funcNamed "roadstead/roadkeep2.ScopeShut" = some f) (hfn : Tryd.pinned.checked.prog.funcs[f]? = some fn) :
    false = Tryd.pinned.checked.prog.looks [] ∧ ∀ (j : Nat) t, fn.params[j]? = some t → Tryd.pinned.checked.prog.wantsStandIn t = false := by
  obtain rfl : f = 4 := Option.some.inj ((show Tryd.prog.funcNamed "roadstead/roadkeep2.ScopeShut" = some 4 by kernel_rfl).symm.trans hf) |>.symm
  obtain rfl : fn = Tryd.f4 := (Option.some.inj (Tryd.func4.symm.trans hfn)).symm
  refine ⟨by kernel_rfl, fun j t ht => ?_⟩
  rw [Tryd.params4] at ht
  have := Array.mem_of_getElem? ht
  have hall : ([39, 22] : List Nat).all (fun t => !(Tryd.pinned.checked.prog.wantsStandIn t)) = true := by kernel_rfl
  have hm : t ∈ ([39, 22] : List Nat) := by simpa using this
  have := List.all_eq_true.1 hall t hm
  simpa using this
theorem scopeShut_holds : Rows.ScopeShutUptoCardSaid :=
  Claim7.holds_tied_plain_at .later [] _ _ _ _ scopeShut_said (fun _ h => by cases h) (by kernel_rfl) (fun _ h => by cases h) scopeShutUpto_row_tie rfl ⟨rfl, rfl⟩ (by kernel_rfl) rfl scopeShut_plain (by kernel_rfl)
#print axioms scopeShut_holds

end Go.Proofs.YtfnghigkbcbjiaaDoor
