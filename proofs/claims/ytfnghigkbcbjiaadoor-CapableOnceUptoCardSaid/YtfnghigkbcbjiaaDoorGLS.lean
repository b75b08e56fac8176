/-
  DERIVED. Contracts of the functions that the law reaches, and the law itself, for every input. No conditions.
-/
import Derived.Test.YtfnghigkbcbjiaaDoorGLR
namespace Go.Proofs.YtfnghigkbcbjiaaDoor
open Go Go.AM Go.Proofs TR
theorem capableOnce_pure (xss : List (List PV)) (h : TPs Tryd.prog [27, 27, 27, 9] xss) (hB : wtss xss ≤ 1048576) :
    AMem Tryd.prog 3 (mkArgs Tryd.prog [27, 27, 27, 9] xss) (globH 0 GL.tabL) (.p (.b true)) (globH 0 GL.tabL) := by
  cases h with
  | cons _ _ x1 _ h1 h =>
  cases h with
  | cons _ _ x2 _ h2 h =>
  cases h with
  | cons _ _ x3 _ h3 h =>
  cases h with
  | cons _ _ x4 _ h4 h =>
  cases h
  obtain ⟨a, e1, _⟩ := dec_ex _ x1 (Nat.lt_succ_self _) h1
  obtain ⟨b, e2, _⟩ := dec_ex _ x2 (Nat.lt_succ_self _) h2
  obtain ⟨c, e3, _⟩ := dec_ex _ x3 (Nat.lt_succ_self _) h3
  obtain ⟨s, e4, _⟩ := tp_str (by kernel_rfl) h4
  subst e4
  have a1 : aggT Tryd.prog 27 = true := by kernel_rfl
  have a2 : aggT Tryd.prog 9 = false := by kernel_rfl
  have w1 : wE a = PV.wts x1 := by rw [wE, ← e1, PV.wt]
  have w2 : wE b = PV.wts x2 := by rw [wE, ← e2, PV.wt]
  have w3 : wE c = PV.wts x3 := by rw [wE, ← e3, PV.wt]
  simp only [wtss, PV.wts, PV.wt] at hB
  obtain ⟨S, G, C, hW⟩ := GL.world
  obtain ⟨B, hCB⟩ := GL.conB
  have := GL.once_spec S G C B GL.tabL hW hCB a b c s (by omega)
  simpa only [mkArgs, mkArg, a1, a2, if_true, Bool.false_eq_true, if_false, List.headD_cons, e1, e2, e3, globH] using this

set_option maxRecDepth 100000 in
theorem capableOnce_reads (os : Os) {H : Type} (enc : TypeId × Value → H) : ∃ places, DataW.whole enc Tryd.prog ((World.laidAll Tryd.prog os Rows.capableOnceUptoRow.laid).forCall (fun _ _ => 0) ⟨#[], #[.agg #[.int .i64 0, .int .i64 0, .string .empty, .slice none 0 0, .slice none 0 0, .slice none 0 0, .slice none 0 0, .int .i64 0], .agg #[.int .i64 0, .int .i64 0, .string .empty, .slice none 0 0, .slice none 0 0, .slice none 0 0, .slice none 0 0, .int .i64 0], .agg #[.int .i64 0, .int .i64 0, .string .empty, .slice none 0 0, .slice none 0 0, .slice none 0 0, .slice none 0 0, .int .i64 0], .string .empty], []⟩).memory Tryd.f3.params.toList Rows.capableOnceSpec.vars false (#[.agg #[.int .i64 0, .int .i64 0, .string .empty, .slice none 0 0, .slice none 0 0, .slice none 0 0, .slice none 0 0, .int .i64 0], .agg #[.int .i64 0, .int .i64 0, .string .empty, .slice none 0 0, .slice none 0 0, .slice none 0 0, .slice none 0 0, .int .i64 0], .agg #[.int .i64 0, .int .i64 0, .string .empty, .slice none 0 0, .slice none 0 0, .slice none 0 0, .slice none 0 0, .int .i64 0], .string .empty] : Array Value).toList 8 = some ([.agg [.lit (.int .i64 0), .lit (.int .i64 0), .lit (.string []), .nil, .nil, .nil, .nil, .lit (.int .i64 0)], .agg [.lit (.int .i64 0), .lit (.int .i64 0), .lit (.string []), .nil, .nil, .nil, .nil, .lit (.int .i64 0)], .agg [.lit (.int .i64 0), .lit (.int .i64 0), .lit (.string []), .nil, .nil, .nil, .nil, .lit (.int .i64 0)], .lit (.string [])], [], places) :=
  ⟨[], by kernel_rfl⟩
set_option maxRecDepth 100000 in
theorem capableOnce_lifted (os : Os) (started : os.Started) (H : Type) (enc : TypeId × Value → H) (F : Stop.Interp) :
    ReturnsInHanded {} Tryd.checked os 3 .any ((Rows.OpenSpec.upto Rows.capableOnceSpec).preRow enc Tryd.prog Tryd.f3 Rows.capableOnceUptoRow.domain false Rows.capableOnceUptoRow.laid) (((Rows.OpenSpec.upto Rows.capableOnceSpec).at F).post enc Tryd.prog Tryd.f3 false true false false) := by
  obtain ⟨places, hx⟩ := capableOnce_reads os enc
  refine returnsInHanded_of_row (C := Tryd.checked) (s := Rows.OpenSpec.upto Rows.capableOnceSpec) Tryd.own started (by kernel_rfl) Tryd.func3
    (witness_row_atRef (enc := enc) (C := Tryd.checked) false (World.laidAll Tryd.prog os Rows.capableOnceUptoRow.laid) #[.agg #[.int .i64 0, .int .i64 0, .string .empty, .slice none 0 0, .slice none 0 0, .slice none 0 0, .slice none 0 0, .int .i64 0], .agg #[.int .i64 0, .int .i64 0, .string .empty, .slice none 0 0, .slice none 0 0, .slice none 0 0, .slice none 0 0, .int .i64 0], .agg #[.int .i64 0, .int .i64 0, .string .empty, .slice none 0 0, .slice none 0 0, .slice none 0 0, .slice none 0 0, .int .i64 0], .string .empty] (World.laidAll_os _ _ _) (by kernel_rfl) (by kernel_rfl) (by kernel_rfl)
      (OpenSpec.preRow_of_cond 8 hx (by kernel_rfl) (fun k hk => by cases hk; kernel_rfl) (by kernel_rfl) (laidMet_laidAll _ (by kernel_rfl) (by kernel_rfl)))) ?_
  intro W base args ds gs before hval0 hW _ hcond hsz0 hl _ _
  exact law_uptoM (P := Tryd.prog) (F := 3) (fn := Tryd.f3) (s := Rows.capableOnceSpec) (tb := 4) (gb := 0) (gvs := GL.tabL) 1048576 [27, 27, 27, 9] rfl (by kernel_rfl) (by kernel_rfl) (by kernel_rfl) (by kernel_rfl)
    (fun ds hds => by match ds, hds with | [a, b, c, d], _ => exact ⟨rfl, rfl, rfl⟩) W base args ds gs before hval0 hW hsz0 rfl (small_of (hcond _ rfl)) (GL.tab_met hl) capableOnce_pure

theorem capableOnce_said : Rows.CapableOnceUptoSaid :=
  OpenClaim.holds_of_cond 3 Tryd.f3 rfl rfl rfl rfl rfl rfl rfl ⟨rfl, rfl, rfl, rfl, rfl⟩ rfl rfl rfl rfl rfl (by kernel_rfl) Tryd.func3 (by kernel_rfl)
    (of_decide_eq_true (by kernel_rfl)) (by unfold Func.isWrapper; first | (rw [if_pos (by decide +kernel)]; kernel_rfl) | (rw [if_neg (by decide +kernel)]; exact ⟨rfl, rfl⟩))
    (fun os started H enc _ F => by rw [OpenClaim.pre_eq_preRow]; exact capableOnce_lifted os started H enc F)
theorem capableOnce_plain (f : FuncId) (fn : Func) (hf : Tryd.pinned.checked.prog.funcNamed "roadstead/roadkeep2.CapableOnce" = some f) (hfn : Tryd.pinned.checked.prog.funcs[f]? = some fn) :
    false = Tryd.pinned.checked.prog.looks [] ∧ ∀ (j : Nat) t, fn.params[j]? = some t → Tryd.pinned.checked.prog.wantsStandIn t = false := by
  obtain rfl : f = 3 := Option.some.inj ((show Tryd.prog.funcNamed "roadstead/roadkeep2.CapableOnce" = some 3 by kernel_rfl).symm.trans hf) |>.symm
  obtain rfl : fn = Tryd.f3 := (Option.some.inj (Tryd.func3.symm.trans hfn)).symm
  refine ⟨by kernel_rfl, fun j t ht => ?_⟩
  rw [Tryd.params3] at ht
  have := Array.mem_of_getElem? ht
  have hall : ([27, 27, 27, 9] : List Nat).all (fun t => !(Tryd.pinned.checked.prog.wantsStandIn t)) = true := by kernel_rfl
  have hm : t ∈ ([27, 27, 27, 9] : List Nat) := by simpa using this
  have := List.all_eq_true.1 hall t hm
  simpa using this
theorem capableOnce_holds : Rows.CapableOnceUptoCardSaid :=
  Claim7.holds_tied_plain_at .later [] _ _ _ _ capableOnce_said (fun _ h => by cases h) (by kernel_rfl) (fun _ h => by cases h) capableOnceUpto_row_tie rfl ⟨rfl, rfl⟩ (by kernel_rfl) rfl capableOnce_plain (by kernel_rfl)
#print axioms capableOnce_holds

end Go.Proofs.YtfnghigkbcbjiaaDoor
