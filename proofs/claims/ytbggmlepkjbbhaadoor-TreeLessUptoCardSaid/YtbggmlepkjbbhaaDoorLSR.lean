/-
  DERIVED. Contracts of the functions that the law reaches, and the law itself, for every input. No conditions.
-/
import Derived.Test.YtbggmlepkjbbhaaDoorLSD
namespace Go.Proofs.YtbggmlepkjbbhaaDoor
open Go Go.AM Go.Proofs TR
theorem treeLess_pure (xss : List (List PV)) (h : TPs Tryd.prog [29, 3] xss) (hB : wtss xss ≤ 1048576) : APure Tryd.prog 3 (mkArgs Tryd.prog [29, 3] xss) (.p (.b true)) := by
  cases h with
  | cons _ _ x1 _ h1 h =>
  cases h with
  | cons _ _ x2 _ h2 h =>
  cases h
  obtain ⟨p, e1, _⟩ := decl_pg x1 h1
  obtain ⟨k, e2, _⟩ := tp_int (k := .i64) (by kernel_rfl) h2
  subst e2
  have a1 : aggT Tryd.prog 29 = true := by kernel_rfl
  have a2 : aggT Tryd.prog 3 = false := by kernel_rfl
  have hw : wlPg p = PV.wts x1 := by rw [wlPg, ← e1, PV.wt]
  simp only [wtss, PV.wts, PV.wt] at hB
  have := treeLess_spec p k (by omega)
  simpa only [mkArgs, mkArg, a1, a2, if_true, Bool.false_eq_true, if_false, List.headD_cons, e1] using this

set_option maxRecDepth 100000 in
theorem treeLess_reads (os : Os) {H : Type} (enc : TypeId × Value → H) : ∃ places, DataW.whole enc Tryd.prog ((World.laidAll Tryd.prog os Rows.treeLessUptoRow.laid).forCall (fun _ _ => 0) ⟨#[], #[.agg #[.string .empty, .int .i64 0, .slice none 0 0, .slice none 0 0, .slice none 0 0, .slice none 0 0, .slice none 0 0, .slice none 0 0], .int .i64 0], []⟩).memory Tryd.f3.params.toList Rows.treeLessSpec.vars false (#[.agg #[.string .empty, .int .i64 0, .slice none 0 0, .slice none 0 0, .slice none 0 0, .slice none 0 0, .slice none 0 0, .slice none 0 0], .int .i64 0] : Array Value).toList 8 = some ([.agg [.lit (.string []), .lit (.int .i64 0), .nil, .nil, .nil, .nil, .nil, .nil], .lit (.int .i64 0)], [], places) :=
  ⟨[], by kernel_rfl⟩
set_option maxRecDepth 100000 in
theorem treeLess_lifted (os : Os) (started : os.Started) (H : Type) (enc : TypeId × Value → H) (F : Stop.Interp) :
    ReturnsInHanded {} Tryd.checked os 3 .any ((Rows.OpenSpec.upto Rows.treeLessSpec).preRow enc Tryd.prog Tryd.f3 Rows.treeLessUptoRow.domain false Rows.treeLessUptoRow.laid) (((Rows.OpenSpec.upto Rows.treeLessSpec).at F).post enc Tryd.prog Tryd.f3 false true false false) := by
  obtain ⟨places, hx⟩ := treeLess_reads os enc
  refine returnsInHanded_of_row (C := Tryd.checked) (s := Rows.OpenSpec.upto Rows.treeLessSpec) Tryd.own started (by kernel_rfl) Tryd.func3
    (witness_row_at (enc := enc) (C := Tryd.checked) false (World.laidAll Tryd.prog os Rows.treeLessUptoRow.laid) #[.agg #[.string .empty, .int .i64 0, .slice none 0 0, .slice none 0 0, .slice none 0 0, .slice none 0 0, .slice none 0 0, .slice none 0 0], .int .i64 0] (World.laidAll_os _ _ _) (by kernel_rfl) (by kernel_rfl) (by kernel_rfl)
      (OpenSpec.preRow_of_cond 8 hx (by kernel_rfl) (fun k hk => by cases hk; kernel_rfl) (by kernel_rfl) (laidMet_laidAll _ (by kernel_rfl) (by kernel_rfl)))) ?_
  intro W base args ds gs before hval0 hW _ hcond hsz0 _ _ _
  exact law_upto (P := Tryd.prog) (F := 3) (fn := Tryd.f3) (s := Rows.treeLessSpec) (tb := 4) 1048576 [29, 3] rfl (by kernel_rfl) (by kernel_rfl) (by kernel_rfl) (by kernel_rfl)
    (fun ds hds => by match ds, hds with | [a, b], _ => exact ⟨rfl, rfl, rfl⟩) W base args ds gs before hval0 hW hsz0 rfl (small_of (hcond _ rfl)) treeLess_pure

theorem treeLess_said : Rows.TreeLessUptoSaid :=
  OpenClaim.holds_of_cond 3 Tryd.f3 rfl rfl rfl rfl rfl rfl rfl ⟨rfl, rfl, rfl, rfl, rfl⟩ rfl rfl rfl rfl rfl (by kernel_rfl) Tryd.func3 (by kernel_rfl)
    (of_decide_eq_true (by kernel_rfl)) (by unfold Func.isWrapper; first | (rw [if_pos (by decide +kernel)]; kernel_rfl) | (rw [if_neg (by decide +kernel)]; exact ⟨rfl, rfl⟩))
    (fun os started H enc _ F => by rw [OpenClaim.pre_eq_preRow]; exact treeLess_lifted os started H enc F)
theorem treeLess_plain (f : FuncId) (fn : Func) (hf : Tryd.pinned.checked.prog.funcNamed "roadstead/roadkeep2.TreeLess" = some f) (hfn : Tryd.pinned.checked.prog.funcs[f]? = some fn) :
    false = Tryd.pinned.checked.prog.looks [] ∧ ∀ (j : Nat) t, fn.params[j]? = some t → Tryd.pinned.checked.prog.wantsStandIn t = false := by
  obtain rfl : f = 3 := Option.some.inj ((show Tryd.prog.funcNamed "roadstead/roadkeep2.TreeLess" = some 3 by kernel_rfl).symm.trans hf) |>.symm
  obtain rfl : fn = Tryd.f3 := (Option.some.inj (Tryd.func3.symm.trans hfn)).symm
  refine ⟨by kernel_rfl, fun j t ht => ?_⟩
  rw [Tryd.params3] at ht
  have := Array.mem_of_getElem? ht
  have hall : ([29, 3] : List Nat).all (fun t => !(Tryd.pinned.checked.prog.wantsStandIn t)) = true := by kernel_rfl
  have hm : t ∈ ([29, 3] : List Nat) := by simpa using this
  have := List.all_eq_true.1 hall t hm
  simpa using this
theorem treeLess_holds : Rows.TreeLessUptoCardSaid :=
  Claim7.holds_tied_plain_at .later [] _ _ _ _ treeLess_said (fun _ h => by cases h) (by kernel_rfl) (fun _ h => by cases h) treeLessUpto_row_tie rfl ⟨rfl, rfl⟩ (by kernel_rfl) rfl treeLess_plain (by kernel_rfl)
#print axioms treeLess_holds

end Go.Proofs.YtbggmlepkjbbhaaDoor
