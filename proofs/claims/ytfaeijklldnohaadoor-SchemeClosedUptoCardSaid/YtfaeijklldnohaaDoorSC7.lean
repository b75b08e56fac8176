/-
  DERIVED. Contracts of the functions that the law reaches, and the law itself, for every input. No conditions.
-/
import Derived.Test.YtfaeijklldnohaaDoorKU
import Derived.Test.YtfaeijklldnohaaDoorSC6
namespace Go.Proofs.YtfaeijklldnohaaDoor
open Go Go.AM Go.Proofs KK
mutual
theorem nodes_wt : ∀ (t : Ty), nodes t ≤ PV.wt (eT t)
  | .mk k n xs => by
    have := nodess_wt xs
    rw [nodes, eT]; simp only [PV.wt, PV.wts]; omega
theorem nodess_wt : ∀ (l : List Ty), nodess l ≤ PV.wts (eTs l)
  | [] => by simp [nodess]
  | t :: r => by
    have h1 := nodes_wt t; have h2 := nodess_wt r
    simp only [nodess, eTs, PV.wts]; omega
end
theorem schemeClosed_pure (xss : List (List PV)) (h : TPs Tryd.prog [24] xss) (hB : wtss xss ≤ 1048576) : APure Tryd.prog 3 (mkArgs Tryd.prog [24] xss) (.p (.b true)) := by
  cases h with
  | cons _ _ x1 _ h1 h =>
  cases h
  obtain ⟨t, e1, ht⟩ := dec_ty _ x1 (Nat.lt_succ_self _) h1
  have a1 : aggT Tryd.prog 24 = true := by kernel_rfl
  have hw : PV.wt (eT t) = PV.wts x1 := by rw [← e1, PV.wt]
  have hn := nodes_wt t
  simp only [wtss, PV.wts, PV.wt] at hB
  have := schemeClosed_spec t ht (by omega)
  simpa only [mkArgs, mkArg, a1, if_true, Bool.false_eq_true, if_false, List.headD_cons, e1] using this

set_option maxRecDepth 100000 in
theorem schemeClosed_reads (os : Os) {H : Type} (enc : TypeId × Value → H) : ∃ places, DataW.whole enc Tryd.prog ((World.laidAll Tryd.prog os Rows.schemeClosedUptoRow.laid).forCall (fun _ _ => 0) ⟨#[], #[.agg #[.int .i64 0, .string .empty, .slice none 0 0]], []⟩).memory Tryd.f3.params.toList Rows.schemeClosedSpec.vars false (#[.agg #[.int .i64 0, .string .empty, .slice none 0 0]] : Array Value).toList 8 = some ([.agg [.lit (.int .i64 0), .lit (.string []), .nil]], [], places) :=
  ⟨[], by kernel_rfl⟩
set_option maxRecDepth 100000 in
theorem schemeClosed_lifted (os : Os) (started : os.Started) (H : Type) (enc : TypeId × Value → H) (F : Stop.Interp) :
    ReturnsInHanded {} Tryd.checked os 3 .any ((Rows.OpenSpec.upto Rows.schemeClosedSpec).preRow enc Tryd.prog Tryd.f3 Rows.schemeClosedUptoRow.domain false Rows.schemeClosedUptoRow.laid) (((Rows.OpenSpec.upto Rows.schemeClosedSpec).at F).post enc Tryd.prog Tryd.f3 false true false false) := by
  obtain ⟨places, hx⟩ := schemeClosed_reads os enc
  refine returnsInHanded_of_row (C := Tryd.checked) (s := Rows.OpenSpec.upto Rows.schemeClosedSpec) Tryd.own started (by kernel_rfl) Tryd.func3
    (witness_row_at (enc := enc) (C := Tryd.checked) false (World.laidAll Tryd.prog os Rows.schemeClosedUptoRow.laid) #[.agg #[.int .i64 0, .string .empty, .slice none 0 0]] (World.laidAll_os _ _ _) (by kernel_rfl) (by kernel_rfl) (by kernel_rfl)
      (OpenSpec.preRow_of_cond 8 hx (by kernel_rfl) (fun k hk => by cases hk; kernel_rfl) (by kernel_rfl) (laidMet_laidAll _ (by kernel_rfl) (by kernel_rfl)))) ?_
  intro W base args ds gs before hval0 hW _ hcond hsz0 _ _ _
  exact law_upto (P := Tryd.prog) (F := 3) (fn := Tryd.f3) (s := Rows.schemeClosedSpec) (tb := 4) 1048576 [24] rfl (by kernel_rfl) (by kernel_rfl) (by kernel_rfl) (by kernel_rfl)
    (fun ds hds => by match ds, hds with | [a], _ => exact ⟨rfl, rfl, rfl⟩) W base args ds gs before hval0 hW hsz0 rfl (small_of (hcond _ rfl)) schemeClosed_pure

theorem schemeClosed_said : Rows.SchemeClosedUptoSaid :=
  OpenClaim.holds_of_cond 3 Tryd.f3 rfl rfl rfl rfl rfl rfl rfl ⟨rfl, rfl, rfl, rfl, rfl⟩ rfl rfl rfl rfl rfl (by kernel_rfl) Tryd.func3 (by kernel_rfl)
    (of_decide_eq_true (by kernel_rfl)) (by unfold Func.isWrapper; first | (rw [if_pos (by decide +kernel)]; kernel_rfl) | (rw [if_neg (by decide +kernel)]; exact ⟨rfl, rfl⟩))
    (fun os started H enc _ F => by rw [OpenClaim.pre_eq_preRow]; exact schemeClosed_lifted os started H enc F)
theorem schemeClosed_plain (f : FuncId) (fn : Func) (hf : Tryd.pinned.checked.prog.funcNamed "roadstead/roadkeep2.SchemeClosed" = some f) (hfn : Tryd.pinned.checked.prog.funcs[f]? = some fn) :
    false = Tryd.pinned.checked.prog.looks [] ∧ ∀ (j : Nat) t, fn.params[j]? = some t → Tryd.pinned.checked.prog.wantsStandIn t = false := by
  obtain rfl : f = 3 := Option.some.inj ((show Tryd.prog.funcNamed "roadstead/roadkeep2.SchemeClosed" = some 3 by kernel_rfl).symm.trans hf) |>.symm
  obtain rfl : fn = Tryd.f3 := (Option.some.inj (Tryd.func3.symm.trans hfn)).symm
  refine ⟨by kernel_rfl, fun j t ht => ?_⟩
  rw [Tryd.params3] at ht
  have := Array.mem_of_getElem? ht
  have hall : ([24] : List Nat).all (fun t => !(Tryd.pinned.checked.prog.wantsStandIn t)) = true := by kernel_rfl
  have hm : t ∈ ([24] : List Nat) := by simpa using this
  have := List.all_eq_true.1 hall t hm
  simpa using this
theorem schemeClosed_holds : Rows.SchemeClosedUptoCardSaid :=
  Claim7.holds_tied_plain_at .later [] _ _ _ _ schemeClosed_said (fun _ h => by cases h) (by kernel_rfl) (fun _ h => by cases h) schemeClosedUpto_row_tie rfl ⟨rfl, rfl⟩ (by kernel_rfl) rfl schemeClosed_plain (by kernel_rfl)
#print axioms schemeClosed_holds

end Go.Proofs.YtfaeijklldnohaaDoor
