/-
  DERIVED. Contracts of the functions that the law reaches, and the law itself, for every input. No conditions.
-/
import Derived.Test.YtfaeijklldnohaaDoorKR
import Derived.Test.YtfaeijklldnohaaDoorSC3
namespace Go.Proofs.YtfaeijklldnohaaDoor
open Go Go.AM Go.Proofs KK
theorem dec_sc (cs : List PV) (h : TP Tryd.prog 29 cs) : ∃ s : Sc, PV.agg cs = eSc s ∧ okT s.ty ∧ s.ps.length < 9223372036854775807 := by
  obtain ⟨hl, hf⟩ := tp_struct (n := 4) (l := [(0, 27, 1), (1, 24, 3)]) (by kernel_rfl) h
  match cs, hl with
  | [a0, b1, b2, b3], _ =>
    obtain ⟨ps, e0, hb, _⟩ := tp_list1 (e := 9) (c := 1) (b := 16) (by kernel_rfl) (hf (0, 27, 1) (by simp)) dec_str
    obtain ⟨t, e1, ht⟩ := dec_ty _ [b1, b2, b3] (Nat.lt_succ_self _) (hf (1, 24, 3) (by simp))
    cases e0
    refine ⟨⟨ps, t⟩, ?_, ht, by simp; omega⟩
    rw [eSc, ← e1]; rfl
theorem schemeInstance_pure (xss : List (List PV)) (h : TPs Tryd.prog [29, 22] xss) : APure Tryd.prog 4 (mkArgs Tryd.prog [29, 22] xss) (.p (.b true)) := by
  cases h with
  | cons _ _ x1 _ h1 h =>
  cases h with
  | cons _ _ x2 _ h2 h =>
  cases h
  obtain ⟨s, e1, hs, hp⟩ := dec_sc x1 h1
  obtain ⟨l, e2, hb, hol⟩ := dec_tys x2 h2
  subst e2
  have a1 : aggT Tryd.prog 29 = true := by kernel_rfl
  have a2 : aggT Tryd.prog 22 = false := by kernel_rfl
  have := schemeInstance_spec s l hs hp (by omega) hol
  simpa only [mkArgs, mkArg, a1, a2, if_true, Bool.false_eq_true, if_false, List.headD_cons, e1] using this

set_option maxRecDepth 100000 in
theorem schemeInstance_reads (os : Os) {H : Type} (enc : TypeId × Value → H) : ∃ places, DataW.whole enc Tryd.prog ((World.laidAll Tryd.prog os Rows.schemeInstanceRow.laid).forCall (fun _ _ => 0) ⟨#[], #[.agg #[.slice none 0 0, .int .i64 0, .string .empty, .slice none 0 0], .slice none 0 0], []⟩).memory Tryd.f4.params.toList Rows.schemeInstanceSpec.vars false (#[.agg #[.slice none 0 0, .int .i64 0, .string .empty, .slice none 0 0], .slice none 0 0] : Array Value).toList 8 = some ([.agg [.nil, .agg [.lit (.int .i64 0), .lit (.string []), .nil]], .nil], [], places) :=
  ⟨[], by kernel_rfl⟩
set_option maxRecDepth 100000 in
theorem schemeInstance_lifted (os : Os) (started : os.Started) (H : Type) (enc : TypeId × Value → H) (F : Stop.Interp) :
    ReturnsInHanded {} Tryd.checked os 4 .any ((OpenSpec.ofChange Rows.schemeInstanceSpec).preRow enc Tryd.prog Tryd.f4 Rows.schemeInstanceRow.domain false Rows.schemeInstanceRow.laid) (((OpenSpec.ofChange Rows.schemeInstanceSpec).at F).post enc Tryd.prog Tryd.f4 false true false false) := by
  obtain ⟨places, hx⟩ := schemeInstance_reads os enc
  refine returnsInHanded_of_row (C := Tryd.checked) (s := OpenSpec.ofChange Rows.schemeInstanceSpec) Tryd.own started (by kernel_rfl) Tryd.func4
    (witness_row_at (enc := enc) (C := Tryd.checked) false (World.laidAll Tryd.prog os Rows.schemeInstanceRow.laid) #[.agg #[.slice none 0 0, .int .i64 0, .string .empty, .slice none 0 0], .slice none 0 0] (World.laidAll_os _ _ _) (by kernel_rfl) (by kernel_rfl) (by kernel_rfl)
      (OpenSpec.preRow_of_cond 8 hx (by kernel_rfl) (fun k hk => by cases hk) (by kernel_rfl) (laidMet_laidAll _ (by kernel_rfl) (by kernel_rfl)))) ?_
  intro W base args ds gs before hval0 hW _ hcond hsz0 _ _ _
  exact law_of (P := Tryd.prog) (F := 4) (fn := Tryd.f4) (s := Rows.schemeInstanceSpec) (tb := 4) [29, 22] rfl (by kernel_rfl) (by kernel_rfl) (by kernel_rfl) (by kernel_rfl)
    (fun ds hds => by match ds, hds with | [a, b], _ => exact ⟨rfl, rfl, rfl⟩) W base args ds gs before hval0 hW hsz0 rfl schemeInstance_pure

theorem schemeInstance_said : Rows.SchemeInstanceSaid :=
  OpenClaim.holds_of_cond 4 Tryd.f4 rfl rfl rfl rfl rfl rfl rfl ⟨rfl, rfl, rfl, rfl, rfl⟩ rfl rfl rfl rfl rfl (by kernel_rfl) Tryd.func4 (by kernel_rfl)
    (of_decide_eq_true (by kernel_rfl)) (by unfold Func.isWrapper; first | (rw [if_pos (by decide +kernel)]; kernel_rfl) | (rw [if_neg (by decide +kernel)]; exact ⟨rfl, rfl⟩))
    (fun os started H enc _ F => by rw [OpenClaim.pre_eq_preRow]; exact schemeInstance_lifted os started H enc F)
theorem schemeInstance_plain (f : FuncId) (fn : Func) (hf : Tryd.pinned.checked.prog.funcNamed "roadstead/roadkeep2.SchemeInstance" = some f) (hfn : Tryd.pinned.checked.prog.funcs[f]? = some fn) :
    false = Tryd.pinned.checked.prog.looks [] ∧ ∀ (j : Nat) t, fn.params[j]? = some t → Tryd.pinned.checked.prog.wantsStandIn t = false := by
  obtain rfl : f = 4 := Option.some.inj ((show Tryd.prog.funcNamed "roadstead/roadkeep2.SchemeInstance" = some 4 by kernel_rfl).symm.trans hf) |>.symm
  obtain rfl : fn = Tryd.f4 := (Option.some.inj (Tryd.func4.symm.trans hfn)).symm
  refine ⟨by kernel_rfl, fun j t ht => ?_⟩
  rw [Tryd.params4] at ht
  have := Array.mem_of_getElem? ht
  have hall : ([29, 22] : List Nat).all (fun t => !(Tryd.pinned.checked.prog.wantsStandIn t)) = true := by kernel_rfl
  have hm : t ∈ ([29, 22] : List Nat) := by simpa using this
  have := List.all_eq_true.1 hall t hm
  simpa using this
theorem schemeInstance_holds : Rows.SchemeInstanceCardSaid :=
  Claim7.holds_tied_plain_at .later [] _ _ _ _ schemeInstance_said (fun _ h => by cases h) (by kernel_rfl) (fun _ h => by cases h) schemeInstance_row_tie rfl ⟨rfl, rfl⟩ (by kernel_rfl) rfl schemeInstance_plain (by kernel_rfl)
#print axioms schemeInstance_holds

end Go.Proofs.YtfaeijklldnohaaDoor
