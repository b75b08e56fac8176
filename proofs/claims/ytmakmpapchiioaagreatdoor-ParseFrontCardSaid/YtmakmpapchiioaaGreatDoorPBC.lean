/-
  DERIVED. Contracts of the functions that the law reaches, and the law itself, for every input. No conditions.
-/
import Derived.Test.YtmakmpapchiioaaGreatDoorPBA
import Derived.Test.YtmakmpapchiioaaGreatDoorPRW
open Go Go.AM Go.Proofs
set_option maxRecDepth 100000
namespace Go.Proofs.YtmakmpapchiioaaGreatDoor
theorem front_pure (ev : Value) (hev : ev = .nilIface ∨ ∃ te pe, ev = .iface te pe) (xss : List (List PV)) (h : TPs Tryz.prog [9, 9] xss) :
    AMem Tryz.prog 3 (mkArgs Tryz.prog [9, 9] xss) (PA.hE ev) (.p (.b true)) (PA.hE ev) := by
  cases h with
  | cons _ _ x1 _ h1 h =>
  cases h with
  | cons _ _ x2 _ h2 h =>
  cases h
  obtain ⟨s, e1, b1⟩ := tp_str (by kernel_rfl) h1
  obtain ⟨m, e2, b2⟩ := tp_str (by kernel_rfl) h2
  subst e1
  subst e2
  have a1 : aggT Tryz.prog 9 = false := by kernel_rfl
  have sz : ∀ s : ByteArray, s.data.toList.length = s.size := fun s => by rw [← B_size, ← B_of]
  have := PA.front_spec ev hev s.data.toList m.data.toList (by rw [sz]; exact b1) (by rw [sz]; exact b2)
  rw [← B_of, ← B_of] at this
  simpa only [mkArgs, mkArg, a1, Bool.false_eq_true, if_false, List.headD_cons] using this
set_option maxRecDepth 100000 in
theorem parseFront_reads (os : Os) {H : Type} (enc : TypeId × Value → H) : ∃ places, DataW.whole enc Tryz.prog ((World.laidAll Tryz.prog os Rows.parseFrontRow.laid).forCall (fun _ _ => 0) ⟨#[], #[.string .empty, .string .empty], []⟩).memory Tryz.f3.params.toList Rows.parseFrontSpec.vars false (#[.string .empty, .string .empty] : Array Value).toList 8 = some ([.lit (.string []), .lit (.string [])], [], places) :=
  ⟨[], by kernel_rfl⟩
set_option maxRecDepth 100000 in
theorem parseFront_lifted (os : Os) (started : os.Started) (H : Type) (enc : TypeId × Value → H) (F : Stop.Interp) :
    ReturnsInHanded {} Tryz.checked os 3 .any ((OpenSpec.ofChange Rows.parseFrontSpec).preRow enc Tryz.prog Tryz.f3 Rows.parseFrontRow.domain false Rows.parseFrontRow.laid) (((OpenSpec.ofChange Rows.parseFrontSpec).at F).post enc Tryz.prog Tryz.f3 false true false false) := by
  obtain ⟨places, hx⟩ := parseFront_reads os enc
  refine returnsInHanded_of_row (C := Tryz.checked) (s := OpenSpec.ofChange Rows.parseFrontSpec) Tryz.own started (by kernel_rfl) Tryz.func3
    (witness_row_atRef (enc := enc) (C := Tryz.checked) false (World.laidAll Tryz.prog os Rows.parseFrontRow.laid) #[.string .empty, .string .empty] (World.laidAll_os _ _ _) (by kernel_rfl) (by kernel_rfl) (by kernel_rfl)
      (OpenSpec.preRow_of_cond 8 hx (by kernel_rfl) (fun k hk => by cases hk) (by kernel_rfl) (laidMet_laidAll _ (by kernel_rfl) (by kernel_rfl)))) ?_
  intro W base args ds gs before hval0 hW _ hcond hsz0 hl _ _
  obtain ⟨ev, hev, hE2⟩ := errR_met hl (by simp [Rows.parseFrontRow])
  exact law_ofG (gh := PA.hE ev) (P := Tryz.prog) (F := 3) (fn := Tryz.f3) (s := Rows.parseFrontSpec) (tb := 4) [9, 9] rfl (by kernel_rfl) (by kernel_rfl) (by kernel_rfl) (by kernel_rfl)
    (fun ds hds => by match ds, hds with | [a, b], _ => exact ⟨rfl, rfl, rfl⟩) W base args ds gs before hval0 hW hsz0 rfl  (glob_hrel rfl hE2) (front_pure ev hev)

theorem parseFront_said : Rows.ParseFrontSaid :=
  OpenClaim.holds_of_cond 3 Tryz.f3 rfl rfl rfl rfl rfl rfl rfl ⟨rfl, rfl, rfl, rfl, rfl⟩ rfl rfl rfl rfl rfl (by kernel_rfl) Tryz.func3 (by kernel_rfl)
    (of_decide_eq_true (by kernel_rfl)) (by unfold Func.isWrapper; first | (rw [if_pos (by decide +kernel)]; kernel_rfl) | (rw [if_neg (by decide +kernel)]; exact ⟨rfl, rfl⟩))
    (fun os started H enc _ F => by rw [OpenClaim.pre_eq_preRow]; exact parseFront_lifted os started H enc F)
theorem parseFront_plain (f : FuncId) (fn : Func) (hf : Tryz.pinned.checked.prog.funcNamed "roadstead/roadkeep2.ParseFront" = some f) (hfn : Tryz.pinned.checked.prog.funcs[f]? = some fn) :
    true = Tryz.pinned.checked.prog.looks [] ∧ ∀ (j : Nat) t, fn.params[j]? = some t → Tryz.pinned.checked.prog.wantsStandIn t = false := by
  obtain rfl : f = 3 := Option.some.inj ((show Tryz.prog.funcNamed "roadstead/roadkeep2.ParseFront" = some 3 by kernel_rfl).symm.trans hf) |>.symm
  obtain rfl : fn = Tryz.f3 := (Option.some.inj (Tryz.func3.symm.trans hfn)).symm
  refine ⟨by kernel_rfl, fun j t ht => ?_⟩
  rw [Tryz.params3] at ht
  have := Array.mem_of_getElem? ht
  have hall : ([9, 9] : List Nat).all (fun t => !(Tryz.pinned.checked.prog.wantsStandIn t)) = true := by kernel_rfl
  have hm : t ∈ ([9, 9] : List Nat) := by simpa using this
  have := List.all_eq_true.1 hall t hm
  simpa using this
theorem parseFront_holds : Rows.ParseFrontCardSaid :=
  Claim7.holds_tied_plain_at .later [] _ _ _ _ parseFront_said (fun _ h => by cases h) (by kernel_rfl) (fun _ h => by cases h) parseFront_row_tie rfl ⟨rfl, rfl⟩ (by kernel_rfl) rfl parseFront_plain (by kernel_rfl)
#print axioms parseFront_holds

end Go.Proofs.YtmakmpapchiioaaGreatDoor
