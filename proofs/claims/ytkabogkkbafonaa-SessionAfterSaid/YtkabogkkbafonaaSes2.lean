/-
  DERIVED. Contracts of the functions that the law reaches, and the law itself, for every input. No conditions.
-/
import Derived.Test.YtkabogkkbafonaaSes1
import Derived.Test.YtkabogkkbafonaaAMInv
import Derived.Test.YtkabogkkbafonaaRows
import Derived.ProofKit
import Derived.SizedLaws
import Derived.ChangeBears2
import Derived.OpenShut
namespace Go.Proofs.Ytkabogkkbafonaa
open Go Go.AM Go.Proofs SE

theorem Try.own : ownKnob Try.prog.godebug = none := by kernel_rfl

theorem dec_br (cs : List PV) (h : TP Try.prog 39 cs) : ∃ d, PV.agg cs = eB d ∧ True := by
  obtain ⟨hl, hf⟩ := tp_struct (n := 2) (l := [(0, 3, 1), (1, 3, 1)]) (by kernel_rfl) h
  match cs, hl with
  | [a, b], _ =>
    obtain ⟨m, e1, _⟩ := tp_int (k := .i64) (by kernel_rfl) (hf (0, 3, 1) (by simp))
    obtain ⟨n, e2, _⟩ := tp_int (k := .i64) (by kernel_rfl) (hf (1, 3, 1) (by simp))
    cases e1; cases e2
    exact ⟨⟨m, n⟩, rfl, trivial⟩

theorem dec_st (cs : List PV) (h : TP Try.prog 42 cs) : ∃ d, PV.agg cs = eS d ∧ d.brs.length * 16 ≤ 140737488355328 := by
  obtain ⟨hl, hf⟩ := tp_struct (n := 2) (l := [(0, 3, 1), (1, 40, 1)]) (by kernel_rfl) h
  match cs, hl with
  | [a, b], _ =>
    obtain ⟨m, e1, _⟩ := tp_int (k := .i64) (by kernel_rfl) (hf (0, 3, 1) (by simp))
    obtain ⟨n, e2, hb, _⟩ := tp_list (e := 39) (c := 2) (b := 16) (by kernel_rfl) (hf (1, 40, 1) (by simp)) dec_br
    cases e1; cases e2
    exact ⟨⟨m, n⟩, rfl, by dsimp only; omega⟩

theorem dec_w (cs : List PV) (h : TP Try.prog 29 cs) : ∃ d, PV.agg cs = eW d ∧ True := by
  obtain ⟨hl, hf⟩ := tp_struct (n := 2) (l := [(0, 4, 1), (1, 3, 1)]) (by kernel_rfl) h
  match cs, hl with
  | [a, b], _ =>
    obtain ⟨m, e1⟩ := tp_bool (by kernel_rfl) (hf (0, 4, 1) (by simp))
    obtain ⟨n, e2, _⟩ := tp_int (k := .i64) (by kernel_rfl) (hf (1, 3, 1) (by simp))
    cases e1; cases e2
    exact ⟨⟨m, n⟩, rfl, trivial⟩

theorem after_pure (xss : List (List PV)) (h : TPs Try.prog [22, 23] xss) : APure Try.prog 3 (mkArgs Try.prog [22, 23] xss) (.p (.b true)) := by
  cases h with
  | cons _ _ x xs h1 h2 =>
    cases h2 with
    | cons _ _ y ys h3 h4 =>
      cases h4
      obtain ⟨l, rfl, _, hf⟩ := tp_list (e := 42) (c := 2) (b := 32) (by kernel_rfl) h1 dec_st
      obtain ⟨ws, rfl, hw, _⟩ := tp_list (e := 29) (c := 2) (b := 16) (by kernel_rfl) h3 dec_w
      have e1 : aggT Try.prog 22 = false := by kernel_rfl
      have e2 : aggT Try.prog 23 = false := by kernel_rfl
      have := law_spec l ws hf hw
      simpa only [mkArgs, mkArg, e1, e2, List.headD_cons, Bool.false_eq_true, if_false] using this

set_option maxRecDepth 100000 in
theorem after_lifted (os : Os) (started : os.Started) (H : Type) (enc : TypeId × Value → H) :
    ReturnsInHanded {} Try.checked os 3 .any (Rows.sessionAfterSpec.pre6 enc Try.prog Try.f3 Rows.sessionAfterRow.domain false) (Rows.sessionAfterSpec.post enc Try.prog Try.f3 false true false false) := by
  refine returnsInHanded_of_change_sized (C := Try.checked) Try.own started (by kernel_rfl) Try.func3
    (ChangeSpec.witness6 (enc := enc) (C := Try.checked) false ⟨#[], #[.slice none 0 0, .slice none 0 0], []⟩ 8 (by kernel_rfl) (by kernel_rfl) (by kernel_rfl) (by kernel_rfl)) ?_
  intro W base args ds gs before hval0 hW _ hsz0 _
  have hp : Try.f3.params.toList = [22, 23] := by kernel_rfl
  refine law_contract (P := Try.prog) (F := 3) (fn := Try.f3) (s := Rows.sessionAfterSpec) (tb := 4) (l := [22, 42, 3, 40, 39, 23, 29, 4]) rfl (by kernel_rfl) (by rw [hp]; decide) (by kernel_rfl) ?_ (by kernel_rfl) (by kernel_rfl) ?_ W base args ds gs before hval0 hW ?_ ?_
  · rw [hp]
    intro t ht
    simp only [List.mem_cons, List.not_mem_nil, or_false] at ht
    rcases ht with rfl | rfl
    · exact ⟨by kernel_rfl, of_decide_eq_true (by kernel_rfl)⟩
    · exact ⟨by kernel_rfl, of_decide_eq_true (by kernel_rfl)⟩
  · intro ds hds
    rw [hp] at hds
    match ds, hds with
    | [a, b], _ => exact ⟨rfl, rfl, rfl⟩
  · intro x hx
    have hg : gs = [] := by
      obtain ⟨p, q, _, hV, _⟩ := hW
      cases gs with
      | nil => rfl
      | cons x r => simp [Rows.sessionAfterSpec, DataW.TrodVars] at hV
    subst hg
    have hsz : (DataW.weightsEach Try.prog (Try.f3.params.toList ++ []) (ds ++ [])).all (· ≤ reachBytes) = true := hsz0
    rw [List.append_nil, List.append_nil] at hsz
    exact of_decide_eq_true (List.all_eq_true.1 hsz x hx)
  · rw [hp]; exact after_pure

theorem sessionAfter_holds : Rows.SessionAfterSaid :=
  OpenClaim.holds_of_wide 3 Try.f3 rfl rfl rfl rfl rfl rfl rfl ⟨rfl, rfl, rfl, rfl, rfl⟩ rfl rfl rfl rfl rfl (by kernel_rfl) Try.func3 (by kernel_rfl)
    (of_decide_eq_true (by kernel_rfl)) (by unfold Func.isWrapper; first | (rw [if_pos (by decide +kernel)]; kernel_rfl) | (rw [if_neg (by decide +kernel)]; exact ⟨rfl, rfl⟩))
    (fun os started H enc _ => after_lifted os started H enc)
#print axioms sessionAfter_holds
end Go.Proofs.Ytkabogkkbafonaa
