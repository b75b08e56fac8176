/-
  DERIVED. Contracts of the functions that the law reaches, and the law itself, for every input. No conditions.
-/
import Derived.Test.YtiidmganghfnjaaTI
open Go Go.AM Go.Proofs
namespace TK
theorem run_done (n : Net) (p : List Int) (hc : chkF n = 0) (hdl : (dualF n).1 < 0) (hrg : (ringF n).2 = 4) : (runF n p).2.2 = 0 ∧ (runF n p).2.1.length = n.who.length ∧ ∀ (i : Nat) (w : List Dd), n.who[i]? = some w → (runF n p).2.1[i]? = some (w.length : Int) := by
  have hv := chk_ok hc
  have hq : (chkF n != 0) = false := by rw [hc]; rfl
  have hdl2 : dlF n n.lines 0 < 0 := by
    have : dualF n = (dlF n n.lines 0, 0) := by unfold dualF; rw [hq]; rfl
    rw [this] at hdl; exact hdl
  have hrg2 : ringL n n.lines 0 [] = [] := by
    unfold ringF at hrg
    rw [hq, cond_false] at hrg
    split at hrg
    · assumption
    · simp at hrg
  obtain ⟨s1, s2⟩ := start_ok n
  obtain ⟨q1, q2, q3⟩ := runG_ends n hv (n.lines.length + total n + 1) p [] _ s1 (by omega)
  have hrun : runF n p = ((runG (n.lines.length + total n + 1) n p [] (List.replicate n.who.length 0)).1, (runG (n.lines.length + total n + 1) n p [] (List.replicate n.who.length 0)).2, 0) := by
    unfold runF; rw [hq]; rfl
  rw [hrun]
  refine ⟨rfl, q3.len, fun i w hw => ?_⟩
  have hil := (List.getElem?_eq_some_iff.1 hw).1
  have := all_done hv q3 q2 (even_steps hv q1 s1 (even_start n)) (fun j l hl => by simpa using dl_all n n.lines 0 hdl2 j l hl) (fun j l hl => by simpa using (ring_none n n.lines 0 [] hrg2).2 j l hl) i (by omega) (by omega)
  have hwa : wAt n.who (i : Int) = w := by simp [wAt, hw]
  rw [hwa] at this
  have hlen := q3.len
  have hlt : i < (runG (n.lines.length + total n + 1) n p [] (List.replicate n.who.length 0)).2.length := by omega
  simp only
  rw [List.getElem?_eq_getElem hlt]
  simp [dn, hlt] at this
  rw [this]
theorem talkGoes_spec (n : Net) (hn : okN n) (p : List Int) (hp : p.length < 9223372036854775807) :
    APure Try.prog 6 [.p (eN n), .p (.sl 1 (p.map vI))] (.p (.b true)) := by
  have h1 := dual_spec n hn
  have h2 := ring_spec n hn
  have h3 := run_spec n hn p hp
  have hde : (dualF n).2 = chkF n := by
    unfold dualF
    cases hq : chkF n != 0 with
    | true => rfl
    | false => have : chkF n = 0 := by simpa using hq
               rw [this]; rfl
  have hdone := run_done n p
  rw [← hde] at hdone
  generalize (dualF n).1 = dv at h1 hdone
  generalize (dualF n).2 = de at h1 hdone
  generalize (ringF n).1 = rl at h2
  generalize (ringF n).2 = re at h2 hdone
  generalize runF n p = rr at h3 hdone
  obtain ⟨ch, at', er⟩ := rr
  obtain ⟨hn1, hn2, hn3⟩ := hn
  obtain ⟨lines, who⟩ := n
  simp only at hn1 hn2 hn3 h3 hdone
  refine APure.intro (tyOf_ok Try.prog) hmix Try.func6 rfl (by rfl) (by kernel_rfl) (by show 2 ≤ _; decide) rfl ?_
  conv => whnf
  refine apc talks_spec ?_
  conv => whnf
  refine apc h1 ?_
  conv => whnf
  refine apc h2 ?_
  conv => whnf
  refine asplit ?_ ?_ <;> intro g1 <;> conv => whnf
  · exact .inl rfl
  refine asplit ?_ ?_ <;> intro g2 <;> conv => whnf
  · exact .inl rfl
  refine asplit ?_ ?_ <;> intro g3 <;> conv => whnf
  · exact .inl rfl
  have g1 : de = 0 := by simpa using g1
  have g2 : dv < 0 := by have := of_decide_eq_false g2; omega
  have g3 : re = 4 := by simpa using g3
  obtain ⟨r1, r2, r3⟩ := hdone g1 g2 g3
  subst r1
  refine apc h3 ?_
  conv => whnf
  refine asf (by simp [r2]) ?_
  conv => whnf
  refine loopS (tyOf_ok _) hmix (by kernel_rfl) who.length [10, 54, 55, 56] [] (fun k _ => [.p (.sl 1 (at'.map vI)), .p (.sl 1 (who.map eW)), .p (.i .i64 (who.map eW).length), .p (.i .i64 (ix k))])
    (fun _ _ => []) (fun k _ => True) () ⟨rfl, rfl, rfl, rfl⟩ trivial ?_
  intro k _ hk _
  conv => whnf
  refine asplit ?_ ?_ <;> intro g4 <;> conv => whnf
  · have hk1 := ix_tt g4 (by simp) hk hn2
    obtain ⟨w, hw⟩ : ∃ b, who[k]? = some b := ⟨who[k], by simp [hk1]⟩
    refine aidxk (x := eW w) (by simp [hw]) (by omega) ?_
    conv => whnf
    refine aidxk (x := vI w.length) (by simp [r3 k w hw]) (by omega) ?_
    conv => whnf
    refine asf (by simp) ?_
    conv => whnf
    exact ⟨hk1, (), ⟨rfl, rfl, rfl, rfl⟩, trivial⟩
  · exact .inl rfl
end TK
