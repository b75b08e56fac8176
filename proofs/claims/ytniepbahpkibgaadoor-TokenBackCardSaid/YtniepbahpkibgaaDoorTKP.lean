/-
  DERIVED. Contracts of the functions that the law reaches, and the law itself, for every input. No conditions.
-/
import Derived.Test.YtniepbahpkibgaaDoorTK8
open Go Go.AM
set_option maxRecDepth 100000
namespace TK
/-! plain laws: the front of a text -/
theorem spanF_take (f : UInt8 → Bool) : ∀ (l : Bs) (m : Nat), spanF f (l.take m) = min (spanF f l) m
  | [], m => by simp [spanF]
  | c :: r, 0 => by simp [spanF]
  | c :: r, m + 1 => by
    rw [List.take_succ_cons, spanF, spanF, spanF_take f r m]
    cases f c <;> simp <;> omega
theorem esc_take (r : Bs) (m : Nat) (h : (escF r).2 ≠ 0) (hm : (escF r).2 ≤ m) : escF (r.take m) = escF r := by
  cases r with
  | nil => simp
  | cons c r =>
    cases m with
    | zero => omega
    | succ m =>
      rw [List.take_succ_cons]
      revert h hm
      rw [escF, escF]
      cases bi c == 110 with
      | true => intro _ _; rfl
      | false =>
        cases bi c == 34 || bi c == 92 with
        | true => intro _ _; rfl
        | false =>
          cases bi c == 120 with
          | false => intro _ _; rfl
          | true =>
            simp only [cond_false, cond_true]
            intro h hm
            match r with
            | [] => simp [escX] at h
            | [_] => simp [escX] at h
            | a :: b :: q =>
              rw [escX] at h hm
              have hc : (decide (hexF a ≥ 0) && decide (hexF b ≥ 0)) = true := by
                cases hq : (decide (hexF a ≥ 0) && decide (hexF b ≥ 0)) with
                | true => rfl
                | false => rw [hq] at h; simp at h
              rw [hc, cond_true] at hm
              simp only at hm
              obtain ⟨m, rfl⟩ : ∃ k, m = k + 2 := ⟨m - 2, by omega⟩
              rw [List.take_succ_cons, List.take_succ_cons, escX, escX]
theorem lit_gt : ∀ (n : Nat) (r v : Bs) (i : Nat), r.length ≤ n → (litGo r v i).2 ≠ 0 → i < (litGo r v i).2
  | n, [], v, i, _, h => by rw [litGo] at h; simp at h
  | 0, _ :: _, v, i, h, _ => by simp at h
  | n + 1, c :: r, v, i, h, h2 => by
    simp only [List.length_cons] at h
    revert h2
    rw [litGo]
    cases bi c == 34 with
    | true =>
      rw [cond_true]
      cases decide (v.length > 64) with
      | true => intro h2; simp at h2
      | false => intro _; simp
    | false =>
      rw [cond_false]
      cases decide (bi c < 32) with
      | true => intro h2; simp at h2
      | false =>
        rw [cond_false]
        cases bi c != 92 with
        | true => intro h2; rw [cond_true] at h2 ⊢; have := lit_gt n r _ _ (by omega) h2; omega
        | false =>
          rw [cond_false]
          cases (escF r).2 == 0 with
          | true => intro h2; simp at h2
          | false =>
            intro h2
            rw [cond_false] at h2 ⊢
            have := lit_gt n _ _ _ (by rw [List.length_drop]; omega) h2
            omega
theorem lit_take : ∀ (n : Nat) (r v : Bs) (i m : Nat), r.length ≤ n → (litGo r v i).2 ≠ 0 → (litGo r v i).2 ≤ i + m → litGo (r.take m) v i = litGo r v i
  | n, [], v, i, m, _, h, _ => by rw [litGo] at h; simp at h
  | 0, _ :: _, v, i, m, h, _, _ => by simp at h
  | n + 1, c :: r, v, i, m, h, h2, h3 => by
    have hg := lit_gt (n + 1) (c :: r) v i h h2
    simp only [List.length_cons] at h
    cases m with
    | zero => omega
    | succ m =>
      rw [List.take_succ_cons]
      revert h2 h3
      rw [litGo, litGo]
      cases bi c == 34 with
      | true => intro _ _; rfl
      | false =>
        rw [cond_false, cond_false]
        cases decide (bi c < 32) with
        | true => intro _ _; rfl
        | false =>
          rw [cond_false, cond_false]
          cases bi c != 92 with
          | true => rw [cond_true, cond_true]; intro h2 h3; exact lit_take n r _ _ m (by omega) h2 (by omega)
          | false =>
            rw [cond_false, cond_false]
            cases hq : (escF r).2 == 0 with
            | true => intro h2; simp at h2
            | false =>
              rw [cond_false]
              intro h2 h3
              have hne : (escF r).2 ≠ 0 := by simpa using hq
              have hgt := lit_gt _ _ _ _ (Nat.le_refl _) h2
              rw [esc_take r m hne (by omega), hq, cond_false, List.drop_take]
              exact lit_take n _ _ _ _ (by rw [List.length_drop]; omega) h2 (by omega)
theorem next_take (L : Bs) (m : Nat) (h : (nextF L).2.2 ≠ 0) (hm : (nextF L).2.2 ≤ m) : nextF (L.take m) = nextF L := by
  cases L with
  | nil => simp
  | cons c r =>
    cases m with
    | zero => omega
    | succ m =>
      have hcr : (c :: r).take (m + 1) = c :: r.take m := rfl
      rw [nextF_cons ((c :: r).take (m + 1)) c (r.take m) hcr]
      revert h hm
      rw [nextF_cons (c :: r) c r rfl]
      rw [spanF_take, spanF_take]
      cases letterF c with
      | true =>
        simp only [cond_true]
        intro h hm
        have hn : spanF partF (c :: r) ≤ m + 1 := by
          revert h hm
          cases wordF ((c :: r).take (spanF partF (c :: r))) with
          | true => exact fun _ x => x
          | false =>
            cases lowF ((c :: r).take (spanF partF (c :: r))) with
            | true => exact fun _ x => x
            | false =>
              cases upF ((c :: r).take (spanF partF (c :: r))) with
              | true => exact fun _ x => x
              | false => exact fun x _ => absurd rfl x
        rw [Nat.min_eq_left hn, List.take_take, Nat.min_eq_left hn]
      | false =>
        simp only [cond_false]
        cases digitF c with
        | true =>
          simp only [cond_true]
          cases hp : pO (c :: r)[spanF digitF (c :: r)]? with
          | true => intro h; simp at h
          | false =>
            simp only [cond_false]
            intro h hm
            have hp2 : pO ((c :: r).take (m + 1))[spanF digitF (c :: r)]? = false := by
              rcases Nat.lt_or_ge (spanF digitF (c :: r)) (m + 1) with q | q
              · rw [List.getElem?_take_of_lt q]; exact hp
              · rw [List.getElem?_eq_none (by rw [List.length_take]; omega)]; rfl
            rw [Nat.min_eq_left hm, hp2, List.take_take, Nat.min_eq_left hm]; rfl
        | false =>
          simp only [cond_false]
          cases bi c == 34 with
          | true =>
            simp only [cond_true]
            rw [litF, litF, show ((c :: r).take (m + 1)).drop 1 = r.take m from rfl, show (c :: r).drop 1 = r from rfl]
            intro h hm
            rw [lit_take _ r [] 1 m (Nat.le_refl _) h (by omega)]
          | false =>
            simp only [cond_false]
            match r with
            | [] => intro _ _; rw [show ((([c] : Bs).take (m + 1)) : Bs) = [c] by simp]
            | d :: q =>
              cases m with
              | succ m =>
                rw [show min 2 (c :: d :: q).length = 2 by simp]
                rw [show min 2 ((c :: d :: q).take (m + 1 + 1)).length = 2 by simp]
                intro _ _; rfl
              | zero =>
                rw [show min 2 (c :: d :: q).length = 2 by simp, show (2 : Nat) = 1 + 1 from rfl, stF]
                cases signF ((c :: d :: q).take (1 + 1)) with
                | true => intro _ hm; simp at hm
                | false => intro _ _; rfl
def Inc (i : Nat) (o : List Tk) : Prop := (∀ t ∈ o, t.at_ < i) ∧ ∀ (j : Nat) (a b : Tk), o[j]? = some a → o[j + 1]? = some b → a.at_ < b.at_
theorem Inc.up {i i' : Nat} {o : List Tk} (h : Inc i o) (hi : i ≤ i') : Inc i' o := ⟨fun t ht => Nat.lt_of_lt_of_le (h.1 t ht) hi, h.2⟩
theorem Inc.snoc {i n : Nat} {o : List Tk} (h : Inc i o) (hn : n ≠ 0) (t : Tk) (ht : t.at_ = i) : Inc (i + n) (o ++ [t]) := by
  refine ⟨fun x hx => ?_, fun j a b ha hb => ?_⟩
  · rcases List.mem_append.1 hx with q | q
    · have := h.1 x q; omega
    · simp at q; subst q; omega
  · rcases Nat.lt_or_ge (j + 1) o.length with q | q
    · rw [List.getElem?_append_left (by omega)] at ha hb
      exact h.2 j a b ha hb
    · have hj : j + 1 = o.length := by
        have := (List.getElem?_eq_some_iff.1 hb).1
        simp at this; omega
      rw [List.getElem?_append_left (by omega)] at ha
      rw [hj, List.getElem?_append_right (Nat.le_refl _), Nat.sub_self] at hb
      simp at hb; subst hb
      rw [ht]; exact h.1 a (List.mem_of_getElem? ha)
theorem read_inv : ∀ (n : Nat) (l : Bs) (i : Nat) (out : List Tk), l.length ≤ n → Inc i out →
    (∀ o, readGo l i out = (o, none) → Inc (i + l.length) o) ∧ (∀ o j, readGo l i out = (o, some j) → i ≤ j ∧ j < i + l.length ∧ ∀ out', (readGo (l.take (j - i)) i out').2 = none)
  | n, [], i, out, _, hi => ⟨fun o h => by rw [readGo] at h; cases h; exact hi, fun o j h => by rw [readGo] at h; cases h⟩
  | 0, _ :: _, i, out, h, _ => by simp at h
  | n + 1, c :: r, i, out, h, hi => by
    simp only [List.length_cons] at h ⊢
    have pre : ∀ j, i < j → (c :: r).take (j - i) = c :: r.take (j - (i + 1)) := fun j hj => by
      obtain ⟨k, rfl⟩ : ∃ k, j = i + (k + 1) := ⟨j - i - 1, by omega⟩
      rw [Nat.add_sub_cancel_left, List.take_succ_cons, show i + (k + 1) - (i + 1) = k by omega]
    rw [readGo]
    cases hb : blankF c with
    | true =>
      rw [cond_true]
      obtain ⟨k1, k2⟩ := read_inv n r (i + 1) out (by omega) (hi.up (by omega))
      refine ⟨fun o ho => (k1 o ho).up (by omega), fun o j ho => ?_⟩
      obtain ⟨q1, q2, q3⟩ := k2 o j ho
      refine ⟨by omega, by omega, fun out' => ?_⟩
      rw [pre j (by omega), readGo, hb, cond_true]
      exact q3 out'
    | false =>
      rw [cond_false]
      cases h35 : bi c == 35 with
      | true =>
        rw [cond_true]
        have hs := spanF_le nlF r
        obtain ⟨k1, k2⟩ := read_inv n (r.drop (spanF nlF r)) (i + (spanF nlF r + 1)) out (by rw [List.length_drop]; omega) (hi.up (by omega))
        rw [List.length_drop] at k1 k2
        refine ⟨fun o ho => (k1 o ho).up (by omega), fun o j ho => ?_⟩
        obtain ⟨q1, q2, q3⟩ := k2 o j ho
        refine ⟨by omega, by omega, fun out' => ?_⟩
        rw [pre j (by omega), readGo, hb, cond_false, h35, cond_true, spanF_take, Nat.min_eq_left (by omega), List.drop_take, show j - (i + 1) - spanF nlF r = j - (i + (spanF nlF r + 1)) by omega]
        exact q3 out'
      | false =>
        rw [cond_false]
        simp only
        have hle := next_le (c :: r)
        cases hz : (nextF (c :: r)).2.2 == 0 with
        | true =>
          rw [cond_true]
          refine ⟨fun o ho => (by cases ho), fun o j ho => ?_⟩
          cases ho
          refine ⟨by omega, by omega, fun out' => ?_⟩
          rw [Nat.sub_self, List.take_zero, readGo]
        | false =>
          rw [cond_false]
          have hne : (nextF (c :: r)).2.2 ≠ 0 := by simpa using hz
          simp only [List.length_cons] at hle
          obtain ⟨k1, k2⟩ := read_inv n (r.drop ((nextF (c :: r)).2.2 - 1)) (i + (nextF (c :: r)).2.2) (out ++ [⟨(nextF (c :: r)).1, (nextF (c :: r)).2.1, i⟩]) (by rw [List.length_drop]; omega) (hi.snoc hne _ rfl)
          rw [List.length_drop] at k1 k2
          refine ⟨fun o ho => (k1 o ho).up (by omega), fun o j ho => ?_⟩
          obtain ⟨q1, q2, q3⟩ := k2 o j ho
          refine ⟨by omega, by omega, fun out' => ?_⟩
          have ht := next_take (c :: r) (j - i) hne (by omega)
          rw [pre j (by omega)] at ht ⊢
          rw [readGo, hb, cond_false, h35, cond_false]
          simp only
          rw [ht, hz, cond_false, List.drop_take, show j - (i + 1) - ((nextF (c :: r)).2.2 - 1) = j - (i + (nextF (c :: r)).2.2) by omega]
          exact q3 _
theorem readF_front (l : Bs) (o : List Tk) (j : Nat) (hl : l.length ≤ 4000) (h : readGo l 0 [] = (o, some j)) : j < l.length ∧ (readF (l.take j)).2.2 = 0 := by
  obtain ⟨_, h2, h3⟩ := (read_inv _ l 0 [] (Nat.le_refl _) ⟨by simp, by simp⟩).2 o j h
  refine ⟨by omega, ?_⟩
  have h3 := h3 []
  rw [readF, decide_eq_false (by rw [List.length_take]; omega), cond_false]
  rw [Nat.sub_zero] at h3
  match hq : readGo (l.take j) 0 [] with
  | (o', none) => rfl
  | (_, some i) => rw [hq] at h3; cases h3
end TK
