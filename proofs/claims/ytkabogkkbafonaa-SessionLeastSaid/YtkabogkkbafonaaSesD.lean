/-
  DERIVED. Contracts of the functions that the law reaches, and the law itself, for every input. No conditions.
-/
import Derived.Test.YtkabogkkbafonaaSesC
open Go Go.AM Go.Proofs
namespace SE
/-! Moore's refinement -/
theorem eqC_iff {cl : List Int} : ∀ {a b : List Br}, eqC cl a b = true ↔ brsR (fun u v => clAt cl u = clAt cl v) a b
  | [], [] => by simp [eqC, brsR]
  | [], _ :: _ => by simp [eqC, brsR]
  | _ :: _, [] => by simp [eqC, brsR]
  | x :: r, y :: r' => by simp [eqC, brsR, eqC_iff (a := r) (b := r'), and_assoc]
def Eq1 (l : List St) (cl : List Int) (i j : Int) : Prop := StR (fun u v => clAt cl u = clAt cl v) (stAt l i) (stAt l j)
theorem apart_iff {l : List St} {cl : List Int} {i j : Int} : apartF l cl i j = true ↔ Eq1 l cl i j := by
  simp [apartF, Eq1, StR, eqC_iff]
theorem Eq1.symm {l : List St} {cl : List Int} {i j : Int} (h : Eq1 l cl i j) : Eq1 l cl j i := ⟨h.1.symm, brsR_mono (fun _ _ _ _ q => q.symm) (brsR_symm h.2)⟩
theorem Eq1.trans {l : List St} {cl : List Int} {i j k : Int} (h : Eq1 l cl i j) (h' : Eq1 l cl j k) : Eq1 l cl i k := ⟨h.1.trans h'.1, brsR_trans (fun _ _ _ p q => p.trans q) h.2 h'.2⟩
theorem Eq1.refl (l : List St) (cl : List Int) (i : Int) : Eq1 l cl i i := ⟨rfl, brsR_refl (fun _ _ => rfl)⟩
theorem idxN_neg {p : Nat → Bool} : ∀ {fs : List Nat} {s : Nat}, idxN p fs s < 0 → ∀ j ∈ fs, p j = false
  | [], _, _, j, hj => by cases hj
  | x :: r, s, h, j, hj => by
    rw [idxN] at h
    cases hp : p x with
    | true => rw [hp, cond_true] at h; omega
    | false =>
      rw [hp, cond_false] at h
      rcases List.mem_cons.1 hj with rfl | hj
      · exact hp
      · exact idxN_neg h j hj
theorem idxN_pos {p : Nat → Bool} : ∀ {fs : List Nat} {s : Nat}, 0 ≤ idxN p fs s → ∃ n j, idxN p fs s = ((s + n : Nat) : Int) ∧ fs[n]? = some j ∧ p j = true
  | [], _, h => by simp [idxN] at h
  | x :: r, s, h => by
    rw [idxN] at h ⊢
    cases hp : p x with
    | true => exact ⟨0, x, by simp, rfl, hp⟩
    | false =>
      rw [hp, cond_false] at h
      obtain ⟨n, j, h1, h2, h3⟩ := idxN_pos h
      exact ⟨n + 1, j, by rw [cond_false, h1, show s + 1 + n = s + (n + 1) by omega], by simpa using h2, h3⟩
theorem clAt_app_l {a b : List Int} {x : Nat} (h : x < a.length) : clAt (a ++ b) x = clAt a x := by
  simp [clAt, List.getElem?_append_left h]
theorem clAt_app_r (a : List Int) (z : Int) : clAt (a ++ [z]) a.length = z := by
  simp [clAt]
theorem ref_inv (l : List St) (cl : List Int) : ∀ i, (∀ x, x < i → ∃ (k j : Nat), (refF l cl i).1[k]? = some j ∧ clAt (refF l cl i).2 x = k ∧ Eq1 l cl x j) ∧
    (∀ (k k' j j' : Nat), (refF l cl i).1[k]? = some j → (refF l cl i).1[k']? = some j' → Eq1 l cl j j' → k = k')
  | 0 => ⟨fun x hx => by omega, fun k k' j j' h => by simp [refF] at h⟩
  | i + 1 => by
    obtain ⟨h1, h2⟩ := ref_inv l cl i
    obtain ⟨r1, r2, r3⟩ := refF_ok l cl i
    rw [refF]
    cases hd : decide (idxN (fun j => apartF l cl i j) (refF l cl i).1 0 < 0) with
    | true =>
      have hneg := idxN_neg (of_decide_eq_true hd)
      simp only [cond_true]
      refine ⟨fun x hx => ?_, fun k k' j j' q1 q2 q3 => ?_⟩
      · by_cases e : x = i
        · subst e
          refine ⟨(refF l cl x).1.length, x, by simp, ?_, Eq1.refl _ _ _⟩
          have := clAt_app_r (refF l cl x).2 ((refF l cl x).1.length : Int)
          rw [r1] at this
          exact this
        · obtain ⟨k, j, p1, p2, p3⟩ := h1 x (by omega)
          have hk := (List.getElem?_eq_some_iff.1 p1).1
          exact ⟨k, j, by rw [List.getElem?_append_left hk]; exact p1, by rw [clAt_app_l (by omega)]; exact p2, p3⟩
      · have bad : ∀ (k k' j j' : Nat), k < (refF l cl i).1.length → ((refF l cl i).1 ++ [i])[k]? = some j → ¬ k' < (refF l cl i).1.length → ((refF l cl i).1 ++ [i])[k']? = some j' → Eq1 l cl j j' → False := by
          intro k k' j j' a1 a2 a3 a4 a5
          rw [List.getElem?_append_left a1] at a2
          rw [List.getElem?_append_right (by omega)] at a4
          have e0 : k' - (refF l cl i).1.length = 0 := by
            have := (List.getElem?_eq_some_iff.1 a4).1; simp at this; omega
          rw [e0] at a4
          simp at a4
          subst a4
          have := hneg j (List.mem_of_getElem? a2)
          rw [apart_iff.2 a5.symm] at this; cases this
        by_cases c1 : k < (refF l cl i).1.length
        · by_cases c2 : k' < (refF l cl i).1.length
          · rw [List.getElem?_append_left c1] at q1
            rw [List.getElem?_append_left c2] at q2
            exact h2 k k' j j' q1 q2 q3
          · exact (bad k k' j j' c1 q1 c2 q2 q3).elim
        · by_cases c2 : k' < (refF l cl i).1.length
          · exact (bad k' k j' j c2 q2 c1 q1 q3.symm).elim
          · have a1 := (List.getElem?_eq_some_iff.1 q1).1
            have a2 := (List.getElem?_eq_some_iff.1 q2).1
            simp at a1 a2; omega
    | false =>
      obtain ⟨n, j, p1, p2, p3⟩ := idxN_pos (show 0 ≤ idxN (fun j => apartF l cl i j) (refF l cl i).1 0 by have := of_decide_eq_false hd; omega)
      simp only [cond_false]
      refine ⟨fun x hx => ?_, h2⟩
      by_cases e : x = i
      · subst e
        refine ⟨n, j, p2, ?_, apart_iff.1 p3⟩
        have := clAt_app_r (refF l cl x).2 (idxN (fun j => apartF l cl x j) (refF l cl x).1 0)
        rw [r1] at this
        rw [this, p1]; simp
      · obtain ⟨k, j, q1, q2, q3⟩ := h1 x (by omega)
        exact ⟨k, j, q1, by rw [clAt_app_l (by omega)]; exact q2, q3⟩
/-- in round k: not told apart -/
def EQ (l : List St) (k : Nat) (x y : Int) : Prop := clAt (clsF l k) x = clAt (clsF l k) y
theorem EQ_zero (l : List St) (x y : Int) : EQ l 0 x y := by
  have : ∀ x, clAt (clsF l 0) x = 0 := by
    intro x
    simp only [clAt, clsF, List.getElem?_replicate]
    by_cases h : x.toNat < l.length <;> simp [h]
  rw [EQ, this x, this y]
theorem EQ_succ {l : List St} {k : Nat} {x y : Int} (hx : Inn l x) (hy : Inn l y) : EQ l (k + 1) x y ↔ StR (EQ l k) (stAt l x) (stAt l y) := by
  obtain ⟨h1, h2⟩ := ref_inv l (clsF l k) l.length
  obtain ⟨a, rfl⟩ : ∃ a : Nat, x = a := ⟨x.toNat, by have := hx.1; omega⟩
  obtain ⟨b, rfl⟩ : ∃ b : Nat, y = b := ⟨y.toNat, by have := hy.1; omega⟩
  obtain ⟨k1, j1, p1, p2, p3⟩ := h1 a (by have := hx.2; omega)
  obtain ⟨k2, j2, q1, q2, q3⟩ := h1 b (by have := hy.2; omega)
  show clAt (refF l (clsF l k) l.length).2 a = clAt (refF l (clsF l k) l.length).2 b ↔ Eq1 l (clsF l k) a b
  rw [p2, q2]
  constructor
  · intro e
    have : k1 = k2 := by omega
    subst this
    rw [p1] at q1; cases q1
    exact p3.trans q3.symm
  · intro e
    have := h2 k1 k2 j1 j2 p1 q1 ((p3.symm.trans e).trans q3)
    omega
theorem EQ_mono {l : List St} (v : Vs l) : ∀ (k : Nat) {x y : Int}, Inn l x → Inn l y → EQ l (k + 1) x y → EQ l k x y
  | 0, x, y, _, _, _ => EQ_zero l x y
  | k + 1, x, y, hx, hy, h => by
    rw [EQ_succ hx hy] at h ⊢
    exact ⟨h.1, brsR_mono (fun u hu w hw q => EQ_mono v k (v.brIn hx u hu) (v.brIn hy w hw) q) h.2⟩
theorem least_of (P : Nat → Prop) : ∀ n, P n → ∃ m, m ≤ n ∧ P m ∧ ∀ j, j < m → ¬ P j := by
  intro n
  induction n using Nat.strongRecOn with
  | ind n ih =>
    intro h
    by_cases q : ∃ j, j < n ∧ P j
    · obtain ⟨j, hj, hp⟩ := q
      obtain ⟨m, h1, h2, h3⟩ := ih j hj hp
      exact ⟨m, by omega, h2, h3⟩
    · exact ⟨n, Nat.le_refl _, h, fun j hj hp => q ⟨j, hj, hp⟩⟩
theorem filter_lt {α : Type} (p q : α → Bool) : ∀ (l : List α), (∀ x ∈ l, p x = true → q x = true) → (l.filter p).length ≤ (l.filter q).length ∧ ((∃ x ∈ l, q x = true ∧ p x = false) → (l.filter p).length < (l.filter q).length)
  | [], _ => ⟨by simp, by simp⟩
  | a :: r, h => by
    obtain ⟨h1, h2⟩ := filter_lt p q r (fun x hx => h x (by simp [hx]))
    have ha := h a (by simp)
    simp only [List.filter_cons]
    cases hp : p a with
    | true =>
      rw [ha hp]
      simp only [if_true, List.length_cons]
      refine ⟨by omega, fun ⟨x, hx, q1, q2⟩ => ?_⟩
      rcases List.mem_cons.1 hx with rfl | hx
      · rw [hp] at q2; cases q2
      · have := h2 ⟨x, hx, q1, q2⟩; omega
    | false =>
      cases hq : q a with
      | true => simp only [if_true, Bool.false_eq_true, if_false, List.length_cons]; exact ⟨by omega, fun _ => by omega⟩
      | false =>
        simp only [Bool.false_eq_true, if_false]
        refine ⟨h1, fun ⟨x, hx, q1, q2⟩ => ?_⟩
        rcases List.mem_cons.1 hx with rfl | hx
        · rw [hq] at q1; cases q1
        · exact h2 ⟨x, hx, q1, q2⟩
def isRep (l : List St) (k x : Nat) : Bool := (List.range x).all fun y => !(clAt (clsF l k) y == clAt (clsF l k) x)
theorem isRep_iff {l : List St} {k x : Nat} : isRep l k x = true ↔ ∀ y : Nat, y < x → ¬ EQ l k y x := by
  simp [isRep, EQ]
def reps (l : List St) (k : Nat) : Nat := ((List.range l.length).filter (isRep l k)).length
def Stable (l : List St) (k : Nat) : Prop := ∀ x y, Inn l x → Inn l y → EQ l k x y → EQ l (k + 1) x y
theorem reps_up {l : List St} (v : Vs l) {k : Nat} (h : ¬ Stable l k) : reps l k < reps l (k + 1) := by
  have : ∃ x y, Inn l x ∧ Inn l y ∧ EQ l k x y ∧ ¬ EQ l (k + 1) x y := by
    apply Classical.byContradiction
    intro hn
    exact h fun x y hx hy q => Classical.byContradiction fun q' => hn ⟨x, y, hx, hy, q, q'⟩
  obtain ⟨x, y, hx, hy, e1, e2⟩ := this
  have nat : ∀ {z : Int}, Inn l z → ∃ n : Nat, z = n ∧ n < l.length := fun {z} hz => ⟨z.toNat, by have := hz.1; omega, by have := hz.1; have := hz.2; omega⟩
  have inn : ∀ {n : Nat}, n < l.length → Inn l n := fun hn => ⟨by omega, by omega⟩
  obtain ⟨nx, rfl, hnx⟩ := nat hx
  obtain ⟨ny, rfl, hny⟩ := nat hy
  obtain ⟨r, hr1, hr2, hr3⟩ := least_of (fun n : Nat => EQ l k n nx) nx rfl
  have ht : ∃ t : Nat, t < l.length ∧ EQ l k nx t ∧ ¬ EQ l (k + 1) r t := by
    by_cases q : EQ l (k + 1) r nx
    · exact ⟨ny, hny, e1, fun q' => e2 (q.symm.trans q')⟩
    · exact ⟨nx, hnx, rfl, q⟩
  obtain ⟨t, ht1, ht2, ht3⟩ := ht
  obtain ⟨z, hz1, hz2, hz3⟩ := least_of (fun n : Nat => EQ l (k + 1) n t) t rfl
  have hzl : z < l.length := by omega
  have ezt : EQ l k z t := EQ_mono v k (inn hzl) (inn ht1) hz2
  have hzr : r < z := by
    have h1 : ¬ z < r := fun q => hr3 z q (ezt.trans ht2.symm)
    have h2 : z ≠ r := fun q => by subst q; exact ht3 hz2
    omega
  have r1 : isRep l (k + 1) z = true := isRep_iff.2 fun y hy q => hz3 y hy (q.trans hz2)
  have r2 : isRep l k z = false := by
    cases hq : isRep l k z with
    | false => rfl
    | true => exact absurd ((hr2.trans ht2).trans ezt.symm) (isRep_iff.1 hq r hzr)
  refine (filter_lt (isRep l k) (isRep l (k + 1)) (List.range l.length) (fun u hu q => ?_)).2 ⟨z, List.mem_range.2 hzl, r1, r2⟩
  have hu := List.mem_range.1 hu
  exact isRep_iff.2 fun y hy q' => isRep_iff.1 q y hy (EQ_mono v k (inn (by omega)) (inn hu) q')
theorem stable_up {l : List St} (v : Vs l) {k : Nat} (h : Stable l k) : Stable l (k + 1) := by
  intro x y hx hy q
  rw [EQ_succ hx hy] at q ⊢
  exact ⟨q.1, brsR_mono (fun u hu w hw p => h _ _ (v.brIn hx u hu) (v.brIn hy w hw) p) q.2⟩
theorem stable_n {l : List St} (v : Vs l) : Stable l l.length := by
  have key : ∀ k, Stable l k ∨ k + 1 ≤ reps l k := by
    intro k
    induction k with
    | zero =>
      right
      have h1 := v.len.1
      have : (0 : Nat) ∈ (List.range l.length).filter (isRep l 0) := List.mem_filter.2 ⟨List.mem_range.2 (by omega), rfl⟩
      have := List.length_pos_of_mem this
      unfold reps; omega
    | succ k ih =>
      rcases ih with h | h
      · exact .inl (stable_up v h)
      · by_cases q : Stable l k
        · exact .inl (stable_up v q)
        · have := reps_up v q; exact .inr (by omega)
  rcases key l.length with h | h
  · exact h
  · have : reps l l.length ≤ l.length := by
      unfold reps
      have := List.length_filter_le (isRep l l.length) (List.range l.length)
      rwa [List.length_range] at this
    omega
theorem cls_iff {l : List St} (v : Vs l) {x y : Int} (hx : Inn l x) (hy : Inn l y) : clAt (clsF l l.length) x = clAt (clsF l l.length) y ↔ Bis l l x y := by
  constructor
  · intro h
    refine ⟨fun u w => Inn l u ∧ Inn l w ∧ EQ l l.length u w, fun u w ⟨hu, hw, q⟩ => ⟨hu, hw, ?_⟩, hx, hy, h⟩
    have := stable_n v u w hu hw q
    rw [EQ_succ hu hw] at this
    exact ⟨this.1, brsR_mono (fun s hs t ht p => ⟨v.brIn hu s hs, v.brIn hw t ht, p⟩) this.2⟩
  · intro h
    have : ∀ k x y, Bis l l x y → EQ l k x y := by
      intro k
      induction k with
      | zero => exact fun x y _ => EQ_zero l x y
      | succ k ih =>
        intro x y hb
        rw [EQ_succ hb.inn.1 hb.inn.2]
        exact ⟨hb.st.1, brsR_mono (fun _ _ _ _ p => ih _ _ p) hb.st.2⟩
    exact this l.length x y h
end SE
