/-
  DERIVED. Contracts of the functions that the law reaches, and the law itself, for every input. No conditions.
-/
import Derived.Test.YtiidmganghfnjaaTB
import Derived.Test.YtiidmganghfnjaaAMInt
open Go Go.AM Go.Proofs
namespace TK
/-! talk.path, in plain words -/
def oth (l : Ln) (w : Int) : Int := l.a + l.b - w
def skipL (wo w : Int) (k : Nat) (l : Ln) : Bool := ((k : Int) == wo) || ((l.a != w) && (l.b != w))
def inL (wo w : Int) : List Ln → Nat → List (Int × Int) → List Int → List (Int × Int) × List Int
  | [], _, m, q => (m, q)
  | l :: r, k, m, q => bif skipL wo w k l then inL wo w r (k + 1) m q else match ilook (oth l w) m with
    | some _ => inL wo w r (k + 1) m q
    | none => inL wo w r (k + 1) (iput (oth l w) k m) (q ++ [oth l w])
def bfsF (lines : List Ln) (to wo : Int) : Nat → List (Int × Int) → List Int → List (Int × Int) × List Int
  | 0, m, q => (m, q)
  | _ + 1, m, [] => (m, [])
  | f + 1, m, w :: q => bif w == to then (m, w :: q) else bfsF lines to wo f (inL wo w lines 0 m q).1 (inL wo w lines 0 m q).2
def backF (lines : List Ln) (m : List (Int × Int)) (fr : Int) : Nat → Int → List Int
  | 0, _ => []
  | f + 1, w => bif w == fr then [] else (ilook w m).getD 0 :: backF lines m fr f (oth (lnAt lines ((ilook w m).getD 0)) w)
def pathF (n : Net) (fr to wo : Int) : List Int × Bool :=
  match (bfsF n.lines to wo 9 [(fr, -1)] [fr]).2 with
  | [] => ([], false)
  | _ :: _ => (revF (backF n.lines (bfsF n.lines to wo 9 [(fr, -1)] [fr]).1 fr 9 to), true)

theorem ilook_mem {k : Int} : ∀ {m : List (Int × Int)} {v : Int}, ilook k m = some v → (k, v) ∈ m
  | [], v, h => by simp [ilook] at h
  | (a, u) :: r, v, h => by
    rw [ilook] at h
    cases hq : k == a with
    | true => rw [hq] at h; have := of_decide_eq_true hq; cases h; subst this; simp
    | false => rw [hq] at h; exact List.mem_cons_of_mem _ (ilook_mem h)
theorem ilook_none {k : Int} : ∀ {m : List (Int × Int)}, ilook k m = none ↔ k ∉ m.map Prod.fst
  | [] => by simp [ilook]
  | (a, u) :: r => by
    rw [ilook]
    cases hq : k == a with
    | true => have := of_decide_eq_true hq; subst this; simp
    | false =>
      have h1 : ¬ k = a := of_decide_eq_false hq
      rw [cond_false, ilook_none (m := r)]; simp [h1]
theorem iput_new {k v : Int} : ∀ {m : List (Int × Int)}, ilook k m = none → iput k v m = m ++ [(k, v)]
  | [], _ => rfl
  | (a, u) :: r, h => by
    rw [ilook] at h
    cases hq : k == a with
    | true => rw [hq] at h; cases h
    | false => rw [hq] at h; rw [iput, hq]; simp [iput_new h]
theorem ilook_at {m : List (Int × Int)} (hn : (m.map Prod.fst).Nodup) {p : Int × Int} (hp : p ∈ m) : ilook p.1 m = some p.2 := by
  induction m with
  | nil => cases hp
  | cons c r ih =>
    obtain ⟨a, u⟩ := c
    rw [List.map_cons, List.nodup_cons] at hn
    rw [ilook]
    rcases List.mem_cons.1 hp with rfl | hp
    · simp
    · have : (p.1 == a) = false := beq_eq_false_iff_ne.2 fun e => hn.1 (List.mem_map.2 ⟨p, hp, e⟩)
      rw [this]; exact ih hn.2 hp
/-- the tree of those that were reached -/
structure BOK (n : Net) (fr : Int) (m : List (Int × Int)) : Prop where
  hd : m[0]? = some (fr, -1)
  nd : (m.map Prod.fst).Nodup
  rng : ∀ p ∈ m, 0 ≤ p.1 ∧ p.1 < n.who.length
  tr : ∀ (i : Nat) (p : Int × Int), 0 < i → m[i]? = some p → 0 ≤ p.2 ∧ p.2 < n.lines.length ∧ ∃ (j : Nat) (y : Int × Int), j < i ∧ m[j]? = some y ∧ y.1 = oth (lnAt n.lines p.2) p.1
theorem BOK.len {n : Net} {fr : Int} {m : List (Int × Int)} (h : BOK n fr m) : m.length ≤ n.who.length := by
  have key : ∀ (N : Nat) (l : List Nat), l.Nodup → (∀ x ∈ l, x < N) → l.length ≤ N := by
    intro N
    induction N with
    | zero => intro l _ h; cases l with | nil => simp | cons x r => exact absurd (h x (by simp)) (by omega)
    | succ N ih =>
      intro l hn hh
      have h1 := ih (l.filter (· ≠ N)) (hn.filter _) (fun x hx => by
        have := List.mem_filter.1 hx
        have := hh x this.1
        have h3 : x ≠ N := by simpa using (List.mem_filter.1 hx).2
        omega)
      have h2 : l.length ≤ (l.filter (· ≠ N)).length + 1 := by
        clear ih h1 hh
        induction l with
        | nil => simp
        | cons a r ihr =>
          rw [List.nodup_cons] at hn
          by_cases e : a = N
          · subst e
            have : r.filter (· ≠ a) = r := List.filter_eq_self.2 fun x hx => by simp; intro q; subst q; exact hn.1 hx
            rw [List.filter_cons, if_neg (by simp), this]; simp
          · rw [List.filter_cons, if_pos (by simpa using e)]
            have := ihr hn.2
            simp only [List.length_cons]; omega
      omega
  have h2 : (m.map fun p => p.1.toNat).Nodup := by
    have hr := h.rng
    have hn := h.nd
    clear h key
    induction m with
    | nil => simp
    | cons x r ih =>
      rw [List.map_cons, List.nodup_cons] at hn ⊢
      refine ⟨fun hx => ?_, ih (fun y hy => hr y (List.mem_cons_of_mem _ hy)) hn.2⟩
      obtain ⟨y, hy, e⟩ := List.mem_map.1 hx
      have q1 := hr y (List.mem_cons_of_mem _ hy)
      have q2 := hr x (by simp)
      have : y.1 = x.1 := by omega
      exact hn.1 (List.mem_map.2 ⟨y, hy, this⟩)
  have := key n.who.length _ h2 (fun x hx => by
    obtain ⟨y, hy, rfl⟩ := List.mem_map.1 hx
    have := h.rng y hy; omega)
  simpa using this
theorem BOK.add {n : Net} (hv : Valid n) {fr : Int} {m : List (Int × Int)} (h : BOK n fr m) {k : Nat} {l : Ln} {w : Int} (hl : n.lines[k]? = some l) (hw : w ∈ m.map Prod.fst) (hon : l.a = w ∨ l.b = w) (hnew : ilook (oth l w) m = none) : BOK n fr (m ++ [(oth l w, (k : Int))]) := by
  obtain ⟨v1, v2, v3, v4, v5⟩ := hv.ln l (List.mem_of_getElem? hl)
  have hkl := (List.getElem?_eq_some_iff.1 hl).1
  have hm0 : 0 < m.length := (List.getElem?_eq_some_iff.1 h.hd).1
  have hat : lnAt n.lines (k : Int) = l := by simp [lnAt, hl]
  refine ⟨by rw [List.getElem?_append_left hm0]; exact h.hd, ?_, fun p hp => ?_, fun i p hi hp => ?_⟩
  · rw [List.map_append, List.nodup_append]
    refine ⟨h.nd, by simp, fun a ha b hb => ?_⟩
    simp at hb; subst hb
    intro e; subst e
    exact ilook_none.1 hnew ha
  · rcases List.mem_append.1 hp with hp | hp
    · exact h.rng p hp
    · rw [List.mem_singleton.1 hp]; simp only [oth]; omega
  · by_cases hlt : i < m.length
    · rw [List.getElem?_append_left hlt] at hp
      obtain ⟨q1, q2, j, y, q3, q4, q5⟩ := h.tr i p hi hp
      exact ⟨q1, q2, j, y, q3, by rw [List.getElem?_append_left (by omega)]; exact q4, q5⟩
    · rw [List.getElem?_append_right (by omega)] at hp
      have e : i - m.length = 0 := by have := (List.getElem?_eq_some_iff.1 hp).1; simp at this; omega
      rw [e] at hp
      simp at hp; subst hp
      obtain ⟨y, hy, hyw⟩ := List.mem_map.1 hw
      obtain ⟨j, hj⟩ := List.mem_iff_getElem?.1 hy
      have hjl := (List.getElem?_eq_some_iff.1 hj).1
      refine ⟨by simp only; omega, by simp only; omega, j, y, by omega, by rw [List.getElem?_append_left hjl]; exact hj, ?_⟩
      simp only [hat, oth]; omega
end TK
