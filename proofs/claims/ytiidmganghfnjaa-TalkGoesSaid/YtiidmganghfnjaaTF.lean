/-
  DERIVED. Contracts of the functions that the law reaches, and the law itself, for every input. No conditions.
-/
import Derived.Test.YtiidmganghfnjaaTE
open Go Go.AM Go.Proofs
namespace TK
/-! what no path means -/
theorem inL_spec (wo w : Int) : ∀ (ls : List Ln) (k : Nat) (m : List (Int × Int)) (q : List Int), ∃ ext : List Int, (inL wo w ls k m q).1.map Prod.fst = m.map Prod.fst ++ ext ∧ (inL wo w ls k m q).2 = q ++ ext ∧
    ∀ (j : Nat) (l : Ln), ls[j]? = some l → skipL wo w (k + j) l = false → oth l w ∈ m.map Prod.fst ++ ext
  | [], k, m, q => ⟨[], by simp [inL], by simp [inL], by simp⟩
  | c :: r, k, m, q => by
    rw [inL]
    have step : ∀ {j : Nat} {l : Ln}, (c :: r)[j + 1]? = some l → skipL wo w (k + (j + 1)) l = false → r[j]? = some l ∧ skipL wo w (k + 1 + j) l = false := fun {j l} h1 h2 => ⟨by simpa using h1, by rw [show k + 1 + j = k + (j + 1) by omega]; exact h2⟩
    cases hs : skipL wo w k c with
    | true =>
      obtain ⟨ext, h1, h2, h3⟩ := inL_spec wo w r (k + 1) m q
      refine ⟨ext, h1, h2, fun j l hl hk => ?_⟩
      cases j with
      | zero => simp at hl; subst hl; rw [Nat.add_zero, hs] at hk; cases hk
      | succ j => obtain ⟨q1, q2⟩ := step hl hk; exact h3 j l q1 q2
    | false =>
      rw [cond_false]
      cases hi : ilook (oth c w) m with
      | some u =>
        obtain ⟨ext, h1, h2, h3⟩ := inL_spec wo w r (k + 1) m q
        refine ⟨ext, h1, h2, fun j l hl hk => ?_⟩
        cases j with
        | zero => simp at hl; subst hl; exact List.mem_append_left _ (List.mem_map.2 ⟨_, ilook_mem hi, rfl⟩)
        | succ j => obtain ⟨q1, q2⟩ := step hl hk; exact h3 j l q1 q2
      | none =>
        obtain ⟨ext, h1, h2, h3⟩ := inL_spec wo w r (k + 1) (iput (oth c w) k m) (q ++ [oth c w])
        have he : (iput (oth c w) k m).map Prod.fst = m.map Prod.fst ++ [oth c w] := by rw [iput_new hi]; simp
        rw [he] at h1 h3
        refine ⟨oth c w :: ext, by rw [h1]; simp, by rw [h2]; simp, fun j l hl hk => ?_⟩
        cases j with
        | zero => simp at hl; subst hl; simp
        | succ j => obtain ⟨q1, q2⟩ := step hl hk; have := h3 j l q1 q2; simpa using this
def ClosedK (lines : List Ln) (to wo : Int) (K : List Int) (x : Int) : Prop := x ≠ to ∧ ∀ (j : Nat) (l : Ln), lines[j]? = some l → skipL wo x j l = false → oth l x ∈ K
theorem bfs_spec (lines : List Ln) (to wo : Int) : ∀ (f : Nat) (m : List (Int × Int)) (q : List Int) (d : Nat), q = (m.map Prod.fst).drop d → (∀ (i : Nat) (x : Int), i < d → (m.map Prod.fst)[i]? = some x → ClosedK lines to wo (m.map Prod.fst) x) →
    (bfsF lines to wo f m q).2 = [] → ∃ K : List Int, (∀ x ∈ m.map Prod.fst, x ∈ K) ∧ ∀ x ∈ K, ClosedK lines to wo K x := by
  have stop : ∀ (m : List (Int × Int)) (d : Nat), [] = (m.map Prod.fst).drop d → (∀ (i : Nat) (x : Int), i < d → (m.map Prod.fst)[i]? = some x → ClosedK lines to wo (m.map Prod.fst) x) → ∃ K : List Int, (∀ x ∈ m.map Prod.fst, x ∈ K) ∧ ∀ x ∈ K, ClosedK lines to wo K x := by
    intro m d hq hi
    refine ⟨m.map Prod.fst, fun x hx => hx, fun x hx => ?_⟩
    obtain ⟨i, hix⟩ := List.mem_iff_getElem?.1 hx
    have hl := (List.getElem?_eq_some_iff.1 hix).1
    have := congrArg List.length hq
    simp at this
    exact hi i x (by simp at hl; omega) hix
  intro f
  induction f with
  | zero => intro m q d hq hi h; rw [bfsF] at h; simp only at h; subst h; exact stop m d hq hi
  | succ f ih =>
    intro m q d hq hi h
    cases q with
    | nil => exact stop m d hq hi
    | cons w q =>
      rw [bfsF] at h
      cases hw : w == to with
      | true => rw [hw, cond_true] at h; simp at h
      | false =>
        rw [hw, cond_false] at h
        obtain ⟨ext, h1, h2, h3⟩ := inL_spec wo w lines 0 m q
        have hdl : d < (m.map Prod.fst).length := by
          have := congrArg List.length hq; simp at this; simp; omega
        have hq2 : q = (m.map Prod.fst).drop (d + 1) := by have := congrArg List.tail hq; simpa using this
        have hwd : (m.map Prod.fst)[d]? = some w := by
          have : ((m.map Prod.fst).drop d)[0]? = some w := by rw [← hq]; rfl
          simpa [List.getElem?_drop] using this
        obtain ⟨K, k1, k2⟩ := ih (inL wo w lines 0 m q).1 (inL wo w lines 0 m q).2 (d + 1) (by rw [h1, h2, List.drop_append_of_le_length (by omega), ← hq2]) (fun i x hid hix => by
          rw [h1] at hix ⊢
          rw [List.getElem?_append_left (by omega)] at hix
          by_cases e : i = d
          · subst e
            rw [hwd] at hix; cases hix
            exact ⟨by simpa using hw, fun j l hl hk => h3 j l hl (by rw [Nat.zero_add]; exact hk)⟩
          · obtain ⟨c1, c2⟩ := hi i x (by omega) hix
            exact ⟨c1, fun j l hl hk => List.mem_append_left _ (c2 j l hl hk)⟩) h
        exact ⟨K, fun x hx => k1 x (by rw [h1]; exact List.mem_append_left _ hx), k2⟩
theorem path_none (n : Net) (fr to wo : Int) (h : (pathF n fr to wo).2 = false) : ∃ K : List Int, fr ∈ K ∧ to ∉ K ∧ ∀ x ∈ K, ∀ (j : Nat) (l : Ln), n.lines[j]? = some l → (j : Int) ≠ wo → (l.a = x ∨ l.b = x) → oth l x ∈ K := by
  unfold pathF at h
  split at h
  · rename_i hq
    obtain ⟨K, k1, k2⟩ := bfs_spec n.lines to wo 9 [(fr, -1)] [fr] 0 rfl (fun i x hi => by omega) hq
    refine ⟨K, k1 fr (by simp), fun ht => (k2 to ht).1 rfl, fun x hx j l hl hj hon => (k2 x hx).2 j l hl ?_⟩
    unfold skipL
    rw [show ((j : Int) == wo) = false by simpa using hj, Bool.false_or]
    rcases hon with e | e
    · rw [show (l.a != x) = false by simpa using e]; rfl
    · rw [show (l.b != x) = false by simpa using e, Bool.and_false]
  · cases h
theorem ring_none (n : Net) : ∀ (ls : List Ln) (k : Nat) (b : List Int), ringL n ls k b = [] → b = [] ∧ ∀ (j : Nat) (l : Ln), ls[j]? = some l → (pathF n l.b l.a ((k + j : Nat) : Int)).2 = false
  | [], k, b, h => ⟨h, by simp⟩
  | c :: r, k, b, h => by
    rw [ringL] at h
    cases hc : (pathF n c.b c.a k).2 && (b.isEmpty || decide (((pathF n c.b c.a k).1.length : Int) + 1 < (b.length : Int))) with
    | true => rw [hc, cond_true] at h; have := (ring_none n r (k + 1) _ h).1; cases this
    | false =>
      rw [hc, cond_false] at h
      obtain ⟨h1, h2⟩ := ring_none n r (k + 1) b h
      subst h1
      refine ⟨rfl, fun j l hl => ?_⟩
      cases j with
      | zero => simp at hl; subst hl; simpa using hc
      | succ j => have := h2 j l (by simpa using hl); rwa [show k + 1 + j = k + (j + 1) by omega] at this
end TK
