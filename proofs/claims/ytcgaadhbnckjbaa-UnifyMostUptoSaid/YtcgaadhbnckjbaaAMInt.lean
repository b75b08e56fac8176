/-
  DERIVED. Part of an abstract machine over plain values, sound against the model. No conditions.
-/
import Derived.Test.YtcgaadhbnckjbaaAMRen
namespace Go.AM
/-! maps from numbers to numbers -/
def ilook (k : Int) : List (Int × Int) → Option Int
  | [] => none
  | (a, v) :: r => bif k == a then some v else ilook k r
def iput (k v : Int) : List (Int × Int) → List (Int × Int)
  | [] => [(k, v)]
  | (a, u) :: r => bif k == a then (k, v) :: r else (a, u) :: iput k v r
def eMI (m : List (Int × Int)) : List (PV × PV) := m.map fun p => (vI p.1, vI p.2)
theorem mfind_eMI (k : Int) : ∀ (m : List (Int × Int)), mfind (vI k) (eMI m) = (ilook k m).map vI
  | [] => rfl
  | (a, v) :: r => by
    have ih := mfind_eMI k r
    simp only [eMI, List.map_cons, mfind, pvEq, ilook, vI] at ih ⊢
    cases k == a <;> simp [ih, vI]
theorem mput_eMI (k v : Int) : ∀ (m : List (Int × Int)), mput (vI k) (vI v) (eMI m) = eMI (iput k v m)
  | [] => rfl
  | (a, u) :: r => by
    have ih := mput_eMI k v r
    simp only [eMI, List.map_cons, mput, pvEq, iput, vI] at ih ⊢
    cases k == a <;> simp [ih]
theorem mlook_eMI (k : Int) (m : List (Int × Int)) : mlook (vI k) (.i .i64 0) (eMI m) = (.i .i64 ((ilook k m).getD 0), (ilook k m).isSome) := by
  unfold mlook; rw [mfind_eMI]; cases ilook k m <;> rfl
theorem ilook_iput (k k' v : Int) : ∀ (m : List (Int × Int)), ilook k' (iput k v m) = bif k' == k then some v else ilook k' m
  | [] => by simp [iput, ilook]
  | (a, u) :: r => by
    have ih := ilook_iput k k' v r
    simp only [iput]
    cases h : k == a with
    | true =>
      have := of_decide_eq_true h; subst this
      simp only [cond_true, ilook]
      cases k' == k <;> rfl
    | false =>
      simp only [cond_false, ilook, ih]
      cases h2 : k' == a with
      | false => rfl
      | true =>
        have := of_decide_eq_true h2; subst this
        have : (k' == k) = false := by
          cases h3 : k' == k with
          | false => rfl
          | true => have := of_decide_eq_true h3; subst this; rw [h] at h2; cases h2
        rw [this]; rfl
end Go.AM
