/-
  DERIVED. Part of an abstract machine over plain values, proved sound against the model: no statement about a program. No conditions.
-/
import Derived.Test.YtfaeijklldnohaaDoorAMInv
namespace Go.AM
/-! maps whose keys are strings -/
def slook {α : Type} (k : ByteArray) : List (ByteArray × α) → Option α
  | [] => none
  | (a, v) :: r => bif k == a then some v else slook k r
def sput {α : Type} (k : ByteArray) (v : α) : List (ByteArray × α) → List (ByteArray × α)
  | [] => [(k, v)]
  | (a, u) :: r => bif k == a then (k, v) :: r else (a, u) :: sput k v r
def eM {α : Type} (f : α → PV) (m : List (ByteArray × α)) : List (PV × PV) := m.map fun p => (.s p.1, f p.2)
theorem mfind_eM {α : Type} (f : α → PV) (k : ByteArray) : ∀ (m : List (ByteArray × α)), mfind (.s k) (eM f m) = (slook k m).map f
  | [] => rfl
  | (a, v) :: r => by
    have ih := mfind_eM f k r
    simp only [eM, List.map_cons, mfind, pvEq, slook] at ih ⊢
    cases k == a <;> simp [ih]
theorem mput_eM {α : Type} (f : α → PV) (k : ByteArray) (v : α) : ∀ (m : List (ByteArray × α)), mput (.s k) (f v) (eM f m) = eM f (sput k v m)
  | [] => rfl
  | (a, u) :: r => by
    have ih := mput_eM f k v r
    simp only [eM, List.map_cons, mput, pvEq, sput] at ih ⊢
    cases k == a <;> simp [ih]
/-- a map of numbers -/
def vI (n : Int) : PV := .i .i64 n
def vB (b : Bool) : PV := .b b
theorem mlook_I (k : ByteArray) (m : List (ByteArray × Int)) : mlook (.s k) (.i .i64 0) (eM vI m) = (.i .i64 ((slook k m).getD 0), (slook k m).isSome) := by
  unfold mlook; rw [mfind_eM]; cases slook k m <;> rfl
theorem mlook_B (k : ByteArray) (m : List (ByteArray × Bool)) : mlook (.s k) (.b false) (eM vB m) = (.b ((slook k m).getD false), (slook k m).isSome) := by
  unfold mlook; rw [mfind_eM]; cases slook k m <;> rfl
theorem beq_bytes (a b : ByteArray) : (a == b) = true ↔ a = b := MapKept.bytes_beq a b
theorem bl_iff (a b : ByteArray) : (a.toList == b.toList) = (a == b) := (beq_toListBytes a b).symm
theorem slook_sput {α : Type} (k k' : ByteArray) (v : α) : ∀ (m : List (ByteArray × α)), slook k' (sput k v m) = bif k' == k then some v else slook k' m
  | [] => by simp [sput, slook]
  | (a, u) :: r => by
    have ih := slook_sput k k' v r
    simp only [sput]
    cases h : k == a with
    | true =>
      have := (beq_bytes k a).1 h; subst this
      simp only [cond_true, slook]
      cases k' == k <;> rfl
    | false =>
      simp only [cond_false, slook, ih]
      cases h2 : k' == a with
      | false => rfl
      | true =>
        have := (beq_bytes k' a).1 h2; subst this
        have : (k' == k) = false := by
          cases h3 : k' == k with
          | false => rfl
          | true => have := (beq_bytes k' k).1 h3; subst this; rw [h] at h2; cases h2
        rw [this]; rfl
end Go.AM
