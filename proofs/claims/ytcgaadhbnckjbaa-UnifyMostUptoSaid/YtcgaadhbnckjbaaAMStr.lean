/-
  DERIVED. Part of an abstract machine over plain values, sound against the model. No conditions.
-/
import Derived.Test.YtcgaadhbnckjbaaAMInv
namespace Go.AM
/-! maps whose keys are strings -/
def slook {α : Type} (k : ByteArray) : List (ByteArray × α) → Option α
  | [] => none
  | (a, v) :: r => bif k == a then some v else slook k r
def sput {α : Type} (k : ByteArray) (v : α) : List (ByteArray × α) → List (ByteArray × α)
  | [] => [(k, v)]
  | (a, u) :: r => bif k == a then (k, v) :: r else (a, u) :: sput k v r
def eM {α : Type} (f : α → PV) (m : List (ByteArray × α)) : List (PV × PV) := m.map fun p => (.s p.1, f p.2)
theorem mfind_eM {α : Type} (f : α → PV) (k : ByteArray) : ∀ (m : List (ByteArray × α)), mfind (.s k) (eM f m) = (slook k m).map f
  | [] => rfl
  | (a, v) :: r => by
    have ih := mfind_eM f k r
    simp only [eM, List.map_cons, mfind, pvEq, slook] at ih ⊢
    cases k == a <;> simp [ih]
theorem mput_eM {α : Type} (f : α → PV) (k : ByteArray) (v : α) : ∀ (m : List (ByteArray × α)), mput (.s k) (f v) (eM f m) = eM f (sput k v m)
  | [] => rfl
  | (a, u) :: r => by
    have ih := mput_eM f k v r
    simp only [eM, List.map_cons, mput, pvEq, sput] at ih ⊢
    cases k == a <;> simp [ih]
/-- a map of numbers -/
def vI (n : Int) : PV := .i .i64 n
def vB (b : Bool) : PV := .b b
theorem mlook_I (k : ByteArray) (m : List (ByteArray × Int)) : mlook (.s k) (.i .i64 0) (eM vI m) = (.i .i64 ((slook k m).getD 0), (slook k m).isSome) := by
  unfold mlook; rw [mfind_eM]; cases slook k m <;> rfl
theorem mlook_B (k : ByteArray) (m : List (ByteArray × Bool)) : mlook (.s k) (.b false) (eM vB m) = (.b ((slook k m).getD false), (slook k m).isSome) := by
  unfold mlook; rw [mfind_eM]; cases slook k m <;> rfl
theorem beq_bytes (a b : ByteArray) : (a == b) = true ↔ a = b := MapKept.bytes_beq a b
theorem bl_iff (a b : ByteArray) : (a.toList == b.toList) = (a == b) := (beq_toListBytes a b).symm
theorem slook_sput {α : Type} (k k' : ByteArray) (v : α) : ∀ (m : List (ByteArray × α)), slook k' (sput k v m) = bif k' == k then some v else slook k' m
  | [] => by simp [sput, slook]
  | (a, u) :: r => by
    have ih := slook_sput k k' v r
    simp only [sput]
    cases h : k == a with
    | true =>
      have := (beq_bytes k a).1 h; subst this
      simp only [cond_true, slook]
      cases k' == k <;> rfl
    | false =>
      simp only [cond_false, slook, ih]
      cases h2 : k' == a with
      | false => rfl
      | true =>
        have := (beq_bytes k' a).1 h2; subst this
        have : (k' == k) = false := by
          cases h3 : k' == k with
          | false => rfl
          | true => have := (beq_bytes k' k).1 h3; subst this; rw [h] at h2; cases h2
        rw [this]; rfl
end Go.AM
namespace Go.AM
/-! texts as lists of bytes -/
abbrev Bs := List UInt8
def B (l : Bs) : ByteArray := ⟨l.toArray⟩
theorem B_size (l : Bs) : (B l).size = l.length := by simp [B, ByteArray.size]
theorem B_data (l : Bs) : (B l).data.toList = l := by simp [B]
theorem B_of (s : ByteArray) : s = B s.data.toList := by simp [B]
theorem B_inj {a b : Bs} (h : B a = B b) : a = b := by have := congrArg (fun s => s.data.toList) h; simpa [B] using this
theorem B_get (l : Bs) (k : Nat) : ((B l)[k]?).getD 0 = (l[k]?).getD 0 := by
  by_cases h : k < l.length
  · have h1 : k < (B l).size := by rw [B_size]; exact h
    rw [getElem?_pos (B l) k h1, List.getElem?_eq_getElem h]
    rfl
  · have h1 : ¬ k < (B l).size := by rw [B_size]; exact h
    rw [getElem?_neg (B l) k h1, List.getElem?_eq_none (by omega)]
theorem B_ext (l : Bs) (i j : Nat) : (B l).extract i j = B ((l.drop i).take (j - i)) := by
  apply ByteArray.ext
  simp only [ByteArray.data_extract, B]
  apply Array.ext'
  simp [List.extract_eq_take_drop]
theorem B_beq (a b : Bs) : ((B a).toList == (B b).toList) = (a == b) := by
  rw [bl_iff]
  cases h : a == b with
  | true => rw [beq_iff_eq] at h; rw [h]; exact (beq_bytes _ _).2 rfl
  | false =>
    cases hq : B a == B b with
    | false => rfl
    | true => have := B_inj ((beq_bytes _ _).1 hq); rw [this] at h; simp at h
theorem B_app (a b : Bs) : B a ++ B b = B (a ++ b) := by
  apply ByteArray.ext; simp [B, ByteArray.data_append]
def vU (b : UInt8) : PV := .i .u8 b.toNat
theorem bytesS_map (l : Bs) : bytesS (l.map (fun b => (b.toNat : Int))) = B l := by
  have key : ∀ (l : Bs) (s : ByteArray), (l.map (fun b => (b.toNat : Int))).foldl (fun r n => r.push (UInt8.ofNat n.toNat)) s = s ++ B l := by
    intro l
    induction l with
    | nil => intro s; apply ByteArray.ext; simp [B, ByteArray.data_append]
    | cons a r ih =>
      intro s
      rw [List.map_cons, List.foldl_cons, ih]
      apply ByteArray.ext
      simp [B, ByteArray.data_append, ByteArray.data_push]
  rw [bytesS, key]
  apply ByteArray.ext; simp [B, ByteArray.data_append]
theorem abytes {l : Bs} {K : PV → Prop} (h : K (.s (B l))) : ABytes (l.map vU) K := ⟨l.map (fun b => (b.toNat : Int)), _, by simp [vU], rfl, by rw [bytesS_map]; exact h⟩
/-- a byte of a text -/
theorem asix {l : Bs} {m : Int} {k : Nat} {c : UInt8} {K : PV → Prop} (hm : m = k) (h : l[k]? = some c) (hk : K (vU c)) : AStrI (B l) m K := by
  obtain ⟨h1, _⟩ := List.getElem?_eq_some_iff.1 h
  subst hm
  refine ⟨vU c, ⟨by omega, by rw [B_size]; omega⟩, ?_, hk⟩
  rw [Int.toNat_natCast, B_get, h]; rfl
end Go.AM
