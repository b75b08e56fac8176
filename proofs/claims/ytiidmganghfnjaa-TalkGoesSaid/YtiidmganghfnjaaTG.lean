/-
  DERIVED. Contracts of the functions that the law reaches, and the law itself, for every input. No conditions.
-/
import Derived.Test.YtiidmganghfnjaaTF
open Go Go.AM Go.Proofs
namespace TK
/-! both ends of a line have done equally much on it -/
def cnt (n : Net) (d : List Int) (i w : Int) : Nat := (onF ((wAt n.who w).take (dn d w).toNat) i).length
theorem onF_app (a b : List Dd) (i : Int) : onF (a ++ b) i = onF a i ++ onF b i := by simp [onF]
theorem dn_ok {n : Net} {d : List Int} (hd : DOK n d) {w : Int} (h0 : 0 ≤ w) (h1 : w < n.who.length) : 0 ≤ dn d w ∧ dn d w ≤ (wAt n.who w).length := by
  have hl := hd.len
  obtain ⟨x, hx⟩ : ∃ x, d[w.toNat]? = some x := ⟨_, List.getElem?_eq_getElem (by omega)⟩
  obtain ⟨v, hv⟩ : ∃ x, n.who[w.toNat]? = some x := ⟨_, List.getElem?_eq_getElem (by omega)⟩
  have := hd.bd _ _ _ hx hv
  simpa [dn, wAt, hx, hv] using this
/-- the deeds up to one's own, and it -/
theorem cnt_succ {n : Net} {d : List Int} (hd : DOK n d) {w i : Int} (h0 : 0 ≤ w) (h1 : w < n.who.length) (hne : dn d w ≠ (wAt n.who w).length) :
    onF ((wAt n.who w).take ((dn d w).toNat + 1)) i = onF ((wAt n.who w).take (dn d w).toNat) i ++ (bif (dAt (wAt n.who w) (dn d w)).line == i then [dAt (wAt n.who w) (dn d w)] else []) := by
  obtain ⟨q1, q2⟩ := dn_ok hd h0 h1
  obtain ⟨x, hx⟩ : ∃ x, (wAt n.who w)[(dn d w).toNat]? = some x := ⟨_, List.getElem?_eq_getElem (by omega)⟩
  have hda : dAt (wAt n.who w) (dn d w) = x := by simp [dAt, hx]
  rw [take_snoc hx, onF_app, hda, onF_cons]
  cases x.line == i <;> simp [onF]
theorem rdy_spec {n : Net} {d : List Int} {i : Int} {l : Ln} (h : rdyB n d i l = true) : dn d l.a ≠ (wAt n.who l.a).length ∧ dn d l.b ≠ (wAt n.who l.b).length ∧ (dAt (wAt n.who l.a) (dn d l.a)).line = i ∧ (dAt (wAt n.who l.b) (dn d l.b)).line = i := by
  simp only [rdyB, Bool.and_eq_true, Bool.not_eq_true', beq_eq_false_iff_ne, beq_iff_eq] at h
  exact ⟨h.1, h.2.1, h.2.2.1, h.2.2.2.1⟩
def Even (n : Net) (d : List Int) : Prop := ∀ (j : Nat) (l : Ln), n.lines[j]? = some l → cnt n d j l.a = cnt n d j l.b
theorem even_step {n : Net} (hv : Valid n) {d d' : List Int} (hd : DOK n d) (he : Even n d) (hs : Step n d d') : Even n d' := by
  obtain ⟨j0, l0, hl0, hr, rfl⟩ := hs
  obtain ⟨a1, a2, a3, a4, a5⟩ := hv.ln l0 (List.mem_of_getElem? hl0)
  obtain ⟨r1, r2, r3, r4⟩ := rdy_spec hr
  have key : ∀ (w : Int) (j : Nat), 0 ≤ w → w < n.who.length → cnt n (fireF d l0) j w = cnt n d j w + (if (w = l0.a ∨ w = l0.b) ∧ j = j0 then 1 else 0) := by
    intro w j h0 h1
    unfold cnt
    rw [dn_fire n hv d hd hl0 w h0]
    obtain ⟨q1, q2⟩ := dn_ok hd h0 h1
    by_cases hw : w = l0.a ∨ w = l0.b
    · have hne : dn d w ≠ (wAt n.who w).length := by rcases hw with e | e <;> rw [e] <;> assumption
      have hli : (dAt (wAt n.who w) (dn d w)).line = j0 := by rcases hw with e | e <;> rw [e] <;> assumption
      rw [if_pos hw, show (dn d w + 1).toNat = (dn d w).toNat + 1 by omega, cnt_succ hd h0 h1 hne, hli, List.length_append]
      by_cases e : j = j0
      · subst e; simp [hw]
      · rw [if_neg (fun q => e q.2), show (((j0 : Nat) : Int) == ((j : Nat) : Int)) = false by simp; omega]; rfl
    · rw [if_neg hw, if_neg (fun q => hw q.1)]; rfl
  intro j l hl
  obtain ⟨b1, b2, b3, b4, b5⟩ := hv.ln l (List.mem_of_getElem? hl)
  rw [key l.a j b1 b3, key l.b j b2 b4, he j l hl]
  by_cases e : j = j0
  · subst e; rw [hl0] at hl; cases hl; simp
  · rw [if_neg (fun q => e q.2), if_neg (fun q => e q.2)]
theorem even_steps {n : Net} (hv : Valid n) {d e : List Int} (hs : Steps n d e) : DOK n d → Even n d → Even n e := by
  induction hs with
  | refl => exact fun _ h => h
  | step d d' e h hs ih => exact fun hd he => ih (h.ok hv hd).1 (even_step hv hd he h)
theorem even_start (n : Net) : Even n (List.replicate n.who.length 0) := by
  have : ∀ w, dn (List.replicate n.who.length 0) w = 0 := fun w => by
    simp only [dn, List.getElem?_replicate]
    by_cases h : w.toNat < n.who.length <;> simp [h]
  intro j l _
  simp [cnt, this, onF]
end TK
