/-
  DERIVED. Contracts of the functions that the law reaches, and the law itself, for every input. No conditions.
-/
import Derived.Test.YtkabogkkbafonaaSes9
import Derived.Test.YtkabogkkbafonaaAMRen
open Go Go.AM Go.Proofs
namespace SE
def vX (n : Nat) : PV := .i .i64 (ix n)
theorem classC_spec (l : List St) (v : Vs l) (cl : List Int) (hc : cl.length = l.length) (i j : Nat) (hi : i < l.length) (hj : j < l.length) :
    APure Try.prog 28 [.p (vX j), .vp [.sl 2 (l.map eS)], .vp [.sl 1 (cl.map vI)], .vp [.i .i64 (ix i)]] (.p (.b (apartF l cl i j))) := by
  have hl := v.len.2
  have h1 := apart_spec l v cl hc i j (by omega) (by omega)
  rw [← ix_eq (k := i) (by omega), ← ix_eq (k := j) (by omega)] at h1
  rw [← ix_eq (k := i) (by omega), ← ix_eq (k := j) (by omega)]
  generalize apartF l cl (ix i) (ix j) = r at h1
  refine APure.intro (tyOf_ok Try.prog) hmix Try.func28 rfl (by rfl) (by kernel_rfl) (by show 4 ≤ _; decide) rfl ?_
  conv => whnf
  refine apc h1 ?_
  conv => whnf
  exact .inl rfl
def idxN (p : Nat → Bool) : List Nat → Nat → Int
  | [], _ => -1
  | j :: r, k => bif p j then (k : Int) else idxN p r (k + 1)
theorem idxA_spec (l : List St) (v : Vs l) (cl : List Int) (hc : cl.length = l.length) (i : Nat) (hi : i < l.length) (fs : List Nat) (hf : ∀ j ∈ fs, j < l.length) (hl : fs.length < 9223372036854775807) :
    APure Try.prog 27 [.p (.sl 1 (fs.map vX)), .fn 28 [] [.vp [.sl 2 (l.map eS)], .vp [.sl 1 (cl.map vI)], .vp [.i .i64 (ix i)]]] (.p (.i .i64 (idxN (fun j => apartF l cl i j) fs 0))) := by
  refine APure.intro (tyOf_ok Try.prog) hmix Try.func27 rfl (by rfl) (by kernel_rfl) (by show 2 ≤ _; decide) rfl ?_
  conv => whnf
  refine loopS (tyOf_ok _) hmix (by kernel_rfl) fs.length [0, 1, 7, 8] [] (fun k _ => [.p (.sl 1 (fs.map vX)), .fn 28 [] [.vp [.sl 2 (l.map eS)], .vp [.sl 1 (cl.map vI)], .vp [.i .i64 (ix i)]], .p (.i .i64 (fs.map vX).length), .p (.i .i64 (ix k))])
    (fun _ _ => []) (fun k _ => idxN (fun j => apartF l cl i j) fs 0 = idxN (fun j => apartF l cl i j) (fs.drop k) k) () ⟨rfl, rfl, rfl, rfl⟩ rfl ?_
  intro k _ hk hs
  conv => whnf
  refine asplit ?_ ?_ <;> intro h1 <;> conv => whnf
  · have hk1 := ix_tt h1 (by simp) hk hl
    obtain ⟨x, hx⟩ : ∃ x, fs[k]? = some x := ⟨fs[k], by simp [hk1]⟩
    rw [drop_cons hx, idxN] at hs
    have hc := classC_spec l v cl hc i x hi (hf x (List.mem_of_getElem? hx))
    generalize apartF l cl i x = r at hc hs
    refine aidxk (x := vX x) (by simp [hx]) (by omega) ?_
    conv => whnf
    refine apc hc ?_
    conv => whnf
    refine asplit ?_ ?_ <;> intro h2 <;> conv => whnf
    · rw [h2] at hs
      exact .inl (pi (by rw [hs, ix_eq (by omega)]; rfl))
    · rw [h2] at hs
      exact ⟨hk1, (), ⟨rfl, rfl, rfl, rfl⟩, hs⟩
  · have hk1 := ix_ff h1 (by simp) hk hl
    rw [List.drop_eq_nil_of_le (by omega)] at hs
    exact .inl (pi (by rw [hs]; rfl))
/-- one round of Moore's refinement: the first states of the classes, and the classes -/
def refF (l : List St) (cl : List Int) : Nat → List Nat × List Int
  | 0 => ([], [])
  | i + 1 => let q := refF l cl i
    let k := idxN (fun j => apartF l cl i j) q.1 0
    bif decide (k < 0) then (q.1 ++ [i], q.2 ++ [(q.1.length : Int)]) else (q.1, q.2 ++ [k])
theorem refF_ok (l : List St) (cl : List Int) : ∀ i, (refF l cl i).2.length = i ∧ (refF l cl i).1.length ≤ i ∧ ∀ j ∈ (refF l cl i).1, j < i
  | 0 => by simp [refF]
  | i + 1 => by
    obtain ⟨h1, h2, h3⟩ := refF_ok l cl i
    rw [refF]
    cases decide (idxN (fun j => apartF l cl i j) (refF l cl i).1 0 < 0) with
    | true =>
      simp only [cond_true, List.length_append, List.length_singleton, List.mem_append, List.mem_singleton]
      exact ⟨by omega, by omega, fun j hj => by rcases hj with hj | hj; have := h3 j hj; omega; omega⟩
    | false =>
      simp only [cond_false, List.length_append, List.length_singleton]
      exact ⟨by omega, by omega, fun j hj => by have := h3 j hj; omega⟩
def clsF (l : List St) : Nat → List Int
  | 0 => List.replicate l.length 0
  | k + 1 => (refF l (clsF l k) l.length).2
theorem clsF_len (l : List St) : ∀ k, (clsF l k).length = l.length
  | 0 => by simp [clsF]
  | k + 1 => (refF_ok l _ _).1
theorem set_mid {α : Type} (a : List α) (n : Nat) (z x : α) : (a ++ List.replicate (n + 1) z).set a.length x = a ++ [x] ++ List.replicate n z := by
  rw [List.set_append_right _ _ (Nat.le_refl _), Nat.sub_self, List.replicate_succ, List.set_cons_zero, List.append_assoc]; rfl
theorem classes_spec (l : List St) (v : Vs l) : APure Try.prog 23 [.p (.sl 2 (l.map eS))] (.p (.sl 1 ((clsF l l.length).map vI))) := by
  have hl := v.len.2
  refine APure.intro (tyOf_ok Try.prog) hmix Try.func23 rfl (by rfl) (by kernel_rfl) (by show 1 ≤ _; decide) rfl ?_
  conv => whnf
  refine aneed (show _ ∧ _ ∧ ((l.map eS).length : Int) * 8 ≤ 140737488355328 from ⟨rfl, by simp, by simp; omega⟩) ?_
  conv => whnf
  refine loopR (tyOf_ok _) hmix (by kernel_rfl) 10 17 l.length [1, 3, 12, 13] [1, 3, 10] (fun k _ => [.ptr 1 0, .ptr 3 0, .p (.i .i64 (l.map eS).length), .p (.i .i64 (ix k))])
    (fun k (s : List PV) => [.cells [.p (.sl 2 (l.map eS))], .cells [.ar 10], .arr s]) (fun k s => s = (clsF l k).map vI) _ ⟨rfl, rfl, rfl, rfl⟩ (by rw [clsF, List.map_replicate]; simp [vI]) ?_
  rintro k s hk rfl
  have hcl := clsF_len l k
  have hcn : clsF l (k + 1) = (refF l (clsF l k) l.length).2 := rfl
  conv => whnf
  refine asplit ?_ ?_ <;> intro g1 <;> conv => whnf
  · have hk1 := ix_tt g1 (by simp) hk (by omega)
    generalize clsF l k = cl at hcl hcn
    refine aneed (show _ ∧ _ ∧ ((l.map eS).length : Int) * 8 ≤ 140737488355328 from ⟨rfl, by simp, by simp; omega⟩) ?_
    conv => whnf
    refine lp_nil 4 0 rfl ?_
    refine loopS (tyOf_ok _) hmix (by kernel_rfl) l.length [1, 3, 4, 5, 12, 13, 19, 20] [1, 3, 10, 17] (fun j (s : List PV × List PV) => [.ptr 1 0, .ptr 3 0, .so 1 s.1, .ar 17, .p (.i .i64 (l.map eS).length), .p (.i .i64 (ix k)), .p (.i .i64 (l.map eS).length), .p (.i .i64 (ix j))])
      (fun j s => [.cells [.p (.sl 2 (l.map eS))], .cells [.ar 10], .arr (cl.map vI), .arr s.2]) (fun j s => s.1 = (refF l cl j).1.map vX ∧ s.2 = (refF l cl j).2.map vI ++ List.replicate (l.length - j) (vI 0)) ([], _) ⟨rfl, rfl, rfl, rfl⟩ ⟨rfl, by simp [refF, vI]⟩ ?_
    rintro j ⟨fx, xs⟩ hj ⟨hfx, hxs⟩
    simp only at hfx hxs
    obtain ⟨fs, hf⟩ : ∃ fs, fs = (refF l cl j).1 := ⟨_, rfl⟩
    rw [← hf] at hfx
    subst hfx
    obtain ⟨r1, r2, r3⟩ := refF_ok l cl j
    rw [← hf] at r2 r3
    have hrn : refF l cl (j + 1) = bif decide (idxN (fun j' => apartF l cl j j') fs 0 < 0) then (fs ++ [j], (refF l cl j).2 ++ [(fs.length : Int)]) else (fs, (refF l cl j).2 ++ [idxN (fun j' => apartF l cl j j') fs 0]) := by rw [refF, ← hf]
    conv => whnf
    refine asplit ?_ ?_ <;> intro g2 <;> conv => whnf
    · have hj1 := ix_tt g2 (by simp) hj (by omega)
      have hc := idxA_spec l v cl hcl j hj1 fs (fun q hq => by have := r3 q hq; omega) (by omega)
      generalize idxN (fun j' => apartF l cl j j') fs 0 = q at hc hrn
      have hxl : xs.length = l.length := by rw [hxs]; simp; omega
      have hset : ∀ z : Int, xs.set j (vI z) = ((refF l cl j).2 ++ [z]).map vI ++ List.replicate (l.length - (j + 1)) (vI 0) := by
        intro z
        have e1 : l.length - j = l.length - (j + 1) + 1 := by omega
        have e2 : ((refF l cl j).2.map vI).length = j := by simp [r1]
        have := set_mid ((refF l cl j).2.map vI) (l.length - (j + 1)) (vI 0) (vI z)
        rw [e2] at this
        rw [hxs, e1, this]; simp
      have hij : (ix j).toNat = j := by rw [ix_eq (by omega)]; simp
      refine apb [1, 3, 10, 6] hc ?_
      conv => whnf
      refine asplit ?_ ?_ <;> intro g3 <;> conv => whnf
      · refine aneed (show ((fs.map vX).length + 1) * 8 ≤ 140737488355328 by simp; omega) ?_
        conv => whnf
        refine aneed (show 0 ≤ ix j ∧ (ix j).toNat < xs.length from ⟨by rw [ix_eq (by omega)]; omega, by rw [hij]; omega⟩) ?_
        conv => whnf
        refine aneed (show (ix j).toNat < xs.length by rw [hij]; omega) ?_
        conv => whnf
        rw [g3, cond_true] at hrn
        refine ⟨hj1, (_, _), ⟨rfl, rfl, rfl, rfl⟩, ?_, ?_⟩
        · rw [hrn]; simp; rfl
        · rw [hrn, ← hset]; show xs.set (ix j).toNat (.i .i64 ((fs.map vX).length : Int)) = _; rw [hij, List.length_map]; rfl
      · refine aneed (show 0 ≤ ix j ∧ (ix j).toNat < xs.length from ⟨by rw [ix_eq (by omega)]; omega, by rw [hij]; omega⟩) ?_
        conv => whnf
        refine aneed (show (ix j).toNat < xs.length by rw [hij]; omega) ?_
        conv => whnf
        rw [g3, cond_false] at hrn
        refine ⟨hj1, (_, _), ⟨rfl, rfl, rfl, rfl⟩, ?_, ?_⟩
        · rw [hrn]
        · rw [hrn, ← hset]; show xs.set (ix j).toNat (.i .i64 q) = _; rw [hij]; rfl
    · have hj1 := ix_ff g2 (by simp) hj (by omega)
      subst hj1
      refine ⟨hk1, xs, ⟨rfl, rfl, rfl, rfl, rfl⟩, ?_⟩
      rw [hcn, hxs]; simp
  · have hk1 := ix_ff g1 (by simp) hk (by omega)
    subst hk1
    exact .inr (.inr rfl)
end SE
