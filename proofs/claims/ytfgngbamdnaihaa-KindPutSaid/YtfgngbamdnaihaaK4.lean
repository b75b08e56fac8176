/-
  DERIVED. Contracts of the functions that the law reaches, and the law itself, for every input. No conditions.
-/
import Derived.Test.YtfgngbamdnaihaaK3
open Go Go.AM Go.Proofs
namespace KK
/-! THE PLAIN LAWS -/
theorem slook_chkS (m : List (ByteArray × Int)) (d : Dt) (n : ByteArray) (v : Int) (h : slook n m = some v) : slook n (chkS m d) = some v := by
  unfold chkS
  cases hq : (slook d.name m).isSome with
  | true => exact h
  | false =>
    rw [cond_false, slook_sput]
    cases hn : n == d.name with
    | false => exact h
    | true =>
      have := (beq_bytes n d.name).1 hn
      subst this
      rw [h] at hq; cases hq

theorem go_zero {m : List (ByteArray × Int)} {ps : List ByteArray} : ∀ {l : List Ty}, typF.go m ps l = 0 ↔ ∀ t ∈ l, typF m ps t = 0
  | [] => by rw [typF.go]; simp
  | t :: r => by
    rw [typF.go]
    cases hq : typF m ps t != 0 with
    | true => simp only [cond_true, List.mem_cons, forall_eq_or_imp]; simp at hq; simp [hq]
    | false => simp at hq; simp [hq, go_zero (l := r)]

/-- when is a type right -/
theorem typ_zero {m : List (ByteArray × Int)} {ps : List ByteArray} {k : Int} {n : ByteArray} {xs : List Ty} : typF m ps (.mk k n xs) = 0 ↔ (k = 5 → hasF n ps = true) ∧ (k = 6 → slook n m = some (xs.length : Int)) ∧ ∀ t ∈ xs, typF m ps t = 0 := by
  rw [typF, ← go_zero]
  by_cases h5 : k = 5
  · subst h5
    cases hq : hasF n ps <;> simp
  · by_cases h6 : k = 6
    · subst h6
      cases hq : slook n m with
      | none => simp
      | some v =>
        by_cases hv : v = xs.length
        · subst hv; simp
        · have : (v != (xs.length : Int)) = true := by simpa using hv
          simp [this, hv]
    · have e5 : (k == 5) = false := by simpa using h5
      have e6 : (k == 6) = false := by simpa using h6
      simp [e5, e6, h5, h6]

theorem typ_mono {m m' : List (ByteArray × Int)} {ps : List ByteArray} (hm : ∀ n v, slook n m = some v → slook n m' = some v) (t : Ty) : typF m ps t = 0 → typF m' ps t = 0 :=
  Ty.ind (Q := fun t => typF m ps t = 0 → typF m' ps t = 0) (fun k n xs ih h => by
    rw [typ_zero] at h ⊢
    exact ⟨h.1, fun h6 => hm n _ (h.2.1 h6), fun t ht => ih t ht (h.2.2 t ht)⟩) t

theorem kindMore_spec (p : Pg) (d : Dt) (ps : List ByteArray) (t : Ty) (hb : p.ds.length * 64 + 64 ≤ 140737488355328) (hp : ps.length < 9223372036854775807) (ht : okT t) :
    APure Try.prog 3 [.p (eP p), .p (eD d), .p (.sl 1 (ps.map eStr)), .p (eT t)] (.p (.b true)) := by
  have h1 := Type_spec p ps t (by omega) hp ht
  have h2 := Type_spec { p with ds := p.ds ++ [d] } ps t (by simp; omega) hp ht
  have hlaw : typF (chkF p.ds) ps t = 0 → typF (chkF (p.ds ++ [d])) ps t = 0 := by
    refine typ_mono (fun n v hv => ?_) t
    have : chkF (p.ds ++ [d]) = chkS (chkF p.ds) d := by simp [chkF]
    rw [this]; exact slook_chkS _ d n v hv
  generalize typF (chkF p.ds) ps t = r1 at h1 hlaw
  simp only at h2
  generalize typF (chkF (p.ds ++ [d])) ps t = r2 at h2 hlaw
  obtain ⟨a0, a1, a2, ds, a4, a5, a6, a7⟩ := p
  simp only at hb
  have hcl := cloneD_spec (ds.map eD) (by simp; omega)
  have eqds : (ds ++ [d]).map eD = ds.map eD ++ [eD d] := by simp
  obtain ⟨kd, nm, xs⟩ := t
  unfold eP at h2
  simp only [eqds] at h2
  obtain ⟨dn, dp, dm⟩ := d
  refine APure.intro (tyOf_ok Try.prog) hmix Try.func3 rfl (by rfl) (by kernel_rfl) (by show 4 ≤ _; decide) rfl ?_
  conv => whnf
  refine apc kinds_spec ?_
  conv => whnf
  refine apc hcl ?_
  conv => whnf
  refine aneed (show ((ds.map eD).length + 1) * 64 ≤ 140737488355328 by simp; omega) ?_
  conv => whnf
  refine aneed (by kernel_rfl) ?_
  conv => whnf
  refine apc h1 ?_
  conv => whnf
  refine asplit ?_ ?_ <;> intro g1 <;> conv => whnf
  · exact .inl rfl
  · refine apc h2 ?_
    conv => whnf
    refine .inl (pb ?_)
    have : r1 = 0 := by simpa using g1
    simp [hlaw this]

/-! KindPut -/
theorem idx_get (n : ByteArray) : ∀ (l : List ByteArray) (k : Nat), hasF n l = true → ∃ j, idxF n l k = ((k + j : Nat) : Int) ∧ j < l.length
  | [], k, h => by simp [hasF] at h
  | a :: r, k, h => by
    rw [idxF]
    cases hq : n == a with
    | true => exact ⟨0, rfl, by simp⟩
    | false =>
      obtain ⟨j, h1, h2⟩ := idx_get n r (k + 1) (by simpa [hasF, hq] using h)
      exact ⟨j + 1, by rw [cond_false, h1]; omega, by simp; omega⟩

theorem put_right {m : List (ByteArray × Int)} {ps : List ByteArray} {l : List Ty} (hl : ps.length = l.length) (hr : ∀ t ∈ l, typF m [] t = 0) (t : Ty) : typF m ps t = 0 → typF m [] (putF ps l t) = 0 :=
  Ty.ind (Q := fun t => typF m ps t = 0 → typF m [] (putF ps l t) = 0) (fun k n xs ih h => by
    rw [typ_zero] at h
    rw [putF]
    by_cases h5 : k = 5
    · subst h5
      obtain ⟨j, h1, h2⟩ := idx_get n ps 0 (h.1 rfl)
      rw [h1]
      have e1 : decide (((0 + j : Nat) : Int) ≥ 0) = true := by simp
      have e2 : decide (((0 + j : Nat) : Int) < (l.length : Int)) = true := by simp; omega
      have e3 : l[((0 + j : Nat) : Int).toNat]? = some (l[j]'(by omega)) := by simp [← hl, h2]
      rw [e1, e2, e3]
      exact hr _ (List.getElem_mem _)
    · have e5 : (k == 5) = false := by simpa using h5
      rw [e5, Bool.false_and, cond_false, typ_zero, putFs_map]
      refine ⟨fun q => absurd q h5, fun q => by rw [h.2.1 q]; simp, fun t ht => ?_⟩
      obtain ⟨t0, ht0, rfl⟩ := List.mem_map.1 ht
      exact ih t0 ht0 (h.2.2 t0 ht0)) t

theorem same_refl (t : Ty) : sameF t t = true :=
  Ty.ind (Q := fun t => sameF t t = true) (fun k n xs ih => by
    rw [sameF]
    have hb : (n == n) = true := (beq_bytes n n).2 rfl
    have : sameF.go xs xs = true := by
      clear hb
      induction xs with
      | nil => rw [sameF.go]
      | cons x r ihr => rw [sameF.go, ih x (by simp), ihr (fun a ha => ih a (by simp [ha]))]; rfl
    rw [this, hb]; simp) t

theorem put_closed {m : List (ByteArray × Int)} {ps : List ByteArray} {l : List Ty} (t : Ty) : typF m [] t = 0 → putF ps l t = t :=
  Ty.ind (Q := fun t => typF m [] t = 0 → putF ps l t = t) (fun k n xs ih h => by
    rw [typ_zero] at h
    have h5 : k ≠ 5 := fun q => by have := h.1 q; simp [hasF] at this
    have e5 : (k == 5) = false := by simpa using h5
    rw [putF, e5, Bool.false_and, cond_false, putFs_map]
    congr 1
    conv => rhs; rw [← List.map_id xs]
    exact List.map_congr_left fun t ht => ih t ht (h.2.2 t ht)) t

theorem okT_put {ps : List ByteArray} {l : List Ty} (hl : okTs l) (t : Ty) : okT t → okT (putF ps l t) :=
  Ty.ind (Q := fun t => okT t → okT (putF ps l t)) (fun k n xs ih h => by
    have hx := h
    have key : okT (.mk k n (xs.map (putF ps l))) := by
      refine ⟨by have := h.1; simpa using this, ?_⟩
      have h2 := h.2
      clear h hx
      induction xs with
      | nil => exact trivial
      | cons x r ihr => exact ⟨ih x (by simp) h2.1, ihr (fun a ha => ih a (by simp [ha])) h2.2⟩
    rw [putF, putFs_map]
    cases (k == 5 && (decide (idxF n ps 0 ≥ 0) && decide (idxF n ps 0 < l.length))) with
    | false => exact key
    | true =>
      rw [cond_true]
      cases hq : l[(idxF n ps 0).toNat]? with
      | none => exact hx
      | some b => exact okTs_mem hl b (List.mem_of_getElem? hq)) t

theorem eTs_take (l : List Ty) (k : Nat) : (eTs l).take k = eTs (l.take k) := by rw [eTs_map, eTs_map, List.map_take]
theorem okTs_take : ∀ (l : List Ty) (k : Nat), okTs l → okTs (l.take k)
  | [], k, h => by simpa using h
  | t :: r, 0, h => trivial
  | t :: r, k + 1, h => ⟨h.1, okTs_take r k h.2⟩

theorem kindPut_spec (p : Pg) (ps : List ByteArray) (t : Ty) (l : List Ty) (hb : p.ds.length < 9223372036854775807) (hp : ps.length < 9223372036854775807) (ht : okT t) (hl : okTs l) (hll : l.length < 9223372036854775807) :
    APure Try.prog 4 [.p (eP p), .p (.sl 1 (ps.map eStr)), .p (eT t), .p (.sl 3 (eTs l))] (.p (.b true)) := by
  have hmin : (if ((ps.map eStr).length : Int) < ((eTs l).length : Int) then ((ps.map eStr).length : Int) else ((eTs l).length : Int)) = ((min l.length ps.length : Nat) : Int) := by
    rw [eTs_len, List.length_map]; split <;> omega
  have ho := okTs_take l (min l.length ps.length) hl
  generalize hl' : l.take (min l.length ps.length) = l' at ho
  have hlen' : l'.length = min l.length ps.length := by rw [← hl']; simp
  have h1 := Type_spec p ps t hb hp ht
  have h2 := Types_spec p [] l' hb (by decide) (by omega) ho
  have h3 := put_spec ps l' hp (by omega) ho t ht
  have hox := okT_put (ps := ps) ho t ht
  have h4 := Type_spec p [] (putF ps l' t) hb (by decide) hox
  have h5 := put_spec ps l' hp (by omega) ho (putF ps l' t) hox
  have h6 := sameType_spec (putF ps l' (putF ps l' t)) (okT_put ho _ hox) (putF ps l' t) hox
  have law : l'.length = ps.length → typF (chkF p.ds) ps t = 0 → typF.go (chkF p.ds) [] l' = 0 → typF (chkF p.ds) [] (putF ps l' t) = 0 ∧ sameF (putF ps l' (putF ps l' t)) (putF ps l' t) = true := by
    intro q1 q2 q3
    have q4 := put_right (m := chkF p.ds) q1.symm (go_zero.1 q3) t q2
    exact ⟨q4, by rw [put_closed _ q4]; exact same_refl _⟩
  generalize typF (chkF p.ds) ps t = r1 at h1 law
  generalize typF.go (chkF p.ds) [] l' = r2 at h2 law
  generalize typF (chkF p.ds) [] (putF ps l' t) = r3 at h4 law
  generalize sameF (putF ps l' (putF ps l' t)) (putF ps l' t) = r4 at h6 law
  generalize putF ps l' (putF ps l' t) = x2 at h5 h6
  generalize putF ps l' t = x1 at h3 h4 h5 h6
  obtain ⟨a0, a1, a2, ds, a4, a5, a6, a7⟩ := p
  obtain ⟨kd, nm, xs⟩ := t
  obtain ⟨xk, xn, xx⟩ := x1
  obtain ⟨yk, yn, yx⟩ := x2
  refine APure.intro (tyOf_ok Try.prog) hmix Try.func4 rfl (by rfl) (by kernel_rfl) (by show 4 ≤ _; decide) rfl ?_
  conv => whnf
  refine apc kinds_spec ?_
  conv => whnf
  rw [hmin]
  refine aneed ⟨by omega, by omega, by rw [eTs_len]; omega⟩ ?_
  have hsl : ((eTs l).take ((min l.length ps.length : Nat) : Int).toNat).drop (0 : Int).toNat = eTs l' := by
    rw [Int.toNat_natCast, eTs_take, hl']; rfl
  rw [hsl]
  conv => whnf
  refine asplit ?_ ?_ <;> intro g1 <;> conv => whnf
  · exact .inl rfl
  refine apc h1 ?_
  conv => whnf
  refine asplit ?_ ?_ <;> intro g2 <;> conv => whnf
  · exact .inl rfl
  refine apc h2 ?_
  conv => whnf
  refine asplit ?_ ?_ <;> intro g3 <;> conv => whnf
  · exact .inl rfl
  rw [eTs_len, List.length_map] at g1
  obtain ⟨l1, l2⟩ := law (by have := of_decide_eq_false g1; omega) (by simpa using g2) (by simpa using g3)
  subst l1
  subst l2
  refine apc h3 ?_
  conv => whnf
  refine apc h4 ?_
  conv => whnf
  refine apc h5 ?_
  conv => whnf
  refine apc h6 ?_
  conv => whnf
  refine aneed (by kernel_rfl) ?_
  conv => whnf
  exact .inl rfl
end KK
