/-
  DERIVED. Contracts of the functions that the law reaches, and the law itself, for every input. No conditions.
-/
import Derived.Test.YtfaeijklldnohaaDoorK1
open Go Go.AM Go.Proofs
namespace KK
def sameF : Ty → Ty → Bool
  | .mk k n xs, .mk k' n' ys => (k == k') && ((n == n') && sameF.go xs ys)
  where go : List Ty → List Ty → Bool
  | [], [] => true
  | x :: xs, y :: ys => sameF x y && sameF.go xs ys
  | _, _ => false

theorem go_len : ∀ (xs ys : List Ty), xs.length ≠ ys.length → sameF.go xs ys = false
  | [], [], h => absurd rfl h
  | [], _ :: _, _ => by rw [sameF.go] <;> simp
  | _ :: _, [], _ => by rw [sameF.go] <;> simp
  | x :: xs, y :: ys, h => by rw [sameF.go, go_len xs ys (by simpa using h), Bool.and_false]

theorem equalFunc_spec (xs ys : List Ty) (hx : xs.length < 9223372036854775807) (f : Nat) (ih : ∀ a ∈ xs, ∀ b ∈ ys, APure Tryd.prog f [.p (eT a), .p (eT b)] (.p (.b (sameF a b)))) :
    APure Tryd.prog 32 [.p (.sl 3 (eTs xs)), .p (.sl 3 (eTs ys)), .fn f [] []] (.p (.b (sameF.go xs ys))) := by
  refine APure.intro (tyOf_ok Tryd.prog) hmix Tryd.func32 rfl (by rfl) (by kernel_rfl) (by show 3 ≤ _; decide) rfl ?_
  conv => whnf
  refine asplit ?_ ?_ <;> intro h1 <;> conv => whnf
  · rw [eTs_len, eTs_len] at h1
    exact .inl (pb (go_len xs ys (by simp at h1; omega)).symm)
  rw [eTs_len, eTs_len] at h1
  have hlen : xs.length = ys.length := by simp at h1; omega
  refine loopS (tyOf_ok _) hmix (by kernel_rfl) xs.length [1, 2, 15, 16, 17] [] (fun k _ => [.p (.sl 3 (eTs ys)), .fn f [] [], .p (.sl 3 (eTs xs)), .p (.i .i64 (eTs xs).length), .p (.i .i64 (ix k))])
    (fun _ _ => []) (fun k _ => sameF.go xs ys = sameF.go (xs.drop k) (ys.drop k)) () ⟨rfl, rfl, rfl, rfl⟩ rfl ?_
  intro k _ hk hs
  conv => whnf
  refine asplit ?_ ?_ <;> intro h2 <;> conv => whnf
  · have hk1 := ix_tt h2 (by rw [eTs_len]) hk hx
    obtain ⟨a, ha⟩ : ∃ b, xs[k]? = some b := ⟨xs[k], by simp [hk1]⟩
    obtain ⟨b, hb⟩ : ∃ b, ys[k]? = some b := ⟨ys[k], by simp [← hlen, hk1]⟩
    have hc := ih a (List.mem_of_getElem? ha) b (List.mem_of_getElem? hb)
    rw [drop_cons ha, drop_cons hb, sameF.go] at hs
    generalize sameF a b = r at hc hs
    refine aidxk (eTs_get ha) (by omega) ?_
    obtain ⟨ak, an, ax⟩ := a
    conv => whnf
    refine aidxk (eTs_get hb) (by omega) ?_
    obtain ⟨bk, bn, bx⟩ := b
    conv => whnf
    refine apc hc ?_
    conv => whnf
    refine asplit ?_ ?_ <;> intro h3 <;> conv => whnf
    · simp only [Bool.not_eq_true'] at h3
      exact .inl (pb (by rw [hs, h3]; rfl))
    · simp only [Bool.not_eq_false'] at h3
      exact ⟨hk1, (), ⟨rfl, rfl, rfl, rfl⟩, by rw [hs, h3]; rfl⟩
  · have hk1 := ix_ff h2 (by rw [eTs_len]) hk hx
    have e1 : xs.drop k = [] := List.drop_eq_nil_of_le (by omega)
    have e2 : ys.drop k = [] := List.drop_eq_nil_of_le (by omega)
    exact .inl (pb (by rw [hs, e1, e2]; rfl))

theorem sameType_of (a b : Ty) (ha : okT a) (ih : ∀ x ∈ a.args, ∀ y, okT y → APure Tryd.prog 31 [.p (eT x), .p (eT y)] (.p (.b (sameF x y)))) (hb : okT b) :
    APure Tryd.prog 31 [.p (eT a), .p (eT b)] (.p (.b (sameF a b))) := by
  obtain ⟨ak, an, ax⟩ := a
  obtain ⟨bk, bn, bx⟩ := b
  simp only [Ty.args] at ih
  have hc := equalFunc_spec ax bx (by have := ha.1; omega) 31 (fun x hx y hy => ih x hx y (okTs_mem hb.2 y hy))
  rw [sameF]
  generalize sameF.go ax bx = r at hc
  refine APure.intro (tyOf_ok Tryd.prog) hmix Tryd.func31 rfl (by rfl) (by kernel_rfl) (by show 2 ≤ _; decide) rfl ?_
  conv => whnf
  refine asplit ?_ ?_ <;> intro h1 <;> conv => whnf
  · refine asplit ?_ ?_ <;> intro h2 <;> conv => whnf
    · refine apc hc ?_
      conv => whnf
      rw [bl_iff] at h2
      exact .inl (pb (by rw [h1, h2]; simp))
    · rw [bl_iff] at h2
      exact .inl (pb (by rw [h1, h2]; rfl))
  · exact .inl (pb (by rw [h1]; rfl))
theorem sameType_spec (a : Ty) : okT a → ∀ b, okT b → APure Tryd.prog 31 [.p (eT a), .p (eT b)] (.p (.b (sameF a b))) :=
  Ty.ind (Q := fun a => okT a → ∀ b, okT b → APure Tryd.prog 31 [.p (eT a), .p (eT b)] (.p (.b (sameF a b)))) (fun k n xs ih h b hb => sameType_of (.mk k n xs) b h (fun x hx y hy => ih x hx (okTs_mem h.2 x hx) y hy) hb) a

theorem idx_get (n : ByteArray) : ∀ (l : List ByteArray) (k : Nat), hasF n l = true → ∃ j, idxF n l k = ((k + j : Nat) : Int) ∧ j < l.length
  | [], k, h => by simp [hasF] at h
  | a :: r, k, h => by
    rw [idxF]
    cases hq : n == a with
    | true => exact ⟨0, rfl, by simp⟩
    | false =>
      obtain ⟨j, h1, h2⟩ := idx_get n r (k + 1) (by simpa [hasF, hq] using h)
      exact ⟨j + 1, by rw [cond_false, h1]; omega, by simp; omega⟩

theorem same_refl (t : Ty) : sameF t t = true :=
  Ty.ind (Q := fun t => sameF t t = true) (fun k n xs ih => by
    rw [sameF]
    have hb : (n == n) = true := (beq_bytes n n).2 rfl
    have : sameF.go xs xs = true := by
      clear hb
      induction xs with
      | nil => rw [sameF.go]
      | cons x r ihr => rw [sameF.go, ih x (by simp), ihr (fun a ha => ih a (by simp [ha]))]; rfl
    rw [this, hb]; simp) t

theorem okT_put {ps : List ByteArray} {l : List Ty} (hl : okTs l) (t : Ty) : okT t → okT (putF ps l t) :=
  Ty.ind (Q := fun t => okT t → okT (putF ps l t)) (fun k n xs ih h => by
    have hx := h
    have key : okT (.mk k n (xs.map (putF ps l))) := by
      refine ⟨by have := h.1; simpa using this, ?_⟩
      have h2 := h.2
      clear h hx
      induction xs with
      | nil => exact trivial
      | cons x r ihr => exact ⟨ih x (by simp) h2.1, ihr (fun a ha => ih a (by simp [ha])) h2.2⟩
    rw [putF, putFs_map]
    cases (k == 5 && (decide (idxF n ps 0 ≥ 0) && decide (idxF n ps 0 < l.length))) with
    | false => exact key
    | true =>
      rw [cond_true]
      cases hq : l[(idxF n ps 0).toNat]? with
      | none => exact hx
      | some b => exact okTs_mem hl b (List.mem_of_getElem? hq)) t

end KK
