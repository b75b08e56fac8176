/-
  DERIVED. Contracts of the functions that the law reaches, and the law itself, for every input. No conditions.
-/
import Derived.Test.YtniepbahpkibgaaDoorTK5
open Go Go.AM Go.Proofs
set_option maxRecDepth 100000
namespace TK
theorem lit_aux (l : Bs) (hl : l.length ≤ 1048576) (R : Bs × Nat) (hR : litGo (l.drop 1) [] 1 = R)
    (he : ∀ r, APure Tryd.prog 33 [.p (.s (B r))] (.tup [.p (.i .u8 (escF r).1.toNat), .p (.i .i64 (escF r).2)])) :
    APure Tryd.prog 24 [.p (.s (B l))] (.tup [.p (.s (B R.1)), .p (.i .i64 R.2)]) := by
  have hsz : (B l).size = l.length := B_size l
  have fin : ∀ (a : Bs) (b : Int), R.1 = a → (R.2 : Int) = b → AV.tup [.p (.s (B a)), .p (.i .i64 b)] = .tup [.p (.s (B R.1)), .p (.i .i64 R.2)] := fun a b h1 h2 => by rw [h1, h2]
  refine APure.intro (tyOf_ok Tryd.prog) hmix Tryd.func24 rfl (by rfl) (by kernel_rfl) (by show 1 ≤ _; decide) rfl ?_
  conv => whnf
  refine lp_nil 4 0 rfl ?_
  refine loopS (tyOf_ok _) hmix (by kernel_rfl) l.length [0, 4, 5] [] (fun _ (s : Bs × Int) => [.p (.s (B l)), .so 1 (s.1.map vU), .p (.i .i64 s.2)]) (fun _ _ => []) (fun k s => ∃ i : Nat, s.2 = i ∧ k + 1 ≤ i ∧ i ≤ l.length + 1 ∧ s.1.length ≤ i ∧ litGo (l.drop i) s.1 i = R) ([], 1) ⟨rfl, rfl, rfl, rfl⟩ ⟨1, rfl, by omega, by omega, by simp, hR⟩ ?_
  rintro k s hk ⟨i, hi, q1, q2, q3, q4⟩
  have hvl : (s.1.map vU).length = s.1.length := List.length_map _
  conv => whnf
  refine asplit ?_ ?_ <;> intro h1 <;> conv => whnf
  · rw [hi, hsz] at h1
    have hk1 : i < l.length := by have := of_decide_eq_true h1; omega
    obtain ⟨c, hc⟩ : ∃ c, l[i]? = some c := ⟨_, List.getElem?_eq_getElem hk1⟩
    rw [drop_cons hc, litGo] at q4
    refine asix hi hc ?_
    conv => whnf
    refine asplit ?_ ?_ <;> intro h2 <;> conv => whnf
    · have h2 : (bi c == 34) = true := h2
      rw [h2, cond_true] at q4
      refine asplit ?_ ?_ <;> intro h3 <;> conv => whnf
      · rw [hvl] at h3
        rw [show decide (s.1.length > 64) = true by have := of_decide_eq_true h3; exact decide_eq_true (by omega), cond_true] at q4
        exact .inl (fin [] _ (by rw [← q4]) (by rw [← q4]; rfl))
      · rw [hvl] at h3
        rw [show decide (s.1.length > 64) = false by have := of_decide_eq_false h3; exact decide_eq_false (by omega), cond_false] at q4
        refine abytes ?_
        conv => whnf
        refine .inl (fin s.1 _ (by rw [← q4]) ?_)
        rw [hi, wrap64 (by omega) (by omega), ← q4]; simp
    have h2 : (bi c == 34) = false := h2
    rw [h2, cond_false] at q4
    refine asplit ?_ ?_ <;> intro h3 <;> conv => whnf
    · have h3 : decide (bi c < 32) = true := h3
      rw [h3, cond_true] at q4
      exact .inl (fin [] _ (by rw [← q4]) (by rw [← q4]; rfl))
    have h3 : decide (bi c < 32) = false := h3
    rw [h3, cond_false] at q4
    refine asplit ?_ ?_ <;> intro h4 <;> conv => whnf
    · have h4 : (bi c != 92) = true := h4
      rw [h4, cond_true] at q4
      refine aneed (by show ((s.1.map vU).length + 1) * 1 ≤ _; rw [hvl]; omega) ?_
      conv => whnf
      refine ⟨by omega, (s.1 ++ [c], IntKind.i64.wrap (s.2 + 1)), ⟨rfl, ?_, rfl, rfl⟩, i + 1, by rw [hi, wrap64 (by omega) (by omega)]; omega, by omega, by omega, by simp; omega, q4⟩
      rw [List.map_append]; rfl
    have h4 : (bi c != 92) = false := h4
    rw [h4, cond_false] at q4
    have w1 : IntKind.i64.wrap (s.2 + 1) = ((i + 1 : Nat) : Int) := by rw [hi, wrap64 (by omega) (by omega)]; omega
    refine aneed (by rw [w1, hsz]; omega) ?_
    have x1 : (B l).extract (IntKind.i64.wrap (s.2 + 1)).toNat (((B l).size : Nat) : Int).toNat = B (l.drop (i + 1)) := by
      rw [w1, B_ext, B_size, Int.toNat_natCast, Int.toNat_natCast, List.take_of_length_le (by rw [List.length_drop]; exact Nat.le_refl _)]
    rw [x1]
    have hh := he (l.drop (i + 1))
    have hle := esc_le (l.drop (i + 1))
    rw [List.length_drop] at hle
    generalize escF (l.drop (i + 1)) = E at *
    conv => whnf
    refine apc hh ?_
    conv => whnf
    refine asplit ?_ ?_ <;> intro h5 <;> conv => whnf
    · rw [show (E.2 == 0) = true by have := eq_of_beq h5; simp; omega, cond_true] at q4
      exact .inl (fin [] _ (by rw [← q4]) (by rw [← q4]; rfl))
    · have hne : E.2 ≠ 0 := by intro e; rw [e] at h5; simp at h5
      rw [show (E.2 == 0) = false by simp [hne], cond_false, List.drop_drop] at q4
      refine aneed (by show ((s.1.map vU).length + 1) * 1 ≤ _; rw [hvl]; omega) ?_
      conv => whnf
      have w2 : IntKind.i64.wrap (s.2 + (E.2 : Int)) = ((i + E.2 : Nat) : Int) := by rw [hi, wrap64 (by omega) (by omega)]; omega
      refine ⟨by omega, (s.1 ++ [E.1], IntKind.i64.wrap (IntKind.i64.wrap (s.2 + E.2) + 1)), ⟨rfl, ?_, rfl, rfl⟩, i + E.2 + 1, by rw [w2, wrap64 (by omega) (by omega)]; omega, by omega, by omega, by simp; omega, ?_⟩
      · rw [List.map_append]; rfl
      · rw [← q4, show i + E.2 + 1 = i + 1 + E.2 by omega]
  · rw [hi, hsz] at h1
    have hk1 : ¬ i < l.length := by have := of_decide_eq_false h1; omega
    rw [List.drop_eq_nil_of_le (by omega), litGo] at q4
    exact .inl (fin [] _ (by rw [← q4]) (by rw [← q4]; rfl))
theorem lit_spec (l : Bs) (hl : l.length ≤ 1048576) : APure Tryd.prog 24 [.p (.s (B l))] (.tup [.p (.s (B (litF l).1)), .p (.i .i64 (litF l).2)]) := lit_aux l hl _ rfl esc_spec
end TK
