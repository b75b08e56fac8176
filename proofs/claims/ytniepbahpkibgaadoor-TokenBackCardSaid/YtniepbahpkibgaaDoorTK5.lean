/-
  DERIVED. Contracts of the functions that the law reaches, and the law itself, for every input. No conditions.
-/
import Derived.Test.YtniepbahpkibgaaDoorTK4
open Go Go.AM Go.Proofs
set_option maxRecDepth 100000
namespace TK
def vPair (x : UInt8 × Nat) : AV := .tup [.p (vU x.1), .p (.i .i64 x.2)]
theorem u8_of (m : Int) (h0 : 0 ≤ m) (h1 : m ≤ 255) : IntKind.u8.wrap m = ((UInt8.ofNat m.toNat).toNat : Int) := by
  obtain ⟨n, rfl⟩ : ∃ n : Nat, m = n := ⟨m.toNat, by omega⟩
  have hn : n ≤ 255 := by omega
  rw [Int.toNat_natCast]
  have : (UInt8.ofNat n).toNat = n := by rw [UInt8.toNat_ofNat']; omega
  rw [this]
  unfold IntKind.wrap; simp [IntKind.bits, IntKind.signed]; omega
theorem bi_eq {c : UInt8} {n : Int} {m : UInt8} (hn : bi m = n) : (bi c == n) = (c == m) := by
  cases h : c == m with
  | true => rw [beq_iff_eq] at h; subst h; rw [hn]; simp
  | false =>
    cases h2 : bi c == n with
    | false => rfl
    | true =>
      have h2 := eq_of_beq h2
      rw [← hn] at h2
      have : c.toNat = m.toNat := by unfold bi at h2; omega
      have : c = m := UInt8.toNat.inj this
      subst this; simp at h
theorem esc_aux (l : Bs) (R : UInt8 × Nat) (hR : escF l = R) (hx : ∀ c, APure Tryd.prog 39 [.p (vU c)] (.p (.i .i64 (hexF c)))) : APure Tryd.prog 33 [.p (.s (B l))] (.tup [.p (.i .u8 R.1.toNat), .p (.i .i64 R.2)]) := by
  have hsz : (B l).size = l.length := B_size l
  have fin : ∀ (a : Int) (b : Int), R.1.toNat = a → R.2 = b → AV.tup [.p (.i .u8 a), .p (.i .i64 b)] = .tup [.p (.i .u8 R.1.toNat), .p (.i .i64 R.2)] := fun a b h1 h2 => by rw [h1, h2]
  refine APure.intro (tyOf_ok Tryd.prog) hmix Tryd.func33 rfl (by rfl) (by kernel_rfl) (by show 1 ≤ _; decide) rfl ?_
  conv => whnf
  refine asplit ?_ ?_ <;> intro h1 <;> conv => whnf
  · rw [B_emp] at h1
    have := eq_of_beq h1
    subst this
    exact .inl (fin _ _ (by rw [← hR]; rfl) (by rw [← hR]; rfl))
  rw [B_emp] at h1
  obtain ⟨c, hc0, r, hl⟩ : ∃ c, l[0]? = some c ∧ ∃ r, l = c :: r := by
    cases l with
    | nil => simp at h1
    | cons c r => exact ⟨c, rfl, r, rfl⟩
  rw [hl, escF] at hR
  refine asix (k := 0) rfl hc0 ?_
  conv => whnf
  refine asplit ?_ ?_ <;> intro h2 <;> conv => whnf
  · have h2 : (bi c == 110) = true := h2
    rw [h2, cond_true] at hR
    exact .inl (fin _ _ (by rw [← hR]; rfl) (by rw [← hR]; rfl))
  have h2 : (bi c == 110) = false := h2
  rw [h2, cond_false] at hR
  refine asplit ?_ ?_ <;> intro h3 <;> conv => whnf
  · refine ast h3 ?_
    conv => whnf
    have h3 : (bi c == 34) = true := h3
    rw [h3, Bool.true_or, cond_true] at hR
    refine asix (k := 0) rfl hc0 ?_
    conv => whnf
    exact .inl (fin _ _ (by rw [← hR]) (by rw [← hR]; rfl))
  have h3 : (bi c == 34) = false := h3
  rw [h3, Bool.false_or] at hR
  refine asplit ?_ ?_ <;> intro h4 <;> conv => whnf
  · have h4 : (bi c == 92) = true := h4
    rw [h4, cond_true] at hR
    refine asix (k := 0) rfl hc0 ?_
    conv => whnf
    exact .inl (fin _ _ (by rw [← hR]) (by rw [← hR]; rfl))
  have h4 : (bi c == 92) = false := h4
  rw [h4, cond_false] at hR
  refine asplit ?_ ?_ <;> intro h5 <;> conv => whnf
  · have h5 : (bi c == 120) = true := h5
    rw [h5, cond_true] at hR
    refine asplit ?_ ?_ <;> intro h6 <;> conv => whnf
    · rw [hsz] at h6
      have h6 := of_decide_eq_true h6
      have hr : R = (0, 0) := by
        rw [← hR]
        match r, hl with
        | [], _ => rfl
        | [_], _ => rfl
        | _ :: _ :: _, hl => rw [hl] at h6; simp at h6; omega
      exact .inl (fin _ _ (by rw [hr]; rfl) (by rw [hr]; rfl))
    rw [hsz] at h6
    have h6 := of_decide_eq_false h6
    obtain ⟨h, d, q, hr⟩ : ∃ h d q, r = h :: d :: q := by
      match r, hl with
      | [], hl => rw [hl] at h6; simp at h6
      | [_], hl => rw [hl] at h6; simp at h6
      | h :: d :: q, _ => exact ⟨h, d, q, rfl⟩
    rw [hr] at hR
    rw [escX] at hR
    have e1 : l[1]? = some h := by rw [hl, hr]; rfl
    have e2 : l[2]? = some d := by rw [hl, hr]; rfl
    have x1 := hx h
    have x2 := hx d
    have g1 : -1 ≤ hexF h := Lib.indexByte_ge _ _
    have g2 : -1 ≤ hexF d := Lib.indexByte_ge _ _
    have g3 := hex_lt h
    have g4 := hex_lt d
    generalize hexF h = u at *
    generalize hexF d = v at *
    refine asix (k := 1) rfl e1 ?_
    conv => whnf
    refine apc x1 ?_
    conv => whnf
    refine asix (k := 2) rfl e2 ?_
    conv => whnf
    refine apc x2 ?_
    conv => whnf
    refine aneed (by kernel_rfl) ?_
    conv => whnf
    refine asplit ?_ ?_ <;> intro h7 <;> conv => whnf
    · refine asplit ?_ ?_ <;> intro h8 <;> conv => whnf
      · rw [h7, h8, Bool.and_self, cond_true] at hR
        have h7 := of_decide_eq_true h7
        have h8 := of_decide_eq_true h8
        have w1 : IntKind.i64.wrap (16 * u) = 16 * u := by rw [wrap64 (by omega) (by omega)]
        have w2 : IntKind.i64.wrap (IntKind.i64.wrap (16 * u) + v) = 16 * u + v := by rw [w1, wrap64 (by omega) (by omega)]
        refine .inl (fin _ _ ?_ (by rw [← hR]; rfl))
        rw [w2, u8_of _ (by omega) (by omega), ← hR]
      · rw [h7, h8, Bool.and_false, cond_false] at hR
        exact .inl (fin _ _ (by rw [← hR]; rfl) (by rw [← hR]; rfl))
    · rw [h7, Bool.false_and, cond_false] at hR
      exact .inl (fin _ _ (by rw [← hR]; rfl) (by rw [← hR]; rfl))
  · have h5 : (bi c == 120) = false := h5
    rw [h5, cond_false] at hR
    exact .inl (fin _ _ (by rw [← hR]; rfl) (by rw [← hR]; rfl))
theorem esc_spec (l : Bs) : APure Tryd.prog 33 [.p (.s (B l))] (.tup [.p (.i .u8 (escF l).1.toNat), .p (.i .i64 (escF l).2)]) := esc_aux l _ rfl hex_spec
theorem esc_le (l : Bs) : (escF l).2 ≤ l.length := by
  cases l with
  | nil => simp [escF]
  | cons c r =>
    rw [escF]
    cases bi c == 110 with
    | true => simp
    | false =>
      cases bi c == 34 || bi c == 92 with
      | true => simp
      | false =>
        cases bi c == 120 with
        | false => simp
        | true =>
          match r with
          | [] => simp [escX]
          | [_] => simp [escX]
          | h :: d :: q =>
            rw [escX]
            simp only [cond_false, cond_true]
            cases decide (hexF h ≥ 0) && decide (hexF d ≥ 0) <;> simp
end TK
