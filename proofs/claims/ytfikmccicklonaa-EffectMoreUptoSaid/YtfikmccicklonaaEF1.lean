/-
  DERIVED. Contracts of the functions that the law reaches, and the law itself, for every input. No conditions.
-/
import Derived.Test.YtfikmccicklonaaTS1
open Go Go.AM Go.Proofs
set_option maxRecDepth 100000
namespace TR
/-! effects: sets of bits -/
theorem orI {a b : Nat} (ha : a < 128) (hb : b < 128) : bitI .or .i64 (a : Int) (b : Int) = ((a ||| b : Nat) : Int) := by
  have h : a ||| b < 2 ^ 7 := Nat.or_lt_two_pow ha hb
  show IntKind.i64.wrap (((BitVec.ofInt 64 (a : Int) ||| BitVec.ofInt 64 (b : Int)).toNat : Nat) : Int) = _
  rw [BitVec.ofInt_natCast, BitVec.ofInt_natCast, ← BitVec.ofNat_or, BitVec.toNat_ofNat, Nat.mod_eq_of_lt (by omega), wrap64 (by omega) (by omega)]
theorem andNotI {a b : Nat} (ha : a < 128) (hb : b < 128) (h : a ||| b = b) : bitI .andNot .i64 (a : Int) (b : Int) = 0 := by
  show IntKind.i64.wrap (((BitVec.ofInt 64 (a : Int) &&& ~~~ BitVec.ofInt 64 (b : Int)).toNat : Nat) : Int) = _
  rw [BitVec.ofInt_natCast, BitVec.ofInt_natCast]
  have : BitVec.ofNat 64 a &&& ~~~ BitVec.ofNat 64 b = 0#64 := by
    rw [← h, BitVec.ofNat_or]
    ext i hi
    simp
    intro h1 h2
    simp [h1] at h2
  rw [this]; rfl
def sub (a b : Nat) : Prop := a ||| b = b
theorem sub_refl (a : Nat) : sub a a := Nat.or_self a
theorem sub_trans {a b c : Nat} (h1 : sub a b) (h2 : sub b c) : sub a c := by unfold sub at *; rw [← h2, ← Nat.or_assoc, h1]
theorem sub_l (a b : Nat) : sub a (a ||| b) := by unfold sub; rw [← Nat.or_assoc, Nat.or_self]
theorem sub_r (a b : Nat) : sub b (a ||| b) := by unfold sub; rw [Nat.or_comm a b, ← Nat.or_assoc, Nat.or_self]
theorem sub_or {a b c : Nat} (h1 : sub a c) (h2 : sub b c) : sub (a ||| b) c := by unfold sub at *; rw [Nat.or_assoc, h2, h1]
theorem sub_le {a b : Nat} (h : sub a b) : a ≤ b := by unfold sub at h; rw [← h]; exact Nat.left_le_or
theorem or_lt {a b : Nat} (ha : a < 128) (hb : b < 128) : a ||| b < 128 := Nat.or_lt_two_pow (n := 7) ha hb
def singleF (k : Int) : Nat := bif k == 20 then 1 else bif k == 15 then 2 else bif k == 14 then 4 else bif k == 18 then 8 else bif k == 19 then 16 else bif (k == 24) || (k == 25) then 32 else bif (k == 21) || ((k == 22) || (k == 23)) then 64 else 0
theorem single_lt (k : Int) : singleF k < 128 := by
  unfold singleF
  cases k == 20 <;> cases k == 15 <;> cases k == 14 <;> cases k == 18 <;> cases k == 19 <;> cases ((k == 24) || (k == 25)) <;> cases ((k == 21) || ((k == 22) || (k == 23))) <;> decide
theorem single_spec (e : Ex) : APure Try.prog 40 [.p (eE e)] (.p (.i .i64 (singleF e.kind))) := by
  obtain ⟨k0, n0, t0, ns0, ts0, as0, ms0, p0⟩ := e
  simp only [Ex.kind]
  by_cases hr : 14 ≤ k0 ∧ k0 ≤ 25
  · obtain rfl | rfl | rfl | rfl | rfl | rfl | rfl | rfl | rfl | rfl | rfl | rfl : k0 = 14 ∨ k0 = 15 ∨ k0 = 16 ∨ k0 = 17 ∨ k0 = 18 ∨ k0 = 19 ∨ k0 = 20 ∨ k0 = 21 ∨ k0 = 22 ∨ k0 = 23 ∨ k0 = 24 ∨ k0 = 25 := by omega
    all_goals
      refine APure.intro (tyOf_ok Try.prog) hmix Try.func40 rfl (by rfl) (by kernel_rfl) (by show 1 ≤ _; decide) rfl ?_
      conv => whnf
      exact .inl rfl
  · have hb : ∀ c : Int, 14 ≤ c → c ≤ 25 → (k0 == c) = false := fun c h1 h2 => by simp; omega
    refine APure.intro (tyOf_ok Try.prog) hmix Try.func40 rfl (by rfl) (by kernel_rfl) (by show 1 ≤ _; decide) rfl ?_
    conv => whnf
    iterate 10 (refine asf (hb _ (by decide) (by decide)) ?_; conv => whnf)
    exact .inl (pi (by rw [singleF]; simp only [hb 14 (by decide) (by decide), hb 15 (by decide) (by decide), hb 18 (by decide) (by decide), hb 19 (by decide) (by decide), hb 20 (by decide) (by decide), hb 21 (by decide) (by decide), hb 22 (by decide) (by decide), hb 23 (by decide) (by decide), hb 24 (by decide) (by decide), hb 25 (by decide) (by decide)]; rfl))
def ownL (l : List Ex) (o : Nat) : Nat := l.foldl (fun o x => o ||| singleF x.kind) o
def ownF (e : Ex) : Nat := ownL (walkF e) 0
theorem ownL_lt : ∀ (l : List Ex) (o : Nat), o < 128 → ownL l o < 128
  | [], o, h => h
  | x :: r, o, h => ownL_lt r _ (or_lt h (single_lt _))
theorem ownF_lt (e : Ex) : ownF e < 128 := ownL_lt _ _ (by decide)
theorem own_spec (e : Ex) (he : wE e ≤ 1048576) : APure Try.prog 16 [.p (eE e)] (.p (.i .i64 (ownF e))) := by
  have h1 := walk_spec e he
  have hl := walk_le e
  have hl2 := size_le e
  rw [ownF]
  generalize walkF e = L at *
  generalize hwe : wE e = we at *
  clear hwe
  obtain ⟨k0, n0, t0, ns0, ts0, as0, ms0, p0⟩ := e
  refine APure.intro (tyOf_ok Try.prog) hmix Try.func16 rfl (by rfl) (by kernel_rfl) (by show 1 ≤ _; decide) rfl ?_
  conv => whnf
  refine apc h1 ?_
  conv => whnf
  refine loopS (tyOf_ok _) hmix (by kernel_rfl) L.length [3, 7, 8, 9] [] (fun k (s : Nat) => [.p (.i .i64 s), .p (.sl 8 (eEs L)), .p (.i .i64 (eEs L).length), .p (.i .i64 (ix k))]) (fun _ _ => []) (fun k s => s < 128 ∧ s = ownL (L.take k) 0) 0 ⟨rfl, rfl, rfl, rfl⟩ ⟨by decide, rfl⟩ ?_
  intro k s hk hs
  conv => whnf
  refine asplit ?_ ?_ <;> intro h1 <;> conv => whnf
  · have hk1 := ix_tt h1 (by rw [eEs_len]) hk (by omega)
    obtain ⟨b, hb1⟩ : ∃ b, L[k]? = some b := ⟨_, List.getElem?_eq_getElem hk1⟩
    refine aidxk (eEs_get hb1) (by omega) ?_
    have hc := single_spec b
    have hlt := single_lt b.kind
    have hts : ownL (L.take (k + 1)) 0 = s ||| singleF b.kind := by rw [take_snoc hb1, ownL, List.foldl_append, hs.2]; rfl
    generalize singleF b.kind = z at *
    obtain ⟨b1, b2, b3, b4, b5, b6, b7, b8⟩ := b
    conv => whnf
    refine apc hc ?_
    conv => whnf
    exact ⟨hk1, s ||| z, ⟨rfl, by rw [← orI hs.1 hlt]; rfl, rfl, rfl⟩, or_lt hs.1 hlt, hts.symm⟩
  · have hk1 := ix_ff h1 (by rw [eEs_len]) hk (by omega)
    rw [hk1, List.take_length] at hs
    rw [← hs.2]
    exact .inl rfl
/-- Calls -/
structure CS where
  seen : List (ByteArray × Bool)
  out : List ByteArray
def callsS (σ : CS) (x : Ex) : CS := bif (x.kind == 9) && !((slook x.text σ.seen).getD false) then ⟨sput x.text true σ.seen, σ.out ++ [x.text]⟩ else σ
def callsF (e : Ex) : List ByteArray := ((walkF e).foldl callsS ⟨[], []⟩).out
theorem callsS_len : ∀ (l : List Ex) (σ : CS), (l.foldl callsS σ).out.length ≤ σ.out.length + l.length
  | [], σ => by simp
  | x :: r, σ => by
    have := callsS_len r (callsS σ x)
    have h2 : (callsS σ x).out.length ≤ σ.out.length + 1 := by unfold callsS; cases ((x.kind == 9) && !((slook x.text σ.seen).getD false)) <;> simp
    simp only [List.foldl_cons, List.length_cons]; omega
theorem calls_len (e : Ex) : (callsF e).length ≤ wE e := by
  have := callsS_len (walkF e) ⟨[], []⟩
  have := walk_le e; have := size_le e
  simp at *; unfold callsF; omega
theorem callsE_spec (e : Ex) (he : wE e ≤ 1048576) : APure Try.prog 18 [.p (eE e)] (.p (.sl 1 ((callsF e).map eStr))) := by
  have h1 := walk_spec e he
  have hl := walk_le e
  have hl2 := size_le e
  rw [callsF]
  generalize walkF e = L at *
  generalize hwe : wE e = we at *
  clear hwe
  obtain ⟨k0, n0, t0, ns0, ts0, as0, ms0, p0⟩ := e
  refine APure.intro (tyOf_ok Try.prog) hmix Try.func18 rfl (by rfl) (by kernel_rfl) (by show 1 ≤ _; decide) rfl ?_
  conv => whnf
  refine apc h1 ?_
  conv => whnf
  refine lp_nil 4 0 rfl ?_
  refine loopS (tyOf_ok _) hmix (by kernel_rfl) L.length [3, 4, 9, 10, 11] [7] (fun k (s : CS) => [.mp 7, .so 1 (s.out.map eStr), .p (.sl 8 (eEs L)), .p (.i .i64 (eEs L).length), .p (.i .i64 (ix k))]) (fun _ s => [.map .ks (eM vB s.seen)]) (fun k s => s = (L.take k).foldl callsS ⟨[], []⟩) ⟨[], []⟩ ⟨rfl, rfl, rfl, rfl⟩ rfl ?_
  intro k s hk hs
  conv => whnf
  refine asplit ?_ ?_ <;> intro h1 <;> conv => whnf
  · have hk1 := ix_tt h1 (by rw [eEs_len]) hk (by omega)
    obtain ⟨b, hb1⟩ : ∃ b, L[k]? = some b := ⟨_, List.getElem?_eq_getElem hk1⟩
    refine aidxk (eEs_get hb1) (by omega) ?_
    have hts : (L.take (k + 1)).foldl callsS ⟨[], []⟩ = callsS s b := by rw [take_snoc hb1, List.foldl_append, ← hs]; rfl
    have hsl := callsS_len (L.take k) ⟨[], []⟩
    rw [← hs] at hsl
    simp at hsl
    obtain ⟨b1, b2, b3, b4, b5, b6, b7, b8⟩ := b
    rw [callsS] at hts
    simp only [Ex.kind, Ex.text] at hts
    conv => whnf
    refine asplit ?_ ?_ <;> intro h2 <;> conv => whnf
    · replace h2 : (b1 == 9) = true := h2
      refine alook (mlook_B b3 s.seen) ?_
      conv => whnf
      refine asplit ?_ ?_ <;> intro h3 <;> conv => whnf
      · replace h3 : (!((slook b3 s.seen).getD false)) = true := h3
        rw [h2, h3] at hts
        refine aneed (show ((s.out.map eStr).length + 1) * 16 ≤ 140737488355328 by simp; omega) ?_
        conv => whnf
        refine ⟨hk1, _, ⟨?_, ?_, rfl, rfl⟩, hts.symm⟩
        · simp only [Bool.and_self, cond_true]; rw [← mput_eM]; rfl
        · simp only [Bool.and_self, cond_true, List.map_append]; rfl
      · replace h3 : (!((slook b3 s.seen).getD false)) = false := h3
        rw [h2, h3] at hts
        exact ⟨hk1, s, ⟨rfl, rfl, rfl, rfl⟩, hts.symm⟩
    · replace h2 : (b1 == 9) = false := h2
      rw [h2] at hts
      exact ⟨hk1, s, ⟨rfl, rfl, rfl, rfl⟩, hts.symm⟩
  · have hk1 := ix_ff h1 (by rw [eEs_len]) hk (by omega)
    rw [hk1, List.take_length] at hs
    rw [← hs]
    exact .inr (.inl rfl)
end TR
