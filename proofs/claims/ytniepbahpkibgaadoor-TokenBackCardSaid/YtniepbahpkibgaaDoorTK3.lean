/-
  DERIVED. Contracts of the functions that the law reaches, and the law itself, for every input. No conditions.
-/
import Derived.Test.YtniepbahpkibgaaDoorTK2
open Go Go.AM Go.Proofs
set_option maxRecDepth 100000
namespace TK
theorem split_spec (l : Bs) (sep : ByteArray) (hs : sep = B [32]) (hl : l.length ≤ 1048576) : APure Tryd.prog 35 [.p (.s (B l)), .p (.s sep)] (.p (.sl 1 ((splitF 32 l).map eStr))) := by
  have h := genSplit_spec l 32 hl
  rw [← hs] at h
  refine APure.intro (tyOf_ok Tryd.prog) hmix Tryd.func35 rfl (by rfl) (by kernel_rfl) (by show 2 ≤ _; decide) rfl ?_
  conv => whnf
  refine apc h ?_
  conv => whnf
  exact .inl rfl
theorem words_spec : APure Tryd.prog 29 [] (.p (.sl 1 (wordsL.map eStr))) := by
  have h := split_spec keysL (B [32]) rfl (by decide)
  rw [show splitF 32 keysL = wordsL from rfl] at h
  refine APure.intro (tyOf_ok Tryd.prog) hmix Tryd.func29 rfl (by rfl) (by kernel_rfl) (by show 0 ≤ _; decide) rfl ?_
  conv => whnf
  refine apc h ?_
  conv => whnf
  exact .inl rfl
/-! slices.Index, slices.Contains -/
def idxF (x : Bs) : List Bs → Nat → Int
  | [], _ => -1
  | a :: r, k => bif x == a then (k : Int) else idxF x r (k + 1)
theorem idxF_ge (x : Bs) : ∀ (l : List Bs) (k : Nat), decide (idxF x l k ≥ 0) = l.contains x
  | [], k => by simp [idxF]
  | a :: r, k => by
    rw [idxF, List.contains_cons]
    cases h : x == a with
    | true => simp
    | false => rw [cond_false, idxF_ge x r (k + 1), Bool.false_or]
theorem sidx_spec (l : List Bs) (x : Bs) (hb : l.length < 9223372036854775807) : APure Tryd.prog 34 [.p (.sl 1 (l.map eStr)), .p (.s (B x))] (.p (.i .i64 (idxF x l 0))) := by
  refine APure.intro (tyOf_ok Tryd.prog) hmix Tryd.func34 rfl (by rfl) (by kernel_rfl) (by show 2 ≤ _; decide) rfl ?_
  conv => whnf
  refine loopS (tyOf_ok _) hmix (by kernel_rfl) l.length [0, 1, 6, 7, 8] [] (fun k _ => [.p (.sl 1 (l.map eStr)), .p (.s (B x)), .p (.sl 1 (l.map eStr)), .p (.i .i64 (l.map eStr).length), .p (.i .i64 (ix k))]) (fun _ _ => []) (fun k _ => idxF x l 0 = idxF x (l.drop k) k) () ⟨rfl, rfl, rfl, rfl⟩ rfl ?_
  intro k s hk hn
  conv => whnf
  refine asplit ?_ ?_ <;> intro h1 <;> conv => whnf
  · have hk1 := ix_tt h1 (by simp) hk (by omega)
    obtain ⟨b, hb1⟩ : ∃ b, l[k]? = some b := ⟨l[k], by simp [hk1]⟩
    rw [drop_cons hb1, idxF] at hn
    refine aidxk (x := eStr b) (by simp [hb1]) (by omega) ?_
    conv => whnf
    refine asplit ?_ ?_ <;> intro h2 <;> conv => whnf
    · rw [B_beq] at h2
      refine .inl (pi ?_)
      rw [hn, h2, ix_eq (by omega)]; rfl
    · rw [B_beq] at h2
      exact ⟨hk1, (), ⟨rfl, rfl, rfl, rfl⟩, by rw [hn, h2]; rfl⟩
  · have hk1 := ix_ff h1 (by simp) hk (by omega)
    rw [hk1, List.drop_length, idxF] at hn
    exact .inl (pi hn.symm)
theorem scont_aux (l : AV) (x : Bs) (i : Int) (h : APure Tryd.prog 34 [l, .p (.s (B x))] (.p (.i .i64 i))) (hl : ∃ s xs, l = .p (.sl s xs)) : APure Tryd.prog 28 [l, .p (.s (B x))] (.p (.b (decide (i ≥ 0)))) := by
  obtain ⟨s, xs, rfl⟩ := hl
  refine APure.intro (tyOf_ok Tryd.prog) hmix Tryd.func28 rfl (by rfl) (by kernel_rfl) (by show 2 ≤ _; decide) rfl ?_
  conv => whnf
  refine apc h ?_
  conv => whnf
  exact .inl rfl
theorem scont_spec (l : List Bs) (x : Bs) (hb : l.length < 9223372036854775807) : APure Tryd.prog 28 [.p (.sl 1 (l.map eStr)), .p (.s (B x))] (.p (.b (l.contains x))) := by
  rw [← idxF_ge x l 0]
  exact scont_aux _ x _ (sidx_spec l x hb) ⟨_, _, rfl⟩
/-! classes of bytes -/
theorem small_spec (c : UInt8) : APure Tryd.prog 26 [.p (vU c)] (.p (.b (smallF c))) := by
  refine APure.intro (tyOf_ok Tryd.prog) hmix Tryd.func26 rfl (by rfl) (by kernel_rfl) (by show 1 ≤ _; decide) rfl ?_
  conv => whnf
  refine asplit ?_ ?_ <;> intro h <;> conv => whnf
  · exact .inl (pb (by rw [smallF, h]; rfl))
  · exact .inl (pb (by rw [smallF, h]; rfl))
theorem cap_spec (c : UInt8) : APure Tryd.prog 27 [.p (vU c)] (.p (.b (capF c))) := by
  refine APure.intro (tyOf_ok Tryd.prog) hmix Tryd.func27 rfl (by rfl) (by kernel_rfl) (by show 1 ≤ _; decide) rfl ?_
  conv => whnf
  refine asplit ?_ ?_ <;> intro h <;> conv => whnf
  · exact .inl (pb (by rw [capF, h]; rfl))
  · exact .inl (pb (by rw [capF, h]; rfl))
theorem digit_spec (c : UInt8) : APure Tryd.prog 17 [.p (vU c)] (.p (.b (digitF c))) := by
  refine APure.intro (tyOf_ok Tryd.prog) hmix Tryd.func17 rfl (by rfl) (by kernel_rfl) (by show 1 ≤ _; decide) rfl ?_
  conv => whnf
  refine asplit ?_ ?_ <;> intro h <;> conv => whnf
  · exact .inl (pb (by rw [digitF, h]; rfl))
  · exact .inl (pb (by rw [digitF, h]; rfl))
theorem nl_spec (c : UInt8) : APure Tryd.prog 12 [.p (vU c)] (.p (.b (nlF c))) := by
  refine APure.intro (tyOf_ok Tryd.prog) hmix Tryd.func12 rfl (by rfl) (by kernel_rfl) (by show 1 ≤ _; decide) rfl ?_
  conv => whnf
  exact .inl rfl
theorem letter_aux (c : UInt8) (a b : Bool) (h1 : APure Tryd.prog 26 [.p (vU c)] (.p (.b a))) (h2 : APure Tryd.prog 27 [.p (vU c)] (.p (.b b))) : APure Tryd.prog 22 [.p (vU c)] (.p (.b (a || b))) := by
  refine APure.intro (tyOf_ok Tryd.prog) hmix Tryd.func22 rfl (by rfl) (by kernel_rfl) (by show 1 ≤ _; decide) rfl ?_
  conv => whnf
  refine apc h1 ?_
  conv => whnf
  refine asplit ?_ ?_ <;> intro h <;> conv => whnf
  · exact .inl (pb (by rw [h]; rfl))
  · refine apc h2 ?_
    conv => whnf
    exact .inl (pb (by rw [h]; rfl))
theorem letter_spec (c : UInt8) : APure Tryd.prog 22 [.p (vU c)] (.p (.b (letterF c))) := letter_aux c _ _ (small_spec c) (cap_spec c)
theorem part_aux (c : UInt8) (a b : Bool) (h1 : APure Tryd.prog 22 [.p (vU c)] (.p (.b a))) (h2 : APure Tryd.prog 17 [.p (vU c)] (.p (.b b))) : APure Tryd.prog 23 [.p (vU c)] (.p (.b ((a || b) || (bi c == 95)))) := by
  refine APure.intro (tyOf_ok Tryd.prog) hmix Tryd.func23 rfl (by rfl) (by kernel_rfl) (by show 1 ≤ _; decide) rfl ?_
  conv => whnf
  refine apc h1 ?_
  conv => whnf
  refine asplit ?_ ?_ <;> intro h <;> conv => whnf
  · exact .inl (pb (by rw [h]; rfl))
  · refine apc h2 ?_
    conv => whnf
    refine asplit ?_ ?_ <;> intro h3 <;> conv => whnf
    · exact .inl (pb (by rw [h, h3]; rfl))
    · exact .inl (pb (by rw [h, h3]; rfl))
theorem part_spec (c : UInt8) : APure Tryd.prog 23 [.p (vU c)] (.p (.b (partF c))) := part_aux c _ _ (letter_spec c) (digit_spec c)
/-! span -/
theorem span_spec (l : Bs) (i f : Nat) (φ : UInt8 → Bool) (hl : l.length ≤ 1048576) (hi : i ≤ l.length) (R : Nat) (hR : spanF φ (l.drop i) = R) (hf : ∀ c, APure Tryd.prog f [.p (vU c)] (.p (.b (φ c)))) : APure Tryd.prog 11 [.p (.s (B l)), .p (.i .i64 i), .fn f [] []] (.p (.i .i64 R)) := by
  refine APure.intro (tyOf_ok Tryd.prog) hmix Tryd.func11 rfl (by rfl) (by kernel_rfl) (by show 3 ≤ _; decide) rfl ?_
  conv => whnf
  refine loopS (tyOf_ok _) hmix (by kernel_rfl) (l.length - i) [0, 1, 2, 7] [] (fun k _ => [.p (.s (B l)), .p (.i .i64 i), .fn f [] [], .p (.i .i64 (ix k))]) (fun _ _ => []) (fun k _ => R = k + spanF φ (l.drop (i + k))) () ⟨rfl, rfl, rfl, rfl⟩ (by simpa using hR.symm) ?_
  intro k s hk hn
  have hkx : ix k = (k : Int) := ix_eq (by omega)
  have hw : IntKind.i64.wrap ((i : Int) + ix k) = ((i + k : Nat) : Int) := by rw [hkx, wrap64 (by omega) (by omega)]; omega
  conv => whnf
  refine asplit ?_ ?_ <;> intro h1
  · rw [hw, B_size] at h1
    have hk1 : i + k < l.length := by have := of_decide_eq_true h1; omega
    obtain ⟨c, hc⟩ : ∃ c, l[i + k]? = some c := ⟨_, List.getElem?_eq_getElem hk1⟩
    rw [drop_cons hc, spanF] at hn
    have hfc := hf c
    generalize φ c = b at hfc hn
    conv => whnf
    refine asix hw hc ?_
    conv => whnf
    refine apc hfc ?_
    conv => whnf
    refine asplit ?_ ?_ <;> intro h2 <;> conv => whnf
    · subst h2
      exact ⟨by omega, (), ⟨rfl, rfl, rfl, rfl⟩, by rw [hn]; simp [Nat.add_assoc]; omega⟩
    · subst h2
      refine .inl (pi ?_)
      rw [hkx, hn]; simp
  · rw [hw, B_size] at h1
    have hk1 : ¬ i + k < l.length := by have := of_decide_eq_false h1; omega
    rw [List.drop_eq_nil_of_le (by omega), spanF] at hn
    conv => whnf
    refine .inl (pi ?_)
    rw [hkx, hn]; simp
end TK
