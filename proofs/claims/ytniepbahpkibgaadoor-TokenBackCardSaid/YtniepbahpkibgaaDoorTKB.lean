/-
  DERIVED. Contracts of the functions that the law reaches, and the law itself, for every input. No conditions.
-/
import Derived.Test.YtniepbahpkibgaaDoorTKA
open Go Go.AM Go.Proofs
set_option maxRecDepth 100000
namespace TK
theorem hexd_back : ∀ n : Nat, n < 16 → hexF (hexd n) = n := by decide
theorem c256 (P : UInt8 → Prop) (h : ∀ n : Nat, n < 256 → P (UInt8.ofNat n)) (c : UInt8) : P c := by
  have := h c.toNat c.toNat_lt
  rwa [UInt8.ofNat_toNat] at this
theorem esc_hex (c : UInt8) (X : Bs) : escF (120 :: hexd (c.toNat / 16) :: hexd (c.toNat % 16) :: X) = (c, 3) := by
  have hl := c.toNat_lt
  rw [escF, show (bi 120 == 110) = false by decide, show (bi 120 == 34 || bi 120 == 92) = false by decide, show (bi 120 == 120) = true by decide, cond_false, cond_false, cond_true, escX, hexd_back _ (by omega), hexd_back _ (by omega)]
  rw [show (decide (((c.toNat / 16 : Nat) : Int) ≥ 0) && decide (((c.toNat % 16 : Nat) : Int) ≥ 0)) = true by rw [decide_eq_true (by omega), decide_eq_true (by omega)]; rfl, cond_true]
  rw [show (16 * ((c.toNat / 16 : Nat) : Int) + ((c.toNat % 16 : Nat) : Int)).toNat = c.toNat by omega, UInt8.ofNat_toNat]
theorem bi_of {c : UInt8} {m : UInt8} (h : (bi c == bi m) = true) : c = m := by
  have := eq_of_beq h
  exact UInt8.toNat.inj (by unfold bi at this; omega)
theorem lit_one (c : UInt8) (X v : Bs) (i : Nat) : litGo (qbF c ++ X) v i = litGo X (v ++ [c]) (i + (qbF c).length) := by
  rw [qbF]
  cases h1 : (bi c == 34 || bi c == 92) with
  | true =>
    rw [cond_true]
    show litGo (92 :: c :: X) v i = _
    have h110 : (bi c == 110) = false := by
      rcases Bool.or_eq_true_iff.1 h1 with h | h
      · rw [eq_of_beq h]; rfl
      · rw [eq_of_beq h]; rfl
    have he : escF (c :: X) = (c, 1) := by rw [escF, h110, cond_false, h1, cond_true]
    rw [litGo, show (bi 92 == 34) = false by decide, cond_false, show decide (bi 92 < 32) = false by decide, cond_false, show (bi 92 != 92) = false by decide, cond_false, he]
    rfl
  | false =>
    rw [cond_false]
    have h34 : (bi c == 34) = false := by cases h : bi c == 34 with | false => rfl | true => rw [h] at h1; cases h1
    have h92 : (bi c == 92) = false := by cases h : bi c == 92 with | false => rfl | true => rw [h, Bool.or_true] at h1; cases h1
    cases h2 : bi c == 10 with
    | true =>
      rw [cond_true]
      have : c = 10 := bi_of h2
      subst this
      show litGo (92 :: 110 :: X) v i = _
      have he : escF (110 :: X) = (10, 1) := by rw [escF, show (bi 110 == 110) = true by decide, cond_true]
      rw [litGo, show (bi 92 == 34) = false by decide, cond_false, show decide (bi 92 < 32) = false by decide, cond_false, show (bi 92 != 92) = false by decide, cond_false, he]
      rfl
    | false =>
      rw [cond_false]
      cases h3 : (decide (bi c ≥ 32) && decide (bi c ≤ 126)) with
      | true =>
        rw [cond_true]
        have h32 : decide (bi c < 32) = false := by
          have := of_decide_eq_true (Bool.and_eq_true_iff.1 h3).1
          exact decide_eq_false (by omega)
        show litGo (c :: X) v i = _
        rw [litGo, h34, cond_false, h32, cond_false, show (bi c != 92) = true by rw [bne, h92]; rfl, cond_true]
        rfl
      | false =>
        rw [cond_false]
        show litGo (92 :: 120 :: hexd (c.toNat / 16) :: hexd (c.toNat % 16) :: X) v i = _
        rw [litGo, show (bi 92 == 34) = false by decide, cond_false, show decide (bi 92 < 32) = false by decide, cond_false, show (bi 92 != 92) = false by decide, cond_false, esc_hex]
        rfl
theorem lit_quote : ∀ (s v rest : Bs) (i : Nat), v.length + s.length ≤ 64 → litGo (s.flatMap qbF ++ 34 :: rest) v i = (v ++ s, i + (s.flatMap qbF).length + 1)
  | [], v, rest, i, h => by
    simp only [List.flatMap_nil, List.nil_append]
    rw [litGo, show (bi 34 == 34) = true by decide, cond_true, decide_eq_false (by simp at h; omega), cond_false]
    simp
  | c :: r, v, rest, i, h => by
    rw [List.flatMap_cons, List.append_assoc, lit_one, lit_quote r (v ++ [c]) rest _ (by simp at h ⊢; omega)]
    simp [Nat.add_assoc]
theorem qb_len (c : UInt8) : (qbF c).length ≤ 4 := by
  rw [qbF]
  cases (bi c == 34 || bi c == 92) with
  | true => simp
  | false =>
    cases bi c == 10 with
    | true => simp
    | false => cases (decide (bi c ≥ 32) && decide (bi c ≤ 126)) <;> simp
theorem qs_len : ∀ (s : Bs), (s.flatMap qbF).length ≤ 4 * s.length
  | [] => by simp
  | c :: r => by have := qs_len r; have := qb_len c; rw [List.flatMap_cons, List.length_append, List.length_cons]; omega
theorem quote_len (s : Bs) : (quoteL s).length ≤ 4 * s.length + 2 := by
  have := qs_len s
  rw [quoteL, List.length_cons, List.length_append, List.length_cons, List.length_nil]; omega
theorem next_quote (s rest : Bs) (h : s.length ≤ 64) : nextF (quoteL s ++ rest) = (5, s, (quoteL s).length) := by
  rw [nextF_cons _ 34 (s.flatMap qbF ++ 34 :: rest) (by simp [quoteL]), show letterF 34 = false by decide, show digitF 34 = false by decide, show (bi 34 == 34) = true by decide, cond_false, cond_false, cond_true, litF]
  rw [show (quoteL s ++ rest).drop 1 = s.flatMap qbF ++ 34 :: rest by simp [quoteL], lit_quote s [] rest 1 (by simpa using h)]
  simp [quoteL]; omega
theorem read_quote (s : Bs) (h : s.length ≤ 64) : readF (quoteL s) = ([⟨5, s, 0⟩], 0, 0) := by
  have hl := quote_len s
  have hn := next_quote s [] h
  rw [List.append_nil] at hn
  have hc : quoteL s = 34 :: (s.flatMap qbF ++ [34]) := rfl
  have hlen : (quoteL s).length = (s.flatMap qbF ++ [34]).length + 1 := rfl
  rw [readF, decide_eq_false (by omega), cond_false]
  have : readGo (quoteL s) 0 [] = ([⟨5, s, 0⟩], none) := by
    rw [hc, readGo, ← hc, show blankF 34 = false by decide, cond_false, show (bi 34 == 35) = false by decide, cond_false, hn]
    simp only
    rw [show ((quoteL s).length == 0) = false by rw [hlen]; rfl, cond_false, List.drop_eq_nil_of_le (by omega), readGo]
    rfl
  rw [this]
/-! TokenText -/
theorem text_aux (l Q : Bs) (h1 : APure Tryd.prog 6 [] (.p (.b true))) (h2 : APure Tryd.prog 8 [.p (.s (B l))] (.tup [.p (.s (B Q)), .p (.i .i64 0)])) (h3 : APure Tryd.prog 7 [.p (.s (B Q))] (.tup [.p (.sl 3 [.agg [.i .i64 5, .s (B l), .i .i64 0]]), .p (.i .i64 0), .p (.i .i64 0)])) :
    APure Tryd.prog 4 [.p (.s (B l))] (.p (.b true)) := by
  refine APure.intro (tyOf_ok Tryd.prog) hmix Tryd.func4 rfl (by rfl) (by kernel_rfl) (by show 1 ≤ _; decide) rfl ?_
  conv => whnf
  refine apc h1 ?_
  conv => whnf
  refine apc h2 ?_
  conv => whnf
  refine apc h3 ?_
  conv => whnf
  refine aidxi (by decide) rfl ?_
  conv => whnf
  refine aidxi (by decide) rfl ?_
  conv => whnf
  exact .inl (pb (by rw [B_beq]; simp))
theorem text_big (l : Bs) (q : ByteArray) (hq : (q.toList == ByteArray.toList ⟨#[]⟩) = true) (hl : 64 < l.length) (h1 : APure Tryd.prog 6 [] (.p (.b true))) (h2 : APure Tryd.prog 8 [.p (.s (B l))] (.tup [.p (.s q), .p (.i .i64 2)])) :
    APure Tryd.prog 4 [.p (.s (B l))] (.p (.b true)) := by
  have hsz : (B l).size = l.length := B_size l
  refine APure.intro (tyOf_ok Tryd.prog) hmix Tryd.func4 rfl (by rfl) (by kernel_rfl) (by show 1 ≤ _; decide) rfl ?_
  conv => whnf
  refine apc h1 ?_
  conv => whnf
  refine apc h2 ?_
  conv => whnf
  refine ast hq ?_
  conv => whnf
  exact .inl (pb (by rw [hsz]; exact decide_eq_true (by omega)))
theorem tokenText (l : Bs) : APure Tryd.prog 4 [.p (.s (B l))] (.p (.b true)) := by
  by_cases hl : l.length > 64
  · exact text_big l (B []) (by rw [B_emp]; rfl) hl toks_spec (quote_big l hl)
  · have h3 := read_spec (quoteL l)
    rw [read_quote l (by omega)] at h3
    exact text_aux l (quoteL l) toks_spec (quote_aux l (by omega)) h3
end TK
