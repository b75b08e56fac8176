/-
  DERIVED. Contracts of the functions that the law reaches, and the law itself, for every input. No conditions.
-/
import Derived.Test.YtniepbahpkibgaaDoorTK6
open Go Go.AM Go.Proofs
set_option maxRecDepth 100000
namespace TK
def atF (k : Int) (i : Nat) : Nat := bif k == 0 then 0 else i
def stF (L : Bs) : Nat → Int × Bs × Nat
  | 0 => (0, [], 0)
  | n + 1 => bif signF (L.take (n + 1)) then (6, L.take (n + 1), n + 1) else stF L n
def pO : Option UInt8 → Bool
  | some d => partF d
  | none => false
theorem nextF_cons (L : Bs) (c : UInt8) (r : Bs) (h : L = c :: r) : nextF L =
    ((bif letterF c then (bif wordF (L.take (spanF partF L)) then (3, L.take (spanF partF L), spanF partF L) else bif lowF (L.take (spanF partF L)) then (1, L.take (spanF partF L), spanF partF L) else bif upF (L.take (spanF partF L)) then (2, L.take (spanF partF L), spanF partF L) else (0, [], 0))
    else bif digitF c then (bif pO L[spanF digitF L]? then (0, [], 0) else (4, L.take (spanF digitF L), spanF digitF L))
    else bif bi c == 34 then (5, litF L)
    else stF L (min 2 L.length)) : Int × Bs × Nat) := by
  subst h
  unfold nextF
  simp only
  cases letterF c with
  | true => rfl
  | false =>
    cases digitF c with
    | true => rfl
    | false =>
      cases bi c == 34 with
      | true => rfl
      | false =>
        simp only [cond_false]
        match r with
        | [] => rfl
        | d :: r =>
          rw [show min 2 (c :: d :: r).length = 2 by simp, show decide ((c :: d :: r).length ≥ 2) = true by simp, Bool.true_and]
          rfl
theorem ext_take (l : Bs) (i n : Nat) (u : Int) (hu : u = ((i + n : Nat) : Int)) : (B l).extract (i : Int).toNat u.toNat = B ((l.drop i).take n) := by
  rw [hu, B_ext, Int.toNat_natCast, Int.toNat_natCast, Nat.add_sub_cancel_left]
theorem next_aux (l : Bs) (i : Nat) (hl : l.length ≤ 1048576) (hi : i < l.length) (R : Int × Bs × Nat) (hR : nextF (l.drop i) = R) :
    APure Tryd.prog 13 [.p (.s (B l)), .p (.i .i64 i)] (.tup [.p (.agg [.i .i64 R.1, .s (B R.2.1), .i .i64 (atF R.1 i)]), .p (.i .i64 R.2.2)]) := by
  have hsz : (B l).size = l.length := B_size l
  obtain ⟨c, hc⟩ : ∃ c, l[i]? = some c := ⟨_, List.getElem?_eq_getElem hi⟩
  have hd := drop_cons hc
  obtain ⟨L, hL⟩ : ∃ L, L = l.drop i := ⟨_, rfl⟩
  have hLl : L.length = l.length - i := by rw [hL, List.length_drop]
  rw [nextF_cons (l.drop i) c _ hd, ← hL] at hR
  have fin : ∀ (k : Int) (t : Bs) (n : Nat) (a b : Int), (k, t, n) = R → a = atF k i → b = n → AV.tup [.p (.agg [.i .i64 k, .s (B t), .i .i64 a]), .p (.i .i64 b)] = .tup [.p (.agg [.i .i64 R.1, .s (B R.2.1), .i .i64 (atF R.1 i)]), .p (.i .i64 R.2.2)] := fun k t n a b h1 h2 h3 => by subst h1; rw [h2, h3]
  refine APure.intro (tyOf_ok Tryd.prog) hmix Tryd.func13 rfl (by rfl) (by kernel_rfl) (by show 2 ≤ _; decide) rfl ?_
  conv => whnf
  refine asix rfl hc ?_
  conv => whnf
  have p1 := letter_spec c
  have p2 := digit_spec c
  refine apc p1 ?_
  conv => whnf
  refine asplit ?_ ?_ <;> intro h1 <;> conv => whnf
  · rw [h1, cond_true] at hR
    have ps := span_spec l i 23 partF hl (by omega) _ rfl part_spec
    rw [← hL] at ps
    have hn := spanF_le partF L
    generalize spanF partF L = n at *
    refine apc ps ?_
    conv => whnf
    have w1 : IntKind.i64.wrap ((i : Int) + (n : Int)) = ((i + n : Nat) : Int) := by rw [wrap64 (by omega) (by omega)]; omega
    refine aneed (by rw [w1, hsz]; omega) ?_
    rw [ext_take l i n _ w1, ← hL]
    have t1 := word_spec (L.take n)
    have t2 := low_spec (L.take n) (by rw [List.length_take]; omega)
    have t3 := up_spec (L.take n) (by rw [List.length_take]; omega)
    generalize L.take n = T at *
    conv => whnf
    refine apc t1 ?_
    conv => whnf
    refine asplit ?_ ?_ <;> intro h2 <;> conv => whnf
    · rw [h2, cond_true] at hR
      exact .inl (fin _ _ _ _ _ hR rfl rfl)
    rw [h2, cond_false] at hR
    refine apc t2 ?_
    conv => whnf
    refine asplit ?_ ?_ <;> intro h3 <;> conv => whnf
    · rw [h3, cond_true] at hR
      exact .inl (fin _ _ _ _ _ hR rfl rfl)
    rw [h3, cond_false] at hR
    refine apc t3 ?_
    conv => whnf
    refine asplit ?_ ?_ <;> intro h4 <;> conv => whnf
    · rw [h4, cond_true] at hR
      exact .inl (fin _ _ _ _ _ hR rfl rfl)
    rw [h4, cond_false] at hR
    exact .inl (fin _ _ _ _ _ hR rfl rfl)
  rw [h1, cond_false] at hR
  refine apc p2 ?_
  conv => whnf
  refine asplit ?_ ?_ <;> intro h2 <;> conv => whnf
  · rw [h2, cond_true] at hR
    have ps := span_spec l i 17 digitF hl (by omega) _ rfl digit_spec
    rw [← hL] at ps
    have hn := spanF_le digitF L
    generalize spanF digitF L = n at *
    refine apc ps ?_
    conv => whnf
    have w1 : IntKind.i64.wrap ((i : Int) + (n : Int)) = ((i + n : Nat) : Int) := by rw [wrap64 (by omega) (by omega)]; omega
    have hln : L[n]? = l[i + n]? := by rw [hL, List.getElem?_drop]
    rw [hln] at hR
    refine asplit ?_ ?_ <;> intro h3 <;> conv => whnf
    · rw [w1, hsz] at h3
      have hlt : i + n < l.length := by have := of_decide_eq_true h3; omega
      obtain ⟨d, hd⟩ : ∃ d, l[i + n]? = some d := ⟨_, List.getElem?_eq_getElem hlt⟩
      rw [hd, pO] at hR
      refine asix w1 hd ?_
      conv => whnf
      refine apc (part_spec d) ?_
      conv => whnf
      refine asplit ?_ ?_ <;> intro h4 <;> conv => whnf
      · rw [h4, cond_true] at hR
        exact .inl (fin _ _ _ _ _ hR rfl rfl)
      · rw [h4, cond_false] at hR
        refine aneed (by rw [w1, hsz]; omega) ?_
        rw [ext_take l i n _ w1, ← hL]
        conv => whnf
        exact .inl (fin _ _ _ _ _ hR rfl rfl)
    · rw [w1, hsz] at h3
      have hge : l.length ≤ i + n := by have := of_decide_eq_false h3; omega
      rw [List.getElem?_eq_none hge, pO, cond_false] at hR
      refine aneed (by rw [w1, hsz]; omega) ?_
      rw [ext_take l i n _ w1, ← hL]
      conv => whnf
      exact .inl (fin _ _ _ _ _ hR rfl rfl)
  rw [h2, cond_false] at hR
  refine asplit ?_ ?_ <;> intro h3 <;> conv => whnf
  · have h3 : (bi c == 34) = true := h3
    rw [h3, cond_true] at hR
    refine aneed (by rw [hsz]; omega) ?_
    have x1 : (B l).extract (i : Int).toNat (((B l).size : Nat) : Int).toNat = B L := by
      rw [B_ext, B_size, Int.toNat_natCast, Int.toNat_natCast, List.take_of_length_le (by rw [List.length_drop]; exact Nat.le_refl _), hL]
    rw [x1]
    have pl := lit_spec L (by omega)
    generalize litF L = E at *
    conv => whnf
    refine apc pl ?_
    conv => whnf
    exact .inl (fin _ _ _ _ _ hR rfl rfl)
  have h3 : (bi c == 34) = false := h3
  rw [h3, cond_false] at hR
  have w0 : IntKind.i64.wrap (((B l).size : Int) - (i : Int)) = (L.length : Int) := by rw [hsz, wrap64 (by omega) (by omega)]; omega
  rw [w0]
  refine loopS (tyOf_ok _) hmix (by kernel_rfl) 2 [0, 1, 4, 12] [4] (fun _ (s : Int) => [.p (.s (B l)), .p (.i .i64 i), .ptr 4 0, .p (.i .i64 s)]) (fun _ _ => [.cells [.p (.i .i64 0), .p (.s ⟨#[]⟩), .p (.i .i64 0)]]) (fun k s => ∃ n : Nat, s = n ∧ n + k ≤ 2 ∧ n ≤ L.length ∧ stF L n = R) (if (L.length : Int) < 2 then (L.length : Int) else 2) ⟨rfl, rfl, rfl, rfl⟩ ⟨min 2 L.length, by split <;> omega, by omega, by omega, hR⟩ ?_
  rintro k s hk ⟨n, q1, q2, q3, q4⟩
  conv => whnf
  refine asplit ?_ ?_ <;> intro h4 <;> conv => whnf
  · have hn0 : 0 < n := by have := of_decide_eq_true h4; omega
    obtain ⟨m, rfl⟩ : ∃ m, n = m + 1 := ⟨n - 1, by omega⟩
    have w1 : IntKind.i64.wrap ((i : Int) + s) = ((i + (m + 1) : Nat) : Int) := by rw [q1, wrap64 (by omega) (by omega)]; omega
    rw [stF] at q4
    refine aneed (by rw [w1, hsz]; omega) ?_
    rw [ext_take l i (m + 1) _ w1, ← hL]
    conv => whnf
    refine apc (sign_spec (L.take (m + 1))) ?_
    conv => whnf
    refine asplit ?_ ?_ <;> intro h5 <;> conv => whnf
    · rw [h5, cond_true] at q4
      refine aneed (by rw [w1, hsz]; omega) ?_
      rw [ext_take l i (m + 1) _ w1, ← hL]
      conv => whnf
      exact .inl (fin _ _ _ _ _ q4 rfl q1)
    · rw [h5, cond_false] at q4
      exact ⟨by omega, IntKind.i64.wrap (s - 1), ⟨rfl, rfl, rfl, rfl⟩, m, by rw [q1, wrap64 (by omega) (by omega)]; omega, by omega, by omega, q4⟩
  · have hn0 : n = 0 := by have := of_decide_eq_false h4; omega
    subst hn0
    exact .inl (fin _ [] 0 _ _ q4 rfl rfl)
theorem next_spec (l : Bs) (i : Nat) (hl : l.length ≤ 1048576) (hi : i < l.length) :
    APure Tryd.prog 13 [.p (.s (B l)), .p (.i .i64 i)] (.tup [.p (eTk ⟨(nextF (l.drop i)).1, (nextF (l.drop i)).2.1, atF (nextF (l.drop i)).1 i⟩), .p (.i .i64 (nextF (l.drop i)).2.2)]) := next_aux l i hl hi _ rfl
end TK
