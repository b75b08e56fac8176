/-
  DERIVED. Contracts of the functions that the law reaches, and the law itself, for every input. No conditions.
-/
import Derived.Test.YtniepbahpkibgaaDoorTK7
open Go Go.AM Go.Proofs
set_option maxRecDepth 100000
namespace TK
theorem lit_le : ∀ (n : Nat) (r v : Bs) (i : Nat), r.length ≤ n → (litGo r v i).2 ≤ i + r.length
  | n, [], v, i, _ => by rw [litGo]; simp
  | 0, _ :: _, v, i, h => by simp at h
  | n + 1, c :: r, v, i, h => by
    simp only [List.length_cons] at h
    rw [litGo, List.length_cons]
    cases bi c == 34 with
    | true => rw [cond_true]; cases decide (v.length > 64) <;> simp <;> omega
    | false =>
      rw [cond_false]
      cases decide (bi c < 32) with
      | true => simp
      | false =>
        rw [cond_false]
        cases bi c != 92 with
        | true => rw [cond_true]; have := lit_le n r (v ++ [c]) (i + 1) (by omega); omega
        | false =>
          rw [cond_false]
          cases (escF r).2 == 0 with
          | true => simp
          | false =>
            rw [cond_false]
            have h1 := esc_le r
            have := lit_le n (r.drop (escF r).2) (v ++ [(escF r).1]) (i + (escF r).2 + 1) (by rw [List.length_drop]; omega)
            rw [List.length_drop] at this
            omega
theorem stF_le (L : Bs) : ∀ n, (stF L n).2.2 ≤ n ∧ ((stF L n).2.2 ≠ 0 → (stF L n).1 = 6 ∧ (stF L n).2.1 = L.take (stF L n).2.2 ∧ signF (L.take (stF L n).2.2) = true)
  | 0 => by simp [stF]
  | n + 1 => by
    rw [stF]
    cases h : signF (L.take (n + 1)) with
    | true => simp [h]
    | false => rw [cond_false]; have := stF_le L n; exact ⟨by omega, this.2⟩
theorem next_le (L : Bs) : (nextF L).2.2 ≤ L.length ∧ ((nextF L).2.2 ≠ 0 → (nextF L).1 ≠ 0) := by
  cases L with
  | nil => simp [nextF]
  | cons c r =>
    rw [nextF_cons (c :: r) c r rfl]
    have h1 := spanF_le partF (c :: r)
    have h2 := spanF_le digitF (c :: r)
    have h3 := lit_le _ r [] 1 (Nat.le_refl _)
    have h4 := stF_le (c :: r) (min 2 (c :: r).length)
    cases letterF c with
    | true =>
      simp only [cond_true]
      cases wordF _ with
      | true => exact ⟨h1, by simp⟩
      | false =>
        cases lowF _ with
        | true => exact ⟨h1, by simp⟩
        | false =>
          cases upF _ with
          | true => exact ⟨h1, by simp⟩
          | false => exact ⟨by simp, by simp⟩
    | false =>
      simp only [cond_false]
      cases digitF c with
      | true =>
        simp only [cond_true]
        cases pO _ with
        | true => exact ⟨by simp, by simp⟩
        | false => exact ⟨h2, by simp⟩
      | false =>
        simp only [cond_false]
        cases bi c == 34 with
        | true => exact ⟨by simp only [cond_true, litF, List.drop_one, List.tail_cons, List.length_cons]; omega, by simp⟩
        | false =>
          simp only [cond_false]
          refine ⟨by omega, fun h => ?_⟩
          rw [(h4.2 h).1]; decide
def rdOut : List Tk × Option Nat → List Tk × Int × Int
  | (o, none) => (o, 0, 0)
  | (_, some i) => ([], (i : Int), 10)
theorem read_aux (l : Bs) (hl : l.length ≤ 4000) (R : List Tk × Option Nat) (hR : readGo l 0 [] = R) :
    APure Tryd.prog 7 [.p (.s (B l))] (.tup [.p (.sl 3 ((rdOut R).1.map eTk)), .p (.i .i64 (rdOut R).2.1), .p (.i .i64 (rdOut R).2.2)]) := by
  have hsz : (B l).size = l.length := B_size l
  refine APure.intro (tyOf_ok Tryd.prog) hmix Tryd.func7 rfl (by rfl) (by kernel_rfl) (by show 1 ≤ _; decide) rfl ?_
  conv => whnf
  refine asf (by rw [hsz]; exact decide_eq_false (by omega)) ?_
  conv => whnf
  refine lp_nil 5 2 rfl ?_
  refine loopS (tyOf_ok _) hmix (by kernel_rfl) l.length [0, 5, 6] [] (fun _ (s : List Tk × Int) => [.p (.s (B l)), .so 3 (s.1.map eTk), .p (.i .i64 s.2)]) (fun _ _ => []) (fun k s => ∃ i : Nat, s.2 = i ∧ k ≤ i ∧ i ≤ l.length ∧ s.1.length ≤ i ∧ readGo (l.drop i) i s.1 = R) ([], 0) ⟨rfl, rfl, rfl, rfl⟩ ⟨0, rfl, by omega, by omega, by simp, hR⟩ ?_
  rintro k s hk ⟨i, hi, q1, q2, q3, q4⟩
  have hvl : (s.1.map eTk).length = s.1.length := List.length_map _
  conv => whnf
  refine asplit ?_ ?_ <;> intro h1 <;> conv => whnf
  · rw [hi, hsz] at h1
    have hk1 : i < l.length := by have := of_decide_eq_true h1; omega
    obtain ⟨c, hc⟩ : ∃ c, l[i]? = some c := ⟨_, List.getElem?_eq_getElem hk1⟩
    have hd := drop_cons hc
    have w1 : IntKind.i64.wrap (s.2 + 1) = ((i + 1 : Nat) : Int) := by rw [hi, wrap64 (by omega) (by omega)]; omega
    refine asix hi hc ?_
    conv => whnf
    have blank : blankF c = true → readGo (l.drop (i + 1)) (i + 1) s.1 = R := by
      intro hb
      rw [hd, readGo, hb, cond_true] at q4; exact q4
    refine asplit ?_ ?_ <;> intro h2 <;> conv => whnf
    · exact ⟨by omega, (s.1, IntKind.i64.wrap (s.2 + 1)), ⟨rfl, rfl, rfl, rfl⟩, i + 1, w1, by omega, by omega, Nat.le_succ_of_le q3, blank (by show ((bi c == 32 || bi c == 9) || bi c == 10) = true; rw [show (bi c == 32) = true from h2]; rfl)⟩
    refine asplit ?_ ?_ <;> intro h3 <;> conv => whnf
    · exact ⟨by omega, (s.1, IntKind.i64.wrap (s.2 + 1)), ⟨rfl, rfl, rfl, rfl⟩, i + 1, w1, by omega, by omega, Nat.le_succ_of_le q3, blank (by show ((bi c == 32 || bi c == 9) || bi c == 10) = true; rw [show (bi c == 9) = true from h3]; simp)⟩
    refine asplit ?_ ?_ <;> intro h4 <;> conv => whnf
    · exact ⟨by omega, (s.1, IntKind.i64.wrap (s.2 + 1)), ⟨rfl, rfl, rfl, rfl⟩, i + 1, w1, by omega, by omega, Nat.le_succ_of_le q3, blank (by show ((bi c == 32 || bi c == 9) || bi c == 10) = true; rw [show (bi c == 10) = true from h4]; simp)⟩
    have hb : blankF c = false := by
      show ((bi c == 32 || bi c == 9) || bi c == 10) = false
      rw [show (bi c == 32) = false from h2, show (bi c == 9) = false from h3, show (bi c == 10) = false from h4]; rfl
    refine asplit ?_ ?_ <;> intro h5 <;> conv => whnf
    · have h5 : (bi c == 35) = true := h5
      have ps : ∀ n, spanF nlF (l.drop i) = n → APure Tryd.prog 11 [.p (.s (B l)), .p (.i .i64 s.2), .fn 12 [] []] (.p (.i .i64 n)) := fun n hn => by
        rw [hi]; exact span_spec l i 12 nlF (by omega) (by omega) n hn nl_spec
      have hn := spanF_le nlF (l.drop i)
      have e1 : spanF nlF (l.drop i) = spanF nlF (l.drop (i + 1)) + 1 := by
        rw [hd, spanF, show nlF c = true by show (bi c != 10) = true; rw [eq_of_beq h5]; rfl]; rfl
      rw [hd, readGo, hb, cond_false, h5, cond_true, ← e1, List.drop_drop] at q4
      have hdr : i + 1 + spanF nlF (l.drop (i + 1)) = i + spanF nlF (l.drop i) := by omega
      rw [hdr] at q4
      rw [List.length_drop] at hn
      generalize spanF nlF (l.drop i) = n at *
      refine apc (ps n rfl) ?_
      conv => whnf
      exact ⟨by omega, (s.1, IntKind.i64.wrap (s.2 + n)), ⟨rfl, rfl, rfl, rfl⟩, i + n, by rw [hi, wrap64 (by omega) (by omega)]; omega, by omega, by omega, Nat.le_trans q3 (by omega), q4⟩
    have h5 : (bi c == 35) = false := h5
    have pn := next_spec l i (by omega) hk1
    have hle := next_le (l.drop i)
    rw [hd, readGo, ← hd, hb, cond_false, h5, cond_false] at q4
    simp only [List.drop_drop] at q4
    rw [← hi] at pn
    rw [List.length_drop] at hle
    generalize nextF (l.drop i) = x at *
    refine apc pn ?_
    conv => whnf
    refine asplit ?_ ?_ <;> intro h6 <;> conv => whnf
    · rw [show (x.2.2 == 0) = true by have := eq_of_beq h6; simp; omega, cond_true] at q4
      exact .inl (by rw [← q4, hi]; rfl)
    · have hne : x.2.2 ≠ 0 := by intro e; rw [e] at h6; simp at h6
      rw [show (x.2.2 == 0) = false by simp [hne], cond_false] at q4
      refine aneed (by show ((s.1.map eTk).length + 1) * 32 ≤ _; rw [hvl]; omega) ?_
      conv => whnf
      refine ⟨by omega, (s.1 ++ [⟨x.1, x.2.1, atF x.1 i⟩], IntKind.i64.wrap (s.2 + x.2.2)), ⟨rfl, ?_, rfl, rfl⟩, i + x.2.2, by rw [hi, wrap64 (by omega) (by omega)]; omega, by omega, by omega, by simp; omega, ?_⟩
      · rw [List.map_append]; rfl
      · rw [← q4, show atF x.1 i = i by rw [atF, show (x.1 == 0) = false by simpa using hle.2 hne]; rfl, show i + 1 + (x.2.2 - 1) = i + x.2.2 by omega]
  · rw [hi, hsz] at h1
    have hk1 : ¬ i < l.length := by have := of_decide_eq_false h1; omega
    rw [List.drop_eq_nil_of_le (by omega), readGo] at q4
    exact .inl (by rw [← q4]; rfl)
theorem read_big (l : Bs) (hl : 4000 < l.length) : APure Tryd.prog 7 [.p (.s (B l))] (.tup [.p (.sl 3 []), .p (.i .i64 0), .p (.i .i64 2)]) := by
  have hsz : (B l).size = l.length := B_size l
  refine APure.intro (tyOf_ok Tryd.prog) hmix Tryd.func7 rfl (by rfl) (by kernel_rfl) (by show 1 ≤ _; decide) rfl ?_
  conv => whnf
  refine ast (by rw [hsz]; exact decide_eq_true (by omega)) ?_
  conv => whnf
  exact .inl rfl
def vRead (x : List Tk × Nat × Int) : AV := .tup [.p (.sl 3 (x.1.map eTk)), .p (.i .i64 x.2.1), .p (.i .i64 x.2.2)]
theorem read_spec (l : Bs) : APure Tryd.prog 7 [.p (.s (B l))] (vRead (readF l)) := by
  rw [readF]
  by_cases h : l.length > 4000
  · rw [decide_eq_true h, cond_true]; exact read_big l h
  · rw [decide_eq_false h, cond_false]
    have := read_aux l (by omega) _ rfl
    match hq : readGo l 0 [] with
    | (o', none) => rw [hq] at this; exact this
    | (_, some i) => rw [hq] at this; exact this
end TK
