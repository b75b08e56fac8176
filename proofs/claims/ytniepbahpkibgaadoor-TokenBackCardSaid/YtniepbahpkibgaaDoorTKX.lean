/-
  DERIVED. Contracts of the functions that the law reaches, and the law itself, for every input. No conditions.
-/
import Derived.Test.YtniepbahpkibgaaDoorTKJ
import Derived.Lib.Join
open Go Go.AM Go.Proofs
set_option maxRecDepth 100000
namespace TK
theorem spanF_app (f : UInt8 → Bool) (rest : Bs) (hr : spanF f rest = 0) : ∀ (l : Bs), spanF f (l.take (spanF f l) ++ rest) = spanF f l
  | [] => by simpa [spanF] using hr
  | c :: r => by
    rw [spanF]
    cases h : f c with
    | false => simpa [spanF] using hr
    | true =>
      rw [cond_true, List.take_succ_cons, List.cons_append, spanF, h, cond_true, spanF_app f rest hr r]
/-- behind a token: nothing, or a blank -/
def Rest (l : Bs) : Prop := l = [] ∨ ∃ r, l = 32 :: r
theorem Rest.part {l : Bs} (h : Rest l) : spanF partF l = 0 := by
  rcases h with rfl | ⟨r, rfl⟩
  · rfl
  · rw [spanF, show partF 32 = false by decide]; rfl
theorem Rest.digit {l : Bs} (h : Rest l) : spanF digitF l = 0 := by
  rcases h with rfl | ⟨r, rfl⟩
  · rfl
  · rw [spanF, show digitF 32 = false by decide]; rfl
theorem Rest.pO {l : Bs} (h : Rest l) : pO l[0]? = false := by
  rcases h with rfl | ⟨r, rfl⟩
  · rfl
  · show partF 32 = false; decide
theorem lit_len : ∀ (n : Nat) (r v : Bs) (i : Nat), r.length ≤ n → (litGo r v i).2 ≠ 0 → (litGo r v i).1.length ≤ 64
  | n, [], v, i, _, h => by rw [litGo] at h; simp at h
  | 0, _ :: _, v, i, h, _ => by simp at h
  | n + 1, c :: r, v, i, h, h2 => by
    simp only [List.length_cons] at h
    revert h2
    rw [litGo]
    cases bi c == 34 with
    | true =>
      rw [cond_true]
      cases hq : decide (v.length > 64) with
      | true => intro h2; simp at h2
      | false => intro _; have := of_decide_eq_false hq; simp only [cond_false]; omega
    | false =>
      rw [cond_false]
      cases decide (bi c < 32) with
      | true => intro h2; simp at h2
      | false =>
        rw [cond_false]
        cases bi c != 92 with
        | true => intro h2; rw [cond_true] at h2 ⊢; exact lit_len n r _ _ (by omega) h2
        | false =>
          rw [cond_false]
          cases (escF r).2 == 0 with
          | true => intro h2; simp at h2
          | false =>
            intro h2
            rw [cond_false] at h2 ⊢
            exact lit_len n _ _ _ (by rw [List.length_drop]; omega) h2
theorem lit_tl : ∀ (n : Nat) (r v : Bs) (i : Nat), r.length ≤ n → (litGo r v i).1.length ≤ v.length + r.length
  | n, [], v, i, _ => by rw [litGo]; simp
  | 0, _ :: _, v, i, h => by simp at h
  | n + 1, c :: r, v, i, h => by
    simp only [List.length_cons] at h
    rw [litGo, List.length_cons]
    cases bi c == 34 with
    | true =>
      rw [cond_true]
      cases decide (v.length > 64) <;> simp <;> omega
    | false =>
      rw [cond_false]
      cases decide (bi c < 32) with
      | true => simp
      | false =>
        rw [cond_false]
        cases bi c != 92 with
        | true => rw [cond_true]; have := lit_tl n r (v ++ [c]) (i + 1) (by omega); simp only [List.length_append, List.length_cons, List.length_nil] at this; omega
        | false =>
          rw [cond_false]
          cases (escF r).2 == 0 with
          | true => simp
          | false =>
            rw [cond_false]
            have := lit_tl n (r.drop (escF r).2) (v ++ [(escF r).1]) (i + (escF r).2 + 1) (by rw [List.length_drop]; omega)
            simp only [List.length_append, List.length_cons, List.length_nil, List.length_drop] at this
            omega
theorem next_text (L : Bs) (h : (nextF L).2.2 ≠ 0) : (nextF L).2.1.length ≤ L.length := by
  cases L with
  | nil => simp [nextF] at h
  | cons c r =>
    revert h
    rw [nextF_cons (c :: r) c r rfl]
    have h4 := stF_le (c :: r) (min 2 (c :: r).length)
    have h5 := lit_tl _ r [] 1 (Nat.le_refl _)
    cases letterF c with
    | true =>
      simp only [cond_true]
      cases wordF ((c :: r).take (spanF partF (c :: r))) with
      | true => intro _; simp only [cond_true]; rw [List.length_take]; omega
      | false =>
        cases lowF ((c :: r).take (spanF partF (c :: r))) with
        | true => intro _; simp only [cond_true, cond_false]; rw [List.length_take]; omega
        | false =>
          cases upF ((c :: r).take (spanF partF (c :: r))) with
          | true => intro _; simp only [cond_true, cond_false]; rw [List.length_take]; omega
          | false => intro h; exact absurd rfl h
    | false =>
      simp only [cond_false]
      cases digitF c with
      | true =>
        simp only [cond_true]
        cases pO (c :: r)[spanF digitF (c :: r)]? with
        | true => intro h; exact absurd rfl h
        | false => intro _; simp only [cond_false]; rw [List.length_take]; omega
      | false =>
        simp only [cond_false]
        cases bi c == 34 with
        | true => intro _; simp only [cond_true, litF, List.drop_one, List.tail_cons, List.length_cons]; simp only [List.length_nil] at h5; omega
        | false =>
          simp only [cond_false]
          intro h
          rw [(h4.2 h).2.1, List.length_take]; omega
def xOf (t : Tk) : Bs := (showE t).1
structure Good (t : Tk) : Prop where
  sh : (showE t).2 = 0
  len : (xOf t).length ≤ 4000
  nx : ∃ c r, xOf t = c :: r ∧ blankF c = false ∧ (bi c == 35) = false
  rd : ∀ rest, Rest rest → nextF (xOf t ++ rest) = (t.kind, t.text, (xOf t).length)
theorem sign32 (c : UInt8) : signF [c, 32] = false := by
  unfold signF
  rw [show ([c, 32] == ([61, 62] : Bs)) = false by simp, show ([c, 32] == ([45, 62] : Bs)) = false by simp]
  rfl
theorem word_head {T : Bs} (h : wordF T = true) : T ≠ [] := by intro e; subst e; simp [wordF] at h
theorem next_good (c : UInt8) (r : Bs) (i : Nat) (hl : (c :: r).length ≤ 4000) (hb : blankF c = false) (h35 : (bi c == 35) = false) (h : (nextF (c :: r)).2.2 ≠ 0) : Good ⟨(nextF (c :: r)).1, (nextF (c :: r)).2.1, i⟩ := by
  have nc := nextF_cons (c :: r) c r rfl
  cases h1 : letterF c with
  | true =>
    rw [h1, cond_true] at nc
    have hn := spanF_le partF (c :: r)
    have hpos : spanF partF (c :: r) = spanF partF r + 1 := by
      rw [spanF, show partF c = true by rw [partF, h1]; rfl]; rfl
    have hT : (c :: r).take (spanF partF (c :: r)) = c :: r.take (spanF partF r) := by rw [hpos]; rfl
    have happ : ∀ rest, Rest rest → spanF partF ((c :: r).take (spanF partF (c :: r)) ++ rest) = spanF partF (c :: r) := fun rest hr => spanF_app partF rest hr.part (c :: r)
    have hlen : ((c :: r).take (spanF partF (c :: r))).length = spanF partF (c :: r) := by rw [List.length_take]; omega
    generalize hn0 : spanF partF (c :: r) = n at *
    generalize hT0 : (c :: r).take n = T at *
    have rdx : ∀ rest, Rest rest → nextF (T ++ rest) = ((bif wordF T then (3, T, n) else bif lowF T then (1, T, n) else bif upF T then (2, T, n) else (0, [], 0)) : Int × Bs × Nat) := by
      intro rest hr
      rw [nextF_cons (T ++ rest) c (r.take (spanF partF r) ++ rest) (by rw [hT]; rfl), h1, cond_true, happ rest hr, List.take_append_of_le_length (by omega), List.take_of_length_le (by omega)]
    have fin : ∀ (k : Int), nextF (c :: r) = (k, T, n) → showE ⟨k, T, i⟩ = (T, 0) → Good ⟨(nextF (c :: r)).1, (nextF (c :: r)).2.1, i⟩ := by
      intro k hk hs
      rw [hk]
      refine ⟨by rw [hs], by show (showE ⟨k, T, i⟩).1.length ≤ _; rw [hs]; simp only; omega, ⟨c, _, by show (showE ⟨k, T, i⟩).1 = _; rw [hs]; exact hT, hb, h35⟩, fun rest hr => ?_⟩
      show nextF ((showE ⟨k, T, i⟩).1 ++ rest) = (k, T, (showE ⟨k, T, i⟩).1.length)
      rw [hs]
      simp only
      rw [rdx rest hr, ← nc, hk, hlen]
    cases h2 : wordF T with
    | true =>
      rw [h2, cond_true] at nc
      exact fin 3 nc (by simp [showE, rightF, h2])
    | false =>
      rw [h2, cond_false] at nc
      cases h3 : lowF T with
      | true =>
        rw [h3, cond_true] at nc
        exact fin 1 (by rw [nc]) (by simp [showE, rightF, h3])
      | false =>
        rw [h3, cond_false] at nc
        cases h4 : upF T with
        | true =>
          rw [h4, cond_true] at nc
          exact fin 2 (by rw [nc]) (by simp [showE, rightF, h4])
        | false => rw [h4, cond_false] at nc; rw [nc] at h; exact absurd rfl h
  | false =>
    rw [h1, cond_false] at nc
    cases h2 : digitF c with
    | true =>
      rw [h2, cond_true] at nc
      have hn := spanF_le digitF (c :: r)
      have hpos : spanF digitF (c :: r) = spanF digitF r + 1 := by
        rw [spanF, h2]; rfl
      have hT : (c :: r).take (spanF digitF (c :: r)) = c :: r.take (spanF digitF r) := by rw [hpos]; rfl
      have happ : ∀ rest, Rest rest → spanF digitF ((c :: r).take (spanF digitF (c :: r)) ++ rest) = spanF digitF (c :: r) := fun rest hr => spanF_app digitF rest hr.digit (c :: r)
      have hlen : ((c :: r).take (spanF digitF (c :: r))).length = spanF digitF (c :: r) := by rw [List.length_take]; omega
      have hsp : spanF digitF ((c :: r).take (spanF digitF (c :: r))) = spanF digitF (c :: r) := by rw [spanF_take, Nat.min_self]
      cases h3 : pO (c :: r)[spanF digitF (c :: r)]? with
      | true => rw [h3, cond_true] at nc; rw [nc] at h; exact absurd rfl h
      | false =>
        rw [h3, cond_false] at nc
        generalize hn0 : spanF digitF (c :: r) = n at *
        generalize hT0 : (c :: r).take n = T at *
        have hs : showE ⟨4, T, i⟩ = (T, 0) := by
          have hne : (T == []) = false := by rw [hT]; rfl
          simp only [showE, rightF]
          rw [show ((4 : Int) == 5) = false from rfl, show ((4 : Int) == 1) = false from rfl, show ((4 : Int) == 2) = false from rfl, show ((4 : Int) == 3) = false from rfl, show ((4 : Int) == 4) = true from rfl, hne, decide_eq_true (by omega : T.length ≤ 4000), decide_eq_true (by omega : spanF digitF T = T.length)]
          rfl
        rw [nc]
        refine ⟨by rw [hs], by show (showE ⟨4, T, i⟩).1.length ≤ _; rw [hs]; simp only; omega, ⟨c, _, by show (showE ⟨4, T, i⟩).1 = _; rw [hs]; exact hT, hb, h35⟩, fun rest hr => ?_⟩
        show nextF ((showE ⟨4, T, i⟩).1 ++ rest) = (4, T, (showE ⟨4, T, i⟩).1.length)
        rw [hs]
        simp only
        rw [nextF_cons (T ++ rest) c (r.take (spanF digitF r) ++ rest) (by rw [hT]; rfl), h1, cond_false, h2, cond_true, happ rest hr, List.take_append_of_le_length (by omega), List.take_of_length_le (by omega), List.getElem?_append_right (by omega), hlen, Nat.sub_self, hr.pO, cond_false]
    | false =>
      rw [h2, cond_false] at nc
      cases h3 : bi c == 34 with
      | true =>
        rw [h3, cond_true, litF] at nc
        rw [nc] at h ⊢
        have hl64 := lit_len _ _ _ _ (Nat.le_refl _) h
        generalize (litGo (List.drop 1 (c :: r)) [] 1).1 = T at *
        have hs : showE ⟨5, T, i⟩ = (quoteL T, 0) := by
          simp only [showE]
          rw [show ((5 : Int) == 5) = true from rfl, cond_true, quoteF, decide_eq_false (by omega)]; rfl
        have hq := quote_len T
        refine ⟨by rw [hs], by show (showE ⟨5, T, i⟩).1.length ≤ _; rw [hs]; simp only; omega, ⟨34, _, by show (showE ⟨5, T, i⟩).1 = _; rw [hs]; rfl, by decide, by decide⟩, fun rest hr => ?_⟩
        show nextF ((showE ⟨5, T, i⟩).1 ++ rest) = (5, T, (showE ⟨5, T, i⟩).1.length)
        rw [hs]
        exact next_quote T rest hl64
      | false =>
        rw [h3, cond_false] at nc
        have h4 := stF_le (c :: r) (min 2 (c :: r).length)
        rw [← nc] at h4
        obtain ⟨k1, k2, k3⟩ := h4.2 h
        have h5 := h4.1
        have hlen : ((c :: r).take (nextF (c :: r)).2.2).length = (nextF (c :: r)).2.2 := by rw [List.length_take]; omega
        have hT : ∃ q, (c :: r).take (nextF (c :: r)).2.2 = c :: q := by
          obtain ⟨m, hm⟩ : ∃ m, (nextF (c :: r)).2.2 = m + 1 := ⟨(nextF (c :: r)).2.2 - 1, by omega⟩
          rw [hm]; exact ⟨_, rfl⟩
        rw [k2, k1]
        generalize (nextF (c :: r)).2.2 = n at *
        generalize (c :: r).take n = T at *
        have hs : showE ⟨6, T, i⟩ = (T, 0) := by
          simp only [showE, rightF]
          rw [show ((6 : Int) == 5) = false from rfl, show ((6 : Int) == 1) = false from rfl, show ((6 : Int) == 2) = false from rfl, show ((6 : Int) == 3) = false from rfl, show ((6 : Int) == 4) = false from rfl, show ((6 : Int) == 6) = true from rfl, k3]
          rfl
        obtain ⟨q, hq⟩ := hT
        refine ⟨by rw [hs], by show (showE ⟨6, T, i⟩).1.length ≤ _; rw [hs]; simp only; omega, ⟨c, q, by show (showE ⟨6, T, i⟩).1 = _; rw [hs]; exact hq, hb, h35⟩, fun rest hr => ?_⟩
        show nextF ((showE ⟨6, T, i⟩).1 ++ rest) = (6, T, (showE ⟨6, T, i⟩).1.length)
        rw [hs]
        simp only
        rw [nextF_cons (T ++ rest) c (q ++ rest) (by rw [hq]; rfl), h1, cond_false, h2, cond_false, h3, cond_false]
        match q, hq with
        | [], hq =>
          subst hq
          rcases hr with rfl | ⟨r', rfl⟩
          · show stF [c] 1 = _
            rw [stF, show ([c] : Bs).take (0 + 1) = [c] from rfl, k3]; rfl
          · rw [show min 2 ([c] ++ 32 :: r').length = 2 by simp, show (2 : Nat) = 1 + 1 from rfl, stF, show ([c] ++ 32 :: r').take (1 + 1) = [c, 32] from rfl, sign32, cond_false, stF, show ([c] ++ 32 :: r').take (0 + 1) = [c] from rfl, k3]; rfl
        | d :: q', hq =>
          have : q' = [] := by
            have : T.length ≤ 2 := by omega
            rw [hq] at this
            simp at this
            exact this
          subst this
          subst hq
          rw [show min 2 ([c, d] ++ rest).length = 2 by simp, show (2 : Nat) = 1 + 1 from rfl, stF, show ([c, d] ++ rest).take (1 + 1) = [c, d] by simp, k3]; rfl
theorem read_good : ∀ (n : Nat) (l : Bs) (i : Nat) (out o : List Tk), l.length ≤ n → l.length ≤ 4000 → (∀ t ∈ out, Good t) → readGo l i out = (o, none) → ∀ t ∈ o, Good t
  | n, [], i, out, o, _, _, ho, h => by rw [readGo] at h; cases h; exact ho
  | 0, _ :: _, i, out, o, h, _, _, _ => by simp at h
  | n + 1, c :: r, i, out, o, hn, hl, ho, h => by
    have hn' : r.length ≤ n := by simpa using hn
    have hl' : r.length ≤ 4000 := by simp at hl; omega
    rw [readGo] at h
    cases hb : blankF c with
    | true => rw [hb, cond_true] at h; exact read_good n r _ _ o hn' hl' ho h
    | false =>
      rw [hb, cond_false] at h
      cases h35 : bi c == 35 with
      | true => rw [h35, cond_true] at h; exact read_good n _ _ _ o (by rw [List.length_drop]; omega) (by rw [List.length_drop]; omega) ho h
      | false =>
        rw [h35, cond_false] at h
        simp only at h
        cases hz : (nextF (c :: r)).2.2 == 0 with
        | true => rw [hz, cond_true] at h; cases h
        | false =>
          rw [hz, cond_false] at h
          have hg := next_good c r i hl hb h35 (by simpa using hz)
          refine read_good n _ _ _ o (by rw [List.length_drop]; omega) (by rw [List.length_drop]; omega) (fun t ht => ?_) h
          rcases List.mem_append.1 ht with q | q
          · exact ho t q
          · simp at q; subst q; exact hg
theorem join_cons2 (x y : Bs) (r : List Bs) : Lib.join (x :: y :: r) [32] = x ++ 32 :: Lib.join (y :: r) [32] := by
  rw [Lib.join_cons, Lib.join_cons, Lib.joinTail, List.map_cons, List.flatten_cons]
  simp [Lib.joinTail]
theorem read_tok (t : Tk) (h : Good t) (rest : Bs) (hr : Rest rest) (i : Nat) (out : List Tk) : readGo (xOf t ++ rest) i out = readGo rest (i + (xOf t).length) (out ++ [⟨t.kind, t.text, i⟩]) := by
  obtain ⟨c, r, hx, hb, h35⟩ := h.nx
  have hrd := h.rd rest hr
  have hlen : (xOf t).length = r.length + 1 := by rw [hx]; rfl
  have hc : xOf t ++ rest = c :: (r ++ rest) := by rw [hx]; rfl
  rw [hc, readGo, ← hc, hb, cond_false, h35, cond_false, hrd]
  simp only
  rw [show ((xOf t).length == 0) = false by rw [hlen]; rfl, cond_false, hlen, Nat.add_sub_cancel, List.drop_append_of_le_length (Nat.le_refl _), List.drop_length, List.nil_append]
theorem read_join : ∀ (ts : List Tk) (i : Nat) (out : List Tk), (∀ t ∈ ts, Good t) → ∃ o2 : List Tk, readGo (Lib.join (ts.map xOf) [32]) i out = (out ++ o2, none) ∧ o2.length = ts.length ∧ ∀ (k : Nat) (a b : Tk), ts[k]? = some a → o2[k]? = some b → a.kind = b.kind ∧ a.text = b.text
  | [], i, out, _ => ⟨[], by rw [List.map_nil, Lib.join_nil, readGo, List.append_nil], rfl, by simp⟩
  | [t], i, out, h => by
    have := read_tok t (h t (by simp)) [] (.inl rfl) i out
    rw [List.append_nil, readGo] at this
    refine ⟨[⟨t.kind, t.text, i⟩], by rw [List.map_cons, List.map_nil, Lib.join_one]; exact this, rfl, fun k a b ha hb => ?_⟩
    cases k with
    | zero => simp at ha hb; subst ha; subst hb; exact ⟨rfl, rfl⟩
    | succ k => simp at ha
  | t :: u :: r, i, out, h => by
    have ht := read_tok t (h t (by simp)) (32 :: Lib.join (xOf u :: r.map xOf) [32]) (.inr ⟨_, rfl⟩) i out
    obtain ⟨o2, h1, h2, h3⟩ := read_join (u :: r) (i + (xOf t).length + 1) (out ++ [⟨t.kind, t.text, i⟩]) (fun x hx => h x (by simp only [List.mem_cons] at hx ⊢; exact .inr hx))
    refine ⟨⟨t.kind, t.text, i⟩ :: o2, ?_, by simp [h2], fun k a b ha hb => ?_⟩
    · rw [List.map_cons, List.map_cons, join_cons2, ht, readGo, show blankF 32 = true by decide, cond_true]
      rw [List.map_cons] at h1
      rw [h1]; simp
    · cases k with
      | zero => simp at ha hb; subst ha; subst hb; exact ⟨rfl, rfl⟩
      | succ k => exact h3 k a b (by simpa using ha) (by simpa using hb)
theorem join_le : ∀ (ts : List Tk), (∀ t ∈ ts, Good t) → (Lib.join (ts.map xOf) [32]).length ≤ 4001 * ts.length
  | [], _ => by simp [Lib.join_nil]
  | [t], h => by rw [List.map_cons, List.map_nil, Lib.join_one]; have := (h t (by simp)).len; simp; omega
  | t :: u :: r, h => by
    have := (h t (by simp)).len
    have h2 := join_le (u :: r) (fun x hx => h x (by simp only [List.mem_cons] at hx ⊢; exact .inr hx))
    rw [List.map_cons] at h2
    rw [List.map_cons, List.map_cons, join_cons2, List.length_append, List.length_cons]
    simp only [List.length_cons] at h2 ⊢
    omega
end TK
namespace TK
theorem back_err (l : Bs) (e : Int) (he : (e != 0) = true) (a : Int) (h1 : APure Tryd.prog 6 [] (.p (.b true))) (h2 : APure Tryd.prog 7 [.p (.s (B l))] (.tup [.p (.sl 3 []), .p (.i .i64 a), .p (.i .i64 e)])) :
    APure Tryd.prog 5 [.p (.s (B l))] (.p (.b true)) := by
  refine APure.intro (tyOf_ok Tryd.prog) hmix Tryd.func5 rfl (by rfl) (by kernel_rfl) (by show 1 ≤ _; decide) rfl ?_
  conv => whnf
  refine apc h1 ?_
  conv => whnf
  refine apc h2 ?_
  conv => whnf
  refine ast he ?_
  conv => whnf
  exact .inl rfl
theorem back_aux (l : Bs) (o o2 : List Tk) (X : List Bs) (W : Bs) (a2 e2 : Int) (hol : o.length ≤ 4000) (h1 : APure Tryd.prog 6 [] (.p (.b true))) (h2 : APure Tryd.prog 7 [.p (.s (B l))] (.tup [.p (.sl 3 (o.map eTk)), .p (.i .i64 0), .p (.i .i64 0)]))
    (hX : X.length = o.length) (hs : ∀ (k : Nat) (t : Tk) (x : Bs), o[k]? = some t → X[k]? = some x → APure Tryd.prog 9 [.p (eTk t)] (.tup [.p (.s (B x)), .p (.i .i64 0)]))
    (h3 : APure Tryd.prog 10 [.p (.sl 1 (X.map eStr)), .p (.s ⟨#[32]⟩)] (.p (.s (B W)))) (h4 : APure Tryd.prog 7 [.p (.s (B W))] (.tup [.p (.sl 3 (o2.map eTk)), .p (.i .i64 a2), .p (.i .i64 e2)]))
    (hbig : 4000 < W.length → e2 = 2) (hsm : ¬ 4000 < W.length → e2 = 0 ∧ o2.length = o.length ∧ ∀ (k : Nat) (a b : Tk), o[k]? = some a → o2[k]? = some b → a.kind = b.kind ∧ a.text = b.text) :
    APure Tryd.prog 5 [.p (.s (B l))] (.p (.b true)) := by
  have hsz : (B W).size = W.length := B_size W
  refine APure.intro (tyOf_ok Tryd.prog) hmix Tryd.func5 rfl (by rfl) (by kernel_rfl) (by show 1 ≤ _; decide) rfl ?_
  conv => whnf
  refine apc h1 ?_
  conv => whnf
  refine apc h2 ?_
  conv => whnf
  refine lp_nil 6 0 rfl ?_
  refine loopS (tyOf_ok _) hmix (by kernel_rfl) o.length [3, 6, 29, 30, 31] [] (fun _ (s : List Bs × Int) => [.p (.sl 3 (o.map eTk)), .so 1 (s.1.map eStr), .p (.sl 3 (o.map eTk)), .p (.i .i64 (o.map eTk).length), .p (.i .i64 s.2)]) (fun _ _ => []) (fun k s => s.2 = ix k ∧ s.1 = X.take k) ([], 0) ⟨rfl, rfl, rfl, rfl⟩ ⟨rfl, rfl⟩ ?_
  rintro k s hk ⟨q0, q1⟩
  have hsl : (s.1.map eStr).length ≤ 4000 := by rw [q1]; simp; omega
  conv => whnf
  refine asplit ?_ ?_ <;> intro g1 <;> conv => whnf
  · rw [q0] at g1
    have hk1 := ix_tt g1 (by simp) hk (by omega)
    obtain ⟨t, ht⟩ : ∃ t, o[k]? = some t := ⟨_, List.getElem?_eq_getElem hk1⟩
    obtain ⟨x, hx⟩ : ∃ x, X[k]? = some x := ⟨_, List.getElem?_eq_getElem (by omega)⟩
    have hq := hs k t x ht hx
    refine aidxi (x := eTk t) (by rw [q0, ix_eq (by omega)]; omega) (by rw [q0, ix_eq (by omega)]; simp [ht]) ?_
    conv => whnf
    refine apc hq ?_
    conv => whnf
    refine aneed (by show ((s.1.map eStr).length + 1) * 16 ≤ _; omega) ?_
    conv => whnf
    refine ⟨hk1, (s.1 ++ [x], IntKind.i64.wrap (s.2 + 1)), ⟨rfl, ?_, rfl, rfl⟩, by rw [q0]; rfl, by rw [q1, take_snoc hx]⟩
    rw [List.map_append]; rfl
  · rw [q0] at g1
    have hk1 := ix_ff g1 (by simp) hk (by omega)
    rw [hk1, ← hX, List.take_length] at q1
    rw [← q1] at h3
    refine apc h3 ?_
    conv => whnf
    refine apc h4 ?_
    conv => whnf
    refine asplit ?_ ?_ <;> intro g2
    · rw [hsz] at g2
      have := hbig (by have := of_decide_eq_true g2; omega)
      subst this
      conv => whnf
      exact .inl rfl
    rw [hsz] at g2
    obtain ⟨rfl, hlen, heq⟩ := hsm (by have := of_decide_eq_false g2; omega)
    conv => whnf
    refine asf (by rw [List.length_map, List.length_map, hlen]; simp) ?_
    conv => whnf
    refine loopS (tyOf_ok _) hmix (by kernel_rfl) o.length [3, 12, 70, 71] [] (fun k _ => [.p (.sl 3 (o.map eTk)), .p (.sl 3 (o2.map eTk)), .p (.i .i64 (o.map eTk).length), .p (.i .i64 (ix k))]) (fun _ _ => []) (fun _ _ => True) () ⟨rfl, rfl, rfl, rfl⟩ trivial ?_
    intro j _ hj _
    conv => whnf
    refine asplit ?_ ?_ <;> intro g3 <;> conv => whnf
    · have hj1 := ix_tt g3 (by simp) hj (by omega)
      obtain ⟨t, ht⟩ : ∃ t, o[j]? = some t := ⟨_, List.getElem?_eq_getElem hj1⟩
      obtain ⟨u, hu⟩ : ∃ t, o2[j]? = some t := ⟨_, List.getElem?_eq_getElem (by omega)⟩
      obtain ⟨e1, e3⟩ := heq j t u ht hu
      refine aidxk (x := eTk t) (by simp [ht]) (by omega) ?_
      conv => whnf
      refine aidxk (x := eTk u) (by simp [hu]) (by omega) ?_
      conv => whnf
      refine asf (by rw [e1]; simp) ?_
      conv => whnf
      refine aidxk (x := eTk t) (by simp [ht]) (by omega) ?_
      conv => whnf
      refine aidxk (x := eTk u) (by simp [hu]) (by omega) ?_
      conv => whnf
      refine aneed (by kernel_rfl) ?_
      conv => whnf
      refine asf (by rw [B_beq, e3]; simp) ?_
      conv => whnf
      exact ⟨hj1, (), ⟨rfl, rfl, rfl, rfl⟩, trivial⟩
    · exact .inl rfl
theorem tokenBack (l : Bs) : APure Tryd.prog 5 [.p (.s (B l))] (.p (.b true)) := by
  have h2 := read_spec l
  by_cases hl : l.length > 4000
  · rw [readF, decide_eq_true hl, cond_true] at h2
    exact back_err l 2 rfl 0 toks_spec h2
  · rw [readF, decide_eq_false hl, cond_false] at h2
    match hq : readGo l 0 [] with
    | (o, some j) => rw [hq] at h2; exact back_err l 10 rfl j toks_spec h2
    | (o, none) =>
      rw [hq] at h2
      have hi := (read_inv _ l 0 [] (Nat.le_refl _) ⟨by simp, by simp⟩).1 o hq
      rw [Nat.zero_add] at hi
      have hol := inc_len hi
      have hg := read_good _ l 0 [] o (Nat.le_refl _) (by omega) (by simp) hq
      have hjl := join_le o hg
      have h4 := read_spec (Lib.join (o.map xOf) [32])
      obtain ⟨o2, r1, r2, r3⟩ := read_join o 0 [] hg
      have h3 := join_spec (o.map xOf) [32] (by simp; omega) (by omega)
      have hsh : ∀ (k : Nat) (t : Tk) (x : Bs), o[k]? = some t → (o.map xOf)[k]? = some x → APure Tryd.prog 9 [.p (eTk t)] (.tup [.p (.s (B x)), .p (.i .i64 0)]) := by
        intro k t x ht hx
        rw [List.getElem?_map, ht] at hx
        simp only [Option.map_some, Option.some.injEq] at hx
        have hgt := hg t (List.mem_of_getElem? ht)
        have hsp := show_spec t (by
          obtain ⟨c, r, hx, _⟩ := hgt.nx
          have := hgt.rd [] (.inl rfl)
          rw [List.append_nil] at this
          have hle := next_text (xOf t) (by rw [this, hx]; simp)
          rw [this] at hle
          have := hgt.len
          simp only at hle; omega)
        rw [hgt.sh] at hsp
        rw [← hx]; exact hsp
      by_cases hw : (Lib.join (o.map xOf) [32]).length > 4000
      · rw [readF, decide_eq_true hw, cond_true] at h4
        exact back_aux l o [] (o.map xOf) _ 0 2 (by omega) toks_spec h2 (by simp) hsh h3 h4 (fun _ => rfl) (fun h => absurd hw h)
      · rw [readF, decide_eq_false hw, cond_false, r1, List.nil_append] at h4
        exact back_aux l o o2 (o.map xOf) _ 0 0 (by omega) toks_spec h2 (by simp) hsh h3 h4 (fun h => absurd h hw) (fun _ => ⟨rfl, r2, r3⟩)
end TK
