/-
  DERIVED. Contracts of the functions that the law reaches, and the law itself, for every input. No conditions.
-/
import Derived.Test.YtmakmpapchiioaaGreatDoorTK4
import Derived.Test.YtmakmpapchiioaaGreatDoorPAT
import Derived.Test.YtmakmpapchiioaaGreatDoorPAQ
open Go Go.AM TK
set_option maxRecDepth 100000
namespace PA
/-! the tokens of a text's front do not change when a blank and anything stand behind it -/
theorem span_more (f : UInt8 → Bool) (hf : f 32 = false) (X : Bs) : ∀ (l : Bs), spanF f (l ++ 32 :: X) = spanF f l
  | [] => by show spanF f (32 :: X) = 0; simp [spanF, hf]
  | c :: r => by rw [List.cons_append, spanF, spanF, span_more f hf X r]
theorem esc_more (X : Bs) (r : Bs) (h : (escF r).2 ≠ 0) : escF (r ++ X) = escF r ∧ (escF r).2 ≤ r.length := by
  cases r with
  | nil => exact absurd rfl h
  | cons c r =>
    revert h
    rw [List.cons_append, escF, escF]
    cases bi c == 110 with
    | true => intro _; exact ⟨rfl, by simp⟩
    | false =>
      cases bi c == 34 || bi c == 92 with
      | true => intro _; exact ⟨rfl, by simp⟩
      | false =>
        cases bi c == 120 with
        | false => intro h; exact absurd rfl h
        | true =>
          simp only [cond_false, cond_true]
          intro h
          match r, h with
          | [], h => exact absurd rfl h
          | [_], h => exact absurd rfl h
          | a :: b :: q, h =>
            rw [List.cons_append, List.cons_append, escX, escX]
            refine ⟨rfl, ?_⟩
            cases (decide (hexF a ≥ 0) && decide (hexF b ≥ 0)) <;> simp
theorem lit_more (X : Bs) : ∀ (n : Nat) (r v : Bs) (i : Nat), r.length ≤ n → (litGo r v i).2 ≠ 0 → litGo (r ++ X) v i = litGo r v i
  | n, [], v, i, _, h => by rw [litGo] at h; simp at h
  | 0, _ :: _, v, i, h, _ => by simp at h
  | n + 1, c :: r, v, i, h, h2 => by
    simp only [List.length_cons] at h
    revert h2
    rw [List.cons_append, litGo, litGo]
    cases bi c == 34 with
    | true => intro _; rfl
    | false =>
      rw [cond_false, cond_false]
      cases decide (bi c < 32) with
      | true => intro _; rfl
      | false =>
        rw [cond_false, cond_false]
        cases bi c != 92 with
        | true => rw [cond_true, cond_true]; intro h2; exact lit_more X n r _ _ (by omega) h2
        | false =>
          rw [cond_false, cond_false]
          cases hq : (escF r).2 == 0 with
          | true => intro h2; simp at h2
          | false =>
            rw [cond_false]
            intro h2
            have hne : (escF r).2 ≠ 0 := by simpa using hq
            obtain ⟨q1, q2⟩ := esc_more X r hne
            rw [q1, hq, cond_false, List.drop_append_of_le_length q2]
            exact lit_more X n _ _ _ (by rw [List.length_drop]; omega) h2
theorem sign_sp (c : UInt8) : signF [c, 32] = false := by
  unfold signF
  rw [show ([c, 32] == ([61, 62] : Bs)) = false by simp, show ([c, 32] == ([45, 62] : Bs)) = false by simp]
  rfl
theorem next_more (X L : Bs) (h : (nextF L).2.2 ≠ 0) : nextF (L ++ 32 :: X) = nextF L := by
  cases L with
  | nil => exact absurd rfl h
  | cons c r =>
    rw [nextF_cons ((c :: r) ++ 32 :: X) c (r ++ 32 :: X) rfl]
    revert h
    rw [nextF_cons (c :: r) c r rfl]
    rw [span_more partF (by decide), span_more digitF (by decide)]
    have h1 := spanF_le partF (c :: r)
    have h2 := spanF_le digitF (c :: r)
    rw [List.take_append_of_le_length h1, List.take_append_of_le_length h2]
    cases letterF c with
    | true => intro _; rfl
    | false =>
      simp only [cond_false]
      cases digitF c with
      | true =>
        simp only [cond_true]
        have hp : pO ((c :: r) ++ 32 :: X)[spanF digitF (c :: r)]? = pO (c :: r)[spanF digitF (c :: r)]? := by
          rcases Nat.lt_or_ge (spanF digitF (c :: r)) (c :: r).length with q | q
          · rw [List.getElem?_append_left q]
          · rw [List.getElem?_append_right q, List.getElem?_eq_none (l := c :: r) q, show spanF digitF (c :: r) - (c :: r).length = 0 by omega]
            show partF 32 = false
            decide
        rw [hp]; intro _; rfl
      | false =>
        simp only [cond_false]
        cases bi c == 34 with
        | true =>
          simp only [cond_true]
          rw [litF, litF, show ((c :: r) ++ 32 :: X).drop 1 = r ++ 32 :: X from rfl, show (c :: r).drop 1 = r from rfl]
          intro h
          rw [lit_more (32 :: X) _ r [] 1 (Nat.le_refl _) h]
        | false =>
          simp only [cond_false]
          match r with
          | d :: q =>
            rw [show min 2 ((c :: d :: q) ++ 32 :: X).length = 2 by simp, show min 2 (c :: d :: q).length = 2 by simp]
            intro _; rfl
          | [] =>
            rw [show min 2 (([c] : Bs) ++ 32 :: X).length = 2 by simp, show min 2 ([c] : Bs).length = 1 by simp]
            rw [show stF (([c] : Bs) ++ 32 :: X) 2 = (bif signF [c, 32] then (6, [c, 32], 2) else stF (([c] : Bs) ++ 32 :: X) 1) from rfl, sign_sp, cond_false]
            intro _; rfl
/-- reading only appends -/
theorem read_pre : ∀ (n : Nat) (l : Bs) (i : Nat) (out o : List Tk), l.length ≤ n → readGo l i out = (o, none) → ∃ x, o = out ++ x ∧ ∀ t ∈ x, i ≤ t.at_
  | n, [], i, out, o, _, h => by rw [readGo] at h; cases h; exact ⟨[], by simp, by simp⟩
  | 0, _ :: _, i, out, o, h, _ => by simp at h
  | n + 1, c :: r, i, out, o, hn, h => by
    simp only [List.length_cons] at hn
    rw [readGo] at h
    cases h1 : blankF c with
    | true =>
      rw [h1, cond_true] at h
      obtain ⟨x, q1, q2⟩ := read_pre n r _ out o (by omega) h
      exact ⟨x, q1, fun t ht => by have := q2 t ht; omega⟩
    | false =>
      rw [h1, cond_false] at h
      cases h2 : bi c == 35 with
      | true =>
        rw [h2, cond_true] at h
        obtain ⟨x, q1, q2⟩ := read_pre n _ _ out o (by rw [List.length_drop]; omega) h
        exact ⟨x, q1, fun t ht => by have := q2 t ht; omega⟩
      | false =>
        rw [h2, cond_false] at h
        simp only at h
        cases h3 : (nextF (c :: r)).2.2 == 0 with
        | true => rw [h3, cond_true] at h; cases h
        | false =>
          rw [h3, cond_false] at h
          obtain ⟨x, q1, q2⟩ := read_pre n _ _ _ o (by rw [List.length_drop]; omega) h
          refine ⟨⟨(nextF (c :: r)).1, (nextF (c :: r)).2.1, i⟩ :: x, by rw [q1]; simp, fun t ht => ?_⟩
          rcases List.mem_cons.1 ht with rfl | ht
          · exact Nat.le_refl _
          · have := q2 t ht; omega
theorem drop_span (f : UInt8 → Bool) : ∀ (l : Bs) (m : Nat), spanF f l < m → m ≤ l.length → ∀ X, (l.take m ++ X).drop (spanF f (l.take m ++ X)) = (l.drop (spanF f l)).take (m - spanF f l) ++ X ∧ spanF f (l.take m ++ X) = spanF f l
  | [], m, h, h2, X => by simp at h2; omega
  | c :: r, 0, h, _, X => by omega
  | c :: r, m + 1, h, h2, X => by
    rw [List.take_succ_cons, List.cons_append]
    rw [spanF] at h
    rw [spanF, spanF]
    cases hc : f c with
    | false => simp
    | true =>
      rw [hc, cond_true] at h
      simp only [List.length_cons] at h2
      obtain ⟨q1, q2⟩ := drop_span f r m (by omega) (by omega) X
      rw [cond_true, cond_true, List.drop_succ_cons, q1, q2]
      exact ⟨by rw [List.drop_succ_cons, show m + 1 - (spanF f r + 1) = m - spanF f r by omega], rfl⟩
theorem read_cut (X : Bs) : ∀ (n : Nat) (l : Bs) (i m : Nat) (out o o' : List Tk), l.length ≤ n → m ≤ l.length → (m = l.length ∨ ∃ t ∈ o, t.at_ = i + m) → (∀ t ∈ out, t.at_ < i) → readGo l i out = (o, none) → readGo (l.take m ++ 32 :: X) i out = (o', none) → ∀ (j : Nat) (t : Tk), o[j]? = some t → t.at_ < i + m → o'[j]? = some t
  | n, [], i, m, out, o, o', _, hm, _, _, h, h', j, t, ht, hlt => by
    rw [readGo] at h; cases h
    obtain ⟨x, q1, _⟩ := read_pre _ _ _ _ _ (Nat.le_refl _) h'
    rw [q1, List.getElem?_append_left (List.getElem?_eq_some_iff.1 ht).1]; exact ht
  | 0, _ :: _, i, m, out, o, o', h, _, _, _, _, _, j, t, _, _ => by simp at h
  | n + 1, c :: r, i, 0, out, o, o', hn, hm, hs, hout, h, h', j, t, ht, hlt => by
    obtain ⟨x, q1, q2⟩ := read_pre _ _ _ _ _ (Nat.le_refl _) h'
    obtain ⟨y, r1, r2⟩ := read_pre _ _ _ _ _ (Nat.le_refl _) h
    rcases Nat.lt_or_ge j out.length with q | q
    · rw [r1, List.getElem?_append_left q] at ht
      rw [q1, List.getElem?_append_left q]; exact ht
    · rw [r1, List.getElem?_append_right q] at ht
      have := r2 t (List.mem_of_getElem? ht)
      omega
  | n + 1, c :: r, i, m + 1, out, o, o', hn, hm, hs, hout, h, h', j, t, ht, hlt => by
    simp only [List.length_cons] at hn hm hs
    rw [List.take_succ_cons, List.cons_append] at h'
    rw [readGo] at h h'
    cases h1 : blankF c with
    | true =>
      rw [h1, cond_true] at h h'
      refine read_cut X n r (i + 1) m out o o' (by omega) (by omega) ?_ (fun t ht => by have := hout t ht; omega) h h' j t ht (by omega)
      rcases hs with hs | ⟨t, hs, hs2⟩
      · left; omega
      · exact .inr ⟨t, hs, by omega⟩
    | false =>
      rw [h1, cond_false] at h h'
      cases h2 : bi c == 35 with
      | true =>
        rw [h2, cond_true] at h h'
        have hsp := spanF_le nlF r
        obtain ⟨y, r1, r2⟩ := read_pre _ _ _ _ _ (Nat.le_refl _) h
        rcases Nat.lt_or_ge (spanF nlF r) m with hlt2 | hge
        · -- the comment ends within the front
          obtain ⟨q1, q2⟩ := drop_span nlF r m hlt2 (by omega) (32 :: X)
          rw [q1, q2] at h'
          refine read_cut X n (r.drop (spanF nlF r)) (i + (spanF nlF r + 1)) (m - spanF nlF r) out o o' (by rw [List.length_drop]; omega) (by rw [List.length_drop]; omega) ?_ (fun t ht => by have := hout t ht; omega) h h' j t ht (by omega)
          rcases hs with hs | ⟨t, hs, hs2⟩
          · left; rw [List.length_drop]; omega
          · exact .inr ⟨t, hs, by omega⟩
        · -- it does not: nothing stands behind it
          have hin : j < out.length := by
            rcases Nat.lt_or_ge j out.length with q | q
            · exact q
            · rw [r1, List.getElem?_append_right q] at ht
              have := r2 t (List.mem_of_getElem? ht)
              omega
          obtain ⟨x, q1, q2⟩ := read_pre _ _ _ _ _ (Nat.le_refl _) h'
          rw [r1, List.getElem?_append_left hin] at ht
          rw [q1, List.getElem?_append_left hin]; exact ht
      | false =>
        rw [h2, cond_false] at h h'
        simp only at h h'
        cases h3 : (nextF (c :: r)).2.2 == 0 with
        | true => rw [h3, cond_true] at h; cases h
        | false =>
          rw [h3, cond_false] at h
          have hne : (nextF (c :: r)).2.2 ≠ 0 := by simpa using h3
          have hle := (next_le (c :: r)).1
          simp only [List.length_cons] at hle
          obtain ⟨y, r1, r2⟩ := read_pre _ _ _ _ _ (Nat.le_refl _) h
          have hcut : (nextF (c :: r)).2.2 ≤ m + 1 := by
            rcases hs with hs | ⟨t, hs, hs2⟩
            · omega
            · rw [r1] at hs
              rcases List.mem_append.1 hs with hs | hs
              · rcases List.mem_append.1 hs with hs | hs
                · have := hout t hs; omega
                · simp only [List.mem_singleton] at hs; subst hs; simp only at hs2; omega
              · have := r2 t hs; omega
          have hnx : nextF (c :: (r.take m ++ 32 :: X)) = nextF (c :: r) := by
            have e1 := next_take (c :: r) (m + 1) hne hcut
            rw [List.take_succ_cons] at e1
            rw [← e1, ← List.cons_append]
            exact next_more X _ (by rw [e1]; exact hne)
          rw [hnx, h3, cond_false] at h'
          have hd : (r.take m ++ 32 :: X).drop ((nextF (c :: r)).2.2 - 1) = (r.drop ((nextF (c :: r)).2.2 - 1)).take (m - ((nextF (c :: r)).2.2 - 1)) ++ 32 :: X := by
            rw [List.drop_append_of_le_length (by rw [List.length_take]; omega), List.drop_take]
          rw [hd] at h'
          refine read_cut X n _ _ _ _ o o' (by rw [List.length_drop]; omega) (by rw [List.length_drop]; omega) ?_ ?_ h h' j t ht (by omega)
          · rcases hs with hs | ⟨t, hs, hs2⟩
            · left; rw [List.length_drop]; omega
            · exact .inr ⟨t, hs, by omega⟩
          · intro t ht
            rcases List.mem_append.1 ht with ht | ht
            · have := hout t ht; omega
            · simp only [List.mem_singleton] at ht; subst ht; simp only; omega
end PA
open Go Go.AM TK TR
set_option maxRecDepth 100000
namespace PA
/-! tree.Right never calls anything an error of syntax -/
def S3 (x : Int) : Prop := x = 0 ∨ x = 2 ∨ x = 3
theorem S3.ne {x : Int} (h : S3 x) : x ≠ 10 := by rcases h with h | h | h <;> omega
theorem s0 : S3 0 := .inl rfl
theorem s2 : S3 2 := .inr (.inl rfl)
theorem s3 : S3 3 := .inr (.inr rfl)
theorem s_if {c : Bool} {x y : Int} (h1 : S3 x) (h2 : S3 y) : S3 (bif c then x else y) := by cases c <;> assumption
theorem s_when3 (c : Bool) : S3 (whenF c 3) := s_if s3 s0
theorem s_when2 (c : Bool) : S3 (whenF c 2) := s_if s2 s0
theorem s_each {α : Type} {φ : α → Int} (h : ∀ x, S3 (φ x)) : ∀ l, S3 (eachF φ l)
  | [] => s0
  | x :: r => by rw [eachF]; exact s_if (s_each h r) (h x)
theorem s_or : ∀ {l : List Int}, (∀ x ∈ l, S3 x) → S3 (orF l)
  | [], _ => s0
  | x :: r, h => by
    show S3 (bif x == 0 then orF r else x)
    exact s_if (s_or fun y hy => h y (List.mem_cons_of_mem _ hy)) (h x (by simp))
mutual
theorem s_T : ∀ (t : Ty) (lv : Nat), S3 (rT t lv)
  | .mk k n xs, lv => by rw [rT]; exact s_if s2 (s_if s3 (s_if s2 (s_if (s_Ts xs _) s3)))
theorem s_Ts : ∀ (l : List Ty) (lv : Nat), S3 (rTs l lv)
  | [], lv => by rw [rTs]; exact s0
  | t :: r, lv => by rw [rTs]; exact s_if (s_Ts r lv) (s_T t lv)
end
mutual
theorem s_P : ∀ (t : Pt), S3 (rP t)
  | .mk k m t xs => by rw [rP]; exact s_if s2 (s_if s3 (s_if s3 (s_if s2 (s_Ps xs))))
theorem s_Ps : ∀ (l : List Pt), S3 (rPs l)
  | [] => by rw [rPs]; exact s0
  | t :: r => by rw [rPs]; exact s_if (s_Ps r) (s_P t)
end
theorem s_names (l : List ByteArray) : S3 (rNames l) := s_if s2 (s_each (fun _ => s_when3 _) l)
theorem s_types (l : List Ty) : S3 (rTypes l) := s_each (fun t => s_T t 1) l
theorem s_nt (ns : List ByteArray) (ts : List Ty) : S3 (orF [rNames ns, rTypes ts]) := s_or (by intro x hx; simp only [List.mem_cons, List.not_mem_nil, or_false] at hx; rcases hx with rfl | rfl; exact s_names _; exact s_types _)
mutual
theorem s_E : ∀ (e : Ex) (be : Bool), S3 (rE e be)
  | .mk k m t ns ts xs ms p, be => by
    rw [rE]
    exact s_if s3 (s_if s2 (s_if s3 (s_if (s_if s3 (s_if (s_if (s_As ms false) (s_Es xs false)) (s_nt _ _))) (s_if (s_As ms be) (s_Es xs be)))))
theorem s_Es : ∀ (l : List Ex) (be : Bool), S3 (rEs l be)
  | [], be => by rw [rEs]; exact s0
  | t :: r, be => by rw [rEs]; exact s_if (s_Es r be) (s_E t be)
theorem s_As : ∀ (l : List Arm) (be : Bool), S3 (rAs l be)
  | [], be => by rw [rAs]; exact s0
  | .mk p e :: r, be => by rw [rAs]; exact s_if (s_As r be) (s_if (s_E e be) (s_P p))
end
theorem s_body (e : Ex) (be : Bool) : S3 (rBody e be) := s_if s2 (s_E e be)
theorem s_head (f : LFu) : S3 (rHead f) := s_if s3 (s_or (by
  intro x hx; simp only [List.mem_cons, List.not_mem_nil, or_false] at hx
  rcases hx with rfl | rfl | rfl | rfl
  · exact s_names _
  · exact s_names _
  · exact s_types _
  · exact s_T _ _))
theorem s_fu (f : LFu) : S3 (rFu f) := s_if (s_body _ _) (s_head f)
theorem s_tf (f : LFu) : S3 (rTF f) := s_or (by
  intro x hx; simp only [List.mem_cons, List.not_mem_nil, or_false] at hx
  rcases hx with rfl | rfl
  · exact s_head f
  · exact s_when3 _)
theorem s_tr (t : LTr) : S3 (rTr t) := s_if s3 (s_if s2 (s_each s_tf _))
theorem s_im (t : LIm) : S3 (rIm t) := s_if s3 (s_if s2 (s_each s_fu _))
theorem s_mk (m : LMk) : S3 (rMk m) := s_if s3 (s_if s2 (s_types _))
theorem s_dt (d : LDt) : S3 (rDt d) := by
  have h : S3 (orF [rNames d.ps, whenF (decide (d.makes.length > 12)) 2]) := s_or (by
    intro x hx; simp only [List.mem_cons, List.not_mem_nil, or_false] at hx
    rcases hx with rfl | rfl
    · exact s_names _
    · exact s_when2 _)
  exact s_if s3 (s_if (s_each s_mk _) h)
theorem s_ac (a : LAc) : S3 (rAc a) := by
  have h : S3 (orF [rNames a.ns, rTypes a.ts, rT a.msg 1]) := s_or (by
    intro x hx; simp only [List.mem_cons, List.not_mem_nil, or_false] at hx
    rcases hx with rfl | rfl | rfl
    · exact s_names _
    · exact s_types _
    · exact s_T _ _)
  exact s_if s3 (s_if (s_body _ _) h)
theorem s_next {c x : Int} (h1 : S3 c) (h2 : S3 x) : S3 (nextE c x) := s_if h2 h1
theorem s_pg (p : LPg) : S3 (rPg p) := s_if s2 (s_if s3 (s_next (s_next (s_next (s_next (s_next (s_each (fun _ => s_when3 _) _) (s_each s_dt _)) (s_each s_tr _)) (s_each s_im _)) (s_each s_fu _)) (s_each s_ac _)))
/-! texts of tokens -/
theorem name_len {w : Bs} (h : nameF w = true) : w.length ≤ 16 := by
  unfold nameF at h
  simp only [Bool.and_eq_true, decide_eq_true_eq] at h
  exact h.2.1
theorem word_len {w : Bs} (h : wordF w = true) : w.length ≤ 64 := by
  unfold wordF at h
  rw [Bool.and_eq_true] at h
  have hm : w ∈ wordsL := by simpa using h.2
  exact (by decide +kernel : ∀ w ∈ wordsL, w.length ≤ 64) w hm
theorem lit_len64 : ∀ (n : Nat) (r : Bs) (v : Bs) (i : Nat), r.length ≤ n → (litGo r v i).2 ≠ 0 → (litGo r v i).1.length ≤ 64
  | n, [], v, i, _, h => by rw [litGo] at h; simp at h
  | 0, _ :: _, v, i, h, _ => by simp at h
  | n + 1, c :: r, v, i, h, h2 => by
    simp only [List.length_cons] at h
    revert h2
    rw [litGo]
    cases bi c == 34 with
    | true =>
      rw [cond_true]
      cases hq : decide (v.length > 64) with
      | true => intro h2; simp at h2
      | false => intro _; have := of_decide_eq_false hq; simp only [cond_false]; omega
    | false =>
      rw [cond_false]
      cases decide (bi c < 32) with
      | true => intro h2; simp at h2
      | false =>
        rw [cond_false]
        cases bi c != 92 with
        | true => intro h2; rw [cond_true] at h2 ⊢; exact lit_len64 n r _ _ (by omega) h2
        | false =>
          rw [cond_false]
          cases (escF r).2 == 0 with
          | true => intro h2; simp at h2
          | false =>
            intro h2
            rw [cond_false] at h2 ⊢
            exact lit_len64 n _ _ _ (by rw [List.length_drop]; omega) h2
theorem next_len (L : Bs) (h : (nextF L).2.2 ≠ 0) (h4 : (nextF L).1 ≠ 4) : (nextF L).2.1.length ≤ 64 := by
  cases L with
  | nil => exact absurd rfl h
  | cons c r =>
    revert h h4
    unfold nextF
    simp only
    cases letterF c with
    | true =>
      simp only [cond_true]
      cases hw : wordF ((c :: r).take (spanF partF (c :: r))) with
      | true => exact fun _ _ => word_len hw
      | false =>
        simp only [cond_false]
        cases hl : lowF ((c :: r).take (spanF partF (c :: r))) with
        | true =>
          refine fun _ _ => ?_
          unfold lowF at hl
          rw [Bool.and_eq_true] at hl
          exact Nat.le_trans (name_len hl.1) (by decide)
        | false =>
          simp only [cond_false]
          cases hu : upF ((c :: r).take (spanF partF (c :: r))) with
          | true =>
            refine fun _ _ => ?_
            unfold upF at hu
            rw [Bool.and_eq_true] at hu
            exact Nat.le_trans (name_len hu.1) (by decide)
          | false => exact fun h _ => absurd rfl h
    | false =>
      simp only [cond_false]
      cases digitF c with
      | true =>
        simp only [cond_true]
        intro h h4
        exfalso
        revert h h4
        cases hq : (c :: r)[spanF digitF (c :: r)]? with
        | none => exact fun _ h => h rfl
        | some d =>
          dsimp only
          cases partF d with
          | true => exact fun h _ => h rfl
          | false => exact fun _ h => h rfl
      | false =>
        simp only [cond_false]
        cases bi c == 34 with
        | true =>
          simp only [cond_true]
          exact fun h _ => lit_len64 _ _ _ _ (Nat.le_refl _) h
        | false =>
          simp only [cond_false]
          cases decide ((c :: r).length ≥ 2) && signF ((c :: r).take 2) with
          | true => exact fun _ _ => by simp only [cond_true, List.length_take]; omega
          | false =>
            simp only [cond_false]
            cases signF ((c :: r).take 1) with
            | true => exact fun _ _ => by simp only [cond_true, List.length_take]; omega
            | false => exact fun h _ => absurd rfl h
theorem tw_of (l : Bs) (T : List Tk) (h : readGo l 0 [] = (T, none)) : ∀ a, (lookF T a).kind ≠ 4 → (lookF T a).text.length ≤ 64 := by
  have := readGo_inv (fun t => t.kind ≠ 4 → t.text.length ≤ 64) l.length (fun c r i _ hne h4 => next_len (c :: r) hne h4) l.length l 0 [] (Nat.le_refl _) (Nat.le_refl _) (by simp) T h
  intro a ha
  unfold lookF at ha ⊢
  cases hq : T[a]? with
  | none => simp
  | some t => rw [hq] at ha; exact this.2 t (List.mem_of_getElem? hq) ha
end PA
open Go Go.AM Go.Proofs TK TR
set_option maxRecDepth 100000
namespace PA
section
variable {T T' : List Tk} {k : Nat} {en en' : Int} (A : Ag T T' k)
include A
theorem j_program : J T en k 0 wPg (programF T en 0) (programF T' en' 0) 0 := by
  unfold programF
  refine J.bind (Nat.le_refl _) (j_want1 A _ 0 (Nat.zero_le _)) (fun _ b h1 h2 h3 => ?_)
  refine J.bind (Nat.le_refl _) (j_kind A 1 (by decide) (by decide) h2) (fun nm c h4 h5 h6 => ?_)
  refine J.bind (Nat.le_refl _) (j_num A false h5) (fun v d h7 h8 h9 => ?_)
  refine J.bind (Nat.le_refl _) (j_want1 A _ d h8) (fun _ e h10 h11 h12 => ?_)
  refine j_declsGo A _ _ _ 0 e h11 (by omega) (fun _ => by omega) ?_
  simp only [wPg, wB, List.map_nil, PV.wts] at *
  omega
end
theorem prog_nil (en : Int) : programF [] en 0 = .error en := by
  unfold programF
  rw [wantF]
  cases hb : isF [] wModule 0 with
  | true => have := isF_in hb; simp at this
  | false => rfl
/-- what is read is small -/
theorem prog_wt {T : List Tk} {en : Int} (hT : T.length ≤ 4000) (tw : ∀ a, (lookF T a).kind ≠ 4 → (lookF T a).text.length ≤ 64) {pg : LPg} {b : Nat} (h : programF T en 0 = .ok (pg, b)) : wlPg pg ≤ 1048576 := by
  have hne : 0 < T.length := by
    cases T with
    | nil => rw [prog_nil] at h; cases h
    | cons _ _ => simp
  obtain ⟨h1, h2, h3, _⟩ := (j_program (en := en) (en' := en) (T := T) (T' := T) (k := 0) ⟨hne, hne, fun _ _ => rfl, tw⟩).1 pg b h
  rw [wlPg_eq]
  unfold wPg at h3
  omega
/-- an error of syntax stands at a token, or at the end -/
theorem prog_err {T : List Tk} {en : Int} (tw : ∀ a, (lookF T a).kind ≠ 4 → (lookF T a).text.length ≤ 64) {e : Int} (h : programF T en 0 = .error e) : ∃ j, j ≤ T.length ∧ e = placeF T en j := by
  cases T with
  | nil => rw [prog_nil] at h; cases h; exact ⟨0, Nat.le_refl _, rfl⟩
  | cons t r =>
    obtain ⟨j, _, h2, h3, _⟩ := (j_program (en := en) (en' := en) (T := t :: r) (T' := t :: r) (k := 0) ⟨by simp, by simp, fun _ _ => rfl, tw⟩).2 e h
    exact ⟨j, h2, h3⟩
theorem read_ok {l : Bs} {T : List Tk} {p : Nat} (h : readF l = (T, p, 0)) : l.length ≤ 4000 ∧ readGo l 0 [] = (T, none) ∧ p = 0 := by
  unfold readF at h
  cases hlen : decide (l.length > 4000) with
  | true => rw [hlen, cond_true] at h; cases h
  | false =>
    rw [hlen, cond_false] at h
    have hlen := of_decide_eq_false hlen
    rcases hq : readGo l 0 [] with ⟨o, x⟩
    rw [hq] at h
    cases x with
    | none => simp only [Prod.mk.injEq] at h; exact ⟨by omega, by rw [h.1], h.2.1.symm⟩
    | some i => simp only [Prod.mk.injEq] at h; exact absurd h.2.2 (by decide)
theorem readF_cases (l : Bs) : (∃ T, readF l = (T, 0, 0)) ∨ (∃ p, readF l = ([], p, 2)) ∨ ∃ p, readF l = ([], p, 10) := by
  unfold readF
  cases decide (l.length > 4000) with
  | true => exact .inr (.inl ⟨_, rfl⟩)
  | false =>
    rw [cond_false]
    rcases readGo l 0 [] with ⟨o, x⟩
    cases x with
    | none => exact .inl ⟨o, rfl⟩
    | some i => exact .inr (.inr ⟨i, rfl⟩)
/-- parse.Read -/
theorem parse_spec (ev : Value) (hev : ev = .nilIface ∨ ∃ te pe, ev = .iface te pe) (l : Bs) : AMem Tryz.prog 8 [.p (.s (B l))] (hE ev) (vParse (parseF l)) (hE ev) := by
  refine read_run ev hev l (fun pg b h => ?_)
  rcases readF_cases l with ⟨T, hq⟩ | ⟨p, hq⟩ | ⟨p, hq⟩
  · rw [hq] at h
    obtain ⟨h1, h2, _⟩ := read_ok hq
    exact prog_wt (tok_of l h1 T h2).len (tw_of l T h2) h
  · rw [hq] at h; rw [prog_nil] at h; cases h
  · rw [hq] at h; rw [prog_nil] at h; cases h
/-! the law -/
theorem inc_lt {o : List Tk} (h : ∀ (j : Nat) (a b : Tk), o[j]? = some a → o[j + 1]? = some b → a.at_ < b.at_) : ∀ (d j : Nat) (a b : Tk), o[j]? = some a → o[j + d + 1]? = some b → a.at_ < b.at_
  | 0, j, a, b, h1, h2 => h j a b h1 h2
  | d + 1, j, a, b, h1, h2 => by
    have hlt : j + d + 1 < o.length := by have := (List.getElem?_eq_some_iff.1 h2).1; omega
    have hc : o[j + d + 1]? = some o[j + d + 1] := List.getElem?_eq_getElem hlt
    have q1 := inc_lt h d j a _ h1 hc
    have q2 := h (j + d + 1) _ b hc h2
    omega
def endF (l : Bs) (o : List Tk) (k : Nat) : Nat := match o[k + 1]? with | some t => t.at_ | none => l.length
/-- where a text is wrong is told by what stands up to there -/
theorem front_plain (l m : Bs) (o : List Tk) (hr : readF l = (o, 0, 0)) (at_ : Int) (pg : LPg) (hp : parseF l = (pg, at_, 10)) (h0 : 0 ≤ at_) (hl : at_ < l.length) :
    ∃ k t, o[k]? = some t ∧ (t.at_ : Int) = at_ ∧ (∀ (j : Nat) (a : Tk), j < k → o[j]? = some a → (a.at_ : Int) ≠ at_) ∧ endF l o k ≤ l.length ∧
      ∀ o', readF (l.take (endF l o k) ++ 32 :: m) = (o', 0, 0) → parseF (l.take (endF l o k) ++ 32 :: m) = (pg0, at_, 10) := by
  obtain ⟨h1, h2, _⟩ := read_ok hr
  have tw := tw_of l o h2
  have hinc := (read_inv _ l 0 [] (Nat.le_refl _) ⟨by simp, by simp⟩).1 o h2
  have hpe : programF o l.length 0 = .error at_ := by
    unfold parseF at hp
    rw [hr] at hp
    simp only [show ((0 : Int) != 0) = false from rfl, cond_false] at hp
    rcases hq : programF o l.length 0 with e | ⟨q, b⟩
    · rw [hq] at hp; simp only [Prod.mk.injEq] at hp; rw [hp.2.1]
    · rw [hq] at hp
      simp only at hp
      cases hb : (rPg q != 0) with
      | true => rw [hb, cond_true] at hp; simp only [Prod.mk.injEq] at hp; exact absurd hp.2.2 (s_pg q).ne
      | false => rw [hb, cond_false] at hp; simp only [Prod.mk.injEq] at hp; exact absurd hp.2.2 (by decide)
  obtain ⟨k, hk, he⟩ := prog_err tw hpe
  have hklt : k < o.length := by
    rcases Nat.lt_or_ge k o.length with q | q
    · exact q
    · unfold placeF at he
      rw [List.getElem?_eq_none q] at he
      simp only at he; omega
  have hok : o[k]? = some o[k] := List.getElem?_eq_getElem hklt
  have hat : ((o[k]).at_ : Int) = at_ := by unfold placeF at he; rw [hok] at he; exact he.symm
  have hend : endF l o k ≤ l.length ∧ (endF l o k = l.length ∨ ∃ t ∈ o, t.at_ = 0 + endF l o k) ∧ (o[k]).at_ < endF l o k := by
    unfold endF
    cases hq : o[k + 1]? with
    | none =>
      have := hinc.1 _ (List.mem_of_getElem? hok)
      exact ⟨Nat.le_refl _, .inl rfl, by simp only; omega⟩
    | some t =>
      have := hinc.1 t (List.mem_of_getElem? hq)
      have := hinc.2 k _ t hok hq
      exact ⟨by simp only; omega, .inr ⟨t, List.mem_of_getElem? hq, by simp⟩, by simp only; omega⟩
  refine ⟨k, o[k], hok, hat, fun j a hj ha => ?_, hend.1, fun o' hr' => ?_⟩
  · have := inc_lt hinc.2 (k - j - 1) j a _ ha (by rw [show j + (k - j - 1) + 1 = k by omega]; exact hok)
    omega
  obtain ⟨h1', h2', _⟩ := read_ok hr'
  have hcut := read_cut m l.length l 0 (endF l o k) [] o o' (Nat.le_refl _) hend.1 hend.2.1 (by simp) h2 h2'
  have hag : ∀ i, i ≤ k → o[i]? = o'[i]? := by
    intro i hi
    have hoi : o[i]? = some (o[i]'(by omega)) := List.getElem?_eq_getElem (by omega)
    rw [hoi]
    refine (hcut i _ hoi ?_).symm
    rcases Nat.lt_or_ge i k with q | q
    · have := inc_lt hinc.2 (k - i - 1) i _ _ hoi (by rw [show i + (k - i - 1) + 1 = k by omega]; exact hok)
      omega
    · have : i = k := by omega
      subst this; omega
  have hk' : k < o'.length := by
    have := hag k (Nat.le_refl _)
    rw [hok] at this
    exact (List.getElem?_eq_some_iff.1 this.symm).1
  obtain ⟨j, _, hj, hje, hy⟩ := (j_program (en := l.length) (en' := ((l.take (endF l o k) ++ 32 :: m).length : Int)) (T := o) (T' := o') (k := k) ⟨hklt, hk', hag, tw⟩).2 at_ hpe
  have hjk : j ≤ k := by
    rcases Nat.lt_or_ge k j with q | q
    · exfalso
      unfold placeF at hje
      cases hq : o[j]? with
      | none => rw [hq] at hje; simp only at hje; omega
      | some t =>
        rw [hq] at hje
        simp only at hje
        have := inc_lt hinc.2 (j - k - 1) k _ t hok (by rw [show k + (j - k - 1) + 1 = j by omega]; exact hq)
        omega
    · exact q
  unfold parseF
  rw [hr']
  simp only [show ((0 : Int) != 0) = false from rfl, cond_false]
  rw [hy hjk]
end PA
