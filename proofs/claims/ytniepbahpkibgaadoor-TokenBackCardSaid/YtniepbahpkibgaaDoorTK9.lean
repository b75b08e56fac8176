/-
  DERIVED. Contracts of the functions that the law reaches, and the law itself, for every input. No conditions.
-/
import Derived.Test.YtniepbahpkibgaaDoorTK8
open Go Go.AM Go.Proofs
set_option maxRecDepth 100000
namespace TK
theorem abytes' {xs : List PV} {l : Bs} {K : PV → Prop} (h : xs = l.map vU) (hk : K (.s (B l))) : ABytes xs K := by subst h; exact abytes hk
theorem quote_aux (l : Bs) (hl : l.length ≤ 64) : APure Tryd.prog 8 [.p (.s (B l))] (.tup [.p (.s (B (quoteL l))), .p (.i .i64 0)]) := by
  have hsz : (B l).size = l.length := B_size l
  have hQ : quoteL l = 34 :: (l.flatMap qbF ++ [34]) := rfl
  generalize quoteL l = Q at *
  refine APure.intro (tyOf_ok Tryd.prog) hmix Tryd.func8 rfl (by rfl) (by kernel_rfl) (by show 1 ≤ _; decide) rfl ?_
  conv => whnf
  refine asf (by rw [hsz]; exact decide_eq_false (by omega)) ?_
  conv => whnf
  refine loopS (tyOf_ok _) hmix (by kernel_rfl) l.length [0, 4, 12, 13] [] (fun k (v : Bs) => [.p (.s (B l)), .so 1 (v.map vU), .p (.i .i64 (B l).size), .p (.i .i64 (ix k))]) (fun _ _ => []) (fun k v => v = 34 :: (l.take k).flatMap qbF ∧ v.length ≤ 1 + 4 * k) [34] ⟨rfl, rfl, rfl, rfl⟩ ⟨rfl, by decide⟩ ?_
  rintro k v hk ⟨q1, q2⟩
  have hvl : (v.map vU).length = v.length := List.length_map _
  conv => whnf
  refine asplit ?_ ?_ <;> intro h1 <;> conv => whnf
  · have hk1 := ix_tt h1 (by rw [hsz]) hk (by omega)
    obtain ⟨c, hc⟩ : ∃ c, l[k]? = some c := ⟨_, List.getElem?_eq_getElem hk1⟩
    have hq : ∀ y, qbF c = y → y.length ≤ 4 → v ++ y = 34 :: (l.take (k + 1)).flatMap qbF ∧ (v ++ y).length ≤ 1 + 4 * (k + 1) := by
      intro y hy hyl
      refine ⟨?_, by rw [List.length_append]; omega⟩
      rw [q1, take_snoc hc, List.flatMap_append, ← hy]; simp
    rw [qbF] at hq
    refine asix (ix_eq (by omega)) hc ?_
    conv => whnf
    have ne : ∀ n : Nat, n ≤ 4 → ((v.map vU).length + n) * 1 ≤ 140737488355328 := by intro n hn; rw [hvl]; omega
    refine asplit ?_ ?_ <;> intro h2 <;> conv => whnf
    · refine aneed (ne 2 (by omega)) ?_
      conv => whnf
      refine ⟨hk1, v ++ [92, c], ⟨rfl, ?_, rfl, rfl⟩, hq _ (by rw [show (bi c == 34) = true from h2]; rfl) (by simp)⟩
      rw [List.map_append]; rfl
    have h2 : (bi c == 34) = false := h2
    refine asplit ?_ ?_ <;> intro h3 <;> conv => whnf
    · refine aneed (ne 2 (by omega)) ?_
      conv => whnf
      refine ⟨hk1, v ++ [92, c], ⟨rfl, ?_, rfl, rfl⟩, hq _ (by rw [h2, show (bi c == 92) = true from h3]; rfl) (by simp)⟩
      rw [List.map_append]; rfl
    have h3 : (bi c == 92) = false := h3
    rw [h2, h3, Bool.false_or, cond_false] at hq
    refine asplit ?_ ?_ <;> intro h4 <;> conv => whnf
    · refine aneed (ne 2 (by omega)) ?_
      conv => whnf
      refine ⟨hk1, v ++ [92, 110], ⟨rfl, ?_, rfl, rfl⟩, hq _ (by rw [show (bi c == 10) = true from h4]; rfl) (by simp)⟩
      rw [List.map_append]; rfl
    have h4 : (bi c == 10) = false := h4
    rw [h4, cond_false] at hq
    have hex : (decide (bi c ≥ 32) && decide (bi c ≤ 126)) = false → v ++ [92, 120, hexd (c.toNat / 16), hexd (c.toNat % 16)] = 34 :: (l.take (k + 1)).flatMap qbF ∧ (v ++ [92, 120, hexd (c.toNat / 16), hexd (c.toNat % 16)]).length ≤ 1 + 4 * (k + 1) := by
      intro h; exact hq _ (by rw [h]; rfl) (by simp)
    have hcl : c.toNat < 256 := c.toNat_lt
    have d1 : IntKind.u8.wrap ((c.toNat : Int).tdiv 16) = ((c.toNat / 16 : Nat) : Int) := by
      have : (c.toNat : Int).tdiv 16 = ((c.toNat / 16 : Nat) : Int) := rfl
      rw [this]; unfold IntKind.wrap; simp [IntKind.bits, IntKind.signed]; omega
    have d2 : (c.toNat : Int).tmod 16 = ((c.toNat % 16 : Nat) : Int) := rfl
    have g : ∀ n : Nat, n < 16 → hexL[n]? = some (hexd n) := by
      intro n hn
      rw [hexd, List.getD_eq_getElem?_getD, List.getElem?_eq_getElem (show n < hexL.length from hn)]; rfl
    refine asplit ?_ ?_ <;> intro h5 <;> conv => whnf
    · refine asplit ?_ ?_ <;> intro h6 <;> conv => whnf
      · refine aneed (ne 1 (by omega)) ?_
        conv => whnf
        refine ⟨hk1, v ++ [c], ⟨rfl, ?_, rfl, rfl⟩, hq _ (by rw [show decide (bi c ≥ 32) = true from h5, show decide (bi c ≤ 126) = true from h6]; rfl) (by simp)⟩
        rw [List.map_append]; rfl
      ·   refine aneed ⟨rfl, by decide⟩ ?_
          conv => whnf
          refine asix (l := hexL) d1 (g _ (by omega)) ?_
          conv => whnf
          refine aneed ⟨rfl, by decide⟩ ?_
          conv => whnf
          refine asix (l := hexL) d2 (g _ (by omega)) ?_
          conv => whnf
          refine aneed (ne 4 (by omega)) ?_
          conv => whnf
          refine aneed (by kernel_rfl) ?_
          conv => whnf
          refine ⟨hk1, v ++ [92, 120, hexd (c.toNat / 16), hexd (c.toNat % 16)], ⟨rfl, ?_, rfl, rfl⟩, hex (by rw [show decide (bi c ≤ 126) = false from h6, Bool.and_false])⟩
          rw [List.map_append]; rfl
    ·   refine aneed ⟨rfl, by decide⟩ ?_
        conv => whnf
        refine asix (l := hexL) d1 (g _ (by omega)) ?_
        conv => whnf
        refine aneed ⟨rfl, by decide⟩ ?_
        conv => whnf
        refine asix (l := hexL) d2 (g _ (by omega)) ?_
        conv => whnf
        refine aneed (ne 4 (by omega)) ?_
        conv => whnf
        refine aneed (by kernel_rfl) ?_
        conv => whnf
        refine ⟨hk1, v ++ [92, 120, hexd (c.toNat / 16), hexd (c.toNat % 16)], ⟨rfl, ?_, rfl, rfl⟩, hex (by rw [show decide (bi c ≥ 32) = false from h5, Bool.false_and])⟩
        rw [List.map_append]; rfl
  · have hk1 := ix_ff h1 (by rw [hsz]) hk (by omega)
    rw [hk1, List.take_length] at q1
    refine aneed (by show ((v.map vU).length + 1) * 1 ≤ _; rw [hvl]; omega) ?_
    conv => whnf
    refine abytes' (l := Q) (by rw [hQ, ← List.cons_append, ← q1, List.map_append]; rfl) ?_
    conv => whnf
    exact .inl rfl
theorem quote_big (l : Bs) (hl : 64 < l.length) : APure Tryd.prog 8 [.p (.s (B l))] (.tup [.p (.s (B [])), .p (.i .i64 2)]) := by
  have hsz : (B l).size = l.length := B_size l
  refine APure.intro (tyOf_ok Tryd.prog) hmix Tryd.func8 rfl (by rfl) (by kernel_rfl) (by show 1 ≤ _; decide) rfl ?_
  conv => whnf
  refine ast (by rw [hsz]; exact decide_eq_true (by omega)) ?_
  conv => whnf
  exact .inl rfl
def quoteF (l : Bs) : Bs × Int := bif decide (l.length > 64) then ([], 2) else (quoteL l, 0)
theorem quote_spec (l : Bs) : APure Tryd.prog 8 [.p (.s (B l))] (.tup [.p (.s (B (quoteF l).1)), .p (.i .i64 (quoteF l).2)]) := by
  rw [quoteF]
  by_cases h : l.length > 64
  · rw [decide_eq_true h, cond_true]; exact quote_big l h
  · rw [decide_eq_false h, cond_false]; exact quote_aux l (by omega)
/-! Show -/
def rightF (t : Tk) : Bool := bif t.kind == 1 then lowF t.text else bif t.kind == 2 then upF t.text else bif t.kind == 3 then wordF t.text
    else bif t.kind == 4 then (!(t.text == []) && (decide (t.text.length ≤ 4000) && decide (spanF digitF t.text = t.text.length)))
    else bif t.kind == 6 then signF t.text else false
def showE (t : Tk) : Bs × Int := bif t.kind == 5 then quoteF t.text else bif rightF t then (t.text, 0) else ([], 3)
theorem show_aux (K : Int) (l : Bs) (at_ : Int) (hl : l.length ≤ 1048576) (R : Bs × Int) (hR : (bif K == 5 then quoteF l else bif (bif K == 1 then lowF l else bif K == 2 then upF l else bif K == 3 then wordF l
    else bif K == 4 then (!(l == []) && (decide (l.length ≤ 4000) && decide (spanF digitF l = l.length)))
    else bif K == 6 then signF l else false) then (l, 0) else ([], 3)) = R) :
    APure Tryd.prog 9 [.p (.agg [.i .i64 K, .s (B l), .i .i64 at_])] (.tup [.p (.s (B R.1)), .p (.i .i64 R.2)]) := by
  have hsz : (B l).size = l.length := B_size l
  refine APure.intro (tyOf_ok Tryd.prog) hmix Tryd.func9 rfl (by rfl) (by kernel_rfl) (by show 1 ≤ _; decide) rfl ?_
  conv => whnf
  refine asplit ?_ ?_ <;> intro h1 <;> conv => whnf
  · rw [h1, cond_true] at hR
    have h := quote_spec l
    rw [hR] at h
    refine apc h ?_
    conv => whnf
    exact .inl rfl
  rw [h1, cond_false] at hR
  refine asplit ?_ ?_ <;> intro h2 <;> conv => whnf
  · rw [h2, cond_true] at hR
    have h := low_spec l hl
    generalize lowF l = x at *
    refine apc h ?_
    conv => whnf
    refine asplit ?_ ?_ <;> intro g <;> conv => whnf
    · rw [show x = false by simpa using g, cond_false] at hR
      exact .inl (by rw [← hR]; rfl)
    · rw [show x = true by simpa using g, cond_true] at hR
      exact .inl (by rw [← hR]; rfl)
  rw [h2, cond_false] at hR
  refine asplit ?_ ?_ <;> intro h3 <;> conv => whnf
  · rw [h3, cond_true] at hR
    have h := up_spec l hl
    generalize upF l = x at *
    refine apc h ?_
    conv => whnf
    refine asplit ?_ ?_ <;> intro g <;> conv => whnf
    · rw [show x = false by simpa using g, cond_false] at hR
      exact .inl (by rw [← hR]; rfl)
    · rw [show x = true by simpa using g, cond_true] at hR
      exact .inl (by rw [← hR]; rfl)
  rw [h3, cond_false] at hR
  refine asplit ?_ ?_ <;> intro h4 <;> conv => whnf
  · rw [h4, cond_true] at hR
    have h := word_spec l
    generalize wordF l = x at *
    refine apc h ?_
    conv => whnf
    refine asplit ?_ ?_ <;> intro g <;> conv => whnf
    · rw [show x = false by simpa using g, cond_false] at hR
      exact .inl (by rw [← hR]; rfl)
    · rw [show x = true by simpa using g, cond_true] at hR
      exact .inl (by rw [← hR]; rfl)
  rw [h4, cond_false] at hR
  refine asplit ?_ ?_ <;> intro h5 <;> conv => whnf
  · rw [h5, cond_true] at hR
    refine asplit ?_ ?_ <;> intro h6 <;> conv => whnf
    · rw [B_emp] at h6
      rw [show (l == []) = false by simpa using h6] at hR
      refine asplit ?_ ?_ <;> intro h7 <;> conv => whnf
      · rw [hsz] at h7
        rw [show decide (l.length ≤ 4000) = true by have := of_decide_eq_true h7; exact decide_eq_true (by omega)] at hR
        have ps : APure Tryd.prog 11 [.p (.s (B l)), .p (.i .i64 0), .fn 17 [] []] (.p (.i .i64 (spanF digitF l))) := span_spec l 0 17 digitF hl (by omega) _ rfl digit_spec
        generalize spanF digitF l = n at *
        refine apc ps ?_
        conv => whnf
        refine aneed (by kernel_rfl) ?_
        conv => whnf
        rw [hsz]
        have e : ((n : Int) == (l.length : Int)) = decide (n = l.length) := by
          by_cases q : n = l.length
          · subst q; simp
          · rw [decide_eq_false q]; simp; omega
        refine asplit ?_ ?_ <;> intro g <;> conv => whnf
        · rw [e] at g
          have g : decide (n = l.length) = false := by simpa using g
          rw [g] at hR
          exact .inl (by rw [← hR]; rfl)
        · rw [e] at g
          have g : decide (n = l.length) = true := by simpa using g
          rw [g] at hR
          exact .inl (by rw [← hR]; rfl)
      · rw [hsz] at h7
        rw [show decide (l.length ≤ 4000) = false by have := of_decide_eq_false h7; exact decide_eq_false (by omega)] at hR
        refine aneed (by kernel_rfl) ?_
        conv => whnf
        exact .inl (by rw [← hR]; rfl)
    · rw [B_emp] at h6
      rw [show (l == []) = true by simpa using h6] at hR
      refine aneed (by kernel_rfl) ?_
      conv => whnf
      exact .inl (by rw [← hR]; rfl)
  rw [h5, cond_false] at hR
  refine asplit ?_ ?_ <;> intro h6 <;> conv => whnf
  · rw [h6, cond_true] at hR
    have h := sign_spec l
    generalize signF l = x at *
    refine apc h ?_
    conv => whnf
    refine asplit ?_ ?_ <;> intro g <;> conv => whnf
    · rw [show x = false by simpa using g, cond_false] at hR
      exact .inl (by rw [← hR]; rfl)
    · rw [show x = true by simpa using g, cond_true] at hR
      exact .inl (by rw [← hR]; rfl)
  rw [h6, cond_false] at hR
  exact .inl (by rw [← hR]; rfl)
theorem show_spec (t : Tk) (hl : t.text.length ≤ 1048576) : APure Tryd.prog 9 [.p (eTk t)] (.tup [.p (.s (B (showE t).1)), .p (.i .i64 (showE t).2)]) := show_aux t.kind t.text t.at_ hl _ rfl
end TK
