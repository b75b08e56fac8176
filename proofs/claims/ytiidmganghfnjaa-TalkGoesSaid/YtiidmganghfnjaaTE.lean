/-
  DERIVED. Contracts of the functions that the law reaches, and the law itself, for every input. No conditions.
-/
import Derived.Test.YtiidmganghfnjaaTD
open Go Go.AM Go.Proofs
namespace TK
theorem backF_len (lines : List Ln) (m : List (Int × Int)) (fr : Int) : ∀ (f : Nat) (w : Int), (backF lines m fr f w).length ≤ f
  | 0, _ => by simp [backF]
  | f + 1, w => by
    rw [backF]
    cases w == fr with
    | true => simp
    | false => simp only [cond_false, List.length_cons]; have := backF_len lines m fr f (oth (lnAt lines ((ilook w m).getD 0)) w); omega
theorem pathF_len (n : Net) (fr to wo : Int) : (pathF n fr to wo).1.length ≤ 9 := by
  unfold pathF
  split
  · simp
  · simp only [revF, revG_len]; exact backF_len _ _ _ _ _
def ringL (n : Net) : List Ln → Nat → List Int → List Int
  | [], _, b => b
  | l :: r, k, b => bif (pathF n l.b l.a k).2 && (b.isEmpty || decide (((pathF n l.b l.a k).1.length : Int) + 1 < (b.length : Int))) then ringL n r (k + 1) ((k : Int) :: (pathF n l.b l.a k).1) else ringL n r (k + 1) b
def ringF (n : Net) : List Int × Int := bif chkF n != 0 then ([], chkF n) else match ringL n n.lines 0 [] with
  | [] => ([], 4)
  | x :: r => (x :: r, 0)
def bestV : List Int → AV
  | [] => .nilS
  | x :: r => .so 1 ((x :: r).map vI)
theorem ring_spec (n : Net) (hn : okN n) : APure Try.prog 12 [.p (eN n)] (.tup [.p (.sl 1 ((ringF n).1.map vI)), .p (.i .i64 (ringF n).2)]) := by
  have hc := check_spec n hn
  have hv0 : chkF n = 0 → Valid n := chk_ok
  have hrf : ringF n = bif chkF n != 0 then ([], chkF n) else match ringL n n.lines 0 [] with | [] => ([], 4) | x :: r => (x :: r, 0) := rfl
  generalize chkF n = c at hc hv0 hrf
  obtain ⟨hn1, hn2, hn3⟩ := hn
  obtain ⟨lines, who⟩ := n
  simp only at hn1 hn2 hn3
  refine APure.intro (tyOf_ok Try.prog) hmix Try.func12 rfl (by rfl) (by kernel_rfl) (by show 1 ≤ _; decide) rfl ?_
  conv => whnf
  refine apc hc ?_
  conv => whnf
  refine asplit ?_ ?_ <;> intro g1 <;> conv => whnf
  · rw [hrf, g1]; exact .inl rfl
  have hv := hv0 (by simpa using g1)
  rw [g1, cond_false] at hrf
  rw [hrf]
  have hl12 := hv.l12
  simp only at hl12
  refine loopS (tyOf_ok _) hmix (by kernel_rfl) lines.length [1, 5, 16, 17, 18] [1] (fun k (s : List Int) => [.ptr 1 0, bestV s, .p (.sl 2 (lines.map eL)), .p (.i .i64 (lines.map eL).length), .p (.i .i64 (ix k))])
    (fun k s => [.cells [.p (.sl 2 (lines.map eL)), .p (.sl 1 (who.map eW))]]) (fun k s => s.length ≤ 10 ∧ ringL ⟨lines, who⟩ lines 0 [] = ringL ⟨lines, who⟩ (lines.drop k) k s) [] ⟨rfl, rfl, rfl, rfl⟩ ⟨by simp, rfl⟩ ?_
  rintro k s hk ⟨hsl, hs⟩
  cases s with
  | nil =>
    conv => whnf
    refine asplit ?_ ?_ <;> intro g2 <;> conv => whnf
    · have hk1 := ix_tt g2 (by simp) hk hn1
      obtain ⟨l, hl⟩ : ∃ b, lines[k]? = some b := ⟨lines[k], by simp [hk1]⟩
      obtain ⟨v1, v2, v3, v4, v5⟩ := hv.ln l (List.mem_of_getElem? hl)
      rw [drop_cons hl, ringL] at hs
      have hp := path_spec ⟨lines, who⟩ hv l.b l.a k ⟨v2, v4⟩ ⟨v1, v3⟩
      have hpl := pathF_len ⟨lines, who⟩ l.b l.a k
      rw [← ix_eq (k := k) (by omega)] at hp hpl hs
      generalize pathF ⟨lines, who⟩ l.b l.a (ix k) = pp at hp hpl hs
      obtain ⟨way, ok⟩ := pp
      obtain ⟨la, lb⟩ := l
      simp only at hp hpl hs
      refine aidxk (x := eL ⟨la, lb⟩) (by simp [hl]) (by omega) ?_
      conv => whnf
      refine apc hp ?_
      conv => whnf
      refine asplit ?_ ?_ <;> intro g3 <;> conv => whnf
      · subst g3
        refine aneed (show (1 + (way.map vI).length) * 8 ≤ 140737488355328 by simp; omega) ?_
        conv => whnf
        exact ⟨hk1, ix k :: way, ⟨rfl, rfl, rfl, rfl⟩, by simp; omega, hs⟩
      · subst g3
        exact ⟨hk1, [], ⟨rfl, rfl, rfl, rfl⟩, by simp, hs⟩
    · have hk1 := ix_ff g2 (by simp) hk hn1
      rw [List.drop_eq_nil_of_le (by omega), ringL] at hs
      rw [hs]
      exact .inl rfl
  | cons b0 br =>
    conv => whnf
    refine asplit ?_ ?_ <;> intro g2 <;> conv => whnf
    · have hk1 := ix_tt g2 (by simp) hk hn1
      obtain ⟨l, hl⟩ : ∃ b, lines[k]? = some b := ⟨lines[k], by simp [hk1]⟩
      obtain ⟨v1, v2, v3, v4, v5⟩ := hv.ln l (List.mem_of_getElem? hl)
      rw [drop_cons hl, ringL] at hs
      have hp := path_spec ⟨lines, who⟩ hv l.b l.a k ⟨v2, v4⟩ ⟨v1, v3⟩
      have hpl := pathF_len ⟨lines, who⟩ l.b l.a k
      rw [← ix_eq (k := k) (by omega)] at hp hpl hs
      generalize pathF ⟨lines, who⟩ l.b l.a (ix k) = pp at hp hpl hs
      obtain ⟨way, ok⟩ := pp
      obtain ⟨la, lb⟩ := l
      simp only at hp hpl hs
      refine aidxk (x := eL ⟨la, lb⟩) (by simp [hl]) (by omega) ?_
      conv => whnf
      refine apc hp ?_
      conv => whnf
      refine asplit ?_ ?_ <;> intro g3 <;> conv => whnf
      · subst g3
        have hw : IntKind.i64.wrap (((way.map vI).length : Int) + 1) = (way.length : Int) + 1 := by rw [wrap64 (by simp; omega) (by simp; omega)]; simp
        refine asplit ?_ ?_ <;> intro g4 <;> conv => whnf
        · have g4 : decide (IntKind.i64.wrap (((way.map vI).length : Int) + 1) < (((b0 :: br).map vI).length : Int)) = true := g4
          rw [hw, List.length_map] at g4
          refine aneed (show (1 + (way.map vI).length) * 8 ≤ 140737488355328 by simp; omega) ?_
          conv => whnf
          refine ⟨hk1, ix k :: way, ⟨rfl, rfl, rfl, rfl⟩, by simp; omega, ?_⟩
          rw [hs, g4]; rfl
        · have g4 : decide (IntKind.i64.wrap (((way.map vI).length : Int) + 1) < (((b0 :: br).map vI).length : Int)) = false := g4
          rw [hw, List.length_map] at g4
          refine ⟨hk1, b0 :: br, ⟨rfl, rfl, rfl, rfl⟩, hsl, ?_⟩
          rw [hs, g4]; rfl
      · subst g3
        exact ⟨hk1, b0 :: br, ⟨rfl, rfl, rfl, rfl⟩, hsl, hs⟩
    · have hk1 := ix_ff g2 (by simp) hk hn1
      rw [List.drop_eq_nil_of_le (by omega), ringL] at hs
      rw [hs]
      exact .inl rfl
end TK
