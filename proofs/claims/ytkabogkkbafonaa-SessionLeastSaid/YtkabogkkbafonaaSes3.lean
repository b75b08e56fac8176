/-
  DERIVED. Contracts of the functions that the law reaches, and the law itself, for every input. No conditions.
-/
import Derived.Test.YtkabogkkbafonaaSes1
import Derived.Test.YtkabogkkbafonaaAMRow
import Derived.Test.YtkabogkkbafonaaAMStr
open Go Go.AM Go.Proofs
namespace SE
/-! covers -/
theorem coversC_spec (a : St) (x : Br) (ha : a.brs.length < 1000) : APure Try.prog 25 [.p (eB x), .vp [.i .i64 a.kind, .sl 2 (a.brs.map eB)]] (.p (.b (decide (nextF a.brs x.msg < 0)))) := by
  have h1 := next_spec a x.msg ha
  obtain ⟨k, brs⟩ := a
  obtain ⟨m, nx⟩ := x
  refine APure.intro (tyOf_ok Try.prog) hmix Try.func25 rfl (by rfl) (by kernel_rfl) (by show 2 ≤ _; decide) rfl ?_
  conv => whnf
  refine apc h1 ?_
  conv => whnf
  exact .inl rfl

def idxC (a : St) : List Br → Nat → Int
  | [], _ => -1
  | x :: r, k => bif decide (nextF a.brs x.msg < 0) then (k : Int) else idxC a r (k + 1)
theorem idxC_spec (a : St) (l : List Br) (ha : a.brs.length < 1000) (hl : l.length < 9223372036854775807) : APure Try.prog 30 [.p (.sl 2 (l.map eB)), .fn 25 [] [.vp [.i .i64 a.kind, .sl 2 (a.brs.map eB)]]] (.p (.i .i64 (idxC a l 0))) := by
  refine APure.intro (tyOf_ok Try.prog) hmix Try.func30 rfl (by rfl) (by kernel_rfl) (by show 2 ≤ _; decide) rfl ?_
  conv => whnf
  refine loopS (tyOf_ok _) hmix (by kernel_rfl) l.length [0, 1, 6, 7, 8] [] (fun k _ => [.p (.sl 2 (l.map eB)), .fn 25 [] [.vp [.i .i64 a.kind, .sl 2 (a.brs.map eB)]], .p (.sl 2 (l.map eB)), .p (.i .i64 (l.map eB).length), .p (.i .i64 (ix k))])
    (fun _ _ => []) (fun k _ => idxC a l 0 = idxC a (l.drop k) k) () ⟨rfl, rfl, rfl, rfl⟩ rfl ?_
  intro k _ hk hs
  conv => whnf
  refine asplit ?_ ?_ <;> intro h1 <;> conv => whnf
  · have hk1 := ix_tt h1 (by simp) hk hl
    obtain ⟨x, hx⟩ : ∃ x, l[k]? = some x := ⟨l[k], by simp [hk1]⟩
    rw [drop_cons hx, idxC] at hs
    have hc := coversC_spec a x ha
    generalize decide (nextF a.brs x.msg < 0) = r at hc hs
    refine aidxk (x := eB x) (by simp [hx]) (by omega) ?_
    obtain ⟨xm, xn⟩ := x
    conv => whnf
    refine apc hc ?_
    conv => whnf
    refine asplit ?_ ?_ <;> intro h2 <;> conv => whnf
    · rw [h2] at hs
      exact .inl (pi (by rw [hs, ix_eq (by omega)]; rfl))
    · rw [h2] at hs
      exact ⟨hk1, (), ⟨rfl, rfl, rfl, rfl⟩, hs⟩
  · have hk1 := ix_ff h1 (by simp) hk hl
    rw [List.drop_eq_nil_of_le (by omega)] at hs
    exact .inl (pi (by rw [hs]; rfl))
theorem idxC_any (a : St) : ∀ (l : List Br) (k : Nat), decide (idxC a l k ≥ 0) = l.any fun x => decide (nextF a.brs x.msg < 0)
  | [], k => rfl
  | x :: r, k => by
    rw [idxC, List.any_cons]
    cases decide (nextF a.brs x.msg < 0) with
    | true => simp
    | false => simpa using idxC_any a r (k + 1)
theorem contC_spec (a : St) (l : List Br) (ha : a.brs.length < 1000) (hl : l.length < 9223372036854775807) : APure Try.prog 24 [.p (.sl 2 (l.map eB)), .fn 25 [] [.vp [.i .i64 a.kind, .sl 2 (a.brs.map eB)]]] (.p (.b (l.any fun x => decide (nextF a.brs x.msg < 0)))) := by
  refine APure.intro (tyOf_ok Try.prog) hmix Try.func24 rfl (by rfl) (by kernel_rfl) (by show 2 ≤ _; decide) rfl ?_
  conv => whnf
  refine apc (idxC_spec a l ha hl) ?_
  conv => whnf
  exact .inl (pb (idxC_any a l 0))

def coversF (a b : St) : Bool := !(b.brs.any fun x => decide (nextF a.brs x.msg < 0))
theorem covers_spec (a b : St) (ha : a.brs.length < 1000) (hb : b.brs.length < 1000) : APure Try.prog 17 [.p (eS a), .p (eS b)] (.p (.b (coversF a b))) := by
  have h1 := contC_spec a b.brs ha (by omega)
  unfold coversF
  generalize (b.brs.any fun x => decide (nextF a.brs x.msg < 0)) = r at h1
  obtain ⟨ka, ba⟩ := a
  obtain ⟨kb, bb⟩ := b
  refine APure.intro (tyOf_ok Try.prog) hmix Try.func17 rfl (by rfl) (by kernel_rfl) (by show 2 ≤ _; decide) rfl ?_
  conv => whnf
  refine apb [2] h1 ?_
  conv => whnf
  exact .inl rfl

/-! slices.Contains of pairs -/
def eQ (p : Int × Int) : PV := .agg [.i .i64 p.1, .i .i64 p.2]
def idxQ (x : Int × Int) : List (Int × Int) → Nat → Int
  | [], _ => -1
  | a :: r, k => bif (x.1 == a.1) && ((x.2 == a.2) && true) then (k : Int) else idxQ x r (k + 1)
theorem idxQ_spec (l : List (Int × Int)) (x : Int × Int) (hl : l.length < 9223372036854775807) : APure Try.prog 26 [.p (.sl 2 (l.map eQ)), .p (eQ x)] (.p (.i .i64 (idxQ x l 0))) := by
  obtain ⟨xa, xb⟩ := x
  refine APure.intro (tyOf_ok Try.prog) hmix Try.func26 rfl (by rfl) (by kernel_rfl) (by show 2 ≤ _; decide) rfl ?_
  conv => whnf
  refine loopS (tyOf_ok _) hmix (by kernel_rfl) l.length [0, 3, 6, 7, 8] [3] (fun k _ => [.p (.sl 2 (l.map eQ)), .ptr 3 0, .p (.sl 2 (l.map eQ)), .p (.i .i64 (l.map eQ).length), .p (.i .i64 (ix k))])
    (fun _ _ => [.cells [.p (.i .i64 xa), .p (.i .i64 xb)]]) (fun k _ => idxQ (xa, xb) l 0 = idxQ (xa, xb) (l.drop k) k) () ⟨rfl, rfl, rfl, rfl⟩ rfl ?_
  intro k _ hk hs
  conv => whnf
  refine asplit ?_ ?_ <;> intro h1 <;> conv => whnf
  · have hk1 := ix_tt h1 (by simp) hk hl
    obtain ⟨y, hy⟩ : ∃ x, l[k]? = some x := ⟨l[k], by simp [hk1]⟩
    rw [drop_cons hy, idxQ] at hs
    refine aidxk (x := eQ y) (by simp [hy]) (by omega) ?_
    obtain ⟨ya, yb⟩ := y
    conv => whnf
    refine aneed (by kernel_rfl) ?_
    conv => whnf
    refine asplit ?_ ?_ <;> intro h2 <;> conv => whnf
    · have h2 : (xa == ya && (xb == yb && true)) = true := h2
      simp only [h2, cond_true] at hs
      exact .inl (pi (by rw [hs, ix_eq (by omega)]))
    · have h2 : (xa == ya && (xb == yb && true)) = false := h2
      simp only [h2, cond_false] at hs
      exact ⟨hk1, (), ⟨rfl, rfl, rfl, rfl⟩, hs⟩
  · have hk1 := ix_ff h1 (by simp) hk hl
    rw [List.drop_eq_nil_of_le (by omega)] at hs
    exact .inl (pi (by rw [hs]; rfl))
theorem idxQ_mem (x : Int × Int) : ∀ (l : List (Int × Int)) (k : Nat), decide (idxQ x l k ≥ 0) = decide (x ∈ l)
  | [], k => by simp [idxQ]
  | a :: r, k => by
    rw [idxQ]
    have ih := idxQ_mem x r (k + 1)
    by_cases hx : x = a
    · subst hx; simp
    · have : ((x.1 == a.1) && ((x.2 == a.2) && true)) = false := by
        cases hq : ((x.1 == a.1) && ((x.2 == a.2) && true)) with
        | false => rfl
        | true => simp at hq; exact absurd (Prod.ext hq.1 hq.2) hx
      rw [this, cond_false, ih]; simp [hx]
theorem contQ_spec (l : List (Int × Int)) (x : Int × Int) (hl : l.length < 9223372036854775807) : APure Try.prog 18 [.p (.sl 2 (l.map eQ)), .p (eQ x)] (.p (.b (decide (x ∈ l)))) := by
  have h1 := idxQ_spec l x hl
  have h2 := idxQ_mem x l 0
  generalize decide (x ∈ l) = r at h2
  obtain ⟨xa, xb⟩ := x
  refine APure.intro (tyOf_ok Try.prog) hmix Try.func18 rfl (by rfl) (by kernel_rfl) (by show 2 ≤ _; decide) rfl ?_
  conv => whnf
  refine apc h1 ?_
  conv => whnf
  exact .inl (pb h2)

/-! sameSession -/
def eqBrs : List Br → List Br → Bool
  | [], [] => true
  | x :: r, y :: r' => ((x.msg == y.msg) && ((x.nxt == y.nxt) && true)) && eqBrs r r'
  | _, _ => false
theorem eqBrs_iff : ∀ (a b : List Br), eqBrs a b = true ↔ a = b
  | [], [] => by simp [eqBrs]
  | [], _ :: _ => by simp [eqBrs]
  | _ :: _, [] => by simp [eqBrs]
  | x :: r, y :: r' => by
    obtain ⟨xm, xn⟩ := x
    obtain ⟨ym, yn⟩ := y
    simp [eqBrs, eqBrs_iff r r']
theorem eqBrs_len (a b : List Br) (h : a.length ≠ b.length) : eqBrs a b = false := by
  cases hq : eqBrs a b with
  | false => rfl
  | true => rw [(eqBrs_iff a b).1 hq] at h; exact absurd rfl h
theorem equalB_spec (a b : List Br) (ha : a.length < 9223372036854775807) : APure Try.prog 22 [.p (.sl 2 (a.map eB)), .p (.sl 2 (b.map eB))] (.p (.b (eqBrs a b))) := by
  refine APure.intro (tyOf_ok Try.prog) hmix Try.func22 rfl (by rfl) (by kernel_rfl) (by show 2 ≤ _; decide) rfl ?_
  conv => whnf
  refine asplit ?_ ?_ <;> intro h1 <;> conv => whnf
  · exact .inl (pb (eqBrs_len a b (by simp at h1; omega)).symm)
  have hl : a.length = b.length := by simp at h1; omega
  refine loopS (tyOf_ok _) hmix (by kernel_rfl) a.length [0, 1, 11, 12, 13] [] (fun k _ => [.p (.sl 2 (a.map eB)), .p (.sl 2 (b.map eB)), .p (.sl 2 (a.map eB)), .p (.i .i64 (a.map eB).length), .p (.i .i64 (ix k))])
    (fun _ _ => []) (fun k _ => eqBrs a b = eqBrs (a.drop k) (b.drop k)) () ⟨rfl, rfl, rfl, rfl⟩ rfl ?_
  intro k _ hk hs
  conv => whnf
  refine asplit ?_ ?_ <;> intro g1 <;> conv => whnf
  · have hk1 := ix_tt g1 (by simp) hk ha
    obtain ⟨x, hx⟩ : ∃ x, a[k]? = some x := ⟨a[k], by simp [hk1]⟩
    obtain ⟨y, hy⟩ : ∃ x, b[k]? = some x := ⟨b[k], by simp [← hl, hk1]⟩
    rw [drop_cons hx, drop_cons hy, eqBrs] at hs
    refine aidxk (x := eB x) (by simp [hx]) (by omega) ?_
    obtain ⟨xm, xn⟩ := x
    conv => whnf
    refine aidxk (x := eB y) (by simp [hy]) (by omega) ?_
    obtain ⟨ym, yn⟩ := y
    conv => whnf
    generalize hE : eqKs Try.prog 39 _ = E
    have hE2 : E = [.ki .i64, .ki .i64] := by rw [← hE]; kernel_rfl
    subst hE2
    conv => whnf
    refine aneed (by kernel_rfl) ?_
    conv => whnf
    refine asplit ?_ ?_ <;> intro g2 <;> conv => whnf
    · have g2 : (!(xm == ym && (xn == yn && true))) = true := g2
      simp only [Bool.not_eq_true'] at g2
      simp only [g2, Bool.false_and] at hs
      exact .inl (pb hs.symm)
    · have g2 : (!(xm == ym && (xn == yn && true))) = false := g2
      simp only [Bool.not_eq_false'] at g2
      simp only [g2, Bool.true_and] at hs
      exact ⟨hk1, (), ⟨rfl, rfl, rfl, rfl⟩, hs⟩
  · have hk1 := ix_ff g1 (by simp) hk ha
    rw [List.drop_eq_nil_of_le (by omega), List.drop_eq_nil_of_le (by omega)] at hs
    exact .inl (pb (by rw [hs]; rfl))

def sameS (a b : St) : Bool := (a.kind == b.kind) && eqBrs a.brs b.brs
theorem sameS_spec (a b : St) (ha : a.brs.length < 9223372036854775807) : APure Try.prog 21 [.p (eS a), .p (eS b)] (.p (.b (sameS a b))) := by
  have h1 := equalB_spec a.brs b.brs ha
  unfold sameS
  generalize eqBrs a.brs b.brs = r at h1
  obtain ⟨ka, ba⟩ := a
  obtain ⟨kb, bb⟩ := b
  refine APure.intro (tyOf_ok Try.prog) hmix Try.func21 rfl (by rfl) (by kernel_rfl) (by show 2 ≤ _; decide) rfl ?_
  conv => whnf
  refine asplit ?_ ?_ <;> intro g1 <;> conv => whnf
  · refine apc h1 ?_
    conv => whnf
    exact .inl (pb (by simp only at g1 ⊢; rw [g1]; rfl))
  · exact .inl (pb (by simp only at g1 ⊢; rw [g1]; rfl))
def sameF : List St → List St → Bool
  | [], [] => true
  | x :: r, y :: r' => sameS x y && sameF r r'
  | _, _ => false
theorem sameS_iff (a b : St) : sameS a b = true ↔ a = b := by
  obtain ⟨ka, ba⟩ := a
  obtain ⟨kb, bb⟩ := b
  simp [sameS, eqBrs_iff]
theorem sameF_iff : ∀ (a b : List St), sameF a b = true ↔ a = b
  | [], [] => by simp [sameF]
  | [], _ :: _ => by simp [sameF]
  | _ :: _, [] => by simp [sameF]
  | x :: r, y :: r' => by simp [sameF, sameF_iff r r', sameS_iff]
theorem sameF_len (a b : List St) (h : a.length ≠ b.length) : sameF a b = false := by
  cases hq : sameF a b with
  | false => rfl
  | true => rw [(sameF_iff a b).1 hq] at h; exact absurd rfl h
theorem equalFS_spec (a b : List St) (ha : a.length < 9223372036854775807) (hb : ∀ s ∈ a, s.brs.length < 9223372036854775807) : APure Try.prog 20 [.p (.sl 2 (a.map eS)), .p (.sl 2 (b.map eS)), .fn 21 [] []] (.p (.b (sameF a b))) := by
  refine APure.intro (tyOf_ok Try.prog) hmix Try.func20 rfl (by rfl) (by kernel_rfl) (by show 3 ≤ _; decide) rfl ?_
  conv => whnf
  refine asplit ?_ ?_ <;> intro h1 <;> conv => whnf
  · exact .inl (pb (sameF_len a b (by simp at h1; omega)).symm)
  have hl : a.length = b.length := by simp at h1; omega
  refine loopS (tyOf_ok _) hmix (by kernel_rfl) a.length [1, 2, 15, 16, 17] [] (fun k _ => [.p (.sl 2 (b.map eS)), .fn 21 [] [], .p (.sl 2 (a.map eS)), .p (.i .i64 (a.map eS).length), .p (.i .i64 (ix k))])
    (fun _ _ => []) (fun k _ => sameF a b = sameF (a.drop k) (b.drop k)) () ⟨rfl, rfl, rfl, rfl⟩ rfl ?_
  intro k _ hk hs
  conv => whnf
  refine asplit ?_ ?_ <;> intro g1 <;> conv => whnf
  · have hk1 := ix_tt g1 (by simp) hk ha
    obtain ⟨x, hx⟩ : ∃ x, a[k]? = some x := ⟨a[k], by simp [hk1]⟩
    obtain ⟨y, hy⟩ : ∃ x, b[k]? = some x := ⟨b[k], by simp [← hl, hk1]⟩
    rw [drop_cons hx, drop_cons hy, sameF] at hs
    have hc := sameS_spec x y (hb x (List.mem_of_getElem? hx))
    generalize sameS x y = r at hc hs
    refine aidxk (x := eS x) (by simp [hx]) (by omega) ?_
    obtain ⟨xm, xn⟩ := x
    conv => whnf
    refine aidxk (x := eS y) (by simp [hy]) (by omega) ?_
    obtain ⟨ym, yn⟩ := y
    conv => whnf
    refine apc hc ?_
    conv => whnf
    refine asplit ?_ ?_ <;> intro h3 <;> conv => whnf
    · simp only [Bool.not_eq_true'] at h3
      exact .inl (pb (by rw [hs, h3]; rfl))
    · simp only [Bool.not_eq_false'] at h3
      exact ⟨hk1, (), ⟨rfl, rfl, rfl, rfl⟩, by rw [hs, h3]; rfl⟩
  · have hk1 := ix_ff g1 (by simp) hk ha
    rw [List.drop_eq_nil_of_le (by omega), List.drop_eq_nil_of_le (by omega)] at hs
    exact .inl (pb (by rw [hs]; rfl))
theorem sameSession_spec (a b : List St) (ha : a.length < 9223372036854775807) (hb : ∀ s ∈ a, s.brs.length < 9223372036854775807) : APure Try.prog 13 [.p (.sl 2 (a.map eS)), .p (.sl 2 (b.map eS))] (.p (.b (sameF a b))) := by
  have h1 := equalFS_spec a b ha hb
  generalize sameF a b = r at h1
  refine APure.intro (tyOf_ok Try.prog) hmix Try.func13 rfl (by rfl) (by kernel_rfl) (by show 2 ≤ _; decide) rfl ?_
  conv => whnf
  refine apc h1 ?_
  conv => whnf
  exact .inl rfl
end SE
