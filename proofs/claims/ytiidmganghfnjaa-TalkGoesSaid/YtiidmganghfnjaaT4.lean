/-
  DERIVED. Contracts of the functions that the law reaches, and the law itself, for every input. No conditions.
-/
import Derived.Test.YtiidmganghfnjaaT3
open Go Go.AM Go.Proofs
namespace TK
/-! THE PLAIN LAW: whoever goes first, all come to the same -/
/-- one step: a ready line fires -/
def Step (n : Net) (d d' : List Int) : Prop := ∃ (j : Nat) (l : Ln), n.lines[j]? = some l ∧ rdyB n d j l = true ∧ d' = fireF d l
def Ends (n : Net) (d : List Int) : Prop := ∀ (j : Nat) (l : Ln), n.lines[j]? = some l → rdyB n d j l = false
inductive Steps (n : Net) : List Int → List Int → Prop
  | refl (d : List Int) : Steps n d d
  | step (d d' e : List Int) (h : Step n d d') (hs : Steps n d' e) : Steps n d e

theorem dn_set (d : List Int) (i : Nat) (v : Int) (k : Int) (hk : 0 ≤ k) (hi : i < d.length) : dn (d.set i v) k = if k = i then v else dn d k := by
  unfold dn
  rw [List.getElem?_set]
  by_cases q : i = k.toNat
  · rw [if_pos q, if_pos hi, if_pos (by omega)]; rfl
  · rw [if_neg q, if_neg (by omega)]

theorem dn_fire (n : Net) (hv : Valid n) (d : List Int) (hd : DOK n d) {j : Nat} {l : Ln} (hl : n.lines[j]? = some l) (k : Int) (hk : 0 ≤ k) : dn (fireF d l) k = if k = l.a ∨ k = l.b then dn d k + 1 else dn d k := by
  obtain ⟨v1, v2, v3, v4, v5⟩ := hv.ln l (List.mem_of_getElem? hl)
  have hlen := hd.len
  unfold fireF
  rw [dn_set _ _ _ k hk (by simp; omega), dn_set _ _ _ k hk (by omega)]
  by_cases q1 : k = l.b
  · subst q1
    rw [if_pos (by omega), if_pos (.inr rfl)]
  · rw [if_neg (by omega)]
    by_cases q2 : k = l.a
    · subst q2; rw [if_pos (by omega), if_pos (.inl rfl)]
    · rw [if_neg (by omega), if_neg (by simp [q1, q2])]

/-- two lines that are ready have no end in common -/
theorem apart_of (n : Net) (d : List Int) {i j : Nat} {l m : Ln} (hi : rdyB n d i l = true) (hj : rdyB n d j m = true) (hij : i ≠ j) : l.a ≠ m.a ∧ l.a ≠ m.b ∧ l.b ≠ m.a ∧ l.b ≠ m.b := by
  simp only [rdyB, Bool.and_eq_true, beq_iff_eq] at hi hj
  obtain ⟨_, _, i1, i2, _⟩ := hi
  obtain ⟨_, _, j1, j2, _⟩ := hj
  refine ⟨fun q => ?_, fun q => ?_, fun q => ?_, fun q => ?_⟩
  · rw [q, j1] at i1; omega
  · rw [q, j2] at i1; omega
  · rw [q, j1] at i2; omega
  · rw [q, j2] at i2; omega

theorem rdyB_congr (n : Net) (d d' : List Int) (i : Int) (l : Ln) (ha : dn d' l.a = dn d l.a) (hb : dn d' l.b = dn d l.b) : rdyB n d' i l = rdyB n d i l := by
  unfold rdyB; rw [ha, hb]

theorem ext_dn {d d' : List Int} (hl : d.length = d'.length) (h : ∀ k : Int, 0 ≤ k → dn d k = dn d' k) : d = d' := by
  apply List.ext_getElem hl
  intro i h1 h2
  have := h i (by omega)
  simpa [dn, h1, h2] using this

theorem fire_len (d : List Int) (l : Ln) : (fireF d l).length = d.length := by simp [fireF]

theorem diamond (n : Net) (hv : Valid n) (d : List Int) (hd : DOK n d) {d1 d2 : List Int} (h1 : Step n d d1) (h2 : Step n d d2) : d1 = d2 ∨ ∃ d3, Step n d1 d3 ∧ Step n d2 d3 := by
  obtain ⟨i, l, hl, hi, rfl⟩ := h1
  obtain ⟨j, m, hm, hj, rfl⟩ := h2
  by_cases hij : i = j
  · subst hij; rw [hl] at hm; cases hm; exact .inl rfl
  · right
    obtain ⟨v1, v2, v3, v4, v5⟩ := hv.ln l (List.mem_of_getElem? hl)
    obtain ⟨u1, u2, u3, u4, u5⟩ := hv.ln m (List.mem_of_getElem? hm)
    obtain ⟨p1, p2, p3, p4⟩ := apart_of n d hi hj hij
    have k1 := (fire_ok n hv d hd i l hl hi).1
    have k2 := (fire_ok n hv d hd j m hm hj).1
    have hj' : rdyB n (fireF d l) j m = true := by
      rw [rdyB_congr n d (fireF d l) j m]
      · exact hj
      · rw [dn_fire n hv d hd hl _ u1, if_neg]; intro q; rcases q with q | q
        · exact p1 q.symm
        · exact p3 q.symm
      · rw [dn_fire n hv d hd hl _ u2, if_neg]; intro q; rcases q with q | q
        · exact p2 q.symm
        · exact p4 q.symm
    have hi' : rdyB n (fireF d m) i l = true := by
      rw [rdyB_congr n d (fireF d m) i l]
      · exact hi
      · rw [dn_fire n hv d hd hm _ v1, if_neg]; intro q; rcases q with q | q
        · exact p1 q
        · exact p2 q
      · rw [dn_fire n hv d hd hm _ v2, if_neg]; intro q; rcases q with q | q
        · exact p3 q
        · exact p4 q
    refine ⟨fireF (fireF d l) m, ⟨j, m, hm, hj', rfl⟩, i, l, hl, hi', ?_⟩
    refine ext_dn (by simp [fire_len]) fun k hk => ?_
    rw [dn_fire n hv _ k1 hm k hk, dn_fire n hv d hd hl k hk, dn_fire n hv _ k2 hl k hk, dn_fire n hv d hd hm k hk]
    by_cases q1 : k = l.a ∨ k = l.b
    · have q2 : ¬ (k = m.a ∨ k = m.b) := by omega
      simp [q1, q2]
    · by_cases q2 : k = m.a ∨ k = m.b <;> simp [q1, q2]

theorem Step.ok {n : Net} (hv : Valid n) {d d' : List Int} (hd : DOK n d) (h : Step n d d') : DOK n d' ∧ d'.sum = d.sum + 2 := by
  obtain ⟨i, l, hl, hi, rfl⟩ := h
  exact fire_ok n hv d hd i l hl hi

/-- from each state an end is come to -/
theorem some_end (n : Net) (hv : Valid n) : ∀ (f : Nat) (d : List Int), DOK n d → ((total n : Int) - d.sum).toNat < f → ∃ e, Steps n d e ∧ Ends n e
  | 0, d, _, h => by omega
  | f + 1, d, hd, h => by
    by_cases he : Ends n d
    · exact ⟨d, .refl d, he⟩
    · have : ∃ (j : Nat) (l : Ln), n.lines[j]? = some l ∧ rdyB n d j l = true := by
        apply Classical.byContradiction
        intro hno
        apply he
        intro j l hl
        cases hq : rdyB n d j l with
        | false => rfl
        | true => exact absurd ⟨j, l, hl, hq⟩ hno
      obtain ⟨j, l, hl, hr⟩ := this
      obtain ⟨k1, k2⟩ := fire_ok n hv d hd j l hl hr
      have hs := sum_le _ n.who k1.len (fun i d w a b => (k1.bd i d w a b).2)
      have ht : total n = (n.who.map List.length).sum := rfl
      obtain ⟨e, q1, q2⟩ := some_end n hv f (fireF d l) k1 (by omega)
      exact ⟨e, .step d _ e ⟨j, l, hl, hr, rfl⟩ q1, q2⟩

theorem one_end (n : Net) (hv : Valid n) : ∀ (f : Nat) (d : List Int), DOK n d → ((total n : Int) - d.sum).toNat < f → ∀ e e', Steps n d e → Ends n e → Steps n d e' → Ends n e' → e = e'
  | 0, d, _, h, _, _, _, _, _, _ => by omega
  | f + 1, d, hd, h, e, e', h1, he, h2, he' => by
    have stuck : ∀ {x y : List Int}, Ends n x → Step n x y → False := fun hx ⟨j, l, hl, hr, _⟩ => by rw [hx j l hl] at hr; cases hr
    cases h1 with
    | refl =>
      cases h2 with
      | refl => rfl
      | step _ d' _ hs _ => exact (stuck he hs).elim
    | step _ d1 _ hs1 hr1 =>
      cases h2 with
      | refl => exact (stuck he' hs1).elim
      | step _ d2 _ hs2 hr2 =>
        obtain ⟨k1, k2⟩ := hs1.ok hv hd
        obtain ⟨k3, k4⟩ := hs2.ok hv hd
        have hm1 := sum_le _ n.who k1.len (fun i d w a b => (k1.bd i d w a b).2)
        have hm2 := sum_le _ n.who k3.len (fun i d w a b => (k3.bd i d w a b).2)
        have ht : total n = (n.who.map List.length).sum := rfl
        rcases diamond n hv d hd hs1 hs2 with rfl | ⟨d3, q1, q2⟩
        · exact one_end n hv f d1 k1 (by omega) e e' hr1 he hr2 he'
        · obtain ⟨k5, k6⟩ := q1.ok hv k1
          obtain ⟨e3, r1, r2⟩ := some_end n hv _ d3 k5 (Nat.lt_succ_self _)
          have a1 := one_end n hv f d1 k1 (by omega) e e3 hr1 he (.step _ _ _ q1 r1) r2
          have a2 := one_end n hv f d2 k3 (by omega) e' e3 hr2 he' (.step _ _ _ q2 r1) r2
          rw [a1, a2]

theorem rdyF_nil {n : Net} {d : List Int} : ∀ (ls : List Ln) (k : Nat), rdyF n d ls k = [] → ∀ (j : Nat) (l : Ln), ls[j]? = some l → rdyB n d ((k + j : Nat) : Int) l = false
  | [], k, _, j, l, hl => by simp at hl
  | m :: r, k, h, j, l, hl => by
    rw [rdyF] at h
    cases hq : rdyB n d k m with
    | true => rw [hq] at h; simp at h
    | false =>
      rw [hq, cond_false] at h
      cases j with
      | zero => simp at hl; subst hl; exact hq
      | succ j => simp at hl; have := rdyF_nil r (k + 1) h j l hl; rwa [show k + 1 + j = k + (j + 1) by omega] at this

/-- a run is a way to an end -/
theorem runG_ends (n : Net) (hv : Valid n) : ∀ (f : Nat) (picks chosen d : List Int), DOK n d → ((total n : Int) - d.sum).toNat < f → Steps n d (runG f n picks chosen d).2 ∧ Ends n (runG f n picks chosen d).2 ∧ DOK n (runG f n picks chosen d).2
  | 0, _, _, d, _, h => by omega
  | f + 1, picks, chosen, d, hd, h => by
    rw [runG]
    cases hr : rdyF n d n.lines 0 with
    | nil =>
      refine ⟨.refl d, fun j l hl => ?_, hd⟩
      have := rdyF_nil n.lines 0 hr j l hl
      rwa [Nat.zero_add] at this
    | cons a r =>
      have hl12 : (rdyF n d n.lines 0).length ≤ 12 := by have := rdyF_len n d n.lines 0; have := hv.l12; omega
      have hst : 0 ≤ stepK picks (a :: r) ∧ stepK picks (a :: r) < ((a :: r).length : Int) := by
        unfold stepK
        split
        · simp
        · exact pk_range _ (by simp) (by rw [← hr]; exact hl12)
      obtain ⟨i, hi⟩ : ∃ i, (a :: r)[(stepK picks (a :: r)).toNat]? = some i := ⟨_, List.getElem?_eq_getElem (by omega)⟩
      obtain ⟨j, l, rfl, hlj, hrb⟩ := rdyF_mem n d n.lines 0 i (hr ▸ List.mem_of_getElem? hi)
      rw [Nat.zero_add] at hi hrb
      have hat : lnAt n.lines (j : Int) = l := by simp [lnAt, hlj]
      simp only [List.isEmpty_cons, Bool.false_eq_true, if_false, hi, Option.getD_some, hat]
      obtain ⟨k1, k2⟩ := fire_ok n hv d hd j l hlj hrb
      have hs := sum_le _ n.who k1.len (fun i d w a b => (k1.bd i d w a b).2)
      have ht : total n = (n.who.map List.length).sum := rfl
      obtain ⟨q1, q2, q3⟩ := runG_ends n hv f picks.tail (chosen ++ [(j : Int)]) (fireF d l) k1 (by omega)
      exact ⟨.step _ _ _ ⟨j, l, hlj, hrb, rfl⟩ q1, q2, q3⟩

theorem start_ok (n : Net) : DOK n (List.replicate n.who.length 0) ∧ (List.replicate n.who.length (0 : Int)).sum = 0 := by
  refine ⟨⟨by simp, fun i d w h1 h2 => ?_⟩, by simp⟩
  rw [List.getElem?_replicate] at h1
  split at h1
  · cases h1; omega
  · cases h1

theorem run_order (n : Net) (a b : List Int) : (runF n a).2.2 = (runF n b).2.2 ∧ (runF n a).2.1 = (runF n b).2.1 := by
  unfold runF
  cases h : chkF n != 0 with
  | true => exact ⟨rfl, rfl⟩
  | false =>
    have hv := chk_ok (show chkF n = 0 by simpa using h)
    obtain ⟨s1, s2⟩ := start_ok n
    refine ⟨rfl, ?_⟩
    obtain ⟨p1, p2, _⟩ := runG_ends n hv (n.lines.length + total n + 1) a [] _ s1 (by omega)
    obtain ⟨q1, q2, _⟩ := runG_ends n hv (n.lines.length + total n + 1) b [] _ s1 (by omega)
    exact one_end n hv _ _ s1 (Nat.lt_succ_self _) _ _ p1 p2 q1 q2

def talk0 : Net := ⟨[⟨0, 1⟩], [[⟨0, true, 3⟩], [⟨0, false, 3⟩]]⟩
theorem talks_spec : APure Try.prog 7 [] (.p (.b true)) := by
  have h1 := run_spec talk0 ⟨by decide, by decide, by decide⟩ [] (by decide)
  have e : runF talk0 [] = ([0], [1, 1], 0) := by kernel_rfl
  rw [e] at h1
  have h2 := equalI_spec [0] [0] (by decide)
  have h3 := equalI_spec [1, 1] [1, 1] (by decide)
  refine APure.intro (tyOf_ok Try.prog) hmix Try.func7 rfl (by rfl) (by kernel_rfl) (by show 0 ≤ _; omega) rfl ?_
  conv => whnf
  refine apc h1 ?_
  conv => whnf
  refine apc h2 ?_
  conv => whnf
  refine apc h3 ?_
  conv => whnf
  exact .inl rfl

theorem runF_len (n : Net) (picks : List Int) : (runF n picks).2.1.length ≤ 8 := by
  unfold runF
  cases h : chkF n != 0 with
  | true => simp
  | false =>
    have hv := chk_ok (show chkF n = 0 by simpa using h)
    obtain ⟨s1, s2⟩ := start_ok n
    obtain ⟨_, _, q3⟩ := runG_ends n hv (n.lines.length + total n + 1) picks [] _ s1 (by omega)
    have := q3.len
    have := hv.w8
    simp only [cond_false]; omega

theorem talkOrder_spec (n : Net) (hn : okN n) (a b : List Int) (ha : a.length < 9223372036854775807) (hb : b.length < 9223372036854775807) :
    APure Try.prog 3 [.p (eN n), .p (.sl 1 (a.map vI)), .p (.sl 1 (b.map vI))] (.p (.b true)) := by
  have h1 := run_spec n hn a ha
  have h2 := run_spec n hn b hb
  obtain ⟨l1, l2⟩ := run_order n a b
  rw [← l1, ← l2] at h2
  have h3 := equalI_spec (runF n a).2.1 (runF n a).2.1 (by have := runF_len n a; omega)
  have e3 : eqIs (runF n a).2.1 (runF n a).2.1 = true := (eqIs_iff _ _).2 rfl
  rw [e3] at h3
  generalize (runF n a).1 = c1 at h1
  generalize (runF n b).1 = c2 at h2
  generalize (runF n a).2.1 = d1 at h1 h2 h3
  generalize (runF n a).2.2 = e1 at h1 h2
  obtain ⟨lines, who⟩ := n
  refine APure.intro (tyOf_ok Try.prog) hmix Try.func3 rfl (by rfl) (by kernel_rfl) (by show 3 ≤ _; decide) rfl ?_
  conv => whnf
  refine apc talks_spec ?_
  conv => whnf
  refine apc h1 ?_
  conv => whnf
  refine apc h2 ?_
  conv => whnf
  refine asplit ?_ ?_ <;> intro g1 <;> conv => whnf
  · refine apc h3 ?_
    conv => whnf
    exact .inl rfl
  · simp at g1
end TK
