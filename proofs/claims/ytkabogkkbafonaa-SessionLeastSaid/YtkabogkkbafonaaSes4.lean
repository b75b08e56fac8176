/-
  DERIVED. Contracts of the functions that the law reaches, and the law itself, for every input. No conditions.
-/
import Derived.Test.YtkabogkkbafonaaSes3
open Go Go.AM Go.Proofs
namespace SE
def stAt (l : List St) (i : Int) : St := (l[i.toNat]?).getD ⟨0, []⟩
def okP (x y : St) : Bool := !((x.kind != y.kind) || (((x.kind == 1) && !coversF y x) || ((x.kind == 2) && !coversF x y)))
inductive Reach (a b : List St) : Int × Int → Prop
  | start : Reach a b (0, 0)
  | step (p q : Int) (z : Br) (h : Reach a b (p, q)) (hz : z ∈ (stAt a p).brs) (hn : nextF (stAt b q).brs z.msg ≥ 0) : Reach a b (z.nxt, nextF (stAt b q).brs z.msg)
def SubP (a b : List St) : Prop := ∀ p, Reach a b p → okP (stAt a p.1) (stAt b p.2) = true
noncomputable def subB (a b : List St) : Bool := @decide (SubP a b) (Classical.propDecidable _)
theorem subB_true {a b : List St} : subB a b = true ↔ SubP a b := by
  unfold subB; exact @decide_eq_true_iff _ (Classical.propDecidable _)
theorem subB_false {a b : List St} (h : ¬ SubP a b) : subB a b = false := by
  unfold subB; exact @decide_eq_false _ (Classical.propDecidable _) h
noncomputable def subF (a b : List St) : Bool × Int := bif chkF a != 0 then (false, chkF a) else bif chkF b != 0 then (false, chkF b) else (subB a b, 0)

/-- a right automaton -/
structure Vs (l : List St) : Prop where
  len : 1 ≤ l.length ∧ l.length ≤ 16
  st : ∀ s ∈ l, (s.kind = 1 ∨ s.kind = 2 ∨ s.kind = 3) ∧ (s.kind = 3 ↔ s.brs = []) ∧ s.brs.length ≤ 6 ∧ (∀ b ∈ s.brs, 0 ≤ b.nxt ∧ b.nxt < l.length) ∧ s.brs.Pairwise (fun x y => x.msg < y.msg)
theorem brs_sorted {n : Int} : ∀ (r : List Br) (last : Int), brsF n last r = 0 → (∀ b ∈ r, last < b.msg) ∧ r.Pairwise (fun x y => x.msg < y.msg)
  | [], _, _ => ⟨by simp, .nil⟩
  | c :: r, last, h => by
    rw [brsF] at h
    cases h1 : (decide (c.msg < 0) || (decide (c.msg > 20) || (decide (c.nxt < 0) || decide (c.nxt ≥ n)))) with
    | true => rw [h1] at h; simp at h
    | false =>
      rw [h1, cond_false] at h
      cases h2 : decide (c.msg ≤ last) with
      | true => rw [h2] at h; simp at h
      | false =>
        rw [h2, cond_false] at h
        obtain ⟨q1, q2⟩ := brs_sorted r c.msg h
        have h2 := of_decide_eq_false h2
        exact ⟨fun b hb => by rcases List.mem_cons.1 hb with rfl | hb; omega; have := q1 b hb; omega, .cons q1 q2⟩
theorem chk_vs {l : List St} (h : chkF l = 0) : Vs l := by
  obtain ⟨h1, h2, h3⟩ := chkF_ok h
  refine ⟨⟨h1, h2⟩, fun s hs => ?_⟩
  have := h3 s hs
  obtain ⟨h4, h5⟩ := stF_ok this
  unfold stF at this
  cases h6 : (decide (s.kind < 1) || (decide (s.kind > 3) || !((s.kind == 3) == ((s.brs.length : Int) == 0)))) with
  | true => rw [h6] at this; simp at this
  | false =>
    simp only [Bool.or_eq_false_iff, decide_eq_false_iff_not, Bool.not_eq_false', beq_iff_eq] at h6
    obtain ⟨k1, k2, k3⟩ := h6
    refine ⟨by omega, ?_, h4, brsF_ok s.brs _ h5, (brs_sorted s.brs _ h5).2⟩
    constructor
    · intro q
      have e1 : (s.kind == 3) = true := by simpa using q
      rw [e1] at k3
      have : ((s.brs.length : Int) == 0) = true := k3.symm
      simp at this; exact this
    · intro q
      rw [q] at k3
      simp at k3; exact k3
theorem Vs.at {l : List St} (h : Vs l) {i : Int} (h0 : 0 ≤ i) (h1 : i < l.length) : stAt l i ∈ l ∧ l[i.toNat]? = some (stAt l i) := by
  have hlt : i.toNat < l.length := by omega
  have e : l[i.toNat]? = some l[i.toNat] := List.getElem?_eq_getElem hlt
  have : stAt l i = l[i.toNat] := by simp [stAt, e]
  rw [this]; exact ⟨List.getElem_mem hlt, e⟩
theorem next_in : ∀ {r : List Br} {m : Int}, nextF r m ≥ 0 → ∃ z ∈ r, z.msg = m ∧ z.nxt = nextF r m
  | [], m, h => by simp [nextF] at h
  | b :: r, m, h => by
    rw [nextF] at h ⊢
    split at h
    · rename_i q; rw [if_pos q]; exact ⟨b, by simp, by simpa using q, rfl⟩
    · rename_i q
      rw [if_neg q]
      obtain ⟨z, h1, h2, h3⟩ := next_in h
      exact ⟨z, by simp [h1], h2, h3⟩
theorem next_of : ∀ {r : List Br} {z : Br}, r.Pairwise (fun x y => x.msg < y.msg) → z ∈ r → nextF r z.msg = z.nxt
  | [], z, _, h => by cases h
  | b :: r, z, hp, h => by
    rw [nextF]
    rcases List.mem_cons.1 h with rfl | h
    · rw [if_pos (by simp)]
    · have := (List.pairwise_cons.1 hp).1 z h
      rw [if_neg (by simp; omega)]
      exact next_of (List.pairwise_cons.1 hp).2 h
theorem reach_in {a b : List St} (va : Vs a) (vb : Vs b) {p : Int × Int} (h : Reach a b p) : 0 ≤ p.1 ∧ p.1 < a.length ∧ 0 ≤ p.2 ∧ p.2 < b.length := by
  induction h with
  | start => have := va.len; have := vb.len; simp only; omega
  | step p q z _ hz hn ih =>
    simp only at ih ⊢
    have h1 := va.at ih.1 ih.2.1
    have h2 := vb.at ih.2.2.1 ih.2.2.2
    obtain ⟨_, _, _, h3, _⟩ := va.st _ h1.1
    obtain ⟨_, _, _, h4, _⟩ := vb.st _ h2.1
    obtain ⟨z', k1, k2, k3⟩ := next_in hn
    have := h3 z hz
    have := h4 z' k1
    omega
theorem nodup_bound : ∀ (n : Nat) (l : List Nat), l.Nodup → (∀ x ∈ l, x < n) → l.length ≤ n
  | 0, l, _, h => by
    cases l with
    | nil => simp
    | cons x r => have := h x (by simp); omega
  | n + 1, l, hn, h => by
    have h1 := nodup_bound n (l.erase n) (hn.erase n) (fun x hx => by
      have h2 := List.mem_of_mem_erase hx
      have h3 := h x h2
      have h4 : x ≠ n := fun q => by subst q; exact List.Nodup.not_mem_erase hn hx
      omega)
    by_cases hm : n ∈ l
    · rw [List.length_erase_of_mem hm] at h1; omega
    · rw [List.erase_of_not_mem hm] at h1; omega
theorem reach_len {a b : List St} (va : Vs a) (vb : Vs b) (s : List (Int × Int)) (hn : s.Nodup) (hr : ∀ p ∈ s, Reach a b p) : s.length ≤ a.length * b.length ∧ s.length ≤ 256 := by
  have key : s.length ≤ a.length * b.length := by
    have h1 := nodup_bound (a.length * b.length) (s.map fun p => p.1.toNat * b.length + p.2.toNat) ?_ ?_
    · simpa using h1
    · refine List.Pairwise.map (R := fun x y : Int × Int => x ≠ y ∧ Reach a b x ∧ Reach a b y) _ (fun x y h q => ?_) ?_
      · obtain ⟨h1, h2, h3⟩ := h
        have i1 := reach_in va vb h2
        have i2 := reach_in va vb h3
        apply h1
        have e1 : (x.1.toNat * b.length + x.2.toNat) / b.length = x.1.toNat := by
          rw [Nat.mul_comm, Nat.mul_add_div (by omega), Nat.div_eq_of_lt (by omega)]; omega
        have e2 : (y.1.toNat * b.length + y.2.toNat) / b.length = y.1.toNat := by
          rw [Nat.mul_comm, Nat.mul_add_div (by omega), Nat.div_eq_of_lt (by omega)]; omega
        have q : x.1.toNat * b.length + x.2.toNat = y.1.toNat * b.length + y.2.toNat := q
        have e3 : x.1.toNat = y.1.toNat := by rw [← e1, ← e2, q]
        rw [e3] at q
        exact Prod.ext (by omega) (by omega)
      · refine List.Pairwise.imp_of_mem (R := fun x y => x ≠ y) (fun hx hy h => ⟨h, hr _ hx, hr _ hy⟩) hn
    · intro x hx
      obtain ⟨p, hp, rfl⟩ := List.mem_map.1 hx
      have i1 := reach_in va vb (hr p hp)
      have : p.1.toNat + 1 ≤ a.length := by omega
      have := Nat.mul_le_mul_right b.length this
      rw [Nat.add_mul] at this
      omega
  refine ⟨key, ?_⟩
  have h1 := va.len.2
  have h2 := vb.len.2
  have : a.length * b.length ≤ 16 * 16 := Nat.mul_le_mul h1 h2
  omega

theorem sub_spec (a b : List St) (ha : ∀ s ∈ a, s.brs.length < 9223372036854775807) (hb : ∀ s ∈ b, s.brs.length < 9223372036854775807) :
    APure Try.prog 10 [.p (.sl 2 (a.map eS)), .p (.sl 2 (b.map eS))] (.tup [.p (.b (subF a b).1), .p (.i .i64 (subF a b).2)]) := by
  have hca := check_spec a ha
  have hcb := check_spec b hb
  have va0 : chkF a = 0 → Vs a := chk_vs
  have vb0 : chkF b = 0 → Vs b := chk_vs
  have hsf : subF a b = bif chkF a != 0 then (false, chkF a) else bif chkF b != 0 then (false, chkF b) else (subB a b, 0) := rfl
  generalize chkF a = ca at hca va0 hsf
  generalize chkF b = cb at hcb vb0 hsf
  refine APure.intro (tyOf_ok Try.prog) hmix Try.func10 rfl (by rfl) (by kernel_rfl) (by show 2 ≤ _; decide) rfl ?_
  conv => whnf
  refine loopS (tyOf_ok _) hmix (by kernel_rfl) 2 [0, 1, 18, 19, 20] [] (fun k _ => [.p (.sl 2 (a.map eS)), .p (.sl 2 (b.map eS)), .so 1 [.sl 2 (a.map eS), .sl 2 (b.map eS)], .p (.i .i64 2), .p (.i .i64 (ix k))])
    (fun _ _ => []) (fun k _ => (1 ≤ k → ca = 0) ∧ (2 ≤ k → cb = 0)) () ⟨rfl, rfl, rfl, rfl⟩ ⟨by omega, by omega⟩ ?_
  rintro k _ hk ⟨hq1, hq2⟩
  have hk3 : k = 0 ∨ k = 1 ∨ k = 2 := by omega
  rcases hk3 with rfl | rfl | rfl
  · conv => whnf
    refine aidxk (x := .sl 2 (a.map eS)) rfl (by omega) ?_
    conv => whnf
    refine apc hca ?_
    conv => whnf
    refine asplit ?_ ?_ <;> intro g1 <;> conv => whnf
    · rw [hsf, g1]; exact .inl rfl
    · exact ⟨by omega, (), ⟨rfl, rfl, rfl, rfl⟩, fun _ => by simpa using g1, by omega⟩
  · conv => whnf
    refine aidxk (x := .sl 2 (b.map eS)) rfl (by omega) ?_
    conv => whnf
    refine apc hcb ?_
    conv => whnf
    have g0 := hq1 (by omega)
    refine asplit ?_ ?_ <;> intro g1 <;> conv => whnf
    · rw [hsf, g0, g1]; exact .inl rfl
    · exact ⟨by omega, (), ⟨rfl, rfl, rfl, rfl⟩, fun _ => g0, fun _ => by simpa using g1⟩
  have ga := hq1 (by omega)
  have gb := hq2 (by omega)
  have va := va0 ga
  have vb := vb0 gb
  have hsf2 : subF a b = (subB a b, 0) := by rw [hsf, ga, gb]; rfl
  rw [hsf2]
  conv => whnf
  clear hq1 hq2 hk
  refine loopS (tyOf_ok _) hmix (by kernel_rfl) (a.length * b.length) [0, 1, 9, 10] [] (fun k (s : List (Int × Int)) => [.p (.sl 2 (a.map eS)), .p (.sl 2 (b.map eS)), .so 2 (s.map eQ), .p (.i .i64 (ix k))])
    (fun _ _ => []) (fun k s => s.Nodup ∧ (∀ p ∈ s, Reach a b p) ∧ (0, 0) ∈ s ∧ k ≤ s.length ∧ ∀ (i : Nat) (p : Int × Int), i < k → s[i]? = some p → okP (stAt a p.1) (stAt b p.2) = true ∧ ∀ z ∈ (stAt a p.1).brs, nextF (stAt b p.2).brs z.msg ≥ 0 → (z.nxt, nextF (stAt b p.2).brs z.msg) ∈ s)
    [(0, 0)] ⟨rfl, rfl, rfl, rfl⟩ ⟨by simp, by simp [Reach.start], by simp, by omega, by omega⟩ ?_
  rintro k s hk ⟨hnd, hre, h00, hks, hdn⟩
  have hlen := reach_len va vb s hnd hre
  conv => whnf
  refine asplit ?_ ?_ <;> intro g1 <;> conv => whnf
  · have hk1 := ix_tt g1 (by simp) hks (by omega)
    obtain ⟨p, hp⟩ : ∃ p, s[k]? = some p := ⟨s[k], by simp [hk1]⟩
    have hrp := hre p (List.mem_of_getElem? hp)
    have hin := reach_in va vb hrp
    obtain ⟨hx1, hx2⟩ := va.at hin.1 hin.2.1
    obtain ⟨hy1, hy2⟩ := vb.at hin.2.2.1 hin.2.2.2
    obtain ⟨_, _, hx6, _, _⟩ := va.st _ hx1
    obtain ⟨_, _, hy6, _, _⟩ := vb.st _ hy1
    have bad : okP (stAt a p.1) (stAt b p.2) = false → subB a b = false := fun q => subB_false fun h => by rw [h p hrp] at q; cases q
    generalize hsx : stAt a p.1 = x at hx1 hx2 hx6 bad
    generalize hsy : stAt b p.2 = y at hy1 hy2 hy6 bad
    have c1 := covers_spec y x (by omega) (by omega)
    have c2 := covers_spec x y (by omega) (by omega)
    unfold okP at bad
    have hokd : okP x y = !((x.kind != y.kind) || (((x.kind == 1) && !coversF y x) || ((x.kind == 2) && !coversF x y))) := rfl
    generalize coversF y x = v1 at c1 bad hokd
    generalize coversF x y = v2 at c2 bad hokd
    obtain ⟨xk, xb⟩ := x
    obtain ⟨yk, yb⟩ := y
    simp only at hx6 hy6 bad hokd
    refine aidxk (x := eQ p) (by simp [hp]) (by omega) ?_
    conv => whnf
    refine aneed ⟨by omega, by decide⟩ ?_
    conv => whnf
    refine aidxi (x := eS ⟨xk, xb⟩) hin.1 (by rw [List.getElem?_map, hx2]; rfl) ?_
    conv => whnf
    refine aidxk (x := eQ p) (by simp [hp]) (by omega) ?_
    conv => whnf
    refine aneed ⟨by omega, by decide⟩ ?_
    conv => whnf
    refine aidxi (x := eS ⟨yk, yb⟩) hin.2.2.1 (by rw [List.getElem?_map, hy2]; rfl) ?_
    conv => whnf
    refine aneed (by kernel_rfl) ?_
    conv => whnf
    refine asplit ?_ ?_ <;> intro g2 <;> conv => whnf
    · simp only at g2
      rw [bad (by rw [g2]; rfl)]; exact .inl rfl
    simp only at g2
    rw [g2, Bool.false_or] at bad hokd
    refine asplit ?_ ?_ <;> intro g3 <;> conv => whnf
    · refine apc c1 ?_
      conv => whnf
      simp only at g3
      rw [g3, Bool.true_and] at bad hokd
      refine asplit ?_ ?_ <;> intro g4 <;> conv => whnf
      · rw [bad (by rw [g4]; rfl)]; exact .inl rfl
      rw [g4, Bool.false_or] at bad hokd
      have e2 : (xk == 2) = false := by have : xk = 1 := by simpa using g3
                                        subst this; rfl
      refine asf e2 ?_
      conv => whnf
      rw [e2] at hokd
      have hok : okP ⟨xk, xb⟩ ⟨yk, yb⟩ = true := hokd
      refine loopS (tyOf_ok _) hmix (by kernel_rfl) xb.length [0, 1, 9, 10, 12, 82, 83, 84] [12] (fun j (s2 : List (Int × Int)) => [.p (.sl 2 (a.map eS)), .p (.sl 2 (b.map eS)), .so 2 (s2.map eQ), .p (.i .i64 (ix k)), .ptr 12 0, .p (.sl 2 (xb.map eB)), .p (.i .i64 (xb.map eB).length), .p (.i .i64 (ix j))])
        (fun _ _ => [.cells [.p (.i .i64 yk), .p (.sl 2 (yb.map eB))]]) (fun j s2 => (∃ ext, s2 = s ++ ext) ∧ s2.Nodup ∧ (∀ p ∈ s2, Reach a b p) ∧ ∀ z ∈ xb.take j, nextF yb z.msg ≥ 0 → (z.nxt, nextF yb z.msg) ∈ s2) s ⟨rfl, rfl, rfl, rfl⟩ ⟨⟨[], by simp⟩, hnd, hre, by simp⟩ ?_
      rintro j s2 hj ⟨⟨ext, hext⟩, hnd2, hre2, hcl2⟩
      have hlen2 := reach_len va vb s2 hnd2 hre2
      conv => whnf
      refine asplit ?_ ?_ <;> intro g7 <;> conv => whnf
      · have hj1 := ix_tt g7 (by simp) hj (by omega)
        obtain ⟨z, hz⟩ : ∃ z, xb[j]? = some z := ⟨xb[j], by simp [hj1]⟩
        have hts := take_snoc hz
        have hzm := List.mem_of_getElem? hz
        have hnx := next_spec ⟨yk, yb⟩ z.msg (by simp only; omega)
        have hcq := contQ_spec s2 (z.nxt, nextF yb z.msg) (by omega)
        have hst : nextF yb z.msg ≥ 0 → Reach a b (z.nxt, nextF yb z.msg) := fun q => by
          have := Reach.step (a := a) (b := b) p.1 p.2 z hrp (by rw [hsx]; exact hzm) (by rw [hsy]; exact q)
          rwa [hsy] at this
        refine aidxk (x := eB z) (by simp [hz]) (by omega) ?_
        obtain ⟨zm, zn⟩ := z
        simp only at hnx hcq hst
        generalize hnf : nextF yb zm = nf at hnx hcq hst
        have done : ∀ s3, (∃ ext, s3 = s ++ ext) → s3.Nodup → (∀ p ∈ s3, Reach a b p) → (∀ z ∈ xb.take j, nextF yb z.msg ≥ 0 → (z.nxt, nextF yb z.msg) ∈ s3) → (nf ≥ 0 → (zn, nf) ∈ s3) →
            ((∃ ext, s3 = s ++ ext) ∧ s3.Nodup ∧ (∀ p ∈ s3, Reach a b p) ∧ ∀ z ∈ xb.take (j + 1), nextF yb z.msg ≥ 0 → (z.nxt, nextF yb z.msg) ∈ s3) := by
          intro s3 q1 q2 q3 q4 q5
          refine ⟨q1, q2, q3, fun z' hz' hq => ?_⟩
          rw [hts] at hz'
          rcases List.mem_append.1 hz' with hz' | hz'
          · exact q4 z' hz' hq
          · simp at hz'; subst hz'; simp only [hnf] at hq ⊢; exact q5 hq
        conv => whnf
        refine apc hnx ?_
        conv => whnf
        refine asplit ?_ ?_ <;> intro g8 <;> conv => whnf
        · refine apc hcq ?_
          conv => whnf
          have g8' : nf ≥ 0 := of_decide_eq_true g8
          refine asplit ?_ ?_ <;> intro g9 <;> conv => whnf
          · simp only [Bool.not_eq_true', decide_eq_false_iff_not] at g9
            refine aneed (show ((s2.map eQ).length + 1) * 16 ≤ 140737488355328 by simp; omega) ?_
            conv => whnf
            refine ⟨hj1, s2 ++ [(zn, nf)], ⟨rfl, by show [_, _, AV.so 2 (s2.map eQ ++ [eQ (zn, nf)]), _, _, _, _, _] = [_, _, AV.so 2 ((s2 ++ [(zn, nf)]).map eQ), _, _, _, _, _]; rw [List.map_append]; rfl, rfl, rfl⟩, done _ ⟨ext ++ [(zn, nf)], by rw [hext]; simp⟩ ?_ ?_ ?_ ?_⟩
            · rw [List.nodup_append]
              exact ⟨hnd2, by simp, fun x hx y hy => by simp at hy; subst hy; intro q; subst q; exact g9 hx⟩
            · intro p' hp'
              rcases List.mem_append.1 hp' with hp' | hp'
              · exact hre2 p' hp'
              · simp at hp'; subst hp'; exact hst g8'
            · exact fun z' hz' hq => List.mem_append_left _ (hcl2 z' hz' hq)
            · exact fun _ => by simp
          · simp only [Bool.not_eq_false', decide_eq_true_eq] at g9
            exact ⟨hj1, s2, ⟨rfl, rfl, rfl, rfl⟩, done _ ⟨ext, hext⟩ hnd2 hre2 hcl2 (fun _ => g9)⟩
        · have g8' : ¬ nf ≥ 0 := of_decide_eq_false g8
          exact ⟨hj1, s2, ⟨rfl, rfl, rfl, rfl⟩, done _ ⟨ext, hext⟩ hnd2 hre2 hcl2 (fun q => absurd q g8')⟩
      · have hj1 := ix_ff g7 (by simp) hj (by omega)
        rw [hj1, List.take_length] at hcl2
        have hk' : k < a.length * b.length := by have : s.length ≤ s2.length := by rw [hext]; simp
                                                 omega
        refine ⟨hk', s2, ⟨rfl, rfl, rfl, rfl⟩, hnd2, hre2, by rw [hext]; exact List.mem_append_left _ h00, by rw [hext]; simp; omega, fun i p' hi hp' => ?_⟩
        have hp'' : s[i]? = some p' := by rw [hext, List.getElem?_append_left (by omega)] at hp'; exact hp'
        by_cases hik : i = k
        · subst hik
          rw [hp] at hp''; cases hp''
          exact ⟨by rw [hsx, hsy]; exact hok, fun z hz hq => by rw [hsx] at hz; rw [hsy] at hq ⊢; exact hcl2 z hz hq⟩
        · obtain ⟨q1, q2⟩ := hdn i p' (by omega) hp''
          exact ⟨q1, fun z hz hq => by rw [hext]; exact List.mem_append_left _ (q2 z hz hq)⟩
    · simp only at g3
      rw [g3, Bool.false_and, Bool.false_or] at bad hokd
      refine asplit ?_ ?_ <;> intro g4 <;> conv => whnf
      · refine apc c2 ?_
        conv => whnf
        simp only at g4
        rw [g4, Bool.true_and] at bad hokd
        refine asplit ?_ ?_ <;> intro g5 <;> conv => whnf
        · rw [bad (by rw [g5]; rfl)]; exact .inl rfl
        rw [g5] at hokd
        have hok : okP ⟨xk, xb⟩ ⟨yk, yb⟩ = true := hokd
        refine loopS (tyOf_ok _) hmix (by kernel_rfl) xb.length [0, 1, 9, 10, 12, 82, 83, 84] [12] (fun j (s2 : List (Int × Int)) => [.p (.sl 2 (a.map eS)), .p (.sl 2 (b.map eS)), .so 2 (s2.map eQ), .p (.i .i64 (ix k)), .ptr 12 0, .p (.sl 2 (xb.map eB)), .p (.i .i64 (xb.map eB).length), .p (.i .i64 (ix j))])
          (fun _ _ => [.cells [.p (.i .i64 yk), .p (.sl 2 (yb.map eB))]]) (fun j s2 => (∃ ext, s2 = s ++ ext) ∧ s2.Nodup ∧ (∀ p ∈ s2, Reach a b p) ∧ ∀ z ∈ xb.take j, nextF yb z.msg ≥ 0 → (z.nxt, nextF yb z.msg) ∈ s2) s ⟨rfl, rfl, rfl, rfl⟩ ⟨⟨[], by simp⟩, hnd, hre, by simp⟩ ?_
        rintro j s2 hj ⟨⟨ext, hext⟩, hnd2, hre2, hcl2⟩
        have hlen2 := reach_len va vb s2 hnd2 hre2
        conv => whnf
        refine asplit ?_ ?_ <;> intro g7 <;> conv => whnf
        · have hj1 := ix_tt g7 (by simp) hj (by omega)
          obtain ⟨z, hz⟩ : ∃ z, xb[j]? = some z := ⟨xb[j], by simp [hj1]⟩
          have hts := take_snoc hz
          have hzm := List.mem_of_getElem? hz
          have hnx := next_spec ⟨yk, yb⟩ z.msg (by simp only; omega)
          have hcq := contQ_spec s2 (z.nxt, nextF yb z.msg) (by omega)
          have hst : nextF yb z.msg ≥ 0 → Reach a b (z.nxt, nextF yb z.msg) := fun q => by
            have := Reach.step (a := a) (b := b) p.1 p.2 z hrp (by rw [hsx]; exact hzm) (by rw [hsy]; exact q)
            rwa [hsy] at this
          refine aidxk (x := eB z) (by simp [hz]) (by omega) ?_
          obtain ⟨zm, zn⟩ := z
          simp only at hnx hcq hst
          generalize hnf : nextF yb zm = nf at hnx hcq hst
          have done : ∀ s3, (∃ ext, s3 = s ++ ext) → s3.Nodup → (∀ p ∈ s3, Reach a b p) → (∀ z ∈ xb.take j, nextF yb z.msg ≥ 0 → (z.nxt, nextF yb z.msg) ∈ s3) → (nf ≥ 0 → (zn, nf) ∈ s3) →
              ((∃ ext, s3 = s ++ ext) ∧ s3.Nodup ∧ (∀ p ∈ s3, Reach a b p) ∧ ∀ z ∈ xb.take (j + 1), nextF yb z.msg ≥ 0 → (z.nxt, nextF yb z.msg) ∈ s3) := by
            intro s3 q1 q2 q3 q4 q5
            refine ⟨q1, q2, q3, fun z' hz' hq => ?_⟩
            rw [hts] at hz'
            rcases List.mem_append.1 hz' with hz' | hz'
            · exact q4 z' hz' hq
            · simp at hz'; subst hz'; simp only [hnf] at hq ⊢; exact q5 hq
          conv => whnf
          refine apc hnx ?_
          conv => whnf
          refine asplit ?_ ?_ <;> intro g8 <;> conv => whnf
          · refine apc hcq ?_
            conv => whnf
            have g8' : nf ≥ 0 := of_decide_eq_true g8
            refine asplit ?_ ?_ <;> intro g9 <;> conv => whnf
            · simp only [Bool.not_eq_true', decide_eq_false_iff_not] at g9
              refine aneed (show ((s2.map eQ).length + 1) * 16 ≤ 140737488355328 by simp; omega) ?_
              conv => whnf
              refine ⟨hj1, s2 ++ [(zn, nf)], ⟨rfl, by show [_, _, AV.so 2 (s2.map eQ ++ [eQ (zn, nf)]), _, _, _, _, _] = [_, _, AV.so 2 ((s2 ++ [(zn, nf)]).map eQ), _, _, _, _, _]; rw [List.map_append]; rfl, rfl, rfl⟩, done _ ⟨ext ++ [(zn, nf)], by rw [hext]; simp⟩ ?_ ?_ ?_ ?_⟩
              · rw [List.nodup_append]
                exact ⟨hnd2, by simp, fun x hx y hy => by simp at hy; subst hy; intro q; subst q; exact g9 hx⟩
              · intro p' hp'
                rcases List.mem_append.1 hp' with hp' | hp'
                · exact hre2 p' hp'
                · simp at hp'; subst hp'; exact hst g8'
              · exact fun z' hz' hq => List.mem_append_left _ (hcl2 z' hz' hq)
              · exact fun _ => by simp
            · simp only [Bool.not_eq_false', decide_eq_true_eq] at g9
              exact ⟨hj1, s2, ⟨rfl, rfl, rfl, rfl⟩, done _ ⟨ext, hext⟩ hnd2 hre2 hcl2 (fun _ => g9)⟩
          · have g8' : ¬ nf ≥ 0 := of_decide_eq_false g8
            exact ⟨hj1, s2, ⟨rfl, rfl, rfl, rfl⟩, done _ ⟨ext, hext⟩ hnd2 hre2 hcl2 (fun q => absurd q g8')⟩
        · have hj1 := ix_ff g7 (by simp) hj (by omega)
          rw [hj1, List.take_length] at hcl2
          have hk' : k < a.length * b.length := by have : s.length ≤ s2.length := by rw [hext]; simp
                                                   omega
          refine ⟨hk', s2, ⟨rfl, rfl, rfl, rfl⟩, hnd2, hre2, by rw [hext]; exact List.mem_append_left _ h00, by rw [hext]; simp; omega, fun i p' hi hp' => ?_⟩
          have hp'' : s[i]? = some p' := by rw [hext, List.getElem?_append_left (by omega)] at hp'; exact hp'
          by_cases hik : i = k
          · subst hik
            rw [hp] at hp''; cases hp''
            exact ⟨by rw [hsx, hsy]; exact hok, fun z hz hq => by rw [hsx] at hz; rw [hsy] at hq ⊢; exact hcl2 z hz hq⟩
          · obtain ⟨q1, q2⟩ := hdn i p' (by omega) hp''
            exact ⟨q1, fun z hz hq => by rw [hext]; exact List.mem_append_left _ (q2 z hz hq)⟩
      · simp only at g4
        rw [g4] at hokd
        have hok : okP ⟨xk, xb⟩ ⟨yk, yb⟩ = true := hokd
        refine loopS (tyOf_ok _) hmix (by kernel_rfl) xb.length [0, 1, 9, 10, 12, 82, 83, 84] [12] (fun j (s2 : List (Int × Int)) => [.p (.sl 2 (a.map eS)), .p (.sl 2 (b.map eS)), .so 2 (s2.map eQ), .p (.i .i64 (ix k)), .ptr 12 0, .p (.sl 2 (xb.map eB)), .p (.i .i64 (xb.map eB).length), .p (.i .i64 (ix j))])
          (fun _ _ => [.cells [.p (.i .i64 yk), .p (.sl 2 (yb.map eB))]]) (fun j s2 => (∃ ext, s2 = s ++ ext) ∧ s2.Nodup ∧ (∀ p ∈ s2, Reach a b p) ∧ ∀ z ∈ xb.take j, nextF yb z.msg ≥ 0 → (z.nxt, nextF yb z.msg) ∈ s2) s ⟨rfl, rfl, rfl, rfl⟩ ⟨⟨[], by simp⟩, hnd, hre, by simp⟩ ?_
        rintro j s2 hj ⟨⟨ext, hext⟩, hnd2, hre2, hcl2⟩
        have hlen2 := reach_len va vb s2 hnd2 hre2
        conv => whnf
        refine asplit ?_ ?_ <;> intro g7 <;> conv => whnf
        · have hj1 := ix_tt g7 (by simp) hj (by omega)
          obtain ⟨z, hz⟩ : ∃ z, xb[j]? = some z := ⟨xb[j], by simp [hj1]⟩
          have hts := take_snoc hz
          have hzm := List.mem_of_getElem? hz
          have hnx := next_spec ⟨yk, yb⟩ z.msg (by simp only; omega)
          have hcq := contQ_spec s2 (z.nxt, nextF yb z.msg) (by omega)
          have hst : nextF yb z.msg ≥ 0 → Reach a b (z.nxt, nextF yb z.msg) := fun q => by
            have := Reach.step (a := a) (b := b) p.1 p.2 z hrp (by rw [hsx]; exact hzm) (by rw [hsy]; exact q)
            rwa [hsy] at this
          refine aidxk (x := eB z) (by simp [hz]) (by omega) ?_
          obtain ⟨zm, zn⟩ := z
          simp only at hnx hcq hst
          generalize hnf : nextF yb zm = nf at hnx hcq hst
          have done : ∀ s3, (∃ ext, s3 = s ++ ext) → s3.Nodup → (∀ p ∈ s3, Reach a b p) → (∀ z ∈ xb.take j, nextF yb z.msg ≥ 0 → (z.nxt, nextF yb z.msg) ∈ s3) → (nf ≥ 0 → (zn, nf) ∈ s3) →
              ((∃ ext, s3 = s ++ ext) ∧ s3.Nodup ∧ (∀ p ∈ s3, Reach a b p) ∧ ∀ z ∈ xb.take (j + 1), nextF yb z.msg ≥ 0 → (z.nxt, nextF yb z.msg) ∈ s3) := by
            intro s3 q1 q2 q3 q4 q5
            refine ⟨q1, q2, q3, fun z' hz' hq => ?_⟩
            rw [hts] at hz'
            rcases List.mem_append.1 hz' with hz' | hz'
            · exact q4 z' hz' hq
            · simp at hz'; subst hz'; simp only [hnf] at hq ⊢; exact q5 hq
          conv => whnf
          refine apc hnx ?_
          conv => whnf
          refine asplit ?_ ?_ <;> intro g8 <;> conv => whnf
          · refine apc hcq ?_
            conv => whnf
            have g8' : nf ≥ 0 := of_decide_eq_true g8
            refine asplit ?_ ?_ <;> intro g9 <;> conv => whnf
            · simp only [Bool.not_eq_true', decide_eq_false_iff_not] at g9
              refine aneed (show ((s2.map eQ).length + 1) * 16 ≤ 140737488355328 by simp; omega) ?_
              conv => whnf
              refine ⟨hj1, s2 ++ [(zn, nf)], ⟨rfl, by show [_, _, AV.so 2 (s2.map eQ ++ [eQ (zn, nf)]), _, _, _, _, _] = [_, _, AV.so 2 ((s2 ++ [(zn, nf)]).map eQ), _, _, _, _, _]; rw [List.map_append]; rfl, rfl, rfl⟩, done _ ⟨ext ++ [(zn, nf)], by rw [hext]; simp⟩ ?_ ?_ ?_ ?_⟩
              · rw [List.nodup_append]
                exact ⟨hnd2, by simp, fun x hx y hy => by simp at hy; subst hy; intro q; subst q; exact g9 hx⟩
              · intro p' hp'
                rcases List.mem_append.1 hp' with hp' | hp'
                · exact hre2 p' hp'
                · simp at hp'; subst hp'; exact hst g8'
              · exact fun z' hz' hq => List.mem_append_left _ (hcl2 z' hz' hq)
              · exact fun _ => by simp
            · simp only [Bool.not_eq_false', decide_eq_true_eq] at g9
              exact ⟨hj1, s2, ⟨rfl, rfl, rfl, rfl⟩, done _ ⟨ext, hext⟩ hnd2 hre2 hcl2 (fun _ => g9)⟩
          · have g8' : ¬ nf ≥ 0 := of_decide_eq_false g8
            exact ⟨hj1, s2, ⟨rfl, rfl, rfl, rfl⟩, done _ ⟨ext, hext⟩ hnd2 hre2 hcl2 (fun q => absurd q g8')⟩
        · have hj1 := ix_ff g7 (by simp) hj (by omega)
          rw [hj1, List.take_length] at hcl2
          have hk' : k < a.length * b.length := by have : s.length ≤ s2.length := by rw [hext]; simp
                                                   omega
          refine ⟨hk', s2, ⟨rfl, rfl, rfl, rfl⟩, hnd2, hre2, by rw [hext]; exact List.mem_append_left _ h00, by rw [hext]; simp; omega, fun i p' hi hp' => ?_⟩
          have hp'' : s[i]? = some p' := by rw [hext, List.getElem?_append_left (by omega)] at hp'; exact hp'
          by_cases hik : i = k
          · subst hik
            rw [hp] at hp''; cases hp''
            exact ⟨by rw [hsx, hsy]; exact hok, fun z hz hq => by rw [hsx] at hz; rw [hsy] at hq ⊢; exact hcl2 z hz hq⟩
          · obtain ⟨q1, q2⟩ := hdn i p' (by omega) hp''
            exact ⟨q1, fun z hz hq => by rw [hext]; exact List.mem_append_left _ (q2 z hz hq)⟩
  · have hk1 := ix_ff g1 (by simp) hks (by omega)
    have : subB a b = true := by
      rw [subB_true]
      have hall : ∀ p, Reach a b p → p ∈ s := by
        intro p hp
        induction hp with
        | start => exact h00
        | step p q z _ hz hn ih =>
          obtain ⟨i, hi⟩ := List.getElem?_of_mem ih
          exact (hdn i (p, q) (by have := (List.getElem?_eq_some_iff.1 hi).1; omega) hi).2 z hz hn
      intro p hp
      obtain ⟨i, hi⟩ := List.getElem?_of_mem (hall p hp)
      exact (hdn i p (by have := (List.getElem?_eq_some_iff.1 hi).1; omega) hi).1
    rw [this]; exact .inl rfl

theorem same_spec (a b : List St) (ha : ∀ s ∈ a, s.brs.length < 9223372036854775807) (hb : ∀ s ∈ b, s.brs.length < 9223372036854775807) :
    APure Try.prog 11 [.p (.sl 2 (a.map eS)), .p (.sl 2 (b.map eS))] (.tup [.p (.b (bif (subF a b).2 != 0 then false else (subF a b).1 && (subF b a).1)), .p (.i .i64 (subF a b).2)]) := by
  have h1 := sub_spec a b ha hb
  have h2 := sub_spec b a hb ha
  generalize (subF a b).1 = r1 at h1
  generalize (subF a b).2 = e1 at h1
  generalize (subF b a).1 = r2 at h2
  generalize (subF b a).2 = e2 at h2
  refine APure.intro (tyOf_ok Try.prog) hmix Try.func11 rfl (by rfl) (by kernel_rfl) (by show 2 ≤ _; decide) rfl ?_
  conv => whnf
  refine apc h1 ?_
  conv => whnf
  refine asplit ?_ ?_ <;> intro g1 <;> conv => whnf
  · rw [g1]; exact .inl rfl
  have e0 : e1 = 0 := by simpa using g1
  subst e0
  refine apc h2 ?_
  conv => whnf
  refine asplit ?_ ?_ <;> intro g2 <;> conv => whnf
  · rw [g2]; exact .inl rfl
  · rw [g2]; exact .inl rfl
end SE
