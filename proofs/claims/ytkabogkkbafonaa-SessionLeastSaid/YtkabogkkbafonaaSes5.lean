/-
  DERIVED. Contracts of the functions that the law reaches, and the law itself, for every input. No conditions.
-/
import Derived.Test.YtkabogkkbafonaaSes4
open Go Go.AM Go.Proofs
namespace SE
/-! THE PLAIN LAWS -/
theorem covers_iff {a b : St} : coversF a b = true ↔ ∀ x ∈ b.brs, nextF a.brs x.msg ≥ 0 := by
  unfold coversF
  rw [Bool.not_eq_true', List.any_eq_false]
  refine forall_congr' fun x => forall_congr' fun _ => ?_
  simp
theorem okP_iff {x y : St} : okP x y = true ↔ x.kind = y.kind ∧ (x.kind = 1 → coversF y x = true) ∧ (x.kind = 2 → coversF x y = true) := by
  unfold okP
  simp only [Bool.not_eq_true', Bool.or_eq_false_iff, bne_eq_false_iff_eq, Bool.and_eq_false_iff, Bool.not_eq_false', beq_eq_false_iff_ne]
  constructor
  · rintro ⟨h1, h2, h3⟩
    exact ⟨h1, fun q => h2.resolve_left (fun n => n q), fun q => h3.resolve_left (fun n => n q)⟩
  · rintro ⟨h1, h2, h3⟩
    refine ⟨h1, ?_, ?_⟩
    · by_cases q : x.kind = 1
      · exact .inr (h2 q)
      · exact .inl q
    · by_cases q : x.kind = 2
      · exact .inr (h3 q)
      · exact .inl q

/-- both have a message: then both go on -/
theorem Reach.both {a b : List St} (va : Vs a) (vb : Vs b) {p q m : Int} (h : Reach a b (p, q)) (h1 : nextF (stAt a p).brs m ≥ 0) (h2 : nextF (stAt b q).brs m ≥ 0) : Reach a b (nextF (stAt a p).brs m, nextF (stAt b q).brs m) := by
  obtain ⟨z, hz, rfl, hn⟩ := next_in h1
  have := Reach.step p q z h hz h2
  rwa [hn] at this

theorem sub_refl {a : List St} (va : Vs a) : SubP a a := by
  have diag : ∀ p, Reach a a p → p.1 = p.2 := by
    intro p hp
    induction hp with
    | start => rfl
    | step p q z h hz hn ih =>
      simp only at ih ⊢
      subst ih
      have hin := reach_in va va h
      obtain ⟨_, _, _, _, hs⟩ := va.st _ (va.at hin.1 hin.2.1).1
      exact (next_of hs hz).symm
  intro p hp
  have := diag p hp
  obtain ⟨p, q⟩ := p
  simp only at this
  subst this
  have hin := reach_in va va hp
  obtain ⟨_, _, _, hb, hs⟩ := va.st _ (va.at hin.1 hin.2.1).1
  have hc : coversF (stAt a p) (stAt a p) = true := covers_iff.2 fun x hx => by rw [next_of hs hx]; exact (hb x hx).1
  exact okP_iff.2 ⟨rfl, fun _ => hc, fun _ => hc⟩

theorem sub_trans {a b c : List St} (va : Vs a) (vb : Vs b) (vc : Vs c) (h1 : SubP a b) (h2 : SubP b c) : SubP a c := by
  have mid : ∀ p, Reach a c p → ∃ y, Reach a b (p.1, y) ∧ Reach b c (y, p.2) := by
    intro p hp
    induction hp with
    | start => exact ⟨0, .start, .start⟩
    | step p q z h hz hn ih =>
      obtain ⟨y, r1, r2⟩ := ih
      simp only at r1 r2 ⊢
      have i1 := reach_in va vb r1
      have i2 := reach_in vb vc r2
      obtain ⟨k0, k3, _, hbx, hsx⟩ := va.st _ (va.at i1.1 i1.2.1).1
      obtain ⟨o1, o2, o3⟩ := okP_iff.1 (h1 _ r1)
      obtain ⟨o4, o5, o6⟩ := okP_iff.1 (h2 _ r2)
      simp only at o1 o2 o3 o4 o5 o6
      have hy : nextF (stAt b y).brs z.msg ≥ 0 := by
        rcases k0 with k | k | k
        · exact covers_iff.1 (o2 k) z hz
        · obtain ⟨z', hz', hm', _⟩ := next_in hn
          have := covers_iff.1 (o6 (by rw [← o1]; exact k)) z' hz'
          rwa [hm'] at this
        · rw [k3.1 k] at hz; cases hz
      refine ⟨nextF (stAt b y).brs z.msg, ?_, Reach.both vb vc r2 hy hn⟩
      exact Reach.step p y z r1 hz hy
  intro p hp
  obtain ⟨y, r1, r2⟩ := mid p hp
  obtain ⟨o1, o2, o3⟩ := okP_iff.1 (h1 _ r1)
  obtain ⟨o4, o5, o6⟩ := okP_iff.1 (h2 _ r2)
  simp only at o1 o2 o3 o4 o5 o6
  refine okP_iff.2 ⟨o1.trans o4, fun k => covers_iff.2 fun x hx => ?_, fun k => covers_iff.2 fun x hx => ?_⟩
  · have := covers_iff.1 (o2 k) x hx
    obtain ⟨z, hz, hm, _⟩ := next_in this
    have := covers_iff.1 (o5 (by rw [← o1]; exact k)) z hz
    rwa [hm] at this
  · have := covers_iff.1 (o6 (by rw [← o1]; exact k)) x hx
    obtain ⟨z, hz, hm, _⟩ := next_in this
    have := covers_iff.1 (o3 k) z hz
    rwa [hm] at this

theorem stAt_dual (l : List St) (i : Int) : stAt (l.map dualS) i = dualS (stAt l i) := by
  unfold stAt
  rw [List.getElem?_map]
  cases l[i.toNat]? with
  | none => rfl
  | some s => rfl
theorem dual_reach {a b : List St} (va : Vs a) (vb : Vs b) {p : Int × Int} (h : Reach (b.map dualS) (a.map dualS) p) : Reach a b (p.2, p.1) := by
  induction h with
  | start => exact .start
  | step p q z h hz hn ih =>
    simp only at ih ⊢
    rw [stAt_dual] at hz hn ⊢
    have hz' : z ∈ (stAt b p).brs := hz
    have hn' : nextF (stAt a q).brs z.msg ≥ 0 := hn
    have i1 := reach_in va vb ih
    obtain ⟨_, _, _, hb, hs⟩ := vb.st _ (vb.at i1.2.2.1 i1.2.2.2).1
    have e : nextF (stAt b p).brs z.msg = z.nxt := next_of hs hz'
    have := Reach.both va vb ih hn' (by rw [e]; exact (hb z hz').1)
    rw [e] at this; exact this
theorem dual_dual {s : St} (h : s.kind = 1 ∨ s.kind = 2 ∨ s.kind = 3) : dualS (dualS s) = s := by
  obtain ⟨k, b⟩ := s
  simp only at h
  rcases h with rfl | rfl | rfl <;> rfl
theorem duals {l : List St} (v : Vs l) : (l.map dualS).map dualS = l := by
  rw [List.map_map]
  conv => rhs; rw [← List.map_id l]
  exact List.map_congr_left fun s hs => dual_dual (v.st s hs).1
theorem vs_dual {l : List St} (v : Vs l) : Vs (l.map dualS) := by
  refine ⟨by simpa using v.len, fun s hs => ?_⟩
  obtain ⟨s0, h0, rfl⟩ := List.mem_map.1 hs
  obtain ⟨k1, k2, k3, k4, k5⟩ := v.st s0 h0
  refine ⟨?_, ?_, k3, by simpa [dualS] using k4, k5⟩
  · rcases k1 with k | k | k <;> simp [dualS, dualK, k]
  · rw [show (dualS s0).brs = s0.brs from rfl, ← k2]
    rcases k1 with k | k | k <;> simp [dualS, dualK, k]
theorem okP_dual {x y : St} (hx : x.kind = 1 ∨ x.kind = 2 ∨ x.kind = 3) (h : okP x y = true) : okP (dualS y) (dualS x) = true := by
  obtain ⟨o1, o2, o3⟩ := okP_iff.1 h
  refine okP_iff.2 ⟨by simp [dualS, o1], fun k => ?_, fun k => ?_⟩
  · have : x.kind = 2 := by rw [o1] at hx ⊢; rcases hx with q | q | q <;> simp [dualS, dualK, q] at k; exact q
    exact o3 this
  · have : x.kind = 1 := by rw [o1] at hx ⊢; rcases hx with q | q | q <;> simp [dualS, dualK, q] at k; exact q
    exact o2 this
theorem sub_dual1 {a b : List St} (va : Vs a) (vb : Vs b) (h : SubP a b) : SubP (b.map dualS) (a.map dualS) := by
  intro p hp
  have hr := dual_reach va vb hp
  have i1 := reach_in va vb hr
  rw [stAt_dual, stAt_dual]
  exact okP_dual (va.st _ (va.at i1.1 i1.2.1).1).1 (h _ hr)
theorem sub_dual {a b : List St} (va : Vs a) (vb : Vs b) : subB a b = subB (b.map dualS) (a.map dualS) := by
  rw [Bool.eq_iff_iff, subB_true, subB_true]
  refine ⟨sub_dual1 va vb, fun h => ?_⟩
  have := sub_dual1 (vs_dual vb) (vs_dual va) h
  rwa [duals va, duals vb] at this

theorem subF_bad (a b : List St) : (subF a b).2 ≠ 0 → (subF a b).1 = false := by
  unfold subF
  cases chkF a != 0 with
  | true => exact fun _ => rfl
  | false =>
    cases chkF b != 0 with
    | true => exact fun _ => rfl
    | false => exact fun q => absurd rfl q
theorem subF_ok {a b : List St} (ha : chkF a = 0) (hb : chkF b = 0) : subF a b = (subB a b, 0) := by
  unfold subF; rw [ha, hb]; rfl

theorem order_spec (a b c : List St) (fa : Fit a) (fb : Fit b) (fc : Fit c) : APure Try.prog 4 [.p (.sl 2 (a.map eS)), .p (.sl 2 (b.map eS)), .p (.sl 2 (c.map eS))] (.p (.b true)) := by
  have la : ∀ s ∈ a, s.brs.length < 9223372036854775807 := fun s hs => by have := fa s hs; omega
  have lb : ∀ s ∈ b, s.brs.length < 9223372036854775807 := fun s hs => by have := fb s hs; omega
  have lc : ∀ s ∈ c, s.brs.length < 9223372036854775807 := fun s hs => by have := fc s hs; omega
  have h1 := sub_spec a b la lb
  have h2 := sub_spec b c lb lc
  have h3 := sub_spec a c la lc
  have h4 := same_spec a a la la
  have h5 := check_spec a la
  have h6 := check_spec b lb
  have h7 := check_spec c lc
  have b1 := subF_bad a b
  have b2 := subF_bad b c
  have law : chkF a = 0 → chkF b = 0 → chkF c = 0 → (subF a b).2 = 0 ∧ (subF b c).2 = 0 ∧ (subF a c).2 = 0 ∧ (subF a a).2 = 0 ∧ (subF a a).1 = true ∧ ((subF a b).1 = true → (subF b c).1 = true → (subF a c).1 = true) := by
    intro q1 q2 q3
    rw [subF_ok q1 q2, subF_ok q2 q3, subF_ok q1 q3, subF_ok q1 q1]
    have va := chk_vs q1
    have vb := chk_vs q2
    have vc := chk_vs q3
    refine ⟨rfl, rfl, rfl, rfl, subB_true.2 (sub_refl va), fun r1 r2 => ?_⟩
    exact subB_true.2 (sub_trans va vb vc (subB_true.1 r1) (subB_true.1 r2))
  generalize (subF a b).1 = ab at h1 b1 law
  generalize (subF a b).2 = e1 at h1 b1 law
  generalize (subF b c).1 = bc at h2 b2 law
  generalize (subF b c).2 = e2 at h2 b2 law
  generalize (subF a c).1 = ac at h3 law
  generalize (subF a c).2 = e3 at h3 law
  generalize (subF a a).1 = aa at h4 law
  generalize (subF a a).2 = e4 at h4 law
  generalize chkF a = ca at h5 law
  generalize chkF b = cb at h6 law
  generalize chkF c = cc at h7 law
  refine APure.intro (tyOf_ok Try.prog) hmix Try.func4 rfl (by rfl) (by kernel_rfl) (by show 3 ≤ _; decide) rfl ?_
  conv => whnf
  refine apc sessions_spec ?_
  conv => whnf
  refine apc h1 ?_
  conv => whnf
  refine apc h2 ?_
  conv => whnf
  refine apc h3 ?_
  conv => whnf
  refine apc h4 ?_
  conv => whnf
  refine apc h5 ?_
  conv => whnf
  have bad : (ab = true → e1 = 0) ∧ (bc = true → e2 = 0) := by
    refine ⟨fun q => Classical.byContradiction fun n => ?_, fun q => Classical.byContradiction fun n => ?_⟩
    · rw [b1 n] at q; cases q
    · rw [b2 n] at q; cases q
  refine asplit ?_ ?_ <;> intro g1 <;> conv => whnf
  · obtain ⟨z1, z2⟩ := bad
    cases ab with
    | false =>
      conv => whnf
      cases bc with
      | false => conv => whnf
                 exact .inl rfl
      | true => rw [z2 rfl]
                conv => whnf
                exact .inl rfl
    | true =>
      rw [z1 rfl]
      conv => whnf
      cases bc with
      | false => conv => whnf
                 exact .inl rfl
      | true => rw [z2 rfl]
                conv => whnf
                exact .inl rfl
  refine apc h6 ?_
  conv => whnf
  refine asplit ?_ ?_ <;> intro g2 <;> conv => whnf
  · obtain ⟨z1, z2⟩ := bad
    cases ab with
    | false =>
      conv => whnf
      cases bc with
      | false => conv => whnf
                 exact .inl rfl
      | true => rw [z2 rfl]
                conv => whnf
                exact .inl rfl
    | true =>
      rw [z1 rfl]
      conv => whnf
      cases bc with
      | false => conv => whnf
                 exact .inl rfl
      | true => rw [z2 rfl]
                conv => whnf
                exact .inl rfl
  refine apc h7 ?_
  conv => whnf
  refine asplit ?_ ?_ <;> intro g3 <;> conv => whnf
  · obtain ⟨z1, z2⟩ := bad
    cases ab with
    | false =>
      conv => whnf
      cases bc with
      | false => conv => whnf
                 exact .inl rfl
      | true => rw [z2 rfl]
                conv => whnf
                exact .inl rfl
    | true =>
      rw [z1 rfl]
      conv => whnf
      cases bc with
      | false => conv => whnf
                 exact .inl rfl
      | true => rw [z2 rfl]
                conv => whnf
                exact .inl rfl
  obtain ⟨r1, r2, r3, r4, r5, r6⟩ := law (by simpa using g1) (by simpa using g2) (by simpa using g3)
  subst r1; subst r2; subst r3; subst r4; subst r5
  cases ab with
  | false =>
    conv => whnf
    exact .inl rfl
  | true =>
    cases bc with
    | false =>
      conv => whnf
      exact .inl rfl
    | true =>
      rw [r6 rfl rfl]
      conv => whnf
      exact .inl rfl

theorem dualLaw_spec (a b : List St) (fa : Fit a) (fb : Fit b) : APure Try.prog 5 [.p (.sl 2 (a.map eS)), .p (.sl 2 (b.map eS))] (.p (.b true)) := by
  have la : ∀ s ∈ a, s.brs.length < 9223372036854775807 := fun s hs => by have := fa s hs; omega
  have lb : ∀ s ∈ b, s.brs.length < 9223372036854775807 := fun s hs => by have := fb s hs; omega
  have h1 := dual_spec a fa
  have h2 := dual_spec b fb
  have d1 : dualF a = bif chkF a != 0 then ([], chkF a) else (a.map dualS, 0) := rfl
  have d2 : dualF b = bif chkF b != 0 then ([], chkF b) else (b.map dualS, 0) := rfl
  by_cases ca : chkF a = 0
  · by_cases cb : chkF b = 0
    · have e1 : dualF a = (a.map dualS, 0) := by rw [d1, ca]; rfl
      have e2 : dualF b = (b.map dualS, 0) := by rw [d2, cb]; rfl
      rw [e1] at h1
      rw [e2] at h2
      have va := chk_vs ca
      have vb := chk_vs cb
      have fa' : Fit (a.map dualS) := fun s hs => by obtain ⟨s0, hs0, rfl⟩ := List.mem_map.1 hs; exact fa s0 hs0
      have la' : ∀ s ∈ a.map dualS, s.brs.length < 9223372036854775807 := fun s hs => by have := fa' s hs; omega
      have lb' : ∀ s ∈ b.map dualS, s.brs.length < 9223372036854775807 := fun s hs => by obtain ⟨s0, hs0, rfl⟩ := List.mem_map.1 hs; exact lb s0 hs0
      have ca' := chkF_dual a ca
      have cb' := chkF_dual b cb
      have h3 := dual_spec (a.map dualS) fa'
      have e3 : dualF (a.map dualS) = (a, 0) := by
        have : dualF (a.map dualS) = bif chkF (a.map dualS) != 0 then ([], chkF (a.map dualS)) else ((a.map dualS).map dualS, 0) := rfl
        rw [this, ca', duals va]; rfl
      rw [e3] at h3
      have h4 := sub_spec a b la lb
      have h5 := sub_spec (b.map dualS) (a.map dualS) lb' la'
      rw [subF_ok ca cb] at h4
      rw [subF_ok cb' ca', ← sub_dual va vb] at h5
      have h6 := sameSession_spec a a (by have := va.len; omega) la
      rw [(sameF_iff a a).2 rfl] at h6
      generalize subB a b = r at h4 h5
      refine APure.intro (tyOf_ok Try.prog) hmix Try.func5 rfl (by rfl) (by kernel_rfl) (by show 2 ≤ _; decide) rfl ?_
      conv => whnf
      refine apc sessions_spec ?_
      conv => whnf
      refine apc h1 ?_
      conv => whnf
      refine apc h2 ?_
      conv => whnf
      refine apc h3 ?_
      conv => whnf
      refine apc h4 ?_
      conv => whnf
      refine apc h5 ?_
      conv => whnf
      refine apc h6 ?_
      conv => whnf
      exact .inl (pb (by simp))
    · have e2 : dualF b = ([], chkF b) := by rw [d2]; have : (chkF b != 0) = true := by simpa using cb
                                             rw [this]; rfl
      rw [e2] at h2
      have e1 : dualF a = (a.map dualS, 0) := by rw [d1, ca]; rfl
      rw [e1] at h1
      generalize chkF b = c at h2 cb
      refine APure.intro (tyOf_ok Try.prog) hmix Try.func5 rfl (by rfl) (by kernel_rfl) (by show 2 ≤ _; decide) rfl ?_
      conv => whnf
      refine apc sessions_spec ?_
      conv => whnf
      refine apc h1 ?_
      conv => whnf
      refine apc h2 ?_
      conv => whnf
      have cb' : (c != 0) = true := by simpa using cb
      refine ast cb' ?_
      conv => whnf
      refine ast cb' ?_
      conv => whnf
      exact .inl rfl
  · have e1 : dualF a = ([], chkF a) := by rw [d1]; have : (chkF a != 0) = true := by simpa using ca
                                           rw [this]; rfl
    rw [e1] at h1
    generalize chkF a = c at h1 ca
    generalize (dualF b).1 = x2 at h2
    generalize (dualF b).2 = y2 at h2
    refine APure.intro (tyOf_ok Try.prog) hmix Try.func5 rfl (by rfl) (by kernel_rfl) (by show 2 ≤ _; decide) rfl ?_
    conv => whnf
    refine apc sessions_spec ?_
    conv => whnf
    refine apc h1 ?_
    conv => whnf
    refine apc h2 ?_
    conv => whnf
    have ca' : (c != 0) = true := by simpa using ca
    refine ast ca' ?_
    conv => whnf
    refine ast ca' ?_
    conv => whnf
    exact .inl rfl
end SE
