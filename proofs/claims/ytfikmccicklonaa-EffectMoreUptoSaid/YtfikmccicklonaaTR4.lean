/-
  DERIVED. Contracts of the functions that the law reaches, and the law itself, for every input. No conditions.
-/
import Derived.Test.YtfikmccicklonaaTR3
open Go Go.AM Go.Proofs
set_option maxRecDepth 100000
namespace TR
/-- slices.Clone of expressions -/
theorem cloneE_spec (l : List Ex) (h : l.length ≤ 1048576) : APure Try.prog 44 [.p (.sl 8 (eEs l))] (.so 8 (eEs l)) := by
  cases l with
  | nil =>
    refine APure.nilOrNot (pre := []) (post := []) (sz := 8) ?_ ?_
    · refine APure.intro (tyOf_ok Try.prog) hmix Try.func44 rfl (by rfl) (by kernel_rfl) (by show 1 ≤ _; decide) rfl ?_
      conv => whnf
      exact .inl rfl
    · refine APure.intro (tyOf_ok Try.prog) hmix Try.func44 rfl (by rfl) (by kernel_rfl) (by show 1 ≤ _; decide) rfl ?_
      conv => whnf
      refine aneed (by decide) ?_
      conv => whnf
      exact .inl rfl
  | cons a r =>
    refine APure.intro (tyOf_ok Try.prog) hmix Try.func44 rfl (by rfl) (by kernel_rfl) (by show 1 ≤ _; decide) rfl ?_
    conv => whnf
    refine aneed (show (([] : List PV).length + (eEs (a :: r)).length) * 136 ≤ 140737488355328 by rw [eEs_len]; simp at h ⊢; omega) ?_
    conv => whnf
    exact .inl rfl

/-- Parts -/
def partsF (e : Ex) : List Ex := e.args ++ e.arms.map Arm.body
theorem parts_spec (e : Ex) (he : wE e ≤ 1048576) : APure Try.prog 25 [.p (eE e)] (.p (.sl 8 (eEs (partsF e)))) := by
  obtain ⟨k0, n0, t0, ns0, ts0, as0, ms0, p0⟩ := e
  have hl := wE_lens k0 n0 t0 ns0 ts0 as0 ms0 p0
  have hcl := cloneE_spec as0 (by omega)
  refine APure.intro (tyOf_ok Try.prog) hmix Try.func25 rfl (by rfl) (by kernel_rfl) (by show 1 ≤ _; decide) rfl ?_
  conv => whnf
  refine apc hcl ?_
  conv => whnf
  refine loopS (tyOf_ok _) hmix (by kernel_rfl) ms0.length [3, 10, 11, 12] [] (fun k (s : List Ex) => [.so 8 (eEs s), .p (.sl 12 (eAs ms0)), .p (.i .i64 (eAs ms0).length), .p (.i .i64 (ix k))]) (fun _ _ => []) (fun k s => s = as0 ++ (ms0.map Arm.body).take k) as0 ⟨rfl, rfl, rfl, rfl⟩ (by simp) ?_
  intro k s hk hs
  have hsl : s.length ≤ 2097152 := by rw [hs]; simp; omega
  conv => whnf
  refine asplit ?_ ?_ <;> intro h1 <;> conv => whnf
  · have hk1 := ix_tt h1 (by rw [eAs_len]) hk (by omega)
    obtain ⟨b, hb1⟩ : ∃ b, ms0[k]? = some b := ⟨ms0[k], by simp [hk1]⟩
    refine aidxk (eAs_get hb1) (by omega) ?_
    have hb2 : (ms0.map Arm.body)[k]? = some b.body := by rw [List.getElem?_map, hb1]; rfl
    have hts := take_snoc hb2
    obtain ⟨⟨ck, cn, ct, ca⟩, ⟨c1, c2, c3, c4, c5, c6, c7, c8⟩⟩ := b
    conv => whnf
    refine aneed (show ((eEs s).length + 1) * 136 ≤ 140737488355328 by rw [eEs_len]; omega) ?_
    conv => whnf
    refine ⟨hk1, s ++ [Ex.mk c1 c2 c3 c4 c5 c6 c7 c8], ⟨rfl, ?_, rfl, rfl⟩, by rw [hts, hs]; simp [Arm.body]⟩
    rw [eEs_app]; rfl
  · have hk1 := ix_ff h1 (by rw [eAs_len]) hk (by omega)
    have hs2 : s = partsF (Ex.mk k0 n0 t0 ns0 ts0 as0 ms0 p0) := by rw [hs, hk1, List.take_of_length_le (by simp)]; rfl
    subst hs2
    exact .inr (.inl rfl)

def fnV : AV := .fn 46 [] [.ptr 1000000000 0, .ptr 1000000001 0]
def WalkS (e : Ex) : Prop := ∀ xs : List Ex, xs.length + (walkF e).length ≤ 1048576 → AMem Try.prog 46 [.p (eE e), .ptr 1000000000 0, .ptr 1000000001 0] [(1000000000, .cells [.al false 1000000002 8 xs.length]), (1000000001, .cells [fnV]), (1000000002, .gr false 8 (eEs xs))] (.tup []) [(1000000000, .cells [.al false 12 8 (xs ++ walkF e).length]), (1000000001, .cells [fnV]), (1000000002, .dead), (12, .gr false 8 (eEs (xs ++ walkF e)))]
theorem walk1_all (e : Ex) (he : wE e ≤ 1048576) (ih1 : ∀ a ∈ e.args, WalkS a) (ih2 : ∀ a ∈ e.arms, WalkS a.body) : WalkS e := by
  intro xs hxs
  obtain ⟨k0, n0, t0, ns0, ts0, as0, ms0, p0⟩ := e
  have hl := wE_lens k0 n0 t0 ns0 ts0 as0 ms0 p0
  simp only [Ex.args, Ex.arms] at ih1 ih2
  have hWe : walkF (Ex.mk k0 n0 t0 ns0 ts0 as0 ms0 p0) = Ex.mk k0 n0 t0 ns0 ts0 as0 ms0 p0 :: (walkFs as0 ++ walkFs (ms0.map Arm.body)) := by rw [walkF, walkFa_map]
  rw [hWe] at hxs ⊢
  simp only [List.length_cons, List.length_append] at hxs
  refine AMem.intro (tyOf_ok Try.prog) hmix Try.func46 rfl (by rfl) (by kernel_rfl) (by show 3 ≤ _; decide) rfl ?_
  conv => whnf
  refine aneed (show xs.length = (eEs xs).length ∧ ((eEs xs).length + 1) * 136 ≤ 140737488355328 from ⟨by rw [eEs_len], by rw [eEs_len]; omega⟩) ?_
  conv => whnf
  refine aneed ⟨by omega, by simp⟩ ?_
  conv => whnf
  refine aneed (by simp [eEs_len]) ?_
  conv => whnf
  refine aneed (by kernel_rfl) ?_
  conv => whnf
  refine loopR (tyOf_ok _) hmix (by kernel_rfl) 12 10012 as0.length [1, 2, 3, 15, 16, 17] [1000000000, 1000000001, 1000000002, 12, 3] (fun k (s : List Ex) => [.ptr 1000000000 0, .ptr 1000000001 0, .ptr 3 0, .p (.sl 8 (eEs as0)), .p (.i .i64 (eEs as0).length), .p (.i .i64 (ix k))])
    (fun k s => [.cells [.al false 12 8 s.length], .cells [fnV], .dead, .gr false 8 (eEs s), .cells [.p (.i .i64 k0), .p (.i .i64 n0), .p (.s t0), .p (.sl 1 (ns0.map eStr)), .p (.sl 3 (eTs ts0)), .p (.sl 8 (eEs as0)), .p (.sl 12 (eAs ms0)), .p (.i .i64 p0)]]) (fun k s => s = xs ++ [Ex.mk k0 n0 t0 ns0 ts0 as0 ms0 p0] ++ walkFs (as0.take k)) (xs ++ [Ex.mk k0 n0 t0 ns0 ts0 as0 ms0 p0]) ⟨?_, rfl, rfl, rfl⟩ (by simp [walkFs]) ?_
  · show _ = [some (AObj.cells [.al false 12 8 (xs ++ [Ex.mk k0 n0 t0 ns0 ts0 as0 ms0 p0]).length]), some (AObj.cells [fnV]), some AObj.dead, some (AObj.gr false 8 (eEs (xs ++ [Ex.mk k0 n0 t0 ns0 ts0 as0 ms0 p0]))), _]
    rw [show eEs (xs ++ [Ex.mk k0 n0 t0 ns0 ts0 as0 ms0 p0]) = (eEs xs ++ [eE (Ex.mk 0 0 ⟨#[]⟩ [] [] [] [] 0)]).set xs.length (eE (Ex.mk k0 n0 t0 ns0 ts0 as0 ms0 p0)) by rw [eEs_app, ← eEs_len xs]; simp [eEs], List.length_append]
    rfl
  intro k s hk hs
  conv => whnf
  refine asplit ?_ ?_ <;> intro h1 <;> conv => whnf
  · have hk1 := ix_tt h1 (by rw [eEs_len]) hk (by omega)
    obtain ⟨b, hb1⟩ : ∃ b, as0[k]? = some b := ⟨as0[k], by simp [hk1]⟩
    refine aidxk (eEs_get hb1) (by omega) ?_
    have hts : walkFs (as0.take (k + 1)) = walkFs (as0.take k) ++ walkF b := by rw [take_snoc hb1, walkFs_app]; simp [walkFs]
    have htl : (walkFs (as0.take (k + 1))).length ≤ (walkFs as0).length := by
      have := walkFs_app (as0.take (k + 1)) (as0.drop (k + 1))
      rw [List.take_append_drop] at this; rw [this]; simp
    have hc := ih1 b (List.mem_of_getElem? hb1) s (by rw [hs]; rw [hts] at htl; simp at htl ⊢; omega)
    generalize walkF b = wb at hc hts
    obtain ⟨b1, b2, b3, b4, b5, b6, b7, b8⟩ := b
    conv => whnf
    refine amc [1000000000, 1000000001, 12] 10000 hc ?_
    conv => whnf
    refine ⟨hk1, s ++ wb, ⟨rfl, rfl, rfl, rfl, rfl⟩, ?_⟩
    rw [hts, hs]; simp
  · have hk1 := ix_ff h1 (by rw [eEs_len]) hk (by omega)
    have hs2 : s = xs ++ [Ex.mk k0 n0 t0 ns0 ts0 as0 ms0 p0] ++ walkFs as0 := by rw [hs, hk1, List.take_length]
    refine loopR (tyOf_ok _) hmix (by kernel_rfl) 12 10012 ms0.length [1, 2, 3, 26, 27, 28] [1000000000, 1000000001, 1000000002, 12, 3] (fun k (s : List Ex) => [.ptr 1000000000 0, .ptr 1000000001 0, .ptr 3 0, .p (.sl 12 (eAs ms0)), .p (.i .i64 (eAs ms0).length), .p (.i .i64 (ix k))])
      (fun k s => [.cells [.al false 12 8 s.length], .cells [fnV], .dead, .gr false 8 (eEs s), .cells [.p (.i .i64 k0), .p (.i .i64 n0), .p (.s t0), .p (.sl 1 (ns0.map eStr)), .p (.sl 3 (eTs ts0)), .p (.sl 8 (eEs as0)), .p (.sl 12 (eAs ms0)), .p (.i .i64 p0)]]) (fun k s => s = xs ++ [Ex.mk k0 n0 t0 ns0 ts0 as0 ms0 p0] ++ walkFs as0 ++ walkFs ((ms0.map Arm.body).take k)) s ⟨rfl, rfl, rfl, rfl⟩ (by simp [walkFs, hs2]) ?_
    intro j s3 hj hs3
    conv => whnf
    refine asplit ?_ ?_ <;> intro h2 <;> conv => whnf
    · have hj1 := ix_tt h2 (by rw [eAs_len]) hj (by omega)
      obtain ⟨b, hb1⟩ : ∃ b, ms0[j]? = some b := ⟨ms0[j], by simp [hj1]⟩
      refine aidxk (eAs_get hb1) (by omega) ?_
      have hb2 : (ms0.map Arm.body)[j]? = some b.body := by rw [List.getElem?_map, hb1]; rfl
      have hts : walkFs ((ms0.map Arm.body).take (j + 1)) = walkFs ((ms0.map Arm.body).take j) ++ walkF b.body := by rw [take_snoc hb2, walkFs_app]; simp [walkFs]
      have htl : (walkFs ((ms0.map Arm.body).take (j + 1))).length ≤ (walkFs (ms0.map Arm.body)).length := by
        have := walkFs_app ((ms0.map Arm.body).take (j + 1)) ((ms0.map Arm.body).drop (j + 1))
        rw [List.take_append_drop] at this; rw [this]; simp
      have hc := ih2 b (List.mem_of_getElem? hb1) s3 (by rw [hs3]; rw [hts] at htl; simp at htl ⊢; omega)
      generalize walkF b.body = wb at hc hts
      obtain ⟨⟨ck, cn, ct, ca⟩, ⟨c1, c2, c3, c4, c5, c6, c7, c8⟩⟩ := b
      conv => whnf
      refine amc [1000000000, 1000000001, 12] 10000 hc ?_
      conv => whnf
      refine ⟨hj1, s3 ++ wb, ⟨rfl, rfl, rfl, rfl, rfl⟩, ?_⟩
      rw [hts, hs3]; simp
    · have hj1 := ix_ff h2 (by rw [eAs_len]) hj (by omega)
      have hs4 : s3 = xs ++ (Ex.mk k0 n0 t0 ns0 ts0 as0 ms0 p0 :: (walkFs as0 ++ walkFs (ms0.map Arm.body))) := by rw [hs3, hj1, List.take_of_length_le (by simp)]; simp
      subst hs4
      exact ⟨.inl rfl, ⟨.inl rfl, trivial⟩, ⟨.inl rfl, trivial⟩, trivial, ⟨rfl, rfl, rfl⟩, trivial⟩

theorem walk1n_spec (e : Ex) (he : wE e ≤ 1048576) (ih1 : ∀ a ∈ e.args, WalkS a) (ih2 : ∀ a ∈ e.arms, WalkS a.body) (hxs : (walkF e).length ≤ 1048576) : AMem Try.prog 46 [.p (eE e), .ptr 1000000000 0, .ptr 1000000001 0] [(1000000000, .cells [.nilS]), (1000000001, .cells [fnV])] (.tup []) [(1000000000, .cells [.al false 12 8 (walkF e).length]), (1000000001, .cells [fnV]), (12, .gr false 8 (eEs (walkF e)))] := by
  obtain ⟨k0, n0, t0, ns0, ts0, as0, ms0, p0⟩ := e
  have hl := wE_lens k0 n0 t0 ns0 ts0 as0 ms0 p0
  simp only [Ex.args, Ex.arms] at ih1 ih2
  have hWe : walkF (Ex.mk k0 n0 t0 ns0 ts0 as0 ms0 p0) = Ex.mk k0 n0 t0 ns0 ts0 as0 ms0 p0 :: (walkFs as0 ++ walkFs (ms0.map Arm.body)) := by rw [walkF, walkFa_map]
  rw [hWe] at hxs ⊢
  simp only [List.length_cons, List.length_append] at hxs
  refine AMem.intro ((tyOf_ok Try.prog).hint 34 [12]) hmix Try.func46 rfl (by rfl) (by kernel_rfl) (by show 3 ≤ _; decide) rfl ?_
  conv => whnf
  refine aneed (show 1 * 136 ≤ 140737488355328 by decide) ?_
  conv => whnf
  refine aneed ⟨by omega, by decide⟩ ?_
  conv => whnf
  refine aneed (by decide) ?_
  conv => whnf
  refine aneed (by kernel_rfl) ?_
  conv => whnf
  refine loopR (tyOf_ok _) hmix (by kernel_rfl) 12 10012 as0.length [1, 2, 3, 15, 16, 17] [1000000000, 1000000001, 12, 3] (fun k (s : List Ex) => [.ptr 1000000000 0, .ptr 1000000001 0, .ptr 3 0, .p (.sl 8 (eEs as0)), .p (.i .i64 (eEs as0).length), .p (.i .i64 (ix k))])
    (fun k s => [.cells [.al false 12 8 s.length], .cells [fnV], .gr false 8 (eEs s), .cells [.p (.i .i64 k0), .p (.i .i64 n0), .p (.s t0), .p (.sl 1 (ns0.map eStr)), .p (.sl 3 (eTs ts0)), .p (.sl 8 (eEs as0)), .p (.sl 12 (eAs ms0)), .p (.i .i64 p0)]]) (fun k s => s = ([] : List Ex) ++ [Ex.mk k0 n0 t0 ns0 ts0 as0 ms0 p0] ++ walkFs (as0.take k)) (([] : List Ex) ++ [Ex.mk k0 n0 t0 ns0 ts0 as0 ms0 p0]) ⟨?_, rfl, rfl, rfl⟩ (by simp [walkFs]) ?_
  · show _ = [some (AObj.cells [.al false 12 8 (([] : List Ex) ++ [Ex.mk k0 n0 t0 ns0 ts0 as0 ms0 p0]).length]), some (AObj.cells [fnV]), some (AObj.gr false 8 (eEs (([] : List Ex) ++ [Ex.mk k0 n0 t0 ns0 ts0 as0 ms0 p0]))), _]
    rfl
  intro k s hk hs
  conv => whnf
  refine asplit ?_ ?_ <;> intro h1 <;> conv => whnf
  · have hk1 := ix_tt h1 (by rw [eEs_len]) hk (by omega)
    obtain ⟨b, hb1⟩ : ∃ b, as0[k]? = some b := ⟨as0[k], by simp [hk1]⟩
    refine aidxk (eEs_get hb1) (by omega) ?_
    have hts : walkFs (as0.take (k + 1)) = walkFs (as0.take k) ++ walkF b := by rw [take_snoc hb1, walkFs_app]; simp [walkFs]
    have htl : (walkFs (as0.take (k + 1))).length ≤ (walkFs as0).length := by
      have := walkFs_app (as0.take (k + 1)) (as0.drop (k + 1))
      rw [List.take_append_drop] at this; rw [this]; simp
    have hc := ih1 b (List.mem_of_getElem? hb1) s (by rw [hs]; rw [hts] at htl; simp at htl ⊢; omega)
    generalize walkF b = wb at hc hts
    obtain ⟨b1, b2, b3, b4, b5, b6, b7, b8⟩ := b
    conv => whnf
    refine amc [1000000000, 1000000001, 12] 10000 hc ?_
    conv => whnf
    refine ⟨hk1, s ++ wb, ⟨rfl, rfl, rfl, rfl, rfl⟩, ?_⟩
    rw [hts, hs]; simp
  · have hk1 := ix_ff h1 (by rw [eEs_len]) hk (by omega)
    have hs2 : s = ([] : List Ex) ++ [Ex.mk k0 n0 t0 ns0 ts0 as0 ms0 p0] ++ walkFs as0 := by rw [hs, hk1, List.take_length]
    refine loopR (tyOf_ok _) hmix (by kernel_rfl) 12 10012 ms0.length [1, 2, 3, 26, 27, 28] [1000000000, 1000000001, 12, 3] (fun k (s : List Ex) => [.ptr 1000000000 0, .ptr 1000000001 0, .ptr 3 0, .p (.sl 12 (eAs ms0)), .p (.i .i64 (eAs ms0).length), .p (.i .i64 (ix k))])
      (fun k s => [.cells [.al false 12 8 s.length], .cells [fnV], .gr false 8 (eEs s), .cells [.p (.i .i64 k0), .p (.i .i64 n0), .p (.s t0), .p (.sl 1 (ns0.map eStr)), .p (.sl 3 (eTs ts0)), .p (.sl 8 (eEs as0)), .p (.sl 12 (eAs ms0)), .p (.i .i64 p0)]]) (fun k s => s = ([] : List Ex) ++ [Ex.mk k0 n0 t0 ns0 ts0 as0 ms0 p0] ++ walkFs as0 ++ walkFs ((ms0.map Arm.body).take k)) s ⟨rfl, rfl, rfl, rfl⟩ (by simp [walkFs, hs2]) ?_
    intro j s3 hj hs3
    conv => whnf
    refine asplit ?_ ?_ <;> intro h2 <;> conv => whnf
    · have hj1 := ix_tt h2 (by rw [eAs_len]) hj (by omega)
      obtain ⟨b, hb1⟩ : ∃ b, ms0[j]? = some b := ⟨ms0[j], by simp [hj1]⟩
      refine aidxk (eAs_get hb1) (by omega) ?_
      have hb2 : (ms0.map Arm.body)[j]? = some b.body := by rw [List.getElem?_map, hb1]; rfl
      have hts : walkFs ((ms0.map Arm.body).take (j + 1)) = walkFs ((ms0.map Arm.body).take j) ++ walkF b.body := by rw [take_snoc hb2, walkFs_app]; simp [walkFs]
      have htl : (walkFs ((ms0.map Arm.body).take (j + 1))).length ≤ (walkFs (ms0.map Arm.body)).length := by
        have := walkFs_app ((ms0.map Arm.body).take (j + 1)) ((ms0.map Arm.body).drop (j + 1))
        rw [List.take_append_drop] at this; rw [this]; simp
      have hc := ih2 b (List.mem_of_getElem? hb1) s3 (by rw [hs3]; rw [hts] at htl; simp at htl ⊢; omega)
      generalize walkF b.body = wb at hc hts
      obtain ⟨⟨ck, cn, ct, ca⟩, ⟨c1, c2, c3, c4, c5, c6, c7, c8⟩⟩ := b
      conv => whnf
      refine amc [1000000000, 1000000001, 12] 10000 hc ?_
      conv => whnf
      refine ⟨hj1, s3 ++ wb, ⟨rfl, rfl, rfl, rfl, rfl⟩, ?_⟩
      rw [hts, hs3]; simp
    · have hj1 := ix_ff h2 (by rw [eAs_len]) hj (by omega)
      have hs4 : s3 = (Ex.mk k0 n0 t0 ns0 ts0 as0 ms0 p0 :: (walkFs as0 ++ walkFs (ms0.map Arm.body))) := by rw [hs3, hj1, List.take_of_length_le (by simp)]; simp
      subst hs4
      exact ⟨.inl rfl, ⟨.inl rfl, trivial⟩, ⟨.inl rfl, trivial⟩, ⟨rfl, rfl, rfl⟩, trivial⟩

theorem walk1_spec (e : Ex) : wE e ≤ 1048576 → WalkS e :=
  Ex.ind (Q := fun e => wE e ≤ 1048576 → WalkS e) (fun k n t ns ts xs ms p h1 h2 h => walk1_all (.mk k n t ns ts xs ms p) h (fun a ha => h1 a ha (by have := wE_args (k := k) (n := n) (t := t) (ns := ns) (ts := ts) (ms := ms) (p := p) (show a ∈ xs from ha); omega))
    (fun a ha => h2 a ha (by have := wE_body (k := k) (n := n) (t := t) (ns := ns) (ts := ts) (xs := xs) (p := p) (show a ∈ ms from ha); omega))) e

/-- Walk -/
theorem walk_spec (e : Ex) (he : wE e ≤ 1048576) : APure Try.prog 27 [.p (eE e)] (.p (.sl 8 (eEs (walkF e)))) := by
  have hw := walk_le e
  have hs := size_le e
  have h1 := walk1n_spec e he (fun a ha => walk1_spec a (by obtain ⟨k, n, t, ns, ts, xs, ms, p⟩ := e; have := wE_args (k := k) (n := n) (t := t) (ns := ns) (ts := ts) (ms := ms) (p := p) (show a ∈ xs from ha); omega))
    (fun a ha => walk1_spec a.body (by obtain ⟨k, n, t, ns, ts, xs, ms, p⟩ := e; have := wE_body (k := k) (n := n) (t := t) (ns := ns) (ts := ts) (xs := xs) (p := p) (show a ∈ ms from ha); omega)) (by omega)
  generalize walkF e = W at h1
  obtain ⟨k0, n0, t0, ns0, ts0, as0, ms0, p0⟩ := e
  refine APure.intro (tyOf_ok Try.prog) hmix Try.func27 rfl (by rfl) (by kernel_rfl) (by show 1 ≤ _; decide) rfl ?_
  conv => whnf
  refine amc [3, 4] 10000 h1 ?_
  conv => whnf
  exact .inr (.inr ⟨rfl, ⟨by rw [eEs_len], trivial⟩⟩)
end TR

