/-
  DERIVED. Contracts of the functions that the law reaches, and the law itself, for every input. No conditions.
-/
import Derived.Test.YtbggmlepkjbbhaaDoorTR1
open Go Go.AM Go.Proofs
set_option maxRecDepth 100000
namespace TR
/-- slices.Clone of expressions -/
def partsF (e : Ex) : List Ex := e.args ++ e.arms.map Arm.body
def fnV : AV := .fn 39 [] [.ptr 1000000000 0, .ptr 1000000001 0]
def WalkS (e : Ex) : Prop := ∀ xs : List Ex, xs.length + (walkF e).length ≤ 1048576 → AMem Tryd.prog 39 [.p (eE e), .ptr 1000000000 0, .ptr 1000000001 0] [(1000000000, .cells [.al false 1000000002 8 xs.length]), (1000000001, .cells [fnV]), (1000000002, .gr false 8 (eEs xs))] (.tup []) [(1000000000, .cells [.al false 12 8 (xs ++ walkF e).length]), (1000000001, .cells [fnV]), (1000000002, .dead), (12, .gr false 8 (eEs (xs ++ walkF e)))]
theorem walk1_all (e : Ex) (he : wE e ≤ 1048576) (ih1 : ∀ a ∈ e.args, WalkS a) (ih2 : ∀ a ∈ e.arms, WalkS a.body) : WalkS e := by
  intro xs hxs
  obtain ⟨k0, n0, t0, ns0, ts0, as0, ms0, p0⟩ := e
  have hl := wE_lens k0 n0 t0 ns0 ts0 as0 ms0 p0
  simp only [Ex.args, Ex.arms] at ih1 ih2
  have hWe : walkF (Ex.mk k0 n0 t0 ns0 ts0 as0 ms0 p0) = Ex.mk k0 n0 t0 ns0 ts0 as0 ms0 p0 :: (walkFs as0 ++ walkFs (ms0.map Arm.body)) := by rw [walkF, walkFa_map]
  rw [hWe] at hxs ⊢
  simp only [List.length_cons, List.length_append] at hxs
  refine AMem.intro (tyOf_ok Tryd.prog) hmix Tryd.func39 rfl (by rfl) (by kernel_rfl) (by show 3 ≤ _; decide) rfl ?_
  conv => whnf
  refine aneed (show xs.length = (eEs xs).length ∧ ((eEs xs).length + 1) * 136 ≤ 140737488355328 from ⟨by rw [eEs_len], by rw [eEs_len]; omega⟩) ?_
  conv => whnf
  refine aneed ⟨by omega, by simp⟩ ?_
  conv => whnf
  refine aneed (by simp [eEs_len]) ?_
  conv => whnf
  refine aneed (by kernel_rfl) ?_
  conv => whnf
  refine loopR (tyOf_ok _) hmix (by kernel_rfl) 12 10012 as0.length [1, 2, 3, 15, 16, 17] [1000000000, 1000000001, 1000000002, 12, 3] (fun k (s : List Ex) => [.ptr 1000000000 0, .ptr 1000000001 0, .ptr 3 0, .p (.sl 8 (eEs as0)), .p (.i .i64 (eEs as0).length), .p (.i .i64 (ix k))])
    (fun k s => [.cells [.al false 12 8 s.length], .cells [fnV], .dead, .gr false 8 (eEs s), .cells [.p (.i .i64 k0), .p (.i .i64 n0), .p (.s t0), .p (.sl 1 (ns0.map eStr)), .p (.sl 3 (eTs ts0)), .p (.sl 8 (eEs as0)), .p (.sl 12 (eAs ms0)), .p (.i .i64 p0)]]) (fun k s => s = xs ++ [Ex.mk k0 n0 t0 ns0 ts0 as0 ms0 p0] ++ walkFs (as0.take k)) (xs ++ [Ex.mk k0 n0 t0 ns0 ts0 as0 ms0 p0]) ⟨?_, rfl, rfl, rfl⟩ (by simp [walkFs]) ?_
  · show _ = [some (AObj.cells [.al false 12 8 (xs ++ [Ex.mk k0 n0 t0 ns0 ts0 as0 ms0 p0]).length]), some (AObj.cells [fnV]), some AObj.dead, some (AObj.gr false 8 (eEs (xs ++ [Ex.mk k0 n0 t0 ns0 ts0 as0 ms0 p0]))), _]
    rw [show eEs (xs ++ [Ex.mk k0 n0 t0 ns0 ts0 as0 ms0 p0]) = (eEs xs ++ [eE (Ex.mk 0 0 ⟨#[]⟩ [] [] [] [] 0)]).set xs.length (eE (Ex.mk k0 n0 t0 ns0 ts0 as0 ms0 p0)) by rw [eEs_app, ← eEs_len xs]; simp [eEs], List.length_append]
    rfl
  intro k s hk hs
  conv => whnf
  refine asplit ?_ ?_ <;> intro h1 <;> conv => whnf
  · have hk1 := ix_tt h1 (by rw [eEs_len]) hk (by omega)
    obtain ⟨b, hb1⟩ : ∃ b, as0[k]? = some b := ⟨as0[k], by simp [hk1]⟩
    refine aidxk (eEs_get hb1) (by omega) ?_
    have hts : walkFs (as0.take (k + 1)) = walkFs (as0.take k) ++ walkF b := by rw [take_snoc hb1, walkFs_app]; simp [walkFs]
    have htl : (walkFs (as0.take (k + 1))).length ≤ (walkFs as0).length := by
      have := walkFs_app (as0.take (k + 1)) (as0.drop (k + 1))
      rw [List.take_append_drop] at this; rw [this]; simp
    have hc := ih1 b (List.mem_of_getElem? hb1) s (by rw [hs]; rw [hts] at htl; simp at htl ⊢; omega)
    generalize walkF b = wb at hc hts
    obtain ⟨b1, b2, b3, b4, b5, b6, b7, b8⟩ := b
    conv => whnf
    refine amc [1000000000, 1000000001, 12] 10000 hc ?_
    conv => whnf
    refine ⟨hk1, s ++ wb, ⟨rfl, rfl, rfl, rfl, rfl⟩, ?_⟩
    rw [hts, hs]; simp
  · have hk1 := ix_ff h1 (by rw [eEs_len]) hk (by omega)
    have hs2 : s = xs ++ [Ex.mk k0 n0 t0 ns0 ts0 as0 ms0 p0] ++ walkFs as0 := by rw [hs, hk1, List.take_length]
    refine loopR (tyOf_ok _) hmix (by kernel_rfl) 12 10012 ms0.length [1, 2, 3, 26, 27, 28] [1000000000, 1000000001, 1000000002, 12, 3] (fun k (s : List Ex) => [.ptr 1000000000 0, .ptr 1000000001 0, .ptr 3 0, .p (.sl 12 (eAs ms0)), .p (.i .i64 (eAs ms0).length), .p (.i .i64 (ix k))])
      (fun k s => [.cells [.al false 12 8 s.length], .cells [fnV], .dead, .gr false 8 (eEs s), .cells [.p (.i .i64 k0), .p (.i .i64 n0), .p (.s t0), .p (.sl 1 (ns0.map eStr)), .p (.sl 3 (eTs ts0)), .p (.sl 8 (eEs as0)), .p (.sl 12 (eAs ms0)), .p (.i .i64 p0)]]) (fun k s => s = xs ++ [Ex.mk k0 n0 t0 ns0 ts0 as0 ms0 p0] ++ walkFs as0 ++ walkFs ((ms0.map Arm.body).take k)) s ⟨rfl, rfl, rfl, rfl⟩ (by simp [walkFs, hs2]) ?_
    intro j s3 hj hs3
    conv => whnf
    refine asplit ?_ ?_ <;> intro h2 <;> conv => whnf
    · have hj1 := ix_tt h2 (by rw [eAs_len]) hj (by omega)
      obtain ⟨b, hb1⟩ : ∃ b, ms0[j]? = some b := ⟨ms0[j], by simp [hj1]⟩
      refine aidxk (eAs_get hb1) (by omega) ?_
      have hb2 : (ms0.map Arm.body)[j]? = some b.body := by rw [List.getElem?_map, hb1]; rfl
      have hts : walkFs ((ms0.map Arm.body).take (j + 1)) = walkFs ((ms0.map Arm.body).take j) ++ walkF b.body := by rw [take_snoc hb2, walkFs_app]; simp [walkFs]
      have htl : (walkFs ((ms0.map Arm.body).take (j + 1))).length ≤ (walkFs (ms0.map Arm.body)).length := by
        have := walkFs_app ((ms0.map Arm.body).take (j + 1)) ((ms0.map Arm.body).drop (j + 1))
        rw [List.take_append_drop] at this; rw [this]; simp
      have hc := ih2 b (List.mem_of_getElem? hb1) s3 (by rw [hs3]; rw [hts] at htl; simp at htl ⊢; omega)
      generalize walkF b.body = wb at hc hts
      obtain ⟨⟨ck, cn, ct, ca⟩, ⟨c1, c2, c3, c4, c5, c6, c7, c8⟩⟩ := b
      conv => whnf
      refine amc [1000000000, 1000000001, 12] 10000 hc ?_
      conv => whnf
      refine ⟨hj1, s3 ++ wb, ⟨rfl, rfl, rfl, rfl, rfl⟩, ?_⟩
      rw [hts, hs3]; simp
    · have hj1 := ix_ff h2 (by rw [eAs_len]) hj (by omega)
      have hs4 : s3 = xs ++ (Ex.mk k0 n0 t0 ns0 ts0 as0 ms0 p0 :: (walkFs as0 ++ walkFs (ms0.map Arm.body))) := by rw [hs3, hj1, List.take_of_length_le (by simp)]; simp
      subst hs4
      exact ⟨.inl rfl, ⟨.inl rfl, trivial⟩, ⟨.inl rfl, trivial⟩, trivial, ⟨rfl, rfl, rfl⟩, trivial⟩

theorem walk1n_spec (e : Ex) (he : wE e ≤ 1048576) (ih1 : ∀ a ∈ e.args, WalkS a) (ih2 : ∀ a ∈ e.arms, WalkS a.body) (hxs : (walkF e).length ≤ 1048576) : AMem Tryd.prog 39 [.p (eE e), .ptr 1000000000 0, .ptr 1000000001 0] [(1000000000, .cells [.nilS]), (1000000001, .cells [fnV])] (.tup []) [(1000000000, .cells [.al false 12 8 (walkF e).length]), (1000000001, .cells [fnV]), (12, .gr false 8 (eEs (walkF e)))] := by
  obtain ⟨k0, n0, t0, ns0, ts0, as0, ms0, p0⟩ := e
  have hl := wE_lens k0 n0 t0 ns0 ts0 as0 ms0 p0
  simp only [Ex.args, Ex.arms] at ih1 ih2
  have hWe : walkF (Ex.mk k0 n0 t0 ns0 ts0 as0 ms0 p0) = Ex.mk k0 n0 t0 ns0 ts0 as0 ms0 p0 :: (walkFs as0 ++ walkFs (ms0.map Arm.body)) := by rw [walkF, walkFa_map]
  rw [hWe] at hxs ⊢
  simp only [List.length_cons, List.length_append] at hxs
  refine AMem.intro ((tyOf_ok Tryd.prog).hint 38 [12]) hmix Tryd.func39 rfl (by rfl) (by kernel_rfl) (by show 3 ≤ _; decide) rfl ?_
  conv => whnf
  refine aneed (show 1 * 136 ≤ 140737488355328 by decide) ?_
  conv => whnf
  refine aneed ⟨by omega, by decide⟩ ?_
  conv => whnf
  refine aneed (by decide) ?_
  conv => whnf
  refine aneed (by kernel_rfl) ?_
  conv => whnf
  refine loopR (tyOf_ok _) hmix (by kernel_rfl) 12 10012 as0.length [1, 2, 3, 15, 16, 17] [1000000000, 1000000001, 12, 3] (fun k (s : List Ex) => [.ptr 1000000000 0, .ptr 1000000001 0, .ptr 3 0, .p (.sl 8 (eEs as0)), .p (.i .i64 (eEs as0).length), .p (.i .i64 (ix k))])
    (fun k s => [.cells [.al false 12 8 s.length], .cells [fnV], .gr false 8 (eEs s), .cells [.p (.i .i64 k0), .p (.i .i64 n0), .p (.s t0), .p (.sl 1 (ns0.map eStr)), .p (.sl 3 (eTs ts0)), .p (.sl 8 (eEs as0)), .p (.sl 12 (eAs ms0)), .p (.i .i64 p0)]]) (fun k s => s = ([] : List Ex) ++ [Ex.mk k0 n0 t0 ns0 ts0 as0 ms0 p0] ++ walkFs (as0.take k)) (([] : List Ex) ++ [Ex.mk k0 n0 t0 ns0 ts0 as0 ms0 p0]) ⟨?_, rfl, rfl, rfl⟩ (by simp [walkFs]) ?_
  · show _ = [some (AObj.cells [.al false 12 8 (([] : List Ex) ++ [Ex.mk k0 n0 t0 ns0 ts0 as0 ms0 p0]).length]), some (AObj.cells [fnV]), some (AObj.gr false 8 (eEs (([] : List Ex) ++ [Ex.mk k0 n0 t0 ns0 ts0 as0 ms0 p0]))), _]
    rfl
  intro k s hk hs
  conv => whnf
  refine asplit ?_ ?_ <;> intro h1 <;> conv => whnf
  · have hk1 := ix_tt h1 (by rw [eEs_len]) hk (by omega)
    obtain ⟨b, hb1⟩ : ∃ b, as0[k]? = some b := ⟨as0[k], by simp [hk1]⟩
    refine aidxk (eEs_get hb1) (by omega) ?_
    have hts : walkFs (as0.take (k + 1)) = walkFs (as0.take k) ++ walkF b := by rw [take_snoc hb1, walkFs_app]; simp [walkFs]
    have htl : (walkFs (as0.take (k + 1))).length ≤ (walkFs as0).length := by
      have := walkFs_app (as0.take (k + 1)) (as0.drop (k + 1))
      rw [List.take_append_drop] at this; rw [this]; simp
    have hc := ih1 b (List.mem_of_getElem? hb1) s (by rw [hs]; rw [hts] at htl; simp at htl ⊢; omega)
    generalize walkF b = wb at hc hts
    obtain ⟨b1, b2, b3, b4, b5, b6, b7, b8⟩ := b
    conv => whnf
    refine amc [1000000000, 1000000001, 12] 10000 hc ?_
    conv => whnf
    refine ⟨hk1, s ++ wb, ⟨rfl, rfl, rfl, rfl, rfl⟩, ?_⟩
    rw [hts, hs]; simp
  · have hk1 := ix_ff h1 (by rw [eEs_len]) hk (by omega)
    have hs2 : s = ([] : List Ex) ++ [Ex.mk k0 n0 t0 ns0 ts0 as0 ms0 p0] ++ walkFs as0 := by rw [hs, hk1, List.take_length]
    refine loopR (tyOf_ok _) hmix (by kernel_rfl) 12 10012 ms0.length [1, 2, 3, 26, 27, 28] [1000000000, 1000000001, 12, 3] (fun k (s : List Ex) => [.ptr 1000000000 0, .ptr 1000000001 0, .ptr 3 0, .p (.sl 12 (eAs ms0)), .p (.i .i64 (eAs ms0).length), .p (.i .i64 (ix k))])
      (fun k s => [.cells [.al false 12 8 s.length], .cells [fnV], .gr false 8 (eEs s), .cells [.p (.i .i64 k0), .p (.i .i64 n0), .p (.s t0), .p (.sl 1 (ns0.map eStr)), .p (.sl 3 (eTs ts0)), .p (.sl 8 (eEs as0)), .p (.sl 12 (eAs ms0)), .p (.i .i64 p0)]]) (fun k s => s = ([] : List Ex) ++ [Ex.mk k0 n0 t0 ns0 ts0 as0 ms0 p0] ++ walkFs as0 ++ walkFs ((ms0.map Arm.body).take k)) s ⟨rfl, rfl, rfl, rfl⟩ (by simp [walkFs, hs2]) ?_
    intro j s3 hj hs3
    conv => whnf
    refine asplit ?_ ?_ <;> intro h2 <;> conv => whnf
    · have hj1 := ix_tt h2 (by rw [eAs_len]) hj (by omega)
      obtain ⟨b, hb1⟩ : ∃ b, ms0[j]? = some b := ⟨ms0[j], by simp [hj1]⟩
      refine aidxk (eAs_get hb1) (by omega) ?_
      have hb2 : (ms0.map Arm.body)[j]? = some b.body := by rw [List.getElem?_map, hb1]; rfl
      have hts : walkFs ((ms0.map Arm.body).take (j + 1)) = walkFs ((ms0.map Arm.body).take j) ++ walkF b.body := by rw [take_snoc hb2, walkFs_app]; simp [walkFs]
      have htl : (walkFs ((ms0.map Arm.body).take (j + 1))).length ≤ (walkFs (ms0.map Arm.body)).length := by
        have := walkFs_app ((ms0.map Arm.body).take (j + 1)) ((ms0.map Arm.body).drop (j + 1))
        rw [List.take_append_drop] at this; rw [this]; simp
      have hc := ih2 b (List.mem_of_getElem? hb1) s3 (by rw [hs3]; rw [hts] at htl; simp at htl ⊢; omega)
      generalize walkF b.body = wb at hc hts
      obtain ⟨⟨ck, cn, ct, ca⟩, ⟨c1, c2, c3, c4, c5, c6, c7, c8⟩⟩ := b
      conv => whnf
      refine amc [1000000000, 1000000001, 12] 10000 hc ?_
      conv => whnf
      refine ⟨hj1, s3 ++ wb, ⟨rfl, rfl, rfl, rfl, rfl⟩, ?_⟩
      rw [hts, hs3]; simp
    · have hj1 := ix_ff h2 (by rw [eAs_len]) hj (by omega)
      have hs4 : s3 = (Ex.mk k0 n0 t0 ns0 ts0 as0 ms0 p0 :: (walkFs as0 ++ walkFs (ms0.map Arm.body))) := by rw [hs3, hj1, List.take_of_length_le (by simp)]; simp
      subst hs4
      exact ⟨.inl rfl, ⟨.inl rfl, trivial⟩, ⟨.inl rfl, trivial⟩, ⟨rfl, rfl, rfl⟩, trivial⟩

theorem walk1_spec (e : Ex) : wE e ≤ 1048576 → WalkS e :=
  Ex.ind (Q := fun e => wE e ≤ 1048576 → WalkS e) (fun k n t ns ts xs ms p h1 h2 h => walk1_all (.mk k n t ns ts xs ms p) h (fun a ha => h1 a ha (by have := wE_args (k := k) (n := n) (t := t) (ns := ns) (ts := ts) (ms := ms) (p := p) (show a ∈ xs from ha); omega))
    (fun a ha => h2 a ha (by have := wE_body (k := k) (n := n) (t := t) (ns := ns) (ts := ts) (xs := xs) (p := p) (show a ∈ ms from ha); omega))) e

/-- Walk -/
theorem walk_spec (e : Ex) (he : wE e ≤ 1048576) : APure Tryd.prog 8 [.p (eE e)] (.p (.sl 8 (eEs (walkF e)))) := by
  have hw := walk_le e
  have hs := size_le e
  have h1 := walk1n_spec e he (fun a ha => walk1_spec a (by obtain ⟨k, n, t, ns, ts, xs, ms, p⟩ := e; have := wE_args (k := k) (n := n) (t := t) (ns := ns) (ts := ts) (ms := ms) (p := p) (show a ∈ xs from ha); omega))
    (fun a ha => walk1_spec a.body (by obtain ⟨k, n, t, ns, ts, xs, ms, p⟩ := e; have := wE_body (k := k) (n := n) (t := t) (ns := ns) (ts := ts) (xs := xs) (p := p) (show a ∈ ms from ha); omega)) (by omega)
  generalize walkF e = W at h1
  obtain ⟨k0, n0, t0, ns0, ts0, as0, ms0, p0⟩ := e
  refine APure.intro (tyOf_ok Tryd.prog) hmix Tryd.func8 rfl (by rfl) (by kernel_rfl) (by show 1 ≤ _; decide) rfl ?_
  conv => whnf
  refine amc [3, 4] 10000 h1 ?_
  conv => whnf
  exact .inr (.inr ⟨rfl, ⟨by rw [eEs_len], trivial⟩⟩)
end TR

open Go Go.AM Go.Proofs
set_option maxRecDepth 100000
namespace TR
/-- Needs -/
def needsF (k n : Int) (len : Nat) : Int :=
  bif k == 1 || (k == 2 || (k == 3 || (k == 4 || (k == 5 || k == 16)))) then 0 else
  bif k == 10 || (k == 13 || (k == 19 || (k == 20 || (k == 21 || (k == 22 || (k == 24 || k == 25)))))) then 1 else
  bif k == 6 || (k == 15 || k == 23) then 2 else
  bif k == 7 then 3 else
  bif k == 18 then (bif decide (n ≥ 0) then 1 else 0) else
  bif k == 8 || (k == 9 || (k == 12 || (k == 14 || k == 17))) then len else
  bif k == 11 then (if (len : Int) < 1 then 1 else len) else -1
theorem needs_spec (e : Ex) : APure Tryd.prog 56 [.p (eE e)] (.p (.i .i64 (needsF e.kind e.num e.args.length))) := by
  obtain ⟨k0, n0, t0, ns0, ts0, as0, ms0, p0⟩ := e
  simp only [Ex.kind, Ex.num, Ex.args]
  refine APure.intro (tyOf_ok Tryd.prog) hmix Tryd.func56 rfl (by rfl) (by kernel_rfl) (by show 1 ≤ _; decide) rfl ?_
  by_cases hr : 1 ≤ k0 ∧ k0 ≤ 25
  · obtain rfl | rfl | rfl | rfl | rfl | rfl | rfl | rfl | rfl | rfl | rfl | rfl | rfl | rfl | rfl | rfl | rfl | rfl | rfl | rfl | rfl | rfl | rfl | rfl | rfl : k0 = 1 ∨ k0 = 2 ∨ k0 = 3 ∨ k0 = 4 ∨ k0 = 5 ∨ k0 = 6 ∨ k0 = 7 ∨ k0 = 8 ∨ k0 = 9 ∨ k0 = 10 ∨ k0 = 11 ∨ k0 = 12 ∨ k0 = 13 ∨ k0 = 14 ∨ k0 = 15 ∨ k0 = 16 ∨ k0 = 17 ∨ k0 = 18 ∨ k0 = 19 ∨ k0 = 20 ∨ k0 = 21 ∨ k0 = 22 ∨ k0 = 23 ∨ k0 = 24 ∨ k0 = 25 := by omega
    · conv => whnf
      exact .inl rfl
    · conv => whnf
      exact .inl rfl
    · conv => whnf
      exact .inl rfl
    · conv => whnf
      exact .inl rfl
    · conv => whnf
      exact .inl rfl
    · conv => whnf
      exact .inl rfl
    · conv => whnf
      exact .inl rfl
    · conv => whnf
      exact .inl (pi (by rw [eEs_len]; rfl))
    · conv => whnf
      exact .inl (pi (by rw [eEs_len]; rfl))
    · conv => whnf
      exact .inl rfl
    · conv => whnf
      exact .inl (pi (by rw [eEs_len]; rfl))
    · conv => whnf
      exact .inl (pi (by rw [eEs_len]; rfl))
    · conv => whnf
      exact .inl rfl
    · conv => whnf
      exact .inl (pi (by rw [eEs_len]; rfl))
    · conv => whnf
      exact .inl rfl
    · conv => whnf
      exact .inl rfl
    · conv => whnf
      exact .inl (pi (by rw [eEs_len]; rfl))
    · conv => whnf
      refine asplit ?_ ?_ <;> intro h <;> conv => whnf
      · exact .inl (pi (by show _ = (bif decide (n0 ≥ 0) then (1 : Int) else 0); rw [h]; rfl))
      · exact .inl (pi (by show _ = (bif decide (n0 ≥ 0) then (1 : Int) else 0); rw [h]; rfl))
    · conv => whnf
      exact .inl rfl
    · conv => whnf
      exact .inl rfl
    · conv => whnf
      exact .inl rfl
    · conv => whnf
      exact .inl rfl
    · conv => whnf
      exact .inl rfl
    · conv => whnf
      exact .inl rfl
    · conv => whnf
      exact .inl rfl
  · have hb : ∀ c : Int, 1 ≤ c → c ≤ 25 → (k0 == c) = false := fun c h1 h2 => by simp; omega
    conv => whnf
    iterate 25 (refine asf (hb _ (by decide) (by decide)) ?_; conv => whnf)
    exact .inl (pi (by rw [needsF]; simp only [hb 1 (by decide) (by decide), hb 2 (by decide) (by decide), hb 3 (by decide) (by decide), hb 4 (by decide) (by decide), hb 5 (by decide) (by decide), hb 6 (by decide) (by decide), hb 7 (by decide) (by decide), hb 8 (by decide) (by decide), hb 9 (by decide) (by decide), hb 10 (by decide) (by decide), hb 11 (by decide) (by decide), hb 12 (by decide) (by decide), hb 13 (by decide) (by decide), hb 14 (by decide) (by decide), hb 15 (by decide) (by decide), hb 16 (by decide) (by decide), hb 17 (by decide) (by decide), hb 18 (by decide) (by decide), hb 19 (by decide) (by decide), hb 20 (by decide) (by decide), hb 21 (by decide) (by decide), hb 22 (by decide) (by decide), hb 23 (by decide) (by decide), hb 24 (by decide) (by decide), hb 25 (by decide) (by decide), Bool.or_self, cond_false]))
mutual
def boundF : Pt → List ByteArray
  | .mk k _ t xs => bif k == 2 then [t] else bif k == 6 then boundFs xs else []
def boundFs : List Pt → List ByteArray
  | [] => []
  | p :: r => boundF p ++ boundFs r
end
theorem boundFs_app (l r : List Pt) : boundFs (l ++ r) = boundFs l ++ boundFs r := by
  induction l with
  | nil => simp [boundFs]
  | cons a l ih => simp [boundFs, ih]
theorem boundFs_snoc (l : List Pt) (p : Pt) : boundFs (l ++ [p]) = boundFs l ++ boundF p := by rw [boundFs_app]; simp [boundFs]
mutual
theorem bound_le : ∀ (p : Pt), (boundF p).length ≤ wP p
  | .mk k n t xs => by
    rw [boundF, wP_mk]
    have := bounds_le xs
    cases k == 2 <;> cases k == 6 <;> simp <;> omega
theorem bounds_le : ∀ (l : List Pt), (boundFs l).length ≤ PV.wts (ePs l)
  | [] => by simp [boundFs]
  | p :: r => by have h1 := bound_le p; have h2 := bounds_le r; unfold wP at h1; simp only [boundFs, ePs, PV.wts, List.length_append]; omega
end
theorem boundFs_take (l : List Pt) (k : Nat) : (boundFs (l.take k)).length ≤ (boundFs l).length := by
  have := boundFs_app (l.take k) (l.drop k)
  rw [List.take_append_drop] at this; rw [this]; simp
theorem bound_spec (p : Pt) : wP p ≤ 1048640 → APure Tryd.prog 58 [.p (eP p)] (.p (.sl 1 ((boundF p).map eStr))) := by
  induction p using Pt.ind with
  | h k0 n0 t0 as0 ih =>
  intro hw
  have hl := wP_lens k0 n0 t0 as0
  have hbl := bounds_le as0
  have hwm := wP_mk k0 n0 t0 as0
  rw [boundF]
  refine APure.intro (tyOf_ok Tryd.prog) hmix Tryd.func58 rfl (by rfl) (by kernel_rfl) (by show 1 ≤ _; decide) rfl ?_
  conv => whnf
  refine asplit ?_ ?_ <;> intro h1 <;> conv => whnf
  · have h1 : (k0 == 2) = true := h1
    rw [h1]
    exact .inr (.inl rfl)
  have h1 : (k0 == 2) = false := h1
  rw [h1]
  refine asplit ?_ ?_ <;> intro h2 <;> conv => whnf
  · have h2 : (k0 == 6) = true := h2
    rw [h2]
    refine lp_nil 3 0 rfl ?_
    refine loopS (tyOf_ok _) hmix (by kernel_rfl) as0.length [3, 16, 17, 18] [] (fun k (s : List ByteArray) => [.so 1 (s.map eStr), .p (.sl 4 (ePs as0)), .p (.i .i64 (ePs as0).length), .p (.i .i64 (ix k))]) (fun _ _ => []) (fun k s => s = boundFs (as0.take k)) [] ⟨rfl, rfl, rfl, rfl⟩ (by simp [boundFs]) ?_
    intro k s hk hs
    conv => whnf
    refine asplit ?_ ?_ <;> intro h3 <;> conv => whnf
    · have hk1 := ix_tt h3 (by rw [ePs_len]) hk (by omega)
      obtain ⟨b, hb1⟩ : ∃ b, as0[k]? = some b := ⟨as0[k], by simp [hk1]⟩
      refine aidxk (ePs_get hb1) (by omega) ?_
      have hbw := wP_args (k := k0) (n := n0) (t := t0) (List.mem_of_getElem? hb1)
      have hc := ih b (List.mem_of_getElem? hb1) (by omega)
      have hts : boundFs (as0.take (k + 1)) = boundFs (as0.take k) ++ boundF b := by rw [take_snoc hb1, boundFs_snoc]
      have htl := boundFs_take as0 (k + 1)
      rw [hts, ← hs, List.length_append] at htl
      generalize boundF b = sb at hc hts htl
      obtain ⟨b1, b2, b3, b4⟩ := b
      conv => whnf
      refine apc hc ?_
      conv => whnf
      refine aneed (show ((s.map eStr).length + (sb.map eStr).length) * 16 ≤ 140737488355328 by simp; omega) ?_
      conv => whnf
      refine ⟨hk1, s ++ sb, ⟨rfl, ?_, rfl, rfl⟩, by rw [hs, hts]⟩
      rw [List.map_append]; rfl
    · have hk1 := ix_ff h3 (by rw [ePs_len]) hk (by omega)
      have hs2 : s = boundFs as0 := by rw [hs, hk1, List.take_length]
      subst hs2
      exact .inr (.inl rfl)
  · have h2 : (k0 == 6) = false := h2
    rw [h2]
    exact .inr (.inl rfl)

/-! the finder -/
structure St where
  seen : List (ByteArray × Bool)
  bound : List (ByteArray × Int)
  out : List ByteArray
def incF (m : List (ByteArray × Int)) (s : ByteArray) : List (ByteArray × Int) := sput s (IntKind.i64.wrap ((slook s m).getD 0 + 1)) m
def decF (m : List (ByteArray × Int)) (s : ByteArray) : List (ByteArray × Int) := sput s (IntKind.i64.wrap ((slook s m).getD 0 - 1)) m
def St.inc (σ : St) (ns : List ByteArray) : St := { σ with bound := ns.foldl incF σ.bound }
def St.dec (σ : St) (ns : List ByteArray) : St := { σ with bound := ns.foldl decF σ.bound }
def varF (t : ByteArray) (σ : St) : St := bif ((slook t σ.bound).getD 0 == 0) && !((slook t σ.seen).getD false) then ⟨sput t true σ.seen, σ.bound, σ.out ++ [t]⟩ else σ
mutual
def visitF : Ex → St → St
  | .mk k n t ns _ xs ms _, σ => bif decide (needsF k n xs.length < 0) then σ else bif decide ((xs.length : Int) < needsF k n xs.length) then visitFn xs.length xs σ else
      let σ1 := bif k == 5 then varF t σ else bif k == 6 then letFs t xs σ else bif k == 10 then funFs ns xs σ else visitFn (needsF k n xs.length).toNat xs σ
      bif k == 13 || k == 18 then armFs ms σ1 else σ1
def visitFn : Nat → List Ex → St → St
  | _, [], σ => σ
  | 0, _, σ => σ
  | n + 1, e :: r, σ => visitFn n r (visitF e σ)
def letFs (t : ByteArray) : List Ex → St → St
  | a :: b :: _, σ => (visitF b ((visitF a σ).inc [t])).dec [t]
  | _, σ => σ
def funFs (ns : List ByteArray) : List Ex → St → St
  | a :: _, σ => (visitF a (σ.inc ns)).dec ns
  | _, σ => σ
def armFs : List Arm → St → St
  | [], σ => σ
  | .mk p e :: r, σ => armFs r ((visitF e (σ.inc (boundF p))).dec (boundF p))
end
def underF (ns : List ByteArray) (e : Ex) (σ : St) : St := (visitF e (σ.inc ns)).dec ns

def hpS (σ : St) : Heap := [(1000000000, .cells [.mp 1000000001, .mp 1000000002, .so 1 (σ.out.map eStr)]), (1000000001, .map .ks (eM vB σ.seen)), (1000000002, .map .ks (eM vI σ.bound))]
def VisitS (e : Ex) : Prop := ∀ σ : St, σ.out.length + wE e ≤ 2097152 →
  AMem Tryd.prog 40 [.ptr 1000000000 0, .p (eE e)] (hpS σ) (.tup []) (hpS (visitF e σ))
def UnderS (ns : List ByteArray) (e : Ex) : Prop := ∀ σ : St, σ.out.length + wE e ≤ 2097152 →
  AMem Tryd.prog 57 [.ptr 1000000000 0, .p (.sl 1 (ns.map eStr)), .p (eE e)] (hpS σ) (.tup []) (hpS (underF ns e σ))
theorem under_of (ns : List ByteArray) (e : Ex) (hn : ns.length ≤ 1048640) (ih : VisitS e) : UnderS ns e := by
  intro σ hσ
  have hv := ih (σ.inc ns) hσ
  have hu : underF ns e σ = (visitF e (σ.inc ns)).dec ns := rfl
  rw [hu]
  generalize visitF e (σ.inc ns) = σ2 at hv
  obtain ⟨se, bo, ou⟩ := σ
  obtain ⟨se2, bo2, ou2⟩ := σ2
  obtain ⟨k0, n0, t0, ns0, ts0, as0, ms0, p0⟩ := e
  simp only [hpS, St.inc, St.dec] at hv ⊢
  refine AMem.intro (tyOf_ok Tryd.prog) hmix Tryd.func57 rfl (by rfl) (by kernel_rfl) (by show 3 ≤ _; decide) rfl ?_
  conv => whnf
  refine loopS (tyOf_ok _) hmix (by kernel_rfl) ns.length [0, 1, 5, 10, 11, 12] [1000000000, 1000000001, 1000000002, 5] (fun k (m : List (ByteArray × Int)) => [.ptr 1000000000 0, .p (.sl 1 (ns.map eStr)), .ptr 5 0, .p (.sl 1 (ns.map eStr)), .p (.i .i64 (ns.map eStr).length), .p (.i .i64 (ix k))])
    (fun k m => [.cells [.mp 1000000001, .mp 1000000002, .so 1 (ou.map eStr)], .map .ks (eM vB se), .map .ks (eM vI m), .cells [.p (.i .i64 k0), .p (.i .i64 n0), .p (.s t0), .p (.sl 1 (ns0.map eStr)), .p (.sl 3 (eTs ts0)), .p (.sl 8 (eEs as0)), .p (.sl 12 (eAs ms0)), .p (.i .i64 p0)]])
    (fun k m => m = (ns.take k).foldl incF bo) bo ⟨rfl, rfl, rfl, rfl⟩ rfl ?_
  intro k m hk hm
  conv => whnf
  refine asplit ?_ ?_ <;> intro h1 <;> conv => whnf
  · have hk1 := ix_tt h1 (by simp) hk (by omega)
    obtain ⟨b, hb1⟩ : ∃ b, ns[k]? = some b := ⟨ns[k], by simp [hk1]⟩
    refine aidxk (x := eStr b) (by simp [hb1]) (by omega) ?_
    conv => whnf
    refine alook (mlook_I b m) ?_
    conv => whnf
    refine ⟨hk1, incF m b, ⟨by rw [incF, ← mput_eM]; rfl, rfl, rfl, rfl⟩, ?_⟩
    rw [take_snoc hb1, List.foldl_append, ← hm]; rfl
  · have hk1 := ix_ff h1 (by simp) hk (by omega)
    have hm2 : m = ns.foldl incF bo := by rw [hm, hk1, List.take_length]
    subst hm2
    refine amc [1000000000, 1000000001, 1000000002] 10000 hv ?_
    conv => whnf
    refine loopS (tyOf_ok _) hmix (by kernel_rfl) ns.length [0, 27, 28, 29] [1000000000, 1000000001, 1000000002] (fun k (m : List (ByteArray × Int)) => [.ptr 1000000000 0, .p (.sl 1 (ns.map eStr)), .p (.i .i64 (ns.map eStr).length), .p (.i .i64 (ix k))])
      (fun k m => [.cells [.mp 1000000001, .mp 1000000002, .so 1 (ou2.map eStr)], .map .ks (eM vB se2), .map .ks (eM vI m)])
      (fun k m => m = (ns.take k).foldl decF bo2) bo2 ⟨rfl, rfl, rfl, rfl⟩ rfl ?_
    intro j m3 hj hm3
    conv => whnf
    refine asplit ?_ ?_ <;> intro h2 <;> conv => whnf
    · have hj1 := ix_tt h2 (by simp) hj (by omega)
      obtain ⟨b, hb1⟩ : ∃ b, ns[j]? = some b := ⟨ns[j], by simp [hj1]⟩
      refine aidxk (x := eStr b) (by simp [hb1]) (by omega) ?_
      conv => whnf
      refine alook (mlook_I b m3) ?_
      conv => whnf
      refine ⟨hj1, decF m3 b, ⟨by rw [decF, ← mput_eM]; rfl, rfl, rfl, rfl⟩, ?_⟩
      rw [take_snoc hb1, List.foldl_append, ← hm3]; rfl
    · have hj1 := ix_ff h2 (by simp) hj (by omega)
      have hm4 : m3 = ns.foldl decF bo2 := by rw [hm3, hj1, List.take_length]
      subst hm4
      exact ⟨.inl rfl, ⟨.inl rfl, .inl rfl, .inl rfl, trivial⟩, ⟨rfl, rfl⟩, ⟨rfl, rfl⟩, trivial⟩
end TR
