/-
  DERIVED. Contracts of the functions that the law reaches, and the law itself, for every input. No conditions.
-/
import Derived.Test.YtfikmccicklonaaEF4
open Go Go.AM Go.Proofs
set_option maxRecDepth 100000
namespace TR
def leastL (p : Pg) : List Nat := (funsF p).map (fun f => solF (solveF p).m (solveF p).a (ofF f.body))
theorem solve_facts (p : Pg) : Post ((funsF p).map eqF) (valsF (bodiesF p)) (solveF p) ∧ WF (solveF p) ∧ ∀ S, Post ((funsF p).map eqF) (valsF (bodiesF p)) S → Le (solveF p) S := by
  have h0 : WF (⟨[], 0⟩ : Sol) := ⟨fun _ => by simp [nv, slook], by decide⟩
  obtain ⟨h1, h2, h3⟩ := iter_post (fs := (funsF p).map eqF) (vs := valsF (bodiesF p)) (fun f hf => by obtain ⟨x, _, rfl⟩ := List.mem_map.1 hf; exact ofF_own _) (fun q hq => valsF_own hq) (127 * ((funsF p).length + 1) + 1) ⟨[], 0⟩ h0 (by simp; omega)
  refine ⟨h1, h2, fun S hS => h3 S hS ⟨fun k => ?_, ?_⟩⟩
  · simp [nv, slook, sub]
  · simp [sub]
theorem least_spec (p : Pg) (hp : wPg p ≤ 1048576) : APure Try.prog 13 [.p (ePg p)] (.tup [.p (.sl 1 ((leastL p).map vN)), .p (.i .i64 (solveF p).a)]) := by
  have h0 := solve_spec p hp
  have h1 := funsE_spec p hp
  have hwf := (solve_facts p).2.1
  have hF := funsF_wts p
  have hFl := fus_len (funsF p)
  have hfm : ∀ f ∈ funsF p, wE f.body ≤ wPg p := fun f hf => by
    have := map_mem eFu hf; rw [wFu] at this; omega
  rw [leastL]
  generalize solveF p = S at *
  generalize funsF p = F at *
  generalize wPg p = W0 at *
  obtain ⟨nm, ver, us, ds, ts, is, fs, acs⟩ := p
  obtain ⟨m, a⟩ := S
  simp only [hpV] at *
  refine APure.intro (tyOf_ok Try.prog) hmix Try.func13 rfl (by rfl) (by kernel_rfl) (by show 1 ≤ _; decide) rfl ?_
  conv => whnf
  refine amc [] 10000 h0 ?_
  conv => whnf
  refine apc h1 ?_
  conv => whnf
  refine lp_nil 5 0 rfl ?_
  refine loopS (tyOf_ok _) hmix (by kernel_rfl) F.length [4, 5, 11, 12, 13] [4, 10059] (fun k (s : List Nat) => [.ptr 4 0, .so 1 (s.map vN), .so 15 (F.map eFu), .p (.i .i64 (F.map eFu).length), .p (.i .i64 (ix k))])
    (fun _ _ => [.cells [.mp 10059, .p (.i .i64 a)], .map .ks (eM vN m)]) (fun k s => s = (F.take k).map (fun f => solF m a (ofF f.body))) [] ⟨rfl, rfl, rfl, rfl⟩ (by simp) ?_
  intro k s hk hs
  have hsl : s.length ≤ 1048576 := by rw [hs]; simp; omega
  conv => whnf
  refine asplit ?_ ?_ <;> intro g1 <;> conv => whnf
  · have hk1 := ix_tt g1 (by simp) hk (by omega)
    obtain ⟨b, hb1⟩ : ∃ b, F[k]? = some b := ⟨_, List.getElem?_eq_getElem hk1⟩
    refine aidxk (x := eFu b) (by simp [hb1]) (by omega) ?_
    have hbw := hfm b (List.mem_of_getElem? hb1)
    have hc := of_spec b.body (by omega)
    have hcl := calls_len b.body
    have hd := sol_spec m a (ofF b.body) hwf.1 hwf.2 (ofF_own _) (by show (callsF b.body).length ≤ _; omega)
    have hts : (F.take (k + 1)).map (fun f => solF m a (ofF f.body)) = s ++ [solF m a (ofF b.body)] := by rw [take_snoc hb1, List.map_append, hs]; rfl
    generalize ofF b.body = q at *
    generalize solF m a q = z at *
    obtain ⟨q1, q2, q3⟩ := q
    obtain ⟨a1, a2, a3, a4, a5, a6, a7, ⟨c1, c2, c3, c4, c5, c6, c7, c8⟩⟩ := b
    conv => whnf
    refine apc hc ?_
    conv => whnf
    refine amr [10059] 20000 hd ?_
    conv => whnf
    refine aneed (show ((s.map vN).length + 1) * 8 ≤ 140737488355328 by simp; omega) ?_
    conv => whnf
    refine aneed (by kernel_rfl) ?_
    conv => whnf
    refine ⟨hk1, s ++ [z], ⟨rfl, ?_, rfl, rfl⟩, hts.symm⟩
    rw [List.map_append]; rfl
  · have hk1 := ix_ff g1 (by simp) hk (by omega)
    rw [hk1, List.take_length] at hs
    rw [← hs]
    refine aneed (by kernel_rfl) ?_
    conv => whnf
    exact .inr (.inl rfl)
theorem body_spec (p : Pg) (hp : wPg p ≤ 1048576) (e : Ex) (he : wE e ≤ 1048576) : APure Try.prog 15 [.p (ePg p), .p (eE e)] (.p (.i .i64 (solF (solveF p).m (solveF p).a (ofF e)))) := by
  have h0 := solve_spec p hp
  have hwf := (solve_facts p).2.1
  have h1 := of_spec e he
  have hcl := calls_len e
  generalize solveF p = S at *
  obtain ⟨m, a⟩ := S
  have hd := sol_spec m a (ofF e) hwf.1 hwf.2 (ofF_own _) (by show (callsF e).length ≤ _; omega)
  simp only [hpV] at *
  generalize ofF e = q at *
  generalize solF m a q = z at *
  obtain ⟨q1, q2, q3⟩ := q
  clear hp hcl he
  obtain ⟨nm, ver, us, ds, ts, is, fs, acs⟩ := p
  obtain ⟨c1, c2, c3, c4, c5, c6, c7, c8⟩ := e
  refine APure.intro (tyOf_ok Try.prog) hmix Try.func15 rfl (by rfl) (by kernel_rfl) (by show 2 ≤ _; decide) rfl ?_
  conv => whnf
  refine amc [] 10000 h0 ?_
  conv => whnf
  refine apc h1 ?_
  conv => whnf
  refine amc [10059] 20000 hd ?_
  conv => whnf
  refine aneed (by kernel_rfl) ?_
  conv => whnf
  exact .inl rfl
def e2 : Ex := .mk 20 0 ⟨#[]⟩ [] [] [.mk 2 0 ⟨#[]⟩ [] [] [] [] 0] [] 0
theorem effects_spec : APure Try.prog 11 [] (.p (.b true)) := by
  have h := own_spec e2 (by decide +kernel)
  rw [show ownF e2 = 1 by decide +kernel] at h
  refine APure.intro (tyOf_ok Try.prog) hmix Try.func11 rfl (by rfl) (by kernel_rfl) (by show 0 ≤ _; decide) rfl ?_
  conv => whnf
  refine apc h ?_
  conv => whnf
  exact .inl rfl
def idxF (x : ByteArray) : List ByteArray → Nat → Int
  | [], _ => -1
  | a :: r, k => bif x == a then (k : Int) else idxF x r (k + 1)
theorem idx_mem (x : ByteArray) : ∀ (l : List ByteArray) (k : Nat), decide (idxF x l k ≥ 0) = true ↔ x ∈ l
  | [], k => by simp [idxF]
  | a :: r, k => by
    have ih := idx_mem x r (k + 1)
    rw [idxF]
    cases h : x == a with
    | true => simp [(beq_bytes x a).1 h]
    | false =>
      have hne : x ≠ a := fun q => by rw [(beq_bytes x a).2 q] at h; cases h
      simp only [cond_false, List.mem_cons, hne, false_or]; exact ih
theorem indexS_spec (l : List ByteArray) (x : ByteArray) (hl : l.length ≤ 4194304) : APure Try.prog 41 [.p (.sl 1 (l.map eStr)), .p (.s x)] (.p (.i .i64 (idxF x l 0))) := by
  generalize hR : idxF x l 0 = R
  refine APure.intro (tyOf_ok Try.prog) hmix Try.func41 rfl (by rfl) (by kernel_rfl) (by show 2 ≤ _; decide) rfl ?_
  conv => whnf
  refine loopS (tyOf_ok _) hmix (by kernel_rfl) l.length [0, 1, 7, 8] [] (fun k (_ : Unit) => [.p (.sl 1 (l.map eStr)), .p (.s x), .p (.i .i64 (l.map eStr).length), .p (.i .i64 (ix k))]) (fun _ _ => []) (fun k _ => idxF x (l.drop k) k = R) () ⟨rfl, rfl, rfl, rfl⟩ hR ?_
  intro k _ hk hs
  conv => whnf
  refine asplit ?_ ?_ <;> intro h1 <;> conv => whnf
  · have hk1 := ix_tt h1 (by simp) hk (by omega)
    obtain ⟨b, hb1⟩ : ∃ b, l[k]? = some b := ⟨_, List.getElem?_eq_getElem hk1⟩
    refine aidxk (x := eStr b) (by simp [hb1]) (by omega) ?_
    rw [drop_cons hb1, idxF] at hs
    conv => whnf
    refine asplit ?_ ?_ <;> intro h2 <;> conv => whnf
    · replace h2 : (x.toList == b.toList) = true := h2
      rw [bl_iff] at h2
      rw [h2, cond_true] at hs
      exact .inl (pi (by rw [ix_eq (by omega)]; exact hs))
    · replace h2 : (x.toList == b.toList) = false := h2
      rw [bl_iff] at h2
      rw [h2, cond_false] at hs
      exact ⟨hk1, (), ⟨rfl, rfl, rfl, rfl⟩, hs⟩
  · have hk1 := ix_ff h1 (by simp) hk (by omega)
    rw [hk1, List.drop_length, idxF] at hs
    exact .inl (pi hs)
theorem containsS_spec (l : List ByteArray) (x : ByteArray) (hl : l.length ≤ 4194304) : APure Try.prog 17 [.p (.sl 1 (l.map eStr)), .p (.s x)] (.p (.b (decide (idxF x l 0 ≥ 0)))) := by
  have h := indexS_spec l x hl
  refine APure.intro (tyOf_ok Try.prog) hmix Try.func17 rfl (by rfl) (by kernel_rfl) (by show 2 ≤ _; decide) rfl ?_
  conv => whnf
  refine apc h ?_
  conv => whnf
  exact .inl rfl
theorem cloneF_spec (l : List Fu) (h : l.length ≤ 2097152) : APure Try.prog 12 [.p (.sl 15 (l.map eFu))] (.so 15 (l.map eFu)) := by
  cases l with
  | nil =>
    refine APure.nilOrNot (pre := []) (post := []) (sz := 15) ?_ ?_
    · refine APure.intro (tyOf_ok Try.prog) hmix Try.func12 rfl (by rfl) (by kernel_rfl) (by show 1 ≤ _; decide) rfl ?_
      conv => whnf
      exact .inl rfl
    · refine APure.intro (tyOf_ok Try.prog) hmix Try.func12 rfl (by rfl) (by kernel_rfl) (by show 1 ≤ _; decide) rfl ?_
      conv => whnf
      refine aneed (by decide) ?_
      conv => whnf
      exact .inl rfl
  | cons a r =>
    refine APure.intro (tyOf_ok Try.prog) hmix Try.func12 rfl (by rfl) (by kernel_rfl) (by show 1 ≤ _; decide) rfl ?_
    conv => whnf
    refine aneed (show (([] : List PV).length + ((a :: r).map eFu).length) * 272 ≤ 140737488355328 by simp at h ⊢; omega) ?_
    conv => whnf
    exact .inl rfl
/-! the plain laws -/
theorem leastL_get {p : Pg} {i : Nat} {f : Fu} (h : (funsF p)[i]? = some f) : (leastL p)[i]? = some (solF (solveF p).m (solveF p).a (ofF f.body)) := by simp [leastL, h]
theorem least_lt (p : Pg) (f : Fu) : solF (solveF p).m (solveF p).a (ofF f.body) < 128 := solF_lt (solve_facts p).2.1.1 (solve_facts p).2.1.2 (ofF_own _)
theorem calls_sub {p : Pg} {f g : Fu} (hf : f ∈ funsF p) (h : f.name ∈ callsF g.body) : sub (solF (solveF p).m (solveF p).a (ofF f.body)) (solF (solveF p).m (solveF p).a (ofF g.body)) :=
  sub_trans ((solve_facts p).1.1 (eqF f) (List.mem_map.2 ⟨f, hf, rfl⟩)) (solF_mem _ _ (ofF g.body) h)
/-- with one function more -/
def moreP (p : Pg) (f : Fu) : Pg := { p with funcs := p.funcs ++ [f] }
theorem more_funs (p : Pg) (f : Fu) : funsF (moreP p f) = funsF p ++ [f] := by simp [funsF, moreP]
theorem more_le (p : Pg) (f : Fu) : Le (solveF p) (solveF (moreP p f)) := by
  refine (solve_facts p).2.2 _ ⟨fun g hg => ?_, fun q hq => ?_⟩
  · refine (solve_facts (moreP p f)).1.1 g ?_
    rw [more_funs, List.map_append]; exact List.mem_append_left _ hg
  · refine (solve_facts (moreP p f)).1.2 q ?_
    obtain ⟨b, hb, h⟩ := List.mem_flatMap.1 hq
    refine List.mem_flatMap.2 ⟨b, ?_, h⟩
    rw [bodiesF] at hb ⊢
    rw [more_funs]
    rcases List.mem_append.1 hb with hb | hb
    · rw [List.map_append]; exact List.mem_append_left _ (List.mem_append_left _ hb)
    · exact List.mem_append_right _ hb
theorem more_w (p : Pg) (f : Fu) : wPg (moreP p f) = wPg p + PV.wt (eFu f) := by
  rw [wPg_eq, wPg_eq]; simp only [moreP, List.map_append, PV.wts_append, List.map_cons, List.map_nil, PV.wts]; omega
end TR
