/-
  DERIVED. Contracts of the functions that the law reaches, and the law itself, for every input. No conditions.
-/
import Derived.Test.YtfikmccicklonaaTR6
open Go Go.AM Go.Proofs
set_option maxRecDepth 100000
namespace TR
/-- slices.Equal of strings -/
def eqS : List ByteArray → List ByteArray → Bool
  | [], [] => true
  | a :: r, b :: s => (a == b) && eqS r s
  | _, _ => false
theorem eqS_iff : ∀ (l r : List ByteArray), eqS l r = true ↔ l = r
  | [], [] => by simp [eqS]
  | [], _ :: _ => by simp [eqS]
  | _ :: _, [] => by simp [eqS]
  | a :: r, b :: s => by simp [eqS, eqS_iff r s, beq_bytes]
theorem eqS_len : ∀ (l r : List ByteArray), l.length ≠ r.length → eqS l r = false
  | [], [], h => by simp at h
  | [], _ :: _, _ => rfl
  | _ :: _, [], _ => rfl
  | a :: r, b :: s, h => by simp at h; simp [eqS, eqS_len r s h]
theorem equalS_spec (l r : List ByteArray) (hl : l.length ≤ 2097152) : APure Try.prog 24 [.p (.sl 1 (l.map eStr)), .p (.sl 1 (r.map eStr))] (.p (.b (eqS l r))) := by
  refine APure.intro (tyOf_ok Try.prog) hmix Try.func24 rfl (by rfl) (by kernel_rfl) (by show 2 ≤ _; decide) rfl ?_
  conv => whnf
  refine asplit ?_ ?_ <;> intro h1 <;> conv => whnf
  · exact .inl (pb (by rw [eqS_len]; intro h; simp [h] at h1))
  have hlr : (l.length : Int) = r.length := by simpa using h1
  have hlr : l.length = r.length := by omega
  refine loopS (tyOf_ok _) hmix (by kernel_rfl) l.length [0, 1, 12, 13] [] (fun k _ => [.p (.sl 1 (l.map eStr)), .p (.sl 1 (r.map eStr)), .p (.i .i64 (l.map eStr).length), .p (.i .i64 (ix k))]) (fun _ _ => []) (fun k _ => eqS l r = eqS (l.drop k) (r.drop k)) () ⟨rfl, rfl, rfl, rfl⟩ rfl ?_
  intro k _ hk hs
  conv => whnf
  refine asplit ?_ ?_ <;> intro h2 <;> conv => whnf
  · have hk1 := ix_tt h2 (by simp) hk (by omega)
    obtain ⟨a, ha⟩ : ∃ b, l[k]? = some b := ⟨_, List.getElem?_eq_getElem hk1⟩
    obtain ⟨b, hb⟩ : ∃ b, r[k]? = some b := ⟨_, List.getElem?_eq_getElem (by omega)⟩
    rw [drop_cons ha, drop_cons hb, eqS] at hs
    refine aidxk (x := eStr a) (by simp [ha]) (by omega) ?_
    conv => whnf
    refine aidxk (x := eStr b) (by simp [hb]) (by omega) ?_
    conv => whnf
    refine aneed (by kernel_rfl) ?_
    conv => whnf
    refine asplit ?_ ?_ <;> intro h3 <;> conv => whnf
    · have h3 : (!(a.toList == b.toList)) = true := h3
      rw [bl_iff] at h3
      exact .inl (pb (by rw [hs]; cases hq : a == b with | true => rw [hq] at h3; cases h3 | false => rfl))
    · have h3 : (!(a.toList == b.toList)) = false := h3
      rw [bl_iff] at h3
      refine ⟨hk1, (), ⟨rfl, rfl, rfl, rfl⟩, ?_⟩
      rw [hs]; cases hq : a == b with | true => rfl | false => rw [hq] at h3; cases h3
  · have hk1 := ix_ff h2 (by simp) hk (by omega)
    exact .inl (pb (by rw [hs, hk1, List.drop_length, hlr, List.drop_length]; rfl))

/-- walks -/
def e0 : Ex := .mk 6 0 ⟨#[120]⟩ [] [] [.mk 2 0 ⟨#[]⟩ [] [] [] [] 0, .mk 5 0 ⟨#[121]⟩ [] [] [] [] 0] [] 0
theorem walks_spec : APure Try.prog 19 [] (.p (.b true)) := by
  have hw : wE e0 ≤ 1048576 := by decide +kernel
  have h1 := size_spec e0 hw
  have h2 := walk_spec e0 hw
  have h3 := free_spec e0 (by omega)
  rw [show sizeF e0 = 3 by decide +kernel] at h1
  rw [show walkF e0 = [e0, .mk 2 0 ⟨#[]⟩ [] [] [] [] 0, .mk 5 0 ⟨#[121]⟩ [] [] [] [] 0] by rfl] at h2
  rw [show freeF e0 = [⟨#[121]⟩] by rfl] at h3
  have h4 := equalS_spec [⟨#[121]⟩] [⟨#[121]⟩] (by decide)
  rw [show eqS [⟨#[121]⟩] [⟨#[121]⟩] = true by rw [eqS_iff]] at h4
  refine APure.intro (tyOf_ok Try.prog) hmix Try.func19 rfl (by rfl) (by kernel_rfl) (by show 0 ≤ _; decide) rfl ?_
  conv => whnf
  refine apc h1 ?_
  conv => whnf
  refine apc h2 ?_
  conv => whnf
  refine apc h3 ?_
  conv => whnf
  refine apc h4 ?_
  conv => whnf
  exact .inl rfl

/-- the plain law of the walk -/
theorem parts_law (e : Ex) : (walkF e).length = 1 + (walkFs (partsF e)).length ∧ 1 + sizeFs (partsF e) ≤ sizeF e ∧ deepFs (partsF e) + 1 ≤ deepF e := by
  obtain ⟨k, n, t, ns, ts, xs, ms, p⟩ := e
  simp only [partsF, Ex.args, Ex.arms]
  refine ⟨by rw [walkF, walkFs_app, walkFa_map]; simp; omega, ?_, ?_⟩
  · rw [sizeFs_app, sizeF]
    have : sizeFs (ms.map Arm.body) ≤ sizeFa ms := by
      induction ms with
      | nil => simp [sizeFs]
      | cons a r ih => obtain ⟨q, e⟩ := a; simp [sizeFs, sizeFa, Arm.body]; omega
    omega
  · have h1 : ∀ l r : List Ex, deepFs (l ++ r) = max (deepFs l) (deepFs r) := fun l r => by
      induction l with
      | nil => simp [deepFs]
      | cons a l ih => simp [deepFs, ih, Nat.max_assoc]
    have h2 : deepFs (ms.map Arm.body) ≤ deepFa ms := by
      induction ms with
      | nil => simp [deepFs]
      | cons a r ih => obtain ⟨q, e⟩ := a; simp only [List.map_cons, deepFs, deepFa, Arm.body]; omega
    rw [h1, deepF]; omega
theorem parts_mem {e x : Ex} (h : x ∈ partsF e) : wE x ≤ wE e := by
  obtain ⟨k, n, t, ns, ts, xs, ms, p⟩ := e
  simp only [partsF, Ex.args, Ex.arms] at h
  rcases List.mem_append.1 h with h | h
  · have := wE_args (k := k) (n := n) (t := t) (ns := ns) (ts := ts) (ms := ms) (p := p) h; omega
  · obtain ⟨a, ha, rfl⟩ := List.mem_map.1 h
    have := wE_body (k := k) (n := n) (t := t) (ns := ns) (ts := ts) (xs := xs) (p := p) ha; omega
theorem walkFs_snoc (l : List Ex) (e : Ex) : walkFs (l ++ [e]) = walkFs l ++ walkF e := by rw [walkFs_app]; simp [walkFs]
theorem partsF_len (e : Ex) : (partsF e).length ≤ wE e := by
  obtain ⟨k, n, t, ns, ts, xs, ms, p⟩ := e
  have := wE_lens k n t ns ts xs ms p
  simp [partsF, Ex.args, Ex.arms]; omega

theorem treeWhole_spec (e : Ex) (he : wE e ≤ 1048576) : APure Try.prog 6 [.p (eE e)] (.p (.b true)) := by
  have h1 := sizeOf_spec e he
  have h2 := parts_spec e he
  have h3 := walk_spec e he
  have h4 := size_spec e he
  have h5 := deep_spec e he
  obtain ⟨l1, l2, l3⟩ := parts_law e
  have hpm := fun x (h : x ∈ partsF e) => parts_mem h
  have hpl := partsF_len e
  have hsz := size_le e
  have hdl := deep_le e
  have hwl := walk_le e
  rw [show ((sizeF e : Nat) : Int) = (sizeF e : Int) from rfl] at h1
  have hsz0 : sizeF e = sizeF e := rfl
  generalize hS : sizeF e = S at h1 h4 l2 hsz hdl hwl
  generalize hD : deepF e = D at h5 l3 hdl
  generalize hWk : walkF e = Wk at h3 l1 hwl
  generalize partsF e = Ps at h2 l1 l2 l3 hpm hpl
  clear hS hD hWk hsz0
  generalize hwe : wE e = we at he hpm hpl hsz
  obtain ⟨k0, n0, t0, ns0, ts0, as0, ms0, p0⟩ := e
  clear hwe
  refine APure.intro (tyOf_ok Try.prog) hmix Try.func6 rfl (by rfl) (by kernel_rfl) (by show 1 ≤ _; decide) rfl ?_
  conv => whnf
  refine apc h1 ?_
  conv => whnf
  refine asplit ?_ ?_ <;> intro g1 <;> conv => whnf
  · exact .inl rfl
  refine apc walks_spec ?_
  conv => whnf
  refine apc h2 ?_
  conv => whnf
  refine loopS (tyOf_ok _) hmix (by kernel_rfl) Ps.length [1, 3, 4, 5, 14, 15, 16] [1] (fun k (s : Int × Int × Int) => [.ptr 1 0, .p (.i .i64 s.1), .p (.i .i64 s.2.1), .p (.i .i64 s.2.2), .p (.sl 8 (eEs Ps)), .p (.i .i64 (eEs Ps).length), .p (.i .i64 (ix k))]) (fun _ _ => [.cells [.p (.i .i64 k0), .p (.i .i64 n0), .p (.s t0), .p (.sl 1 (ns0.map eStr)), .p (.sl 3 (eTs ts0)), .p (.sl 8 (eEs as0)), .p (.sl 12 (eAs ms0)), .p (.i .i64 p0)]])
    (fun k s => s = (1 + (sizeFs (Ps.take k) : Int), 1 + ((walkFs (Ps.take k)).length : Int), (deepFs (Ps.take k) : Int))) (1, 1, 0) ⟨rfl, rfl, rfl, rfl⟩ (by simp [sizeFs, walkFs, deepFs]) ?_
  rintro k ⟨s1, s2, s3⟩ hk hs
  simp only [Prod.mk.injEq] at hs
  obtain ⟨hs1, hs2, hs3⟩ := hs
  conv => whnf
  refine asplit ?_ ?_ <;> intro g2 <;> conv => whnf
  · have hk1 := ix_tt g2 (by rw [eEs_len]) hk (by omega)
    obtain ⟨b, hb1⟩ : ∃ b, Ps[k]? = some b := ⟨_, List.getElem?_eq_getElem hk1⟩
    refine aidxk (eEs_get hb1) (by omega) ?_
    have hbw := hpm b (List.mem_of_getElem? hb1)
    have c1 := size_spec b (by omega)
    have c2 := walk_spec b (by omega)
    have c3 := deep_spec b (by omega)
    have e1 : sizeFs (Ps.take (k + 1)) = sizeFs (Ps.take k) + sizeF b := by rw [take_snoc hb1, sizeFs_snoc]
    have e2 : walkFs (Ps.take (k + 1)) = walkFs (Ps.take k) ++ walkF b := by rw [take_snoc hb1, walkFs_snoc]
    have e3 : deepFs (Ps.take (k + 1)) = max (deepFs (Ps.take k)) (deepF b) := by rw [take_snoc hb1, deepFs_snoc]
    have q1 := sizeFs_take Ps (k + 1)
    have q2 := walks_le (Ps.take (k + 1))
    generalize sizeF b = z1 at c1 e1
    generalize walkF b = z2 at c2 e2
    generalize deepF b = z3 at c3 e3
    obtain ⟨b1, b2, b3, b4, b5, b6, b7, b8⟩ := b
    conv => whnf
    refine apc c1 ?_
    conv => whnf
    refine apc c2 ?_
    conv => whnf
    refine apc c3 ?_
    conv => whnf
    refine aneed (by kernel_rfl) ?_
    conv => whnf
    rw [e2, List.length_append] at q2
    refine ⟨hk1, (IntKind.i64.wrap (s1 + z1), IntKind.i64.wrap (s2 + (eEs z2).length), if s3 < (z3 : Int) then (z3 : Int) else s3), ⟨rfl, rfl, rfl, rfl⟩, ?_⟩
    simp only [Prod.mk.injEq]
    refine ⟨?_, ?_, ?_⟩
    · rw [hs1, e1, wrap64 (by omega) (by omega)]; omega
    · rw [hs2, eEs_len, e2, List.length_append, wrap64 (by omega) (by omega)]; omega
    · rw [hs3, e3, imax_nat]
  · have hk1 := ix_ff g2 (by rw [eEs_len]) hk (by omega)
    rw [hk1, List.take_length] at hs1 hs2 hs3
    refine apc h3 ?_
    conv => whnf
    refine ast (by rw [eEs_len]; simp only [beq_iff_eq]; omega) ?_
    conv => whnf
    refine apc h4 ?_
    conv => whnf
    refine ast (by simp only [decide_eq_true_eq]; omega) ?_
    conv => whnf
    refine apc h5 ?_
    conv => whnf
    refine .inl (pb ?_)
    show decide ((D : Int) ≥ IntKind.i64.wrap (s3 + 1)) = true
    rw [hs3, wrap64 (by omega) (by omega)]
    simp only [decide_eq_true_eq]; omega
end TR
