/-
  DERIVED. Part of an abstract machine over plain values, sound against the model. No conditions.
-/
import Derived.Test.YtcgaadhbnckjbaaAMOps
namespace Go.AM

theorem getAt_spec {α : Type} : ∀ (cs : List α) (off n : Nat) (l : List α), getAt cs off n = some l → l.length = n ∧ ∀ j, j < n → l[j]? = cs[off + j]?
  | _, _, 0, l, h => by simp [getAt] at h; subst h; simp
  | [], _, _ + 1, l, h => by simp [getAt] at h
  | x :: r, 0, n + 1, l, h => by
    simp only [getAt] at h
    cases hg : getAt r 0 n with
    | none => simp [hg] at h
    | some l1 =>
      simp only [hg, Option.some.injEq] at h
      subst h
      obtain ⟨h1, h2⟩ := getAt_spec r 0 n l1 hg
      refine ⟨by simp [h1], fun j hj => ?_⟩
      cases j with
      | zero => simp
      | succ j => have := h2 j (by omega); simpa using this
  | x :: r, o + 1, n + 1, l, h => by
    simp only [getAt] at h
    obtain ⟨h1, h2⟩ := getAt_spec r o (n + 1) l h
    refine ⟨h1, fun j hj => ?_⟩
    rw [h2 j hj, show o + 1 + j = (o + j) + 1 by omega]; simp

theorem setAt_spec {α : Type} : ∀ (cs : List α) (off : Nat) (ys cs' : List α), setAt cs off ys = some cs' → cs'.length = cs.length ∧ (ys ≠ [] → off + ys.length ≤ cs.length) ∧
    ∀ j, cs'[j]? = if off ≤ j ∧ j < off + ys.length then ys[j - off]? else cs[j]?
  | cs, off, [], cs', h => by
    have : cs' = cs := by cases cs <;> simpa [setAt] using h.symm
    subst this; refine ⟨rfl, by simp, fun j => ?_⟩
    rw [if_neg (by simp)]
  | [], off, y :: ys, cs', h => by simp [setAt] at h
  | x :: r, 0, y :: ys, cs', h => by
    simp only [setAt] at h
    cases hg : setAt r 0 ys with
    | none => simp [hg] at h
    | some l1 =>
      simp only [hg, Option.some.injEq] at h
      subst h
      obtain ⟨h1, h2, h3⟩ := setAt_spec r 0 ys l1 hg
      refine ⟨by simp [h1], fun _ => ?_, fun j => ?_⟩
      · by_cases hy : ys = []
        · subst hy; simp
        · have := h2 hy; simp at this ⊢; omega
      · cases j with
        | zero => simp
        | succ j =>
          have := h3 j
          simp only [List.getElem?_cons_succ, List.length_cons, Nat.zero_le, true_and, Nat.zero_add, Nat.sub_zero] at this ⊢
          rw [this]
          by_cases hj : j < ys.length
          · rw [if_pos hj, if_pos (by omega)]
          · rw [if_neg hj, if_neg (by omega)]
  | x :: r, o + 1, y :: ys, cs', h => by
    simp only [setAt] at h
    cases hg : setAt r o (y :: ys) with
    | none => simp [hg] at h
    | some l1 =>
      simp only [hg, Option.some.injEq] at h
      subst h
      obtain ⟨h1, h2, h3⟩ := setAt_spec r o (y :: ys) l1 hg
      refine ⟨by simp [h1], fun hy => by have := h2 hy; simp at this ⊢; omega, fun j => ?_⟩
      cases j with
      | zero => simp
      | succ j =>
        have := h3 j
        simp only [List.getElem?_cons_succ] at this ⊢
        rw [this]
        by_cases hj : o ≤ j ∧ j < o + (y :: ys).length
        · rw [if_pos hj, if_pos (by omega)]; congr 1; omega
        · rw [if_neg hj, if_neg (by omega)]

theorem pCells_get : ∀ (xs : List PV) (j : Nat), (pCells xs)[j]? = (xs[j]?).map AV.p
  | [], j => by simp [pCells]
  | x :: r, 0 => by simp [pCells]
  | x :: r, j + 1 => by simp [pCells, pCells_get r j]
theorem pCells_length (xs : List PV) : (pCells xs).length = xs.length := by
  induction xs with
  | nil => rfl
  | cons x r ih => simp [pCells, ih]
theorem copyAll_get : ∀ (xs : List AV) (j : Nat), (copyAll xs)[j]? = (xs[j]?).map AV.copy
  | [], j => by simp [copyAll]
  | x :: r, 0 => by simp [copyAll]
  | x :: r, j + 1 => by simp [copyAll, copyAll_get r j]
theorem copyAll_length (xs : List AV) : (copyAll xs).length = xs.length := by
  induction xs with
  | nil => rfl
  | cons x r ih => simp [copyAll, ih]

theorem pure?_rel {g : Gh} {w : World} {dom : Nat → Prop} {ow : Option Owner} {v : Value} {x : AV} {z : Nat} {y : PV} (r : VRel g w dom ow v x) (h : x.pure? z = some y) : PRel (imm g w) v y := by
  cases r with
  | p _ _ _ h' => simp [AV.pure?] at h; exact h ▸ h'
  | nilS => simp [AV.pure?] at h; subst h; exact .nil z
  | es _ a cap sz hs => simp [AV.pure?] at h; subst h; exact .sl a cap sz [] (fun _ _ => undef) hs (Nat.zero_le _) (by simp) (by simp) (by simp)
  | full _ a sz xs hz h' => simp [AV.pure?] at h; exact h ▸ h'
  | own o a cap sz xs cs E hz h' => simp [AV.pure?] at h; exact h ▸ h'
  | _ => simp [AV.pure?] at h

theorem allPure_spec {g : Gh} {w : World} {dom : Nat → Prop} : ∀ (cs : List AV) (z : List Nat) (l : List PV), allPure cs z = some l → l.length = cs.length ∧
    ∀ (j : Nat) (v : Value) (ow : Option Owner) (c : AV) (y : PV), cs[j]? = some c → l[j]? = some y → VRel g w dom ow v c → PRel (imm g w) v y
  | [], z, l, h => by simp [allPure] at h; subst h; simp
  | c :: r, z, l, h => by
    simp only [allPure] at h
    cases h1 : c.pure? (headD z) with
    | none => simp [h1] at h
    | some x =>
      cases h2 : allPure r z.tail with
      | none => simp [h1, h2] at h
      | some l1 =>
        simp only [h1, h2, Option.some.injEq] at h
        subst h
        obtain ⟨k1, k2⟩ := allPure_spec (g := g) (w := w) (dom := dom) r z.tail l1 h2
        refine ⟨by simp [k1], fun j v ow c' y hc hy hr => ?_⟩
        cases j with
        | zero => simp at hc hy; subst hc; subst hy; exact pure?_rel hr h1
        | succ j => simp at hc hy; exact k2 j v ow c' y hc hy hr

theorem pureL_rel {g : Gh} {w : World} {dom : Nat → Prop} {ow : Option Owner} {v : Value} {x : AV} {z : List Nat} {y : PV} (r : VRel g w dom ow v x) (h : x.pureL z = some y) : PRel (imm g w) v y := by
  cases x with
  | agg cs =>
    cases r with
    | agg _ vs _ hl h1 hx =>
      simp only [AV.pureL] at h
      split at h
      · rename_i l hl2
        cases h
        obtain ⟨k1, k2⟩ := allPure_spec (g := g) (w := w) (dom := dom) cs z l hl2
        refine .agg vs l (hl.trans k1.symm) h1 fun j v y hv hy => ?_
        have hj : j < cs.length := by have := (List.getElem?_eq_some_iff.1 hv).1; omega
        exact k2 j v none cs[j] y (by simp [hj]) hy (hx j v cs[j] hv (by simp [hj]))
      · cases h
  | _ => exact pure?_rel (z := headD z) r h

theorem aggTy_rel {ty : Nat → Option TI} {g : Gh} {w : World} {dom : Nat → Prop} {ow : Option Owner} {v : Value} {cs : List AV} (t : Nat) (r : VRel g w dom ow v (.agg cs)) : VRel g w dom ow v (aggTy ty t cs) := by
  unfold aggTy
  split
  · rename_i i _
    split
    · rename_i l hl
      exact .p _ _ _ (pureL_rel (z := i.csz) r (by simp [AV.pureL, hl]))
    · exact r
  · exact r

/-- cells made a struct's value -/
theorem mkAgg_rel {g : Gh} {w : World} {dom : Nat → Prop} {ow : Option Owner} (vs : List Value) (cs : List AV) (z : List Nat) (hl : vs.length = cs.length) (h1 : ∀ v ∈ vs, v.oneCell' = true)
    (hx : ∀ (j : Nat) (v : Value) (c : AV), vs[j]? = some v → cs[j]? = some c → ∃ ow', VRel g w dom ow' v c) : VRel g w dom ow (.agg vs.toArray) (mkAgg cs z) := by
  unfold mkAgg
  cases h : allPure cs z with
  | some l =>
    obtain ⟨k1, k2⟩ := allPure_spec (g := g) (w := w) (dom := dom) cs z l h
    refine .p _ _ _ (.agg vs l (hl.trans k1.symm) h1 fun j v y hv hy => ?_)
    have hj : j < cs.length := by have := (List.getElem?_eq_some_iff.1 hv).1; omega
    obtain ⟨ow', hr⟩ := hx j v cs[j] hv (by simp [hj])
    exact k2 j v ow' cs[j] y (by simp [hj]) hy hr
  | none =>
    refine .agg _ vs _ (by simp [copyAll_length, hl]) h1 fun j v c hv hc => ?_
    rw [copyAll_get] at hc
    cases hcs : cs[j]? with
    | none => simp [hcs] at hc
    | some c0 =>
      simp only [hcs, Option.map_some, Option.some.injEq] at hc
      subst hc
      obtain ⟨ow', hr⟩ := hx j v c0 hv hcs
      exact hr.copy

theorem mkAggN_rel {g : Gh} {w : World} {dom : Nat → Prop} {ow : Option Owner} (vs : List Value) (cs : List AV) (z : List Nat) (hl : vs.length = cs.length) (h1 : ∀ v ∈ vs, v.oneCell' = true)
    (hx : ∀ (j : Nat) (v : Value) (c : AV), vs[j]? = some v → cs[j]? = some c → ∃ ow', VRel g w dom ow' v c) : VRel g w dom ow (.agg vs.toArray) (mkAggN cs z) := by
  unfold mkAggN
  split
  · refine .agg _ vs _ (by simp [copyAll_length, hl]) h1 fun j v c hv hc => ?_
    rw [copyAll_get] at hc
    cases hcs : cs[j]? with
    | none => simp [hcs] at hc
    | some c0 =>
      simp only [hcs, Option.map_some, Option.some.injEq] at hc
      subst hc
      obtain ⟨ow', hr⟩ := hx j v c0 hv hcs
      exact hr.copy
  · exact mkAgg_rel vs cs z hl h1 hx

/-- a value's cells -/
theorem cells?_rel {g : Gh} {w : World} {dom : Nat → Prop} {ow : Option Owner} {v : Value} {x : AV} {cs : List AV} (r : VRel g w dom ow v x) (h : x.cells? = some cs) :
    v.cells.toList.length = cs.length ∧ (∀ u ∈ v.cells.toList, u.oneCell' = true) ∧
    ∀ (j : Nat) (u : Value) (c : AV), v.cells.toList[j]? = some u → cs[j]? = some c → (cs = [x] ∧ j = 0 ∧ u = v ∧ c = x) ∨ VRel g w dom none u c := by
  have one : ∀ {v : Value} {x : AV}, v.oneCell' = true → (v.cells = #[v]) → some [x] = some cs → v.cells.toList.length = cs.length ∧ (∀ u ∈ v.cells.toList, u.oneCell' = true) ∧
      ∀ (j : Nat) (u : Value) (c : AV), v.cells.toList[j]? = some u → cs[j]? = some c → (cs = [x] ∧ j = 0 ∧ u = v ∧ c = x) ∨ VRel g w dom none u c := by
    intro v x h1 hc hs
    simp only [Option.some.injEq] at hs
    subst hs
    rw [hc]
    refine ⟨rfl, by simpa using h1, fun j u c hu hcj => .inl ?_⟩
    cases j with
    | zero => simp at hu hcj; exact ⟨rfl, rfl, hu.symm, hcj.symm⟩
    | succ j => simp at hu
  cases r with
  | top => simp [AV.cells?] at h
  | p _ _ y h' =>
    cases h' with
    | agg vs xs hl h1 hx =>
      simp only [AV.cells?, Option.some.injEq] at h
      subst h
      refine ⟨by simp [Value.cells, pCells_length, hl], by simpa [Value.cells] using h1, fun j u c hu hc => .inr ?_⟩
      rw [pCells_get] at hc
      cases hxs : xs[j]? with
      | none => simp [hxs] at hc
      | some y =>
        simp only [hxs, Option.map_some, Option.some.injEq] at hc
        subst hc
        exact .p _ _ _ (hx j u y (by simpa [Value.cells] using hu) hxs)
    | b x => exact one rfl rfl h
    | i k n => exact one rfl rfl h
    | s x => exact one rfl rfl h
    | nil sz => exact one rfl rfl h
    | sl a cap sz xs f => exact one rfl rfl h
  | c _ _ h1 => exact one h1 (by cases v <;> first | rfl | simp [Value.oneCell'] at h1) h
  | ifc _ b v h' => exact one (ifc_cell h').1 (ifc_cell h').2 h
  | nilS => exact one rfl rfl h
  | es => exact one rfl rfl h
  | full => exact one rfl rfl h
  | own => exact one rfl rfl h
  | ptr => exact one rfl rfl h
  | vp => exact one rfl rfl h
  | agg _ vs cs' hl h1 hx =>
    simp only [AV.cells?, Option.some.injEq] at h
    subst h
    exact ⟨by simp [Value.cells, hl], by simpa [Value.cells] using h1, fun j u c hu hc => .inr (hx j u c (by simpa [Value.cells] using hu) hc)⟩
  | tup => simp [AV.cells?] at h
  | mp => exact one rfl rfl h
  | ar => exact one rfl rfl h
  | ap => exact one rfl rfl h
  | al0 => exact one rfl rfl h
  | al => exact one rfl rfl h
  | ep => exact one rfl rfl h
  | tl => exact one rfl rfl h
  | fn => exact one rfl rfl h

end Go.AM
