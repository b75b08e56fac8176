/-
  DERIVED. Contracts of the functions that the law reaches, and the law itself, for every input. No conditions.
-/
import Derived.Test.YtfikmccicklonaaTR10
open Go Go.AM Go.Proofs
set_option maxRecDepth 100000
namespace TR
theorem eqS_refl (l : List ByteArray) : eqS l l = true := (eqS_iff l l).2 rfl
theorem beqI (a : Int) : (a == a) = true := by simp
theorem beqB (a : ByteArray) : (a.toList == a.toList) = true := by simp
theorem sameType_spec (t : Ty) : wT t ≤ 1048576 → APure Try.prog 60 [.p (eT t), .p (eT t)] (.p (.b true)) := by
  induction t using Ty.ind with
  | h k0 n0 as0 ih =>
  intro hw
  have h1 := wT_mk k0 n0 as0
  have h2 := wTs_len as0
  have hm := equalTy_spec 60 as0 as0 (by omega) rfl (fun k x y hx hy => by rw [hx] at hy; cases hy; exact ih x (List.mem_of_getElem? hx) (by have := wTs_mem (List.mem_of_getElem? hx); omega))
  refine APure.intro (tyOf_ok Try.prog) hmix Try.func60 rfl (by rfl) (by kernel_rfl) (by show 2 ≤ _; decide) rfl ?_
  conv => whnf
  refine ast (beqI _) ?_
  conv => whnf
  refine ast (beqB _) ?_
  conv => whnf
  refine apc hm ?_
  conv => whnf
  exact .inl rfl
theorem samePat_spec (t : Pt) : wP t ≤ 1048576 → APure Try.prog 58 [.p (eP t), .p (eP t)] (.p (.b true)) := by
  induction t using Pt.ind with
  | h k0 n0 t0 as0 ih =>
  intro hw
  have h1 := wP_mk k0 n0 t0 as0
  have h2 := wPs_len as0
  have hm := equalPt_spec 58 as0 as0 (by omega) rfl (fun k x y hx hy => by rw [hx] at hy; cases hy; exact ih x (List.mem_of_getElem? hx) (by have := wPs_mem (List.mem_of_getElem? hx); omega))
  refine APure.intro (tyOf_ok Try.prog) hmix Try.func58 rfl (by rfl) (by kernel_rfl) (by show 2 ≤ _; decide) rfl ?_
  conv => whnf
  refine ast (beqI _) ?_
  conv => whnf
  refine ast (beqI _) ?_
  conv => whnf
  refine ast (beqB _) ?_
  conv => whnf
  refine apc hm ?_
  conv => whnf
  exact .inl rfl
theorem sameArm_spec (a b : Arm) (h1 : wP a.pat ≤ 1048576) (hp : a.pat = b.pat) (h2 : APure Try.prog 33 [.p (eE a.body), .p (eE b.body)] (.p (.b true))) : APure Try.prog 57 [.p (eA a), .p (eA b)] (.p (.b true)) := by
  obtain ⟨p, e⟩ := a
  obtain ⟨q, f⟩ := b
  simp only [Arm.pat, Arm.body] at h1 h2 hp
  subst hp
  have hp := samePat_spec p h1
  obtain ⟨p1, p2, p3, p4⟩ := p
  obtain ⟨b1, b2, b3, b4, b5, b6, b7, b8⟩ := e
  obtain ⟨c1, c2, c3, c4, c5, c6, c7, c8⟩ := f
  refine APure.intro (tyOf_ok Try.prog) hmix Try.func57 rfl (by rfl) (by kernel_rfl) (by show 2 ≤ _; decide) rfl ?_
  conv => whnf
  refine apc hp ?_
  conv => whnf
  refine apc h2 ?_
  conv => whnf
  exact .inl rfl
theorem clearA_pat (a b : Arm) (h : clearA a = clearA b) : a.pat = b.pat ∧ clearF a.body = clearF b.body := by
  obtain ⟨p, e⟩ := a
  obtain ⟨q, f⟩ := b
  simp only [clearA, Arm.mk.injEq] at h
  exact h
theorem map_eq_len {α β : Type} {f : α → β} {l r : List α} (h : l.map f = r.map f) : l.length = r.length := by
  have := congrArg List.length h; simpa using this
theorem map_eq_get {α β : Type} {f : α → β} {l r : List α} (h : l.map f = r.map f) {k : Nat} {x y : α} (hx : l[k]? = some x) (hy : r[k]? = some y) : f x = f y := by
  have := congrArg (fun l => l[k]?) h
  simp only [List.getElem?_map, hx, hy, Option.map_some, Option.some.injEq] at this
  exact this
/-- SameExpr, of two that are the same but for places -/
theorem sameExpr_spec (a : Ex) : ∀ b : Ex, wE a ≤ 1048576 → clearF a = clearF b → APure Try.prog 33 [.p (eE a), .p (eE b)] (.p (.b true)) := by
  induction a using Ex.ind with
  | h k0 n0 t0 ns0 ts0 as0 ms0 p0 ih1 ih2 =>
  intro b hw hb
  obtain ⟨k1, n1, t1, ns1, ts1, as1, ms1, p1⟩ := b
  simp only [clearF, Ex.mk.injEq, clearFs_map, clearFa_map] at hb
  obtain ⟨rfl, rfl, rfl, rfl, rfl, h5, h6, _⟩ := hb
  have hl := wE_lens k0 n0 t0 ns0 ts0 as0 ms0 p0
  have hwm := wE_mk k0 n0 t0 ns0 ts0 as0 ms0 p0
  have g1 := equalS_spec ns0 ns0 (by omega)
  rw [eqS_refl] at g1
  have g2 := equalTy_spec 60 ts0 ts0 (by omega) rfl (fun k x y hx hy => by rw [hx] at hy; cases hy; exact sameType_spec x (by have := wTs_mem (List.mem_of_getElem? hx); omega))
  have g3 := equalEx_spec 33 as0 as1 (by omega) (map_eq_len h5) (fun k x y hx hy => ih1 x (List.mem_of_getElem? hx) y (by have := wEs_mem (List.mem_of_getElem? hx); omega) (map_eq_get h5 hx hy))
  have g4 := equalArm_spec 57 ms0 ms1 (by omega) (map_eq_len h6) (fun k x y hx hy => by
    have hwx := wAs_mem (List.mem_of_getElem? hx)
    have hwb := wA_body x
    obtain ⟨q1, q2⟩ := clearA_pat x y (map_eq_get h6 hx hy)
    exact sameArm_spec x y (by omega) q1 (ih2 x (List.mem_of_getElem? hx) y.body (by omega) q2))
  refine APure.intro (tyOf_ok Try.prog) hmix Try.func33 rfl (by rfl) (by kernel_rfl) (by show 2 ≤ _; decide) rfl ?_
  conv => whnf
  refine ast (beqI _) ?_
  conv => whnf
  refine ast (beqI _) ?_
  conv => whnf
  refine ast (beqB _) ?_
  conv => whnf
  refine apc g1 ?_
  conv => whnf
  refine apc g2 ?_
  conv => whnf
  refine apc g3 ?_
  conv => whnf
  refine apc g4 ?_
  conv => whnf
  exact .inl rfl
theorem clear_clear (e : Ex) : clearF (clearF e) = clearF e := by
  induction e using Ex.ind with
  | h k n t ns ts xs ms p ih1 ih2 =>
  have h1 : (xs.map clearF).map clearF = xs.map clearF := by rw [List.map_map]; exact List.map_congr_left fun x hx => ih1 x hx
  have h2 : (ms.map clearA).map clearA = ms.map clearA := by
    rw [List.map_map]
    refine List.map_congr_left fun x hx => ?_
    have := ih2 x hx
    obtain ⟨q, f⟩ := x
    simp only [Function.comp, clearA, Arm.body] at this ⊢
    rw [this]
  simp only [clearF, clearFs_map, clearFa_map, h1, h2]
theorem wts_map_le {α : Type} (f g : α → PV) : ∀ (l : List α), (∀ x ∈ l, PV.wt (f x) ≤ PV.wt (g x)) → PV.wts (l.map f) ≤ PV.wts (l.map g)
  | [], _ => by simp
  | x :: r, h => by
    have h1 := h x (by simp)
    have h2 := wts_map_le f g r (fun y hy => h y (by simp [hy]))
    simp only [List.map_cons, PV.wts]; omega
theorem clear_wt (e : Ex) : wE (clearF e) ≤ wE e := by
  induction e using Ex.ind with
  | h k n t ns ts xs ms p ih1 ih2 =>
  rw [clearF, wE_mk, wE_mk, clearFs_map, clearFa_map, eEs_map, eAs_map, eEs_map, eAs_map, List.map_map, List.map_map]
  have h1 := wts_map_le (eE ∘ clearF) eE xs (fun x hx => ih1 x hx)
  have h2 := wts_map_le (eA ∘ clearA) eA ms (fun x hx => by
    have := ih2 x hx
    obtain ⟨q, f⟩ := x
    simp only [Arm.body] at this
    have e1 := wA_mk q (clearF f)
    have e2 := wA_mk q f
    simp only [Function.comp, clearA]
    unfold wA at e1 e2
    omega)
  omega
theorem clear_pos (e : Ex) : (clearF e).pos = 0 := by cases e; rw [clearF]; rfl

theorem treeClear_spec (e : Ex) (he : wE e ≤ 1048576) : APure Try.prog 8 [.p (eE e)] (.p (.b true)) := by
  have h1 := sizeOf_spec e he
  have h2 := clear_spec e he
  have hc := clear_wt e
  have h3 := sameExpr_spec (clearF e) e (by omega) (clear_clear e)
  have h4 := clear_spec (clearF e) (by omega)
  have h5 := sameExpr_spec (clearF (clearF e)) (clearF e) (by rw [clear_clear]; omega) (clear_clear _)
  rw [clear_clear] at h4 h5
  have hp := clear_pos e
  generalize sizeF e = S at h1
  generalize clearF e = c at h2 h3 h4 h5 hp
  obtain ⟨k0, n0, t0, ns0, ts0, as0, ms0, p0⟩ := e
  obtain ⟨c1, c2, c3, c4, c5, c6, c7, c8⟩ := c
  simp only [Ex.pos] at hp
  subst hp
  refine APure.intro (tyOf_ok Try.prog) hmix Try.func8 rfl (by rfl) (by kernel_rfl) (by show 1 ≤ _; decide) rfl ?_
  conv => whnf
  refine apc h1 ?_
  conv => whnf
  refine asplit ?_ ?_ <;> intro g1 <;> conv => whnf
  · exact .inl rfl
  refine apc walks_spec ?_
  conv => whnf
  refine apc h2 ?_
  conv => whnf
  refine apc h3 ?_
  conv => whnf
  refine apc h4 ?_
  conv => whnf
  refine apc h5 ?_
  conv => whnf
  refine aneed (by kernel_rfl) ?_
  conv => whnf
  exact .inl rfl
end TR
