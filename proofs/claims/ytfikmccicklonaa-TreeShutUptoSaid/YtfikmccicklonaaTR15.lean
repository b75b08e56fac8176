/-
  DERIVED. Contracts of the functions that the law reaches, and the law itself, for every input. No conditions.
-/
import Derived.Test.YtfikmccicklonaaTR14
open Go Go.AM Go.Proofs
set_option maxRecDepth 100000
namespace TR
theorem wE_letOf (nm : ByteArray) (e : Ex) : wE (letOf nm e) ≤ wE e + nm.size + 40 := by
  rw [letOf, wE_mk]
  have wa : wE e = PV.wt (eE e) := rfl
  simp only [eEs, eTs, eAs, eE, PV.wts, PV.wt, List.map_nil, List.map_cons] at wa ⊢
  have : (⟨#[]⟩ : ByteArray).size = 0 := rfl
  omega
theorem freeF_len (e : Ex) : (freeF e).length ≤ wE e := by have := visit_out e ⟨[], [], []⟩; simpa [freeF] using this
theorem treeShut_spec (e : Ex) (nm : ByteArray) (he : wE e + nm.size ≤ 1048576) : APure Try.prog 5 [.p (eE e), .p (eStr nm)] (.p (.b true)) := by
  have h1 := sizeOf_spec e (by omega)
  have h2 := free_spec (letOf nm e) (by have := wE_letOf nm e; omega)
  have h3 := free_spec e (by omega)
  have hfl := freeF_len e
  have hlaw : freeF (letOf nm e) = cut nm (freeF e) := free_let nm e (by omega)
  rw [hlaw] at h2
  clear hlaw
  generalize freeF e = F at h2 h3 hfl
  generalize hC : cut nm F = C at h2
  have hCl : C.length ≤ 2097152 := by
    have : C.length ≤ F.length := by rw [← hC]; exact List.length_filter_le ..
    omega
  have h4 := equalS_spec C C hCl
  rw [(eqS_iff C C).2 rfl] at h4
  generalize sizeF e = S at h1
  unfold letOf at h2
  obtain ⟨k0, n0, t0, ns0, ts0, as0, ms0, p0⟩ := e
  refine APure.intro (tyOf_ok Try.prog) hmix Try.func5 rfl (by rfl) (by kernel_rfl) (by show 2 ≤ _; decide) rfl ?_
  conv => whnf
  refine apc h1 ?_
  conv => whnf
  refine asplit ?_ ?_ <;> intro g1 <;> conv => whnf
  · exact .inl rfl
  refine apc walks_spec ?_
  conv => whnf
  refine apc h2 ?_
  conv => whnf
  refine apc h3 ?_
  conv => whnf
  cases hF : F with
  | nil =>
    subst hF
    refine apc cloneN_spec ?_
    conv => whnf
    refine amc [3] 10000 (delEmpty_spec nm) ?_
    conv => whnf
    subst hC
    refine apc h4 ?_
    conv => whnf
    exact .inl rfl
  | cons a r =>
    subst hF
    refine amc [] 10000 (cloneO_spec a r (by omega)) ?_
    conv => whnf
    cases hq : idxF nm (a :: r) with
    | none =>
      rw [idx_none hq] at hC
      subst hC
      refine amc [10007, 3] 20000 (delNone_spec (a :: r) nm (by omega) hq) ?_
      conv => whnf
      refine apb [10007] h4 ?_ (hq := ⟨by simp, trivial⟩)
      conv => whnf
      exact .inl rfl
    | some i =>
      have hd := delSome_spec (a :: r) nm (by omega) hq
      rw [hC] at hd
      refine amc [10007, 3] 20000 hd ?_
      conv => whnf
      refine apb [20041] h4 ?_ (hq := ⟨by simp, trivial⟩)
      conv => whnf
      exact .inl rfl
end TR
