/-
  DERIVED. Contracts of the functions that the law reaches, and the law itself, for every input. No conditions.
-/
import Derived.Test.YtkabogkkbafonaaSes5
import Derived.Test.YtkabogkkbafonaaAMStr
open Go Go.AM Go.Proofs
namespace SE
def clAt (cl : List Int) (i : Int) : Int := (cl[i.toNat]?).getD 0
def eqC (cl : List Int) : List Br → List Br → Bool
  | [], [] => true
  | x :: r, y :: r' => ((x.msg == y.msg) && (clAt cl x.nxt == clAt cl y.nxt)) && eqC cl r r'
  | _, _ => false
theorem eqC_len (cl : List Int) : ∀ (a b : List Br), a.length ≠ b.length → eqC cl a b = false
  | [], [], h => absurd rfl h
  | [], _ :: _, _ => rfl
  | _ :: _, [], _ => rfl
  | x :: r, y :: r', h => by rw [eqC, eqC_len cl r r' (by simpa using h), Bool.and_false]
def inB (n : Nat) (b : Br) : Prop := 0 ≤ b.nxt ∧ b.nxt < n
theorem apartC_spec (cl : List Int) (x y : Br) (hx : inB cl.length x) (hy : inB cl.length y) : APure Try.prog 32 [.p (eB x), .p (eB y), .vp [.sl 1 (cl.map vI)]] (.p (.b ((x.msg == y.msg) && (clAt cl x.nxt == clAt cl y.nxt)))) := by
  obtain ⟨xm, xn⟩ := x
  obtain ⟨ym, yn⟩ := y
  obtain ⟨hx1, hx2⟩ := hx
  obtain ⟨hy1, hy2⟩ := hy
  simp only at hx1 hx2 hy1 hy2
  obtain ⟨cx, hcx⟩ : ∃ w, cl[xn.toNat]? = some w := ⟨_, List.getElem?_eq_getElem (by omega)⟩
  obtain ⟨cy, hcy⟩ : ∃ w, cl[yn.toNat]? = some w := ⟨_, List.getElem?_eq_getElem (by omega)⟩
  have ex : clAt cl xn = cx := by simp [clAt, hcx]
  have ey : clAt cl yn = cy := by simp [clAt, hcy]
  simp only [ex, ey]
  refine APure.intro (tyOf_ok Try.prog) hmix Try.func32 rfl (by rfl) (by kernel_rfl) (by show 3 ≤ _; decide) rfl ?_
  conv => whnf
  refine asplit ?_ ?_ <;> intro h1 <;> conv => whnf
  · refine aidxi (x := vI cx) hx1 (by simp [hcx]) ?_
    conv => whnf
    refine aidxi (x := vI cy) hy1 (by simp [hcy]) ?_
    conv => whnf
    refine aneed (by kernel_rfl) ?_
    conv => whnf
    exact .inl (pb (by rw [show (xm == ym) = true from h1]; rfl))
  · refine aneed (by kernel_rfl) ?_
    conv => whnf
    exact .inl (pb (by rw [show (xm == ym) = false from h1]; rfl))
theorem equalC_spec (cl : List Int) (a b : List Br) (ha : a.length < 9223372036854775807) (h1 : ∀ x ∈ a, inB cl.length x) (h2 : ∀ x ∈ b, inB cl.length x) : APure Try.prog 31 [.p (.sl 2 (a.map eB)), .p (.sl 2 (b.map eB)), .fn 32 [] [.vp [.sl 1 (cl.map vI)]]] (.p (.b (eqC cl a b))) := by
  refine APure.intro (tyOf_ok Try.prog) hmix Try.func31 rfl (by rfl) (by kernel_rfl) (by show 3 ≤ _; decide) rfl ?_
  conv => whnf
  refine asplit ?_ ?_ <;> intro g0 <;> conv => whnf
  · exact .inl (pb (eqC_len cl a b (by simp at g0; omega)).symm)
  have hl : a.length = b.length := by simp at g0; omega
  refine loopS (tyOf_ok _) hmix (by kernel_rfl) a.length [1, 2, 15, 16, 17] [] (fun k _ => [.p (.sl 2 (b.map eB)), .fn 32 [] [.vp [.sl 1 (cl.map vI)]], .p (.sl 2 (a.map eB)), .p (.i .i64 (a.map eB).length), .p (.i .i64 (ix k))])
    (fun _ _ => []) (fun k _ => eqC cl a b = eqC cl (a.drop k) (b.drop k)) () ⟨rfl, rfl, rfl, rfl⟩ rfl ?_
  intro k _ hk hs
  conv => whnf
  refine asplit ?_ ?_ <;> intro g1 <;> conv => whnf
  · have hk1 := ix_tt g1 (by simp) hk ha
    obtain ⟨x, hx⟩ : ∃ x, a[k]? = some x := ⟨a[k], by simp [hk1]⟩
    obtain ⟨y, hy⟩ : ∃ x, b[k]? = some x := ⟨b[k], by simp [← hl, hk1]⟩
    rw [drop_cons hx, drop_cons hy, eqC] at hs
    have hc := apartC_spec cl x y (h1 x (List.mem_of_getElem? hx)) (h2 y (List.mem_of_getElem? hy))
    generalize ((x.msg == y.msg) && (clAt cl x.nxt == clAt cl y.nxt)) = r at hc hs
    refine aidxk (x := eB x) (by simp [hx]) (by omega) ?_
    obtain ⟨xm, xn⟩ := x
    conv => whnf
    refine aidxk (x := eB y) (by simp [hy]) (by omega) ?_
    obtain ⟨ym, yn⟩ := y
    conv => whnf
    refine apc hc ?_
    conv => whnf
    refine asplit ?_ ?_ <;> intro h3 <;> conv => whnf
    · simp only [Bool.not_eq_true'] at h3
      exact .inl (pb (by rw [hs, h3]; rfl))
    · simp only [Bool.not_eq_false'] at h3
      exact ⟨hk1, (), ⟨rfl, rfl, rfl, rfl⟩, by rw [hs, h3]; rfl⟩
  · have hk1 := ix_ff g1 (by simp) hk ha
    rw [List.drop_eq_nil_of_le (by omega), List.drop_eq_nil_of_le (by omega)] at hs
    exact .inl (pb (by rw [hs]; rfl))
def apartF (l : List St) (cl : List Int) (i j : Int) : Bool := ((stAt l i).kind == (stAt l j).kind) && eqC cl (stAt l i).brs (stAt l j).brs
theorem apart_spec (l : List St) (v : Vs l) (cl : List Int) (hc : cl.length = l.length) (i j : Int) (hi : 0 ≤ i ∧ i < l.length) (hj : 0 ≤ j ∧ j < l.length) :
    APure Try.prog 29 [.p (.sl 2 (l.map eS)), .p (.sl 1 (cl.map vI)), .p (.i .i64 i), .p (.i .i64 j)] (.p (.b (apartF l cl i j))) := by
  obtain ⟨mi, gi⟩ := v.at hi.1 hi.2
  obtain ⟨mj, gj⟩ := v.at hj.1 hj.2
  unfold apartF
  obtain ⟨_, _, li, bi, _⟩ := v.st _ mi
  obtain ⟨_, _, lj, bj, _⟩ := v.st _ mj
  generalize stAt l i = x at *
  generalize stAt l j = y at *
  obtain ⟨kx, bx⟩ := x
  obtain ⟨ky, by'⟩ := y
  simp only at li bi lj bj ⊢
  have h1 := equalC_spec cl bx by' (by omega) (fun x hx => by unfold inB; rw [hc]; exact bi x hx) (fun x hx => by unfold inB; rw [hc]; exact bj x hx)
  generalize eqC cl bx by' = r at h1
  refine APure.intro (tyOf_ok Try.prog) hmix Try.func29 rfl (by rfl) (by kernel_rfl) (by show 4 ≤ _; decide) rfl ?_
  conv => whnf
  refine aidxi (x := eS ⟨kx, bx⟩) hi.1 (by rw [List.getElem?_map, gi]; rfl) ?_
  conv => whnf
  refine aidxi (x := eS ⟨ky, by'⟩) hj.1 (by rw [List.getElem?_map, gj]; rfl) ?_
  conv => whnf
  refine asplit ?_ ?_ <;> intro g1 <;> conv => whnf
  · refine aidxi (x := eS ⟨kx, bx⟩) hi.1 (by rw [List.getElem?_map, gi]; rfl) ?_
    conv => whnf
    refine aidxi (x := eS ⟨ky, by'⟩) hj.1 (by rw [List.getElem?_map, gj]; rfl) ?_
    conv => whnf
    refine apb [5] h1 ?_
    conv => whnf
    refine aneed (by kernel_rfl) ?_
    conv => whnf
    exact .inl (pb (by rw [show (kx == ky) = true from g1]; rfl))
  · refine aneed (by kernel_rfl) ?_
    conv => whnf
    exact .inl (pb (by rw [show (kx == ky) = false from g1]; rfl))
end SE
