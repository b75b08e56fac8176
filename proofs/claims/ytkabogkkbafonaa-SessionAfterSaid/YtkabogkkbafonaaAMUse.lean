/-
  DERIVED. Part of an abstract machine over plain values, proved sound against the model: no statement about a program. No conditions.
-/
import Derived.Test.YtkabogkkbafonaaAMLaw
namespace Go.AM

theorem asplit {g : Bool} {X Y : Prop} (h1 : g = true → X) (h2 : g = false → Y) : ASplit g X Y := by cases g; exact h2 rfl; exact h1 rfl
theorem wrap64 {x : Int} (h1 : -9223372036854775808 ≤ x) (h2 : x ≤ 9223372036854775807) : IntKind.i64.wrap x = x := by
  unfold IntKind.wrap; simp [IntKind.bits, IntKind.signed]; omega
theorem aidx {α : Type} {xs : List α} {f : α → PV} {k : Nat} {a : α} {K : PV → Prop} (h : xs[k]? = some a) (hk : K (f a)) : AIdx (xs.map f) k K :=
  ⟨f a, by omega, by simp [h], hk⟩
theorem aidxI {α : Type} {xs : List α} {f : α → PV} {k : Int} {a : α} {K : PV → Prop} (h0 : 0 ≤ k) (h : xs[k.toNat]? = some a) (hk : K (f a)) : AIdx (xs.map f) k K :=
  ⟨f a, h0, by simp [h], hk⟩
theorem aneed {c K : Prop} (h1 : c) (h2 : K) : ANeed c K := ⟨h1, h2⟩
/-- at a call: the contract -/
theorem apc {P : Program} {f : Nat} {args : List AV} {r : AV} {K : AV → Prop} (h : APure P f args r) (hk : K r) : pcall P f args K := ⟨r, h, hk⟩
theorem pb {x y : Bool} (h : x = y) : AV.p (.b x) = .p (.b y) := by rw [h]
theorem pi {k : IntKind} {x y : Int} (h : x = y) : AV.p (.i k x) = .p (.i k y) := by rw [h]
theorem rok {v r : AV} (h : v = r) : RetOK v r := .inl h

theorem APure.nilOrNot {P : Program} {f : Nat} {pre post : List AV} {sz : Nat} {r : AV} (h1 : APure P f (pre ++ .nilS :: post) r) (h2 : APure P f (pre ++ .es sz :: post) r) : APure P f (pre ++ .p (.sl sz []) :: post) r := by
  refine ⟨h1.1, fun g w vs hno hl hrel => ?_⟩
  have hlen : pre.length < vs.length := by rw [hl]; simp
  have hv : vs[pre.length]? = some vs[pre.length] := List.getElem?_eq_getElem hlen
  have hr := (hrel pre.length _ (.p (.sl sz [])) hv (by simp)).pv
  have other : ∀ (y : AV), VRel g w (fun _ => False) none vs[pre.length] y → ∀ (j : Nat) (v : Value) (x : AV), vs[j]? = some v → (pre ++ y :: post)[j]? = some x → VRel g w (fun _ => False) none v x := by
    intro y hy j v x q1 q2
    by_cases hj : j = pre.length
    · subst hj
      rw [hv] at q1; cases q1
      simp at q2; subst q2; exact hy
    · refine hrel j v x q1 ?_
      rw [← q2]
      rcases Nat.lt_or_gt_of_ne hj with q | q
      · rw [List.getElem?_append_left q, List.getElem?_append_left q]
      · rw [List.getElem?_append_right (by omega), List.getElem?_append_right (by omega)]
        obtain ⟨i, hi⟩ : ∃ i, j - pre.length = i + 1 := ⟨j - pre.length - 1, by omega⟩
        rw [hi]; simp
  generalize hval : vs[pre.length] = u at hr
  cases hr with
  | nil => exact h1.2 g w vs hno (by rw [hl]; simp) (other .nilS (by rw [hval]; exact .nilS _))
  | sl a cap _ _ f hs => exact h2.2 g w vs hno (by rw [hl]; simp) (other (.es sz) (by rw [hval]; exact .es _ a cap sz hs))
end Go.AM
namespace Go.AM
theorem inc64 {k : Nat} (h : k < 9223372036854775807) : IntKind.i64.wrap ((k : Int) + 1) = ((k + 1 : Nat) : Int) := by rw [wrap64 (by omega) (by omega)]; omega
theorem drop_cons {α : Type} {l : List α} {k : Nat} {a : α} (h : l[k]? = some a) : l.drop k = a :: l.drop (k + 1) := by
  obtain ⟨h1, h2⟩ := List.getElem?_eq_some_iff.1 h
  rw [List.drop_eq_getElem_cons h1, h2]
theorem take_snoc {α : Type} {l : List α} {k : Nat} {a : α} (h : l[k]? = some a) : l.take (k + 1) = l.take k ++ [a] := by
  obtain ⟨h1, h2⟩ := List.getElem?_eq_some_iff.1 h
  rw [List.take_succ_eq_append_getElem h1, h2]
end Go.AM
namespace Go.AM
/-- nil is an empty slice with the right to append -/
theorem lp_nil {P : Program} {n : Nat} {c : Code} {K : Exit → Env → Heap → Prop} {e : Env} {h : Heap} (i sz : Nat) (hi : eget e i = .nilS) (hk : lpOf P n c K ((i, .so (sz + 1) []) :: e) h) : lpOf P n c K e h := by
  intro g0 w0 g w a s hE
  refine hk g0 w0 g w a ⟨s.defers, s.size, fun j => ?_, s.heap, s.bnd⟩ hE
  by_cases q : i = j
  · subst q
    rw [eget_self]
    have := s.env i
    rw [hi] at this
    generalize a.tmps.getD i undef = v at this
    cases this
    exact .full _ none (sz + 1) [] (by omega) (.nil _)
  · rw [eget_ne q]; exact s.env j
end Go.AM
