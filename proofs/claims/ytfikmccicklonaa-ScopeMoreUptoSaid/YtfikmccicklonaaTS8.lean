/-
  DERIVED. Contracts of the functions that the law reaches, and the law itself, for every input. No conditions.
-/
import Derived.Test.YtfikmccicklonaaTS7
open Go Go.AM Go.Proofs
set_option maxRecDepth 100000
namespace TR
theorem cloneS_spec (l : List ByteArray) (h : l.length ≤ 2097152) : APure Try.prog 22 [.p (.sl 1 (l.map eStr))] (.so 1 (l.map eStr)) := by
  cases l with
  | nil =>
    refine APure.nilOrNot (pre := []) (post := []) (sz := 1) ?_ ?_
    · refine APure.intro (tyOf_ok Try.prog) hmix Try.func22 rfl (by rfl) (by kernel_rfl) (by show 1 ≤ _; decide) rfl ?_
      conv => whnf
      exact .inl rfl
    · refine APure.intro (tyOf_ok Try.prog) hmix Try.func22 rfl (by rfl) (by kernel_rfl) (by show 1 ≤ _; decide) rfl ?_
      conv => whnf
      refine aneed (by decide) ?_
      conv => whnf
      exact .inl rfl
  | cons a r =>
    refine APure.intro (tyOf_ok Try.prog) hmix Try.func22 rfl (by rfl) (by kernel_rfl) (by show 1 ≤ _; decide) rfl ?_
    conv => whnf
    refine aneed (show (([] : List PV).length + ((a :: r).map eStr).length) * 16 ≤ 140737488355328 by simp at h ⊢; omega) ?_
    conv => whnf
    exact .inl rfl
def p0 : Pg := ⟨⟨#[]⟩, 0, [], [], [], [], [], []⟩
def e1 : Ex := .mk 5 0 ⟨#[121]⟩ [] [] [] [] 7
theorem scopes_spec : APure Try.prog 29 [] (.p (.b true)) := by
  have h := expr_spec p0 (by decide +kernel) [⟨#[120]⟩] e1 (by decide) (by decide +kernel)
  rw [show exprF p0 [⟨#[120]⟩] e1 = (7, true) by rfl] at h
  refine APure.intro (tyOf_ok Try.prog) hmix Try.func29 rfl (by rfl) (by kernel_rfl) (by show 0 ≤ _; decide) rfl ?_
  conv => whnf
  refine apc h ?_
  conv => whnf
  exact .inl rfl
theorem scopeMore_spec (p : Pg) (l : List ByteArray) (more : ByteArray) (hp : wPg p ≤ 1048576) (hl : l.length ≤ 1048576) : APure Try.prog 7 [.p (ePg p), .p (.sl 1 (l.map eStr)), .p (.s more)] (.p (.b true)) := by
  have h1 := small_spec p hp
  have h2 := bodiesOf_spec p hp
  have hB := fun e (h : e ∈ bodiesF p) => bodies_mem h
  have hBl : (bodiesF p).length ≤ 2097152 := by
    have := fus_len (funsF p); have := funsF_wts p; have := acs_len p.actors; have := wPg_eq p
    simp [bodiesF]; omega
  have hX := fun e (he : wE e ≤ 1048640) => expr_spec p hp l e (by omega) he
  have hY := fun e (he : wE e ≤ 1048640) => expr_spec p hp (l ++ [more]) e (by simp; omega) he
  have hM := fun e (he : wE e ≤ 1048640) => expr_more p l more e (by omega) (by omega)
  have hcl := cloneS_spec l (by omega)
  generalize bodiesF p = Bs at *
  generalize exprF p l = F1 at *
  generalize exprF p (l ++ [more]) = F2 at *
  generalize decide (sumB Bs 0 ≤ 400) = sm at h1
  generalize wPg p = W0 at *
  obtain ⟨nm, ver, us, ds, ts, is, fs, acs⟩ := p
  refine APure.intro (tyOf_ok Try.prog) hmix Try.func7 rfl (by rfl) (by kernel_rfl) (by show 3 ≤ _; decide) rfl ?_
  conv => whnf
  refine apc h1 ?_
  conv => whnf
  refine asplit ?_ ?_ <;> intro g1 <;> conv => whnf
  · exact .inl rfl
  refine apc scopes_spec ?_
  conv => whnf
  refine apc h2 ?_
  conv => whnf
  refine loopS (tyOf_ok _) hmix (by kernel_rfl) Bs.length [1, 2, 3, 19, 20, 21] [3] (fun k (s : Unit) => [.p (.sl 1 (l.map eStr)), .p (.s more), .ptr 3 0, .p (.sl 8 (eEs Bs)), .p (.i .i64 (eEs Bs).length), .p (.i .i64 (ix k))])
    (fun _ _ => [.cells [.p (.s nm), .p (.i .i64 ver), .p (.sl 3 us), .p (.sl 3 (ds.map eDt)), .p (.sl 2 (ts.map eTr)), .p (.sl 3 (is.map eIm)), .p (.sl 15 (fs.map eFu)), .p (.sl 14 (acs.map eAc))]]) (fun k _ => True) () ⟨rfl, rfl, rfl, rfl⟩ trivial ?_
  intro k _ hk _
  conv => whnf
  refine asplit ?_ ?_ <;> intro h3 <;> conv => whnf
  · have hk1 := ix_tt h3 (by rw [eEs_len]) hk (by omega)
    obtain ⟨b, hb1⟩ : ∃ b, Bs[k]? = some b := ⟨_, List.getElem?_eq_getElem hk1⟩
    refine aidxk (eEs_get hb1) (by omega) ?_
    have hbw := hB b (List.mem_of_getElem? hb1)
    have c1 := hX b (by omega)
    have c2 := hY b (by omega)
    have c3 := hM b (by omega)
    generalize F1 b = f1 at c1 c3
    generalize F2 b = f2 at c2 c3
    obtain ⟨f1a, f1b⟩ := f1
    obtain ⟨f2a, f2b⟩ := f2
    obtain ⟨b1, b2, b3, b4, b5, b6, b7, b8⟩ := b
    rw [List.map_append] at c2
    conv => whnf
    refine apc c1 ?_
    conv => whnf
    refine apc hcl ?_
    conv => whnf
    refine aneed (show ((l.map eStr).length + 1) * 16 ≤ 140737488355328 by simp; omega) ?_
    conv => whnf
    refine apc c2 ?_
    conv => whnf
    refine aneed (by kernel_rfl) ?_
    conv => whnf
    refine asplit ?_ ?_ <;> intro h4 <;> conv => whnf
    · have : f1b = false := by cases f1b with | false => rfl | true => simp at h4
      subst this
      obtain rfl : f2b = false := c3 rfl
      exact ⟨hk1, (), ⟨rfl, rfl, rfl, rfl⟩, trivial⟩
    · exact ⟨hk1, (), ⟨rfl, rfl, rfl, rfl⟩, trivial⟩
  · exact .inl rfl
end TR
