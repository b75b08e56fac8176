/-
  DERIVED. Contracts of the functions that the law reaches, and the law itself, for every input. No conditions.
-/
import Derived.Test.YtfikmccicklonaaTS6
import Derived.Test.YtfikmccicklonaaTR13
open Go Go.AM Go.Proofs
set_option maxRecDepth 100000
namespace TR
/-! the plain law: more names in scope -/
def Bd (c : Nat) (m : IM) : Prop := ∀ s, 0 ≤ bv m s ∧ bv m s ≤ c
theorem Bd.up {c d : Nat} {m : IM} (h : Bd c m) (hc : c ≤ d) : Bd d m := fun s => ⟨(h s).1, by have := (h s).2; omega⟩
theorem incs_bv : ∀ (ns : List ByteArray) (c : Nat) (m : IM), Bd c m → c + ns.length ≤ 2 ^ 40 → ∀ x, bv (ns.foldl incF m) x = bv m x + cnt x ns
  | [], c, m, h, hc, x => by simp [cnt]
  | s :: r, c, m, h, hc, x => by
    simp only [List.length_cons] at hc
    have h1 : Bd (c + 1) (incF m s) := fun y => by
      rw [bv_inc]; have := h y; have := h s
      split
      · rw [wrap64 (by omega) (by omega)]; omega
      · omega
    rw [List.foldl_cons, incs_bv r (c + 1) (incF m s) h1 (by omega) x, bv_inc, cnt]
    have := h s
    by_cases q : x = s
    · subst q; simp [(beq_bytes x x).2 rfl]; rw [wrap64 (by omega) (by omega)]; omega
    · simp [q, beq_no (fun h => q h.symm)]
theorem decs_bv : ∀ (ns : List ByteArray) (m : IM), (∀ x, (cnt x ns : Int) ≤ bv m x ∧ bv m x ≤ 2 ^ 40) → ∀ x, bv (ns.foldl decF m) x = bv m x - cnt x ns
  | [], m, h, x => by simp [cnt]
  | s :: r, m, h, x => by
    have hs := h s
    have h1 : ∀ y, (cnt y r : Int) ≤ bv (decF m s) y ∧ bv (decF m s) y ≤ 2 ^ 40 := fun y => by
      rw [bv_dec]; have := h y
      rw [cnt] at this hs
      by_cases q : y = s
      · subst q; simp [(beq_bytes y y).2 rfl] at hs ⊢; rw [wrap64 (by omega) (by omega)]; omega
      · simp [q, beq_no (fun h => q h.symm)] at this ⊢; omega
    rw [List.foldl_cons, decs_bv r (decF m s) h1 x, bv_dec, cnt]
    rw [cnt] at hs
    by_cases q : x = s
    · subst q; simp [(beq_bytes x x).2 rfl] at hs ⊢; rw [wrap64 (by omega) (by omega)]; omega
    · simp [q, beq_no (fun h => q h.symm)]
theorem incs_Bd {ns : List ByteArray} {c : Nat} {m : IM} (h : Bd c m) (hc : c + ns.length ≤ 2 ^ 40) : Bd (c + ns.length) (ns.foldl incF m) := fun x => by
  rw [incs_bv ns c m h hc x]; have := h x; have := cnt_le x ns; omega
theorem und_keep {A B C : BM} {ns : List ByteArray} {e : Ex} {c : Nat} {m : IM} (h : Bd c m) (hc : c + ns.length ≤ 2 ^ 40) (hk : ∀ m, Bd (c + ns.length) m → ∀ s, bv (resF A B C e m).2 s = bv m s) : ∀ s, bv (undF A B C ns e m).2 s = bv m s := by
  intro s
  rw [undF]
  have h1 := incs_Bd h hc
  have h2 := hk _ h1
  have h3 := incs_bv ns c m h hc
  rw [decs_bv ns _ (fun x => by rw [h2 x, h3 x]; have := h x; have := cnt_le x ns; omega) s, h2 s, h3 s]; omega
theorem names_len (k : Int) (t : ByteArray) (ns : List ByteArray) (i : Nat) : (namesF k t ns i).length ≤ 1 + ns.length := by rw [namesF]; cases ((k == 6) && (i == 1)) <;> cases k == 10 <;> simp
theorem resFs_cons (A B C : BM) (k : Int) (t : ByteArray) (ns : List ByteArray) (i : Nat) (e : Ex) (r : List Ex) (m : IM) : resFs A B C k t ns i (e :: r) m =
    bif (undF A B C (namesF k t ns i) e m).1.2 then (((undF A B C (namesF k t ns i) e m).1.1, true), (undF A B C (namesF k t ns i) e m).2) else resFs A B C k t ns (i + 1) r (undF A B C (namesF k t ns i) e m).2 := by rw [resFs]; rfl
theorem resFa_cons (A B C : BM) (b : Arm) (r : List Arm) (m : IM) : resFa A B C (b :: r) m =
    bif (undF A B C (boundF b.pat) b.body m).1.2 then (((undF A B C (boundF b.pat) b.body m).1.1, true), (undF A B C (boundF b.pat) b.body m).2) else resFa A B C r (undF A B C (boundF b.pat) b.body m).2 := by obtain ⟨p, e⟩ := b; rw [resFa]; rfl
/-- the pair of runs -/
structure Pair (c : Nat) (m m' : IM) : Prop where
  l : Bd c m
  r : Bd c m'
  le : ∀ s, bv m s ≤ bv m' s
def Good (A B C : BM) (c : Nat) (f : IM → Rs) : Prop := ∀ m m', Pair c m m' → (∀ s, bv (f m).2 s = bv m s) ∧ (∀ s, bv (f m').2 s = bv m' s) ∧ ((f m).1.2 = false → (f m').1.2 = false)
theorem Pair.of_eq {c : Nat} {m m' n n' : IM} (h : Pair c m m') (h1 : ∀ s, bv n s = bv m s) (h2 : ∀ s, bv n' s = bv m' s) : Pair c n n' :=
  ⟨fun s => by rw [h1]; exact h.l s, fun s => by rw [h2]; exact h.r s, fun s => by rw [h1, h2]; exact h.le s⟩
theorem und_good {A B C : BM} {ns : List ByteArray} {e : Ex} {c : Nat} (hc : c + ns.length ≤ 2 ^ 40) (h : Good A B C (c + ns.length) (resF A B C e)) : Good A B C c (undF A B C ns e) := by
  intro m m' hp
  have self : ∀ m, Bd (c + ns.length) m → ∀ s, bv (resF A B C e m).2 s = bv m s := fun m hm => (h m m ⟨hm, hm, fun _ => Int.le_refl _⟩).1
  refine ⟨und_keep hp.l hc self, und_keep hp.r hc self, ?_⟩
  exact (h _ _ ⟨incs_Bd hp.l hc, incs_Bd hp.r hc, fun s => by rw [incs_bv ns c m hp.l hc, incs_bv ns c m' hp.r hc]; have := hp.le s; omega⟩).2.2
theorem step_good {A B C : BM} {c : Nat} {f g : IM → Rs} (hf : Good A B C c f) (hg : Good A B C c g) : Good A B C c (fun m => bif (f m).1.2 then (((f m).1.1, true), (f m).2) else g (f m).2) := by
  intro m m' hp
  obtain ⟨f1, f2, f3⟩ := hf m m' hp
  obtain ⟨g1, g2, g3⟩ := hg _ _ (hp.of_eq f1 f2)
  refine ⟨fun s => ?_, fun s => ?_, ?_⟩
  · simp only; cases (f m).1.2 with | true => exact f1 s | false => simp only [cond_false]; rw [g1, f1]
  · simp only; cases (f m').1.2 with | true => exact f2 s | false => simp only [cond_false]; rw [g2, f2]
  · simp only; cases hq : (f m).1.2 with
    | true => intro h; cases h
    | false => simp only [cond_false]; rw [f3 hq]; exact g3
theorem id_good {A B C : BM} {c : Nat} (q : Int × Bool) : Good A B C c (fun m => (q, m)) := fun _ _ _ => ⟨fun _ => rfl, fun _ => rfl, id⟩
theorem resFs_good {A B C : BM} {k : Int} {t : ByteArray} {ns : List ByteArray} {c : Nat} : ∀ (xs : List Ex) (i : Nat), (∀ e ∈ xs, ∀ j, Good A B C c (undF A B C (namesF k t ns j) e)) → Good A B C c (resFs A B C k t ns i xs)
  | [], i, _ => by simp only [resFs]; exact id_good (0, false)
  | e :: r, i, h => by
    have h1 := h e (by simp) i
    have h2 := resFs_good r (i + 1) (fun x hx => h x (by simp [hx]))
    have := step_good h1 h2
    intro m m' hp
    rw [resFs_cons, resFs_cons]; exact this m m' hp
theorem resFa_good {A B C : BM} {c : Nat} : ∀ (xs : List Arm), (∀ b ∈ xs, Good A B C c (undF A B C (boundF b.pat) b.body)) → Good A B C c (resFa A B C xs)
  | [], _ => by simp only [resFa]; exact id_good (0, false)
  | e :: r, h => by
    have h1 := h e (by simp)
    have h2 := resFa_good r (fun x hx => h x (by simp [hx]))
    have := step_good h1 h2
    intro m m' hp
    rw [resFa_cons, resFa_cons]; exact this m m' hp
theorem wrong_mono {A B C : BM} {m m' : IM} {c : Nat} {k : Int} {t : ByteArray} {ns : List ByteArray} {ms : List Arm} (hp : Pair c m m') (h : wrongF A B C m k t ns ms = false) : wrongF A B C m' k t ns ms = false := by
  rw [wrongF] at h ⊢
  have h1 : headF A B C m k t ns = false := by cases hq : headF A B C m k t ns with | false => rfl | true => rw [hq] at h; cases h
  have h2 : headF A B C m' k t ns = false := by
    rw [headF] at h1 ⊢
    cases hk : k == 5 with
    | false => rw [hk] at h1; exact h1
    | true =>
      rw [hk] at h1
      simp only [cond_true, beq_eq_false_iff_ne] at h1 ⊢
      have := hp.le t; have := (hp.l t).1
      rw [show (slook t m).getD 0 = bv m t from rfl] at h1
      rw [show (slook t m').getD 0 = bv m' t from rfl]; omega
  rw [h1] at h; rw [h2]; exact h
theorem res_good (A B C : BM) (e : Ex) : ∀ c, c + wE e ≤ 2 ^ 40 → Good A B C c (resF A B C e) := by
  induction e using Ex.ind with
  | h k n t ns ts xs ms p ih1 ih2 =>
  intro c hc
  have hl := wE_mk k n t ns ts xs ms p
  have hns := wSs_len ns
  have g1 : Good A B C c (resFs A B C k t ns 0 xs) := resFs_good xs 0 (fun e he j => by
    have h1 := names_len k t ns j
    have h2 := wEs_mem he
    exact und_good (by omega) (ih1 e he _ (by omega)))
  have g2 : Good A B C c (resFa A B C ms) := resFa_good ms (fun b hb => by
    have h1 := bound_le b.pat
    have h2 := wE_body (k := k) (n := n) (t := t) (ns := ns) (ts := ts) (xs := xs) (p := p) hb
    exact und_good (by omega) (ih2 b hb _ (by omega)))
  have g3 : Good A B C c (fun m => bif (resFs A B C k t ns 0 xs m).1.2 then resFs A B C k t ns 0 xs m else resFa A B C ms (resFs A B C k t ns 0 xs m).2) := by
    intro m m' hp
    obtain ⟨f1, f2, f3⟩ := g1 m m' hp
    obtain ⟨h1, h2, h3⟩ := g2 _ _ (hp.of_eq f1 f2)
    refine ⟨fun s => ?_, fun s => ?_, ?_⟩
    · simp only; cases (resFs A B C k t ns 0 xs m).1.2 with | true => exact f1 s | false => simp only [cond_false]; rw [h1, f1]
    · simp only; cases (resFs A B C k t ns 0 xs m').1.2 with | true => exact f2 s | false => simp only [cond_false]; rw [h2, f2]
    · simp only; cases hq : (resFs A B C k t ns 0 xs m).1.2 with
      | true => intro h; simp only [cond_true] at h; rw [hq] at h; cases h
      | false => simp only [cond_false]; rw [f3 hq]; exact h3
  intro m m' hp
  obtain ⟨f1, f2, f3⟩ := g3 m m' hp
  rw [resF, resF]
  refine ⟨fun s => ?_, fun s => ?_, ?_⟩
  · cases wrongF A B C m k t ns ms with | true => rfl | false => exact f1 s
  · cases wrongF A B C m' k t ns ms with | true => rfl | false => exact f2 s
  · cases hq : wrongF A B C m k t ns ms with
    | true => intro h; cases h
    | false => simp only [cond_false]; rw [wrong_mono hp hq]; exact f3
theorem cnt_app (s : ByteArray) : ∀ (l r : List ByteArray), cnt s l ≤ cnt s (l ++ r)
  | [], r => by simp [cnt]
  | a :: l, r => by have := cnt_app s l r; simp only [List.cons_append, cnt]; omega
theorem expr_more (p : Pg) (l : List ByteArray) (more : ByteArray) (e : Ex) (hl : l.length ≤ 2097152) (he : wE e ≤ 2097152) (h : (exprF p l e).2 = false) : (exprF p (l ++ [more]) e).2 = false := by
  have h0 : Bd 0 ([] : IM) := fun s => by simp [bv, slook]
  have h1 := incs_Bd (ns := l ++ [more]) h0 (by simp; omega)
  have h2 := incs_Bd (ns := l) h0 (by simp; omega)
  simp only [List.length_append, List.length_cons, List.length_nil] at h1
  refine (res_good _ _ _ e (0 + (l.length + 1)) (by omega) _ _ ⟨h2.up (by omega), h1, fun s => ?_⟩).2.2 h
  rw [incs_bv l 0 _ h0 (by omega), incs_bv (l ++ [more]) 0 _ h0 (by simp; omega)]
  have := cnt_app s l [more]
  omega
end TR
