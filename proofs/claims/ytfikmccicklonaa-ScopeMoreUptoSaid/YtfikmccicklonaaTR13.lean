/-
  DERIVED. Contracts of the functions that the law reaches, and the law itself, for every input. No conditions.
-/
import Derived.Test.YtfikmccicklonaaTR7
open Go Go.AM Go.Proofs
set_option maxRecDepth 100000
namespace TR
/-! a let takes its name, and no other, from the free names -/
def bv (m : List (ByteArray × Int)) (s : ByteArray) : Int := (slook s m).getD 0
theorem bv_put (m : List (ByteArray × Int)) (s x : ByteArray) (v : Int) : bv (sput s v m) x = if x = s then v else bv m x := by
  unfold bv
  rw [slook_sput]
  by_cases h : x = s
  · rw [if_pos h, (beq_bytes x s).2 h]; rfl
  · have : (x == s) = false := by cases hq : x == s with | false => rfl | true => exact absurd ((beq_bytes x s).1 hq) h
    rw [if_neg h, this]; rfl
theorem bv_inc (m : List (ByteArray × Int)) (s x : ByteArray) : bv (incF m s) x = if x = s then IntKind.i64.wrap (bv m s + 1) else bv m x := bv_put ..
theorem bv_dec (m : List (ByteArray × Int)) (s x : ByteArray) : bv (decF m s) x = if x = s then IntKind.i64.wrap (bv m s - 1) else bv m x := bv_put ..
structure Rel (nm : ByteArray) (c : Nat) (σ τ : St) : Prop where
  oth : ∀ s, s ≠ nm → bv σ.bound s = bv τ.bound s
  own : bv τ.bound nm = c
  one : bv σ.bound nm = c + 1
  see : ∀ s, s ≠ nm → slook s σ.seen = slook s τ.seen
  out : σ.out = τ.out.filter (fun s => !(s == nm))
def cnt (nm : ByteArray) : List ByteArray → Nat
  | [] => 0
  | s :: r => (bif s == nm then 1 else 0) + cnt nm r
theorem cnt_le (nm : ByteArray) : ∀ (l : List ByteArray), cnt nm l ≤ l.length
  | [] => by simp [cnt]
  | s :: r => by have := cnt_le nm r; simp only [cnt, List.length_cons]; cases s == nm <;> simp <;> omega
theorem beq_no {a b : ByteArray} (h : a ≠ b) : (a == b) = false := by cases hq : a == b with | false => rfl | true => exact absurd ((beq_bytes a b).1 hq) h
theorem inc_rel {nm : ByteArray} : ∀ (ns : List ByteArray) {c : Nat} {σ τ : St}, Rel nm c σ τ → c + ns.length ≤ 2 ^ 40 → Rel nm (c + cnt nm ns) (σ.inc ns) (τ.inc ns)
  | [], c, σ, τ, h, _ => h
  | s :: r, c, σ, τ, h, hc => by
    simp only [List.length_cons] at hc
    have hc1 : (c : Int) ≤ 1099511627776 := by omega
    by_cases hs : s = nm
    · subst hs
      have h1 : Rel s (c + 1) ⟨σ.seen, incF σ.bound s, σ.out⟩ ⟨τ.seen, incF τ.bound s, τ.out⟩ := by
        refine ⟨fun x hx => ?_, ?_, ?_, h.see, h.out⟩
        · show bv (incF σ.bound s) x = bv (incF τ.bound s) x
          rw [bv_inc, bv_inc, if_neg hx, if_neg hx]; exact h.oth x hx
        · show bv (incF τ.bound s) s = _
          rw [bv_inc, if_pos rfl, h.own, wrap64 (by omega) (by omega)]; omega
        · show bv (incF σ.bound s) s = _
          rw [bv_inc, if_pos rfl, h.one, wrap64 (by omega) (by omega)]; omega
      have q := inc_rel r h1 (by omega)
      rw [cnt, (beq_bytes s s).2 rfl, cond_true, ← Nat.add_assoc]
      exact q
    · have h1 : Rel nm c ⟨σ.seen, incF σ.bound s, σ.out⟩ ⟨τ.seen, incF τ.bound s, τ.out⟩ := by
        refine ⟨fun x hx => ?_, ?_, ?_, h.see, h.out⟩
        · show bv (incF σ.bound s) x = bv (incF τ.bound s) x
          rw [bv_inc, bv_inc, h.oth s hs, h.oth x hx]
        · show bv (incF τ.bound s) nm = _
          rw [bv_inc, if_neg (fun q => hs q.symm), h.own]
        · show bv (incF σ.bound s) nm = _
          rw [bv_inc, if_neg (fun q => hs q.symm), h.one]
      have q := inc_rel r h1 (by omega)
      rw [cnt, beq_no hs, cond_false, Nat.zero_add]
      exact q
theorem dec_rel {nm : ByteArray} : ∀ (ns : List ByteArray) {c : Nat} {σ τ : St}, Rel nm (c + cnt nm ns) σ τ → c + ns.length ≤ 2 ^ 40 → Rel nm c (σ.dec ns) (τ.dec ns)
  | [], c, σ, τ, h, _ => h
  | s :: r, c, σ, τ, h, hc => by
    simp only [List.length_cons] at hc
    have hcl := cnt_le nm r
    by_cases hs : s = nm
    · subst hs
      rw [cnt, (beq_bytes s s).2 rfl, cond_true] at h
      have h1 : Rel s (c + cnt s r) ⟨σ.seen, decF σ.bound s, σ.out⟩ ⟨τ.seen, decF τ.bound s, τ.out⟩ := by
        have ho := h.own
        have hn := h.one
        refine ⟨fun x hx => ?_, ?_, ?_, h.see, h.out⟩
        · show bv (decF σ.bound s) x = bv (decF τ.bound s) x
          rw [bv_dec, bv_dec, if_neg hx, if_neg hx]; exact h.oth x hx
        · show bv (decF τ.bound s) s = _
          rw [bv_dec, if_pos rfl, wrap64 (by omega) (by omega)]; omega
        · show bv (decF σ.bound s) s = _
          rw [bv_dec, if_pos rfl, wrap64 (by omega) (by omega)]; omega
      exact dec_rel r h1 (by omega)
    · rw [cnt, beq_no hs, cond_false, Nat.zero_add] at h
      have h1 : Rel nm (c + cnt nm r) ⟨σ.seen, decF σ.bound s, σ.out⟩ ⟨τ.seen, decF τ.bound s, τ.out⟩ := by
        refine ⟨fun x hx => ?_, ?_, ?_, h.see, h.out⟩
        · show bv (decF σ.bound s) x = bv (decF τ.bound s) x
          rw [bv_dec, bv_dec, h.oth s hs, h.oth x hx]
        · show bv (decF τ.bound s) nm = _
          rw [bv_dec, if_neg (fun q => hs q.symm), h.own]
        · show bv (decF σ.bound s) nm = _
          rw [bv_dec, if_neg (fun q => hs q.symm), h.one]
      exact dec_rel r h1 (by omega)
theorem var_rel {nm : ByteArray} (t : ByteArray) {c : Nat} {σ τ : St} (h : Rel nm c σ τ) : Rel nm c (varF t σ) (varF t τ) := by
  obtain ⟨h1, h2, h3, h4, h5⟩ := h
  unfold varF
  by_cases ht : t = nm
  · subst ht
    have e1 : ((slook t σ.bound).getD 0 == 0) = false := by
      have : (slook t σ.bound).getD 0 = (c : Int) + 1 := h3
      rw [this]; simp; omega
    rw [e1, Bool.false_and, cond_false]
    cases ((slook t τ.bound).getD 0 == 0) && !((slook t τ.seen).getD false) with
    | false => exact ⟨h1, h2, h3, h4, h5⟩
    | true =>
      refine ⟨h1, h2, h3, fun s hs => ?_, ?_⟩
      · show slook s σ.seen = slook s (sput t true τ.seen)
        rw [slook_sput, beq_no hs]; exact h4 s hs
      · show σ.out = (τ.out ++ [t]).filter _
        rw [List.filter_append, h5]; simp; exact (beq_bytes t t).2 rfl
  · have e1 : (slook t σ.bound).getD 0 = (slook t τ.bound).getD 0 := h1 t ht
    rw [e1, h4 t ht]
    cases ((slook t τ.bound).getD 0 == 0) && !((slook t τ.seen).getD false) with
    | false => exact ⟨h1, h2, h3, h4, h5⟩
    | true =>
      refine ⟨h1, h2, h3, fun s hs => ?_, ?_⟩
      · show slook s (sput t true σ.seen) = slook s (sput t true τ.seen)
        rw [slook_sput, slook_sput, h4 s hs]
      · show σ.out ++ [t] = (τ.out ++ [t]).filter _
        rw [List.filter_append, h5]
        simp [beq_no ht]
theorem visitL_rel {nm : ByteArray} (l : List Ex) {c : Nat} (h : ∀ e ∈ l, ∀ σ τ, Rel nm c σ τ → Rel nm c (visitF e σ) (visitF e τ)) : ∀ σ τ, Rel nm c σ τ → Rel nm c (visitL l σ) (visitL l τ) := by
  induction l with
  | nil => intro σ τ h; exact h
  | cons e r ih => intro σ τ hr; exact ih (fun x hx => h x (by simp [hx])) _ _ (h e (by simp) _ _ hr)
theorem under_rel {nm : ByteArray} (ns : List ByteArray) (e : Ex) {c : Nat} (hc : c + ns.length ≤ 2 ^ 40) (h : ∀ σ τ, Rel nm (c + cnt nm ns) σ τ → Rel nm (c + cnt nm ns) (visitF e σ) (visitF e τ)) {σ τ : St} (hr : Rel nm c σ τ) : Rel nm c (underF ns e σ) (underF ns e τ) :=
  dec_rel ns (h _ _ (inc_rel ns hr hc)) hc
theorem armL_rel {nm : ByteArray} (l : List Arm) {c : Nat} (h : ∀ a ∈ l, ∀ σ τ, Rel nm c σ τ → Rel nm c (underF (boundF a.pat) a.body σ) (underF (boundF a.pat) a.body τ)) : ∀ σ τ, Rel nm c σ τ → Rel nm c (armL l σ) (armL l τ) := by
  induction l with
  | nil => intro σ τ h; exact h
  | cons e r ih => intro σ τ hr; exact ih (fun x hx => h x (by simp [hx])) _ _ (h e (by simp) _ _ hr)
theorem ns_wts : ∀ (ns : List ByteArray), ns.length ≤ PV.wts (ns.map eStr)
  | [] => by simp
  | s :: r => by have := ns_wts r; simp only [List.map_cons, PV.wts, List.length_cons, eStr, PV.wt]; omega
theorem visit_rel {nm : ByteArray} (e : Ex) : ∀ (c : Nat), c + wE e ≤ 2 ^ 40 → ∀ σ τ, Rel nm c σ τ → Rel nm c (visitF e σ) (visitF e τ) := by
  induction e using Ex.ind with
  | h k n t ns ts xs ms p ih1 ih2 =>
  intro c hc σ τ hr
  have hlen := wE_lens k n t ns ts xs ms p
  have hA : ∀ σ τ, Rel nm c σ τ → Rel nm c (armL ms σ) (armL ms τ) := armL_rel ms fun a ha σ τ h => by
    have hbw := wE_body (k := k) (n := n) (t := t) (ns := ns) (ts := ts) (xs := xs) (p := p) ha
    have hbb := bound_le a.pat
    have hcl := cnt_le nm (boundF a.pat)
    exact under_rel _ _ (by omega) (ih2 a ha _ (by omega)) h
  have hX : ∀ e ∈ xs, ∀ c', c' + wE e ≤ 2 ^ 40 → ∀ σ τ, Rel nm c' σ τ → Rel nm c' (visitF e σ) (visitF e τ) := fun e he c' h => ih1 e he c' h
  have hw : ∀ e ∈ xs, wE e < wE (.mk k n t ns ts xs ms p) := fun e he => by
    have := wE_args (k := k) (n := n) (t := t) (ns := ns) (ts := ts) (ms := ms) (p := p) he; omega
  have hV : ∀ j σ τ, Rel nm c σ τ → Rel nm c (visitL (xs.take j) σ) (visitL (xs.take j) τ) := fun j => visitL_rel _ fun e he => hX e (List.mem_of_mem_take he) c (by have := hw e (List.mem_of_mem_take he); omega)
  rw [visitF, visitF]
  cases decide (needsF k n xs.length < 0) with
  | true => exact hr
  | false =>
  simp only [cond_false]
  cases decide ((xs.length : Int) < needsF k n xs.length) with
  | true => simp only [cond_true]; rw [visitFn_eq, visitFn_eq]; exact hV _ _ _ hr
  | false =>
  simp only [cond_false]
  have key : ∀ σ1 τ1 : St, Rel nm c σ1 τ1 → Rel nm c (bif k == 13 || k == 18 then armFs ms σ1 else σ1) (bif k == 13 || k == 18 then armFs ms τ1 else τ1) := by
    intro σ1 τ1 h
    rw [armFs_eq, armFs_eq]
    cases k == 13 || k == 18 with
    | true => exact hA _ _ h
    | false => exact h
  refine key _ _ ?_
  cases k == 5 with
  | true => exact var_rel t hr
  | false =>
  cases k == 6 with
  | true =>
    simp only [cond_false, cond_true]
    match xs, hX, hw with
    | [], _, _ => exact hr
    | [a], _, _ => exact hr
    | a :: b :: r, hX, hw =>
      have w1 := hw a (by simp)
      have w2 := hw b (by simp)
      have := cnt_le nm [t]
      have wm := wE_mk k n t ns ts (a :: b :: r) ms p
      have wa : wE b = PV.wt (eE b) := rfl
      simp only [eEs, PV.wts] at wm
      simp only [List.length_cons, List.length_nil] at this
      rw [letFs, letFs]
      exact under_rel [t] b (by simp only [List.length_cons, List.length_nil]; omega) (hX b (by simp) _ (by omega)) (hX a (by simp) c (by omega) _ _ hr)
  | false =>
  cases k == 10 with
  | true =>
    simp only [cond_false, cond_true]
    match xs, hX, hw with
    | [], _, _ => exact hr
    | a :: r, hX, hw =>
      have w1 := hw a (by simp)
      have := cnt_le nm ns
      have wm := wE_mk k n t ns ts (a :: r) ms p
      have wn := ns_wts ns
      have wa : wE a = PV.wt (eE a) := rfl
      simp only [eEs, PV.wts] at wm
      rw [funFs, funFs]
      exact under_rel ns a (by omega) (hX a (by simp) _ (by omega)) hr
  | false =>
  simp only [cond_false]
  rw [visitFn_eq, visitFn_eq]
  exact hV _ _ _ hr
def letOf (nm : ByteArray) (e : Ex) : Ex := .mk 6 0 nm [] [] [.mk 1 0 ⟨#[]⟩ [] [] [] [] 0, e] [] 0
theorem free_let (nm : ByteArray) (e : Ex) (he : wE e ≤ 1048576) : freeF (letOf nm e) = (freeF e).filter (fun s => !(s == nm)) := by
  have h0 : Rel nm 0 ⟨[], incF [] nm, []⟩ ⟨[], [], []⟩ := by
    refine ⟨fun s hs => ?_, rfl, ?_, fun _ _ => rfl, rfl⟩
    · show bv (incF [] nm) s = 0
      rw [bv_inc, if_neg hs]; rfl
    · show bv (incF [] nm) nm = _
      rw [bv_inc, if_pos rfl]; rfl
  exact (visit_rel e 0 (by omega) _ _ h0).out
end TR
