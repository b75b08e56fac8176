/-
  DERIVED. Contracts of the functions that the law reaches, and the law itself, for every input. No conditions.
-/
import Derived.Test.YtfnghigkbcbjiaaDoorTR1
open Go Go.AM Go.Proofs
set_option maxRecDepth 100000
namespace TR
/-- slices.Equal of strings -/
def eqS : List ByteArray → List ByteArray → Bool
  | [], [] => true
  | a :: r, b :: s => (a == b) && eqS r s
  | _, _ => false
theorem eqS_iff : ∀ (l r : List ByteArray), eqS l r = true ↔ l = r
  | [], [] => by simp [eqS]
  | [], _ :: _ => by simp [eqS]
  | _ :: _, [] => by simp [eqS]
  | a :: r, b :: s => by simp [eqS, eqS_iff r s, beq_bytes]
theorem eqS_len : ∀ (l r : List ByteArray), l.length ≠ r.length → eqS l r = false
  | [], [], h => by simp at h
  | [], _ :: _, _ => rfl
  | _ :: _, [], _ => rfl
  | a :: r, b :: s, h => by simp at h; simp [eqS, eqS_len r s h]
def e0 : Ex := .mk 6 0 ⟨#[120]⟩ [] [] [.mk 2 0 ⟨#[]⟩ [] [] [] [] 0, .mk 5 0 ⟨#[121]⟩ [] [] [] [] 0] [] 0
theorem parts_law (e : Ex) : (walkF e).length = 1 + (walkFs (partsF e)).length ∧ 1 + sizeFs (partsF e) ≤ sizeF e ∧ deepFs (partsF e) + 1 ≤ deepF e := by
  obtain ⟨k, n, t, ns, ts, xs, ms, p⟩ := e
  simp only [partsF, Ex.args, Ex.arms]
  refine ⟨by rw [walkF, walkFs_app, walkFa_map]; simp; omega, ?_, ?_⟩
  · rw [sizeFs_app, sizeF]
    have : sizeFs (ms.map Arm.body) ≤ sizeFa ms := by
      induction ms with
      | nil => simp [sizeFs]
      | cons a r ih => obtain ⟨q, e⟩ := a; simp [sizeFs, sizeFa, Arm.body]; omega
    omega
  · have h1 : ∀ l r : List Ex, deepFs (l ++ r) = max (deepFs l) (deepFs r) := fun l r => by
      induction l with
      | nil => simp [deepFs]
      | cons a l ih => simp [deepFs, ih, Nat.max_assoc]
    have h2 : deepFs (ms.map Arm.body) ≤ deepFa ms := by
      induction ms with
      | nil => simp [deepFs]
      | cons a r ih => obtain ⟨q, e⟩ := a; simp only [List.map_cons, deepFs, deepFa, Arm.body]; omega
    rw [h1, deepF]; omega
theorem parts_mem {e x : Ex} (h : x ∈ partsF e) : wE x ≤ wE e := by
  obtain ⟨k, n, t, ns, ts, xs, ms, p⟩ := e
  simp only [partsF, Ex.args, Ex.arms] at h
  rcases List.mem_append.1 h with h | h
  · have := wE_args (k := k) (n := n) (t := t) (ns := ns) (ts := ts) (ms := ms) (p := p) h; omega
  · obtain ⟨a, ha, rfl⟩ := List.mem_map.1 h
    have := wE_body (k := k) (n := n) (t := t) (ns := ns) (ts := ts) (xs := xs) (p := p) ha; omega
theorem walkFs_snoc (l : List Ex) (e : Ex) : walkFs (l ++ [e]) = walkFs l ++ walkF e := by rw [walkFs_app]; simp [walkFs]
theorem partsF_len (e : Ex) : (partsF e).length ≤ wE e := by
  obtain ⟨k, n, t, ns, ts, xs, ms, p⟩ := e
  have := wE_lens k n t ns ts xs ms p
  simp [partsF, Ex.args, Ex.arms]; omega

end TR
open Go Go.AM Go.Proofs
set_option maxRecDepth 100000
namespace TR
/-! a let takes its name, and no other, from the free names -/
def bv (m : List (ByteArray × Int)) (s : ByteArray) : Int := (slook s m).getD 0
theorem bv_put (m : List (ByteArray × Int)) (s x : ByteArray) (v : Int) : bv (sput s v m) x = if x = s then v else bv m x := by
  unfold bv
  rw [slook_sput]
  by_cases h : x = s
  · rw [if_pos h, (beq_bytes x s).2 h]; rfl
  · have : (x == s) = false := by cases hq : x == s with | false => rfl | true => exact absurd ((beq_bytes x s).1 hq) h
    rw [if_neg h, this]; rfl
theorem bv_inc (m : List (ByteArray × Int)) (s x : ByteArray) : bv (incF m s) x = if x = s then IntKind.i64.wrap (bv m s + 1) else bv m x := bv_put ..
theorem bv_dec (m : List (ByteArray × Int)) (s x : ByteArray) : bv (decF m s) x = if x = s then IntKind.i64.wrap (bv m s - 1) else bv m x := bv_put ..
structure Rel (nm : ByteArray) (c : Nat) (σ τ : St) : Prop where
  oth : ∀ s, s ≠ nm → bv σ.bound s = bv τ.bound s
  own : bv τ.bound nm = c
  one : bv σ.bound nm = c + 1
  see : ∀ s, s ≠ nm → slook s σ.seen = slook s τ.seen
  out : σ.out = τ.out.filter (fun s => !(s == nm))
def cnt (nm : ByteArray) : List ByteArray → Nat
  | [] => 0
  | s :: r => (bif s == nm then 1 else 0) + cnt nm r
theorem cnt_le (nm : ByteArray) : ∀ (l : List ByteArray), cnt nm l ≤ l.length
  | [] => by simp [cnt]
  | s :: r => by have := cnt_le nm r; simp only [cnt, List.length_cons]; cases s == nm <;> simp <;> omega
theorem beq_no {a b : ByteArray} (h : a ≠ b) : (a == b) = false := by cases hq : a == b with | false => rfl | true => exact absurd ((beq_bytes a b).1 hq) h
theorem inc_rel {nm : ByteArray} : ∀ (ns : List ByteArray) {c : Nat} {σ τ : St}, Rel nm c σ τ → c + ns.length ≤ 2 ^ 40 → Rel nm (c + cnt nm ns) (σ.inc ns) (τ.inc ns)
  | [], c, σ, τ, h, _ => h
  | s :: r, c, σ, τ, h, hc => by
    simp only [List.length_cons] at hc
    have hc1 : (c : Int) ≤ 1099511627776 := by omega
    by_cases hs : s = nm
    · subst hs
      have h1 : Rel s (c + 1) ⟨σ.seen, incF σ.bound s, σ.out⟩ ⟨τ.seen, incF τ.bound s, τ.out⟩ := by
        refine ⟨fun x hx => ?_, ?_, ?_, h.see, h.out⟩
        · show bv (incF σ.bound s) x = bv (incF τ.bound s) x
          rw [bv_inc, bv_inc, if_neg hx, if_neg hx]; exact h.oth x hx
        · show bv (incF τ.bound s) s = _
          rw [bv_inc, if_pos rfl, h.own, wrap64 (by omega) (by omega)]; omega
        · show bv (incF σ.bound s) s = _
          rw [bv_inc, if_pos rfl, h.one, wrap64 (by omega) (by omega)]; omega
      have q := inc_rel r h1 (by omega)
      rw [cnt, (beq_bytes s s).2 rfl, cond_true, ← Nat.add_assoc]
      exact q
    · have h1 : Rel nm c ⟨σ.seen, incF σ.bound s, σ.out⟩ ⟨τ.seen, incF τ.bound s, τ.out⟩ := by
        refine ⟨fun x hx => ?_, ?_, ?_, h.see, h.out⟩
        · show bv (incF σ.bound s) x = bv (incF τ.bound s) x
          rw [bv_inc, bv_inc, h.oth s hs, h.oth x hx]
        · show bv (incF τ.bound s) nm = _
          rw [bv_inc, if_neg (fun q => hs q.symm), h.own]
        · show bv (incF σ.bound s) nm = _
          rw [bv_inc, if_neg (fun q => hs q.symm), h.one]
      have q := inc_rel r h1 (by omega)
      rw [cnt, beq_no hs, cond_false, Nat.zero_add]
      exact q
theorem dec_rel {nm : ByteArray} : ∀ (ns : List ByteArray) {c : Nat} {σ τ : St}, Rel nm (c + cnt nm ns) σ τ → c + ns.length ≤ 2 ^ 40 → Rel nm c (σ.dec ns) (τ.dec ns)
  | [], c, σ, τ, h, _ => h
  | s :: r, c, σ, τ, h, hc => by
    simp only [List.length_cons] at hc
    have hcl := cnt_le nm r
    by_cases hs : s = nm
    · subst hs
      rw [cnt, (beq_bytes s s).2 rfl, cond_true] at h
      have h1 : Rel s (c + cnt s r) ⟨σ.seen, decF σ.bound s, σ.out⟩ ⟨τ.seen, decF τ.bound s, τ.out⟩ := by
        have ho := h.own
        have hn := h.one
        refine ⟨fun x hx => ?_, ?_, ?_, h.see, h.out⟩
        · show bv (decF σ.bound s) x = bv (decF τ.bound s) x
          rw [bv_dec, bv_dec, if_neg hx, if_neg hx]; exact h.oth x hx
        · show bv (decF τ.bound s) s = _
          rw [bv_dec, if_pos rfl, wrap64 (by omega) (by omega)]; omega
        · show bv (decF σ.bound s) s = _
          rw [bv_dec, if_pos rfl, wrap64 (by omega) (by omega)]; omega
      exact dec_rel r h1 (by omega)
    · rw [cnt, beq_no hs, cond_false, Nat.zero_add] at h
      have h1 : Rel nm (c + cnt nm r) ⟨σ.seen, decF σ.bound s, σ.out⟩ ⟨τ.seen, decF τ.bound s, τ.out⟩ := by
        refine ⟨fun x hx => ?_, ?_, ?_, h.see, h.out⟩
        · show bv (decF σ.bound s) x = bv (decF τ.bound s) x
          rw [bv_dec, bv_dec, h.oth s hs, h.oth x hx]
        · show bv (decF τ.bound s) nm = _
          rw [bv_dec, if_neg (fun q => hs q.symm), h.own]
        · show bv (decF σ.bound s) nm = _
          rw [bv_dec, if_neg (fun q => hs q.symm), h.one]
      exact dec_rel r h1 (by omega)
theorem var_rel {nm : ByteArray} (t : ByteArray) {c : Nat} {σ τ : St} (h : Rel nm c σ τ) : Rel nm c (varF t σ) (varF t τ) := by
  obtain ⟨h1, h2, h3, h4, h5⟩ := h
  unfold varF
  by_cases ht : t = nm
  · subst ht
    have e1 : ((slook t σ.bound).getD 0 == 0) = false := by
      have : (slook t σ.bound).getD 0 = (c : Int) + 1 := h3
      rw [this]; simp; omega
    rw [e1, Bool.false_and, cond_false]
    cases ((slook t τ.bound).getD 0 == 0) && !((slook t τ.seen).getD false) with
    | false => exact ⟨h1, h2, h3, h4, h5⟩
    | true =>
      refine ⟨h1, h2, h3, fun s hs => ?_, ?_⟩
      · show slook s σ.seen = slook s (sput t true τ.seen)
        rw [slook_sput, beq_no hs]; exact h4 s hs
      · show σ.out = (τ.out ++ [t]).filter _
        rw [List.filter_append, h5]; simp; exact (beq_bytes t t).2 rfl
  · have e1 : (slook t σ.bound).getD 0 = (slook t τ.bound).getD 0 := h1 t ht
    rw [e1, h4 t ht]
    cases ((slook t τ.bound).getD 0 == 0) && !((slook t τ.seen).getD false) with
    | false => exact ⟨h1, h2, h3, h4, h5⟩
    | true =>
      refine ⟨h1, h2, h3, fun s hs => ?_, ?_⟩
      · show slook s (sput t true σ.seen) = slook s (sput t true τ.seen)
        rw [slook_sput, slook_sput, h4 s hs]
      · show σ.out ++ [t] = (τ.out ++ [t]).filter _
        rw [List.filter_append, h5]
        simp [beq_no ht]
theorem visitL_rel {nm : ByteArray} (l : List Ex) {c : Nat} (h : ∀ e ∈ l, ∀ σ τ, Rel nm c σ τ → Rel nm c (visitF e σ) (visitF e τ)) : ∀ σ τ, Rel nm c σ τ → Rel nm c (visitL l σ) (visitL l τ) := by
  induction l with
  | nil => intro σ τ h; exact h
  | cons e r ih => intro σ τ hr; exact ih (fun x hx => h x (by simp [hx])) _ _ (h e (by simp) _ _ hr)
theorem under_rel {nm : ByteArray} (ns : List ByteArray) (e : Ex) {c : Nat} (hc : c + ns.length ≤ 2 ^ 40) (h : ∀ σ τ, Rel nm (c + cnt nm ns) σ τ → Rel nm (c + cnt nm ns) (visitF e σ) (visitF e τ)) {σ τ : St} (hr : Rel nm c σ τ) : Rel nm c (underF ns e σ) (underF ns e τ) :=
  dec_rel ns (h _ _ (inc_rel ns hr hc)) hc
theorem armL_rel {nm : ByteArray} (l : List Arm) {c : Nat} (h : ∀ a ∈ l, ∀ σ τ, Rel nm c σ τ → Rel nm c (underF (boundF a.pat) a.body σ) (underF (boundF a.pat) a.body τ)) : ∀ σ τ, Rel nm c σ τ → Rel nm c (armL l σ) (armL l τ) := by
  induction l with
  | nil => intro σ τ h; exact h
  | cons e r ih => intro σ τ hr; exact ih (fun x hx => h x (by simp [hx])) _ _ (h e (by simp) _ _ hr)
theorem ns_wts : ∀ (ns : List ByteArray), ns.length ≤ PV.wts (ns.map eStr)
  | [] => by simp
  | s :: r => by have := ns_wts r; simp only [List.map_cons, PV.wts, List.length_cons, eStr, PV.wt]; omega
theorem visit_rel {nm : ByteArray} (e : Ex) : ∀ (c : Nat), c + wE e ≤ 2 ^ 40 → ∀ σ τ, Rel nm c σ τ → Rel nm c (visitF e σ) (visitF e τ) := by
  induction e using Ex.ind with
  | h k n t ns ts xs ms p ih1 ih2 =>
  intro c hc σ τ hr
  have hlen := wE_lens k n t ns ts xs ms p
  have hA : ∀ σ τ, Rel nm c σ τ → Rel nm c (armL ms σ) (armL ms τ) := armL_rel ms fun a ha σ τ h => by
    have hbw := wE_body (k := k) (n := n) (t := t) (ns := ns) (ts := ts) (xs := xs) (p := p) ha
    have hbb := bound_le a.pat
    have hcl := cnt_le nm (boundF a.pat)
    exact under_rel _ _ (by omega) (ih2 a ha _ (by omega)) h
  have hX : ∀ e ∈ xs, ∀ c', c' + wE e ≤ 2 ^ 40 → ∀ σ τ, Rel nm c' σ τ → Rel nm c' (visitF e σ) (visitF e τ) := fun e he c' h => ih1 e he c' h
  have hw : ∀ e ∈ xs, wE e < wE (.mk k n t ns ts xs ms p) := fun e he => by
    have := wE_args (k := k) (n := n) (t := t) (ns := ns) (ts := ts) (ms := ms) (p := p) he; omega
  have hV : ∀ j σ τ, Rel nm c σ τ → Rel nm c (visitL (xs.take j) σ) (visitL (xs.take j) τ) := fun j => visitL_rel _ fun e he => hX e (List.mem_of_mem_take he) c (by have := hw e (List.mem_of_mem_take he); omega)
  rw [visitF, visitF]
  cases decide (needsF k n xs.length < 0) with
  | true => exact hr
  | false =>
  simp only [cond_false]
  cases decide ((xs.length : Int) < needsF k n xs.length) with
  | true => simp only [cond_true]; rw [visitFn_eq, visitFn_eq]; exact hV _ _ _ hr
  | false =>
  simp only [cond_false]
  have key : ∀ σ1 τ1 : St, Rel nm c σ1 τ1 → Rel nm c (bif k == 13 || k == 18 then armFs ms σ1 else σ1) (bif k == 13 || k == 18 then armFs ms τ1 else τ1) := by
    intro σ1 τ1 h
    rw [armFs_eq, armFs_eq]
    cases k == 13 || k == 18 with
    | true => exact hA _ _ h
    | false => exact h
  refine key _ _ ?_
  cases k == 5 with
  | true => exact var_rel t hr
  | false =>
  cases k == 6 with
  | true =>
    simp only [cond_false, cond_true]
    match xs, hX, hw with
    | [], _, _ => exact hr
    | [a], _, _ => exact hr
    | a :: b :: r, hX, hw =>
      have w1 := hw a (by simp)
      have w2 := hw b (by simp)
      have := cnt_le nm [t]
      have wm := wE_mk k n t ns ts (a :: b :: r) ms p
      have wa : wE b = PV.wt (eE b) := rfl
      simp only [eEs, PV.wts] at wm
      simp only [List.length_cons, List.length_nil] at this
      rw [letFs, letFs]
      exact under_rel [t] b (by simp only [List.length_cons, List.length_nil]; omega) (hX b (by simp) _ (by omega)) (hX a (by simp) c (by omega) _ _ hr)
  | false =>
  cases k == 10 with
  | true =>
    simp only [cond_false, cond_true]
    match xs, hX, hw with
    | [], _, _ => exact hr
    | a :: r, hX, hw =>
      have w1 := hw a (by simp)
      have := cnt_le nm ns
      have wm := wE_mk k n t ns ts (a :: r) ms p
      have wn := ns_wts ns
      have wa : wE a = PV.wt (eE a) := rfl
      simp only [eEs, PV.wts] at wm
      rw [funFs, funFs]
      exact under_rel ns a (by omega) (hX a (by simp) _ (by omega)) hr
  | false =>
  simp only [cond_false]
  rw [visitFn_eq, visitFn_eq]
  exact hV _ _ _ hr
def letOf (nm : ByteArray) (e : Ex) : Ex := .mk 6 0 nm [] [] [.mk 1 0 ⟨#[]⟩ [] [] [] [] 0, e] [] 0
theorem free_let (nm : ByteArray) (e : Ex) (he : wE e ≤ 1048576) : freeF (letOf nm e) = (freeF e).filter (fun s => !(s == nm)) := by
  have h0 : Rel nm 0 ⟨[], incF [] nm, []⟩ ⟨[], [], []⟩ := by
    refine ⟨fun s hs => ?_, rfl, ?_, fun _ _ => rfl, rfl⟩
    · show bv (incF [] nm) s = 0
      rw [bv_inc, if_neg hs]; rfl
    · show bv (incF [] nm) nm = _
      rw [bv_inc, if_pos rfl]; rfl
  exact (visit_rel e 0 (by omega) _ _ h0).out
end TR
open Go Go.AM Go.Proofs
set_option maxRecDepth 100000
namespace TR
/-! free names, said by themselves; the finder finds them -/
mutual
def fvB (nm : ByteArray) : Ex → Bool
  | .mk k n t ns _ xs ms _ => bif decide (needsF k n xs.length < 0) then false else bif decide ((xs.length : Int) < needsF k n xs.length) then fvN nm xs.length xs else
      (bif k == 5 then t == nm else bif k == 6 then fvLet nm t xs else bif k == 10 then fvFun nm ns xs else fvN nm (needsF k n xs.length).toNat xs) || (bif k == 13 || k == 18 then fvA nm ms else false)
def fvN (nm : ByteArray) : Nat → List Ex → Bool
  | _, [] => false
  | 0, _ => false
  | n + 1, e :: r => fvB nm e || fvN nm n r
def fvLet (nm t : ByteArray) : List Ex → Bool
  | a :: b :: _ => fvB nm a || (!(t == nm) && fvB nm b)
  | _ => false
def fvFun (nm : ByteArray) (ns : List ByteArray) : List Ex → Bool
  | a :: _ => !(ns.contains nm) && fvB nm a
  | _ => false
def fvA (nm : ByteArray) : List Arm → Bool
  | [] => false
  | .mk p e :: r => (!((boundF p).contains nm) && fvB nm e) || fvA nm r
end
structure FInv (σ : St) : Prop where
  see : ∀ s, (slook s σ.seen).getD false = true ↔ s ∈ σ.out
structure Found (P : ByteArray → Prop) (σ τ : St) : Prop where
  inv : FInv τ
  bnd : ∀ s, bv τ.bound s = bv σ.bound s
  out : ∀ s, s ∈ τ.out ↔ s ∈ σ.out ∨ (bv σ.bound s = 0 ∧ P s)
def Low (c : Nat) (σ : St) : Prop := ∀ s, 0 ≤ bv σ.bound s ∧ bv σ.bound s ≤ c
theorem Found.low {P : ByteArray → Prop} {σ τ : St} (h : Found P σ τ) {c : Nat} (hl : Low c σ) : Low c τ := fun s => by rw [h.bnd s]; exact hl s
theorem Found.comp {P Q : ByteArray → Prop} {σ τ υ : St} (h : Found P σ τ) (h2 : Found Q τ υ) : Found (fun s => P s ∨ Q s) σ υ := by
  refine ⟨h2.inv, fun s => by rw [h2.bnd, h.bnd], fun s => ?_⟩
  rw [h2.out, h.out, h.bnd]
  constructor
  · rintro ((q | ⟨q, r⟩) | ⟨q, r⟩)
    · exact .inl q
    · exact .inr ⟨q, .inl r⟩
    · exact .inr ⟨q, .inr r⟩
  · rintro (q | ⟨q, r | r⟩)
    · exact .inl (.inl q)
    · exact .inl (.inr ⟨q, r⟩)
    · exact .inr ⟨q, r⟩
theorem Found.congr {P Q : ByteArray → Prop} {σ τ : St} (h : Found P σ τ) (e : ∀ s, P s ↔ Q s) : Found Q σ τ :=
  ⟨h.inv, h.bnd, fun s => by rw [h.out, e s]⟩
theorem Found.none {σ : St} (h : FInv σ) : Found (fun _ => False) σ σ := ⟨h, fun _ => rfl, fun s => by simp⟩
theorem bv_incs (s : ByteArray) : ∀ (ns : List ByteArray) (m : List (ByteArray × Int)) (c : Nat), 0 ≤ bv m s → bv m s ≤ c → c + ns.length ≤ 2 ^ 40 → bv (ns.foldl incF m) s = bv m s + cnt s ns
  | [], m, c, _, _, _ => by simp [cnt]
  | x :: r, m, c, h1, h2, h3 => by
    simp only [List.length_cons] at h3
    have e : bv (incF m x) s = bv m s + (bif x == s then 1 else 0 : Nat) := by
      rw [bv_inc]
      by_cases q : s = x
      · rw [if_pos q, ← q, (beq_bytes s s).2 rfl, wrap64 (by omega) (by omega)]; rfl
      · rw [if_neg q, beq_no (fun h => q h.symm)]; simp
    have hb : (bif x == s then 1 else 0 : Nat) ≤ 1 := by cases x == s <;> simp
    rw [List.foldl_cons, bv_incs s r (incF m x) (c + 1) (by omega) (by omega) (by omega), cnt]; omega
theorem bv_decs (s : ByteArray) : ∀ (ns : List ByteArray) (m : List (ByteArray × Int)) (c : Nat), cnt s ns ≤ bv m s → bv m s ≤ c → c ≤ 2 ^ 41 → bv (ns.foldl decF m) s = bv m s - cnt s ns
  | [], m, c, _, _, _ => by simp [cnt]
  | x :: r, m, c, h1, h2, h3 => by
    rw [cnt] at h1
    have e : bv (decF m x) s = bv m s - (bif x == s then 1 else 0 : Nat) := by
      rw [bv_dec]
      by_cases q : s = x
      · rw [if_pos q, ← q, (beq_bytes s s).2 rfl, wrap64 (by omega) (by omega)]; rfl
      · rw [if_neg q, beq_no (fun h => q h.symm)]; simp
    rw [List.foldl_cons, bv_decs s r (decF m x) c (by omega) (by omega) (by omega), cnt]; omega
theorem cnt_pos (s : ByteArray) : ∀ (ns : List ByteArray), cnt s ns = 0 ↔ ns.contains s = false
  | [] => by simp [cnt]
  | x :: r => by
    have ih := cnt_pos s r
    have hx : (s == x) = (x == s) := by
      by_cases q : x = s
      · subst q; rfl
      · rw [beq_no q, beq_no (fun h => q h.symm)]
    rw [cnt, List.contains_cons, hx]
    cases x == s with
    | true => simp
    | false => simpa using ih
theorem under_found (ns : List ByteArray) (e : Ex) {c : Nat} {σ : St} (hi : FInv σ) (hl : Low c σ) (hc : c + ns.length ≤ 2 ^ 40)
    (h : ∀ σ, FInv σ → Low (c + ns.length) σ → Found (fun s => fvB s e = true) σ (visitF e σ)) : Found (fun s => (!(ns.contains s) && fvB s e) = true) σ (underF ns e σ) := by
  have hin : ∀ s, bv (σ.inc ns).bound s = bv σ.bound s + cnt s ns := fun s => bv_incs s ns σ.bound c (hl s).1 (hl s).2 hc
  have h1 := h (σ.inc ns) ⟨hi.see⟩ (fun s => by have := hin s; have := hl s; have := cnt_le s ns; omega)
  have h2 : ∀ s, bv (underF ns e σ).bound s = bv σ.bound s := fun s => by
    rw [underF]
    have e1 := bv_decs s ns (visitF e (σ.inc ns)).bound (c + ns.length) (by rw [h1.bnd, hin]; have := hl s; omega) (by rw [h1.bnd, hin]; have := hl s; have := cnt_le s ns; omega) (by omega)
    show bv (ns.foldl decF (visitF e (σ.inc ns)).bound) s = _
    rw [e1, h1.bnd, hin]; omega
  refine ⟨⟨h1.inv.see⟩, h2, fun s => ?_⟩
  rw [show (underF ns e σ).out = (visitF e (σ.inc ns)).out from rfl, h1.out, hin]
  rw [show (σ.inc ns).out = σ.out from rfl]
  have := hl s
  have hc := cnt_pos s ns
  constructor
  · rintro (q | ⟨q, r⟩)
    · exact .inl q
    · refine .inr ⟨by omega, ?_⟩
      rw [hc.1 (by omega), r]; rfl
  · rintro (q | ⟨q, r⟩)
    · exact .inl q
    · simp only [Bool.and_eq_true, Bool.not_eq_true'] at r
      have := hc.2 r.1
      exact .inr ⟨by omega, r.2⟩
theorem var_found (t : ByteArray) {σ : St} (hi : FInv σ) : Found (fun s => (t == s) = true) σ (varF t σ) := by
  unfold varF
  cases hb : (slook t σ.bound).getD 0 == 0 with
  | false =>
    rw [Bool.false_and, cond_false]
    refine ⟨hi, fun _ => rfl, fun s => ⟨.inl, ?_⟩⟩
    rintro (q | ⟨q, r⟩)
    · exact q
    · rw [beq_bytes] at r; subst r
      have hq : (slook t σ.bound).getD 0 = 0 := q
      rw [hq] at hb; cases hb
  | true =>
    cases hs : (slook t σ.seen).getD false with
    | true =>
      rw [Bool.not_true, Bool.and_false, cond_false]
      refine ⟨hi, fun _ => rfl, fun s => ⟨.inl, ?_⟩⟩
      rintro (q | ⟨q, r⟩)
      · exact q
      · rw [beq_bytes] at r; subst r
        exact (hi.see t).1 hs
    | false =>
      rw [Bool.not_false, Bool.and_true, cond_true]
      refine ⟨⟨fun s => ?_⟩, fun _ => rfl, fun s => ?_⟩
      · rw [slook_sput, List.mem_append, List.mem_singleton]
        by_cases q : s = t
        · rw [(beq_bytes s t).2 q]; simp [q]
        · rw [beq_no q, cond_false, hi.see s]; simp [q]
      · rw [List.mem_append, List.mem_singleton, beq_bytes]
        have hq : bv σ.bound t = 0 := eq_of_beq hb
        constructor
        · rintro (q | q)
          · exact .inl q
          · subst q; exact .inr ⟨hq, rfl⟩
        · rintro (q | ⟨_, q⟩)
          · exact .inl q
          · exact .inr q.symm
theorem visitN_found {c : Nat} : ∀ (j : Nat) (l : List Ex), (∀ e ∈ l, ∀ σ, FInv σ → Low c σ → Found (fun s => fvB s e = true) σ (visitF e σ)) → ∀ σ, FInv σ → Low c σ → Found (fun s => fvN s j l = true) σ (visitFn j l σ)
  | 0, [], _, σ, hi, _ => by rw [visitFn]; exact (Found.none hi).congr fun s => by simp [fvN]
  | _ + 1, [], _, σ, hi, _ => by rw [visitFn]; exact (Found.none hi).congr fun s => by simp [fvN]
  | 0, a :: r, _, σ, hi, _ => by
    have : visitFn 0 (a :: r) σ = σ := by rw [visitFn_eq]; simp [visitL]
    rw [this]; exact (Found.none hi).congr fun s => by simp [fvN]
  | j + 1, e :: r, h, σ, hi, hl => by
    have h1 := h e (by simp) σ hi hl
    have h2 := visitN_found j r (fun x hx => h x (by simp [hx])) _ h1.inv (h1.low hl)
    rw [visitFn]
    exact (h1.comp h2).congr fun s => by rw [fvN, Bool.or_eq_true]
theorem armF_found {c m : Nat} (hm : c + m ≤ 2 ^ 40) : ∀ (l : List Arm), (∀ a ∈ l, (boundF a.pat).length ≤ m) → (∀ a ∈ l, ∀ d, d ≤ c + (boundF a.pat).length → ∀ σ, FInv σ → Low d σ → Found (fun s => fvB s a.body = true) σ (visitF a.body σ)) → ∀ σ, FInv σ → Low c σ → Found (fun s => fvA s l = true) σ (armFs l σ)
  | [], _, _, σ, hi, _ => by rw [armFs]; exact (Found.none hi).congr fun s => by simp [fvA]
  | .mk p e :: r, hb, h, σ, hi, hl => by
    have hb1 := hb (.mk p e) (by simp)
    simp only [Arm.pat] at hb1
    have h1 := under_found (boundF p) e hi hl (by omega) (h (.mk p e) (by simp) _ (Nat.le_refl _))
    have h2 := armF_found hm r (fun a ha => hb a (by simp [ha])) (fun a ha => h a (by simp [ha])) _ h1.inv (h1.low hl)
    rw [armFs]
    exact (h1.comp h2).congr fun s => by rw [fvA, Bool.or_eq_true]
theorem visit_found (e : Ex) : ∀ (c : Nat), c + wE e ≤ 2 ^ 40 → ∀ σ, FInv σ → Low c σ → Found (fun s => fvB s e = true) σ (visitF e σ) := by
  induction e using Ex.ind with
  | h k n t ns ts xs ms p ih1 ih2 =>
  intro c hc σ hi hl
  have hlen := wE_lens k n t ns ts xs ms p
  have hX : ∀ e ∈ xs, ∀ d, d ≤ c + ns.length + 1 → ∀ σ, FInv σ → Low d σ → Found (fun s => fvB s e = true) σ (visitF e σ) := fun e he d hd => ih1 e he d (by
    have := wE_args (k := k) (n := n) (t := t) (ns := ns) (ts := ts) (ms := ms) (p := p) he
    have h3 := wEs_mem he
    have h4 := ns_wts ns
    rw [wE_mk] at hc; omega)
  have hA : ∀ σ, FInv σ → Low c σ → Found (fun s => fvA s ms = true) σ (armFs ms σ) := fun σ hi hl => armF_found (m := wE (.mk k n t ns ts xs ms p)) (by omega) ms (fun a ha => by
      have := wE_body (k := k) (n := n) (t := t) (ns := ns) (ts := ts) (xs := xs) (p := p) ha
      have := bound_le a.pat; omega) (fun a ha d hd => ih2 a ha d (by
        have := wE_body (k := k) (n := n) (t := t) (ns := ns) (ts := ts) (xs := xs) (p := p) ha
        have := bound_le a.pat; omega)) σ hi hl
  rw [visitF]
  have E : ∀ s, fvB s (.mk k n t ns ts xs ms p) = (bif decide (needsF k n xs.length < 0) then false else bif decide ((xs.length : Int) < needsF k n xs.length) then fvN s xs.length xs else
      (bif k == 5 then t == s else bif k == 6 then fvLet s t xs else bif k == 10 then fvFun s ns xs else fvN s (needsF k n xs.length).toNat xs) || (bif k == 13 || k == 18 then fvA s ms else false)) := fun s => by rw [fvB]
  cases g1 : decide (needsF k n xs.length < 0) with
  | true =>
    rw [cond_true]
    exact (Found.none hi).congr fun s => by rw [E s, g1]; simp
  | false =>
  rw [cond_false]
  cases g2 : decide ((xs.length : Int) < needsF k n xs.length) with
  | true =>
    rw [cond_true]
    exact (visitN_found xs.length xs (fun e he => hX e he c (by omega)) σ hi hl).congr fun s => by rw [E s, g1, g2]; rfl
  | false =>
  rw [cond_false]
  have key : ∀ (P : ByteArray → Bool) (σ1 : St), Found (fun s => P s = true) σ σ1 → (∀ s, (bif k == 5 then t == s else bif k == 6 then fvLet s t xs else bif k == 10 then fvFun s ns xs else fvN s (needsF k n xs.length).toNat xs) = P s) → Found (fun s => fvB s (.mk k n t ns ts xs ms p) = true) σ (bif k == 13 || k == 18 then armFs ms σ1 else σ1) := fun P σ1 h1 hP => by
    cases g : (k == 13 || k == 18) with
    | true =>
      exact (h1.comp (hA σ1 h1.inv (h1.low hl))).congr fun s => by rw [E s, g1, g2, hP s, g]; simp
    | false => exact h1.congr fun s => by rw [E s, g1, g2, hP s, g]; simp
  cases q5 : (k == 5) with
  | true => exact key (fun s => t == s) _ (var_found t hi) (fun s => by rw [q5]; rfl)
  | false =>
  cases q6 : (k == 6) with
  | true =>
    refine key (fun s => fvLet s t xs) _ ?_ (fun s => by rw [q5, q6]; rfl)
    match xs, hX with
    | [], _ => simp only [cond_true, cond_false]; rw [show letFs t [] σ = σ by simp [letFs]]; exact (Found.none hi).congr fun s => by simp [fvLet]
    | [a], _ => simp only [cond_true, cond_false]; rw [show letFs t [a] σ = σ by simp [letFs]]; exact (Found.none hi).congr fun s => by simp [fvLet]
    | a :: b :: _, hX =>
      simp only [cond_true, cond_false]
      rw [letFs]
      have h1 := hX a (by simp) c (by omega) σ hi hl
      have h2 := under_found [t] b h1.inv (h1.low hl) (by simp; omega) (hX b (by simp) _ (by simp))
      refine (h1.comp h2).congr fun s => ?_
      rw [fvLet, Bool.or_eq_true]
      have : ([t] : List ByteArray).contains s = (t == s) := by
        rw [List.contains_cons, List.contains_nil, Bool.or_false]
        by_cases q : s = t
        · subst q; rfl
        · rw [beq_no q, beq_no (fun h => q h.symm)]
      rw [this]
  | false =>
  cases q10 : (k == 10) with
  | true =>
    refine key (fun s => fvFun s ns xs) _ ?_ (fun s => by rw [q5, q6, q10]; rfl)
    match xs, hX with
    | [], _ => simp only [cond_true, cond_false]; rw [show funFs ns [] σ = σ by simp [funFs]]; exact (Found.none hi).congr fun s => by simp [fvFun]
    | a :: _, hX =>
      simp only [cond_true, cond_false]
      rw [funFs]
      exact (under_found ns a hi hl (by omega) (hX a (by simp) _ (by omega))).congr fun s => by rw [fvFun]
  | false =>
    refine key (fun s => fvN s (needsF k n xs.length).toNat xs) _ ?_ (fun s => by rw [q5, q6, q10]; rfl)
    simp only [cond_false]
    exact visitN_found _ xs (fun e he => hX e he c (by omega)) σ hi hl
theorem mem_free (e : Ex) (he : wE e ≤ 2097152) (s : ByteArray) : s ∈ freeF e ↔ fvB s e = true := by
  have := (visit_found e 0 (by omega) ⟨[], [], []⟩ ⟨fun s => by simp [slook]⟩ (fun s => by simp [bv, slook])).out s
  rw [freeF, this]
  simp [bv, slook]
end TR
open Go Go.AM Go.Proofs
set_option maxRecDepth 100000
namespace TR
/-! what a use counts -/
mutual
def useF (nm : ByteArray) : Ex → Nat
  | .mk k _ t ns _ xs ms _ => bif k == 5 then (bif t == nm then 1 else 0) else bif k == 10 then (bif fvFun nm ns xs then 2 else 0) else
      sumU nm k t 0 xs + max (mostU nm k t 0 xs) (bif k == 13 || k == 18 then armU nm ms else 0)
def sumU (nm : ByteArray) (k : Int) (t : ByteArray) : Nat → List Ex → Nat
  | _, [] => 0
  | i, e :: r => (bif (k == 7 && !(i == 0)) || k == 18 then 0 else bif k == 6 && (i == 1 && t == nm) then 0 else useF nm e) + sumU nm k t (i + 1) r
def mostU (nm : ByteArray) (k : Int) (t : ByteArray) : Nat → List Ex → Nat
  | _, [] => 0
  | i, e :: r => max (bif (k == 7 && !(i == 0)) || k == 18 then (bif k == 6 && (i == 1 && t == nm) then 0 else useF nm e) else 0) (mostU nm k t (i + 1) r)
def armU (nm : ByteArray) : List Arm → Nat
  | [] => 0
  | .mk p e :: r => max (bif (boundF p).contains nm then 0 else useF nm e) (armU nm r)
end
/-! the parts are as many as they must be -/
mutual
def wfE : Ex → Prop
  | .mk k n _ _ _ xs ms _ => needsF k n xs.length = xs.length ∧ (k = 13 ∨ k = 18 ∨ ms = []) ∧ wfEs xs ∧ wfAs ms
def wfEs : List Ex → Prop
  | [] => True
  | e :: r => wfE e ∧ wfEs r
def wfAs : List Arm → Prop
  | [] => True
  | .mk _ e :: r => wfE e ∧ wfAs r
end
theorem fvN_all (nm : ByteArray) : ∀ (j : Nat) (l : List Ex), l.length ≤ j → (fvN nm j l = false ↔ ∀ e ∈ l, fvB nm e = false)
  | 0, [], _ => by simp [fvN]
  | _ + 1, [], _ => by simp [fvN]
  | 0, _ :: _, h => by simp at h
  | j + 1, e :: r, h => by rw [fvN, Bool.or_eq_false_iff, fvN_all nm j r (by simpa using h)]; simp
theorem needs5 (n : Int) (l : Nat) : needsF 5 n l = 0 := rfl
theorem needs6 (n : Int) (l : Nat) : needsF 6 n l = 2 := rfl
theorem needs10 (n : Int) (l : Nat) : needsF 10 n l = 1 := rfl
theorem sum_most (nm : ByteArray) (k : Int) (t : ByteArray) (hk : k ≠ 6) : ∀ (l : List Ex) (i : Nat), (sumU nm k t i l = 0 ∧ mostU nm k t i l = 0) ↔ ∀ e ∈ l, useF nm e = 0
  | [], i => by simp [sumU, mostU]
  | e :: r, i => by
    have ih := sum_most nm k t hk r (i + 1)
    have q6 : (k == 6) = false := by simpa using hk
    rw [sumU, mostU, q6, Bool.false_and, cond_false]
    cases (k == 7 && !(i == 0)) || k == 18 with
    | true =>
      rw [cond_true, cond_true]
      constructor
      · rintro ⟨h1, h2⟩ x hx
        rcases List.mem_cons.1 hx with rfl | hx
        · omega
        · exact (ih.1 ⟨by omega, by omega⟩) x hx
      · intro h
        have h1 := ih.2 (fun x hx => h x (by simp [hx]))
        have h2 := h e (by simp)
        rw [h1.1, h1.2, h2]; simp
    | false =>
      rw [cond_false, cond_false]
      constructor
      · rintro ⟨h1, h2⟩ x hx
        rcases List.mem_cons.1 hx with rfl | hx
        · omega
        · exact (ih.1 ⟨by omega, by omega⟩) x hx
      · intro h
        have h1 := ih.2 (fun x hx => h x (by simp [hx]))
        have h2 := h e (by simp)
        rw [h1.1, h1.2, h2]; simp
theorem wfEs_mem : ∀ {l : List Ex}, wfEs l → ∀ e ∈ l, wfE e
  | [], _, e, h => by cases h
  | x :: r, h, e, he => by
    rw [wfEs] at h
    rcases List.mem_cons.1 he with rfl | he
    · exact h.1
    · exact wfEs_mem h.2 e he
theorem wfAs_mem : ∀ {l : List Arm}, wfAs l → ∀ a ∈ l, wfE a.body
  | [], _, e, h => by cases h
  | .mk p x :: r, h, e, he => by
    rw [wfAs] at h
    rcases List.mem_cons.1 he with rfl | he
    · exact h.1
    · exact wfAs_mem h.2 e he
theorem arm_zero (nm : ByteArray) : ∀ (l : List Arm), (∀ a ∈ l, useF nm a.body = 0 ↔ fvB nm a.body = false) → (armU nm l = 0 ↔ fvA nm l = false)
  | [], _ => by simp [armU, fvA]
  | .mk p e :: r, h => by
    have ih := arm_zero nm r (fun a ha => h a (by simp [ha]))
    have h1 := h (.mk p e) (by simp)
    simp only [Arm.body] at h1
    rw [armU, fvA, Bool.or_eq_false_iff, ← ih]
    cases (boundF p).contains nm with
    | true => rw [cond_true, Bool.not_true, Bool.false_and]; simp
    | false => rw [cond_false, Bool.not_false, Bool.true_and, ← h1]; omega
/-- nothing is used exactly where the name is not free -/
theorem use_zero (nm : ByteArray) (e : Ex) : wfE e → (useF nm e = 0 ↔ fvB nm e = false) := by
  induction e using Ex.ind with
  | h k n t ns ts xs ms p ih1 ih2 =>
  intro hw
  rw [wfE] at hw
  obtain ⟨h1, h2, h3, h4⟩ := hw
  have hx : ∀ e ∈ xs, useF nm e = 0 ↔ fvB nm e = false := fun e he => ih1 e he (wfEs_mem h3 e he)
  have ha := arm_zero nm ms (fun a ha => ih2 a ha (wfAs_mem h4 a ha))
  rw [useF, fvB, h1, show decide ((xs.length : Int) < 0) = false from decide_eq_false (by omega), show decide ((xs.length : Int) < xs.length) = false from decide_eq_false (by omega), cond_false, cond_false]
  cases q5 : (k == 5) with
  | true =>
    have hk := eq_of_beq q5
    subst hk
    simp only [cond_true]
    rw [show ((5 : Int) == 13 || (5 : Int) == 18) = false from rfl, cond_false, Bool.or_false]
    cases t == nm <;> simp
  | false =>
  cases q10 : (k == 10) with
  | true =>
    have hk := eq_of_beq q10
    subst hk
    rw [show ((10 : Int) == 6) = false from rfl]
    simp only [cond_true, cond_false]
    rw [show ((10 : Int) == 13 || (10 : Int) == 18) = false from rfl, cond_false, Bool.or_false]
    cases fvFun nm ns xs <;> simp
  | false =>
  simp only [cond_false]
  have tail : ∀ (S M : Nat) (b : Bool), ((S = 0 ∧ M = 0) ↔ b = false) → (S + max M (bif k == 13 || k == 18 then armU nm ms else 0) = 0 ↔ (b || (bif k == 13 || k == 18 then fvA nm ms else false)) = false) := by
    intro S M b hb
    rw [Bool.or_eq_false_iff, ← hb]
    cases (k == 13 || k == 18) with
    | true => rw [cond_true, cond_true, ← ha]; omega
    | false => rw [cond_false, cond_false]; simp
  refine tail _ _ _ ?_
  cases q6 : (k == 6) with
  | true =>
    have hk := eq_of_beq q6
    subst hk
    rw [needs6] at h1
    match xs, h1, hx with
    | [a, b], _, hx =>
      rw [cond_true, fvLet, Bool.or_eq_false_iff, ← hx a (by simp)]
      have hb := hx b (by simp)
      simp only [sumU, mostU]
      rw [show ((6 : Int) == 7) = false from rfl, show ((6 : Int) == 18) = false from rfl, show ((6 : Int) == 6) = true from rfl]
      simp only [Bool.false_and, Bool.false_or, cond_false, Bool.true_and]
      rw [show ((0 : Nat) == 1) = false from rfl, show ((0 + 1 : Nat) == 1) = true from rfl, Bool.false_and, Bool.true_and, cond_false]
      cases t == nm with
      | true => rw [cond_true, Bool.not_true, Bool.false_and]; simp
      | false => rw [cond_false, Bool.not_false, Bool.true_and, ← hb]; simp
  | false =>
    have hk : k ≠ 6 := by simpa using q6
    rw [cond_false, Int.toNat_natCast, fvN_all nm xs.length xs (Nat.le_refl _), sum_most nm k t hk xs 0]
    exact ⟨fun h e he => (hx e he).1 (h e he), fun h e he => (hx e he).2 (h e he)⟩
mutual
theorem use_le (nm : ByteArray) : ∀ (e : Ex), useF nm e ≤ 2 * wE e
  | .mk k n t ns ts xs ms p => by
    have h1 := sum_le nm k t xs 0
    have h2 := armU_le nm ms
    rw [useF, wE_mk]
    cases k == 5 with
    | true =>
      have : (bif t == nm then 1 else 0) ≤ 1 := by cases t == nm <;> simp
      rw [cond_true]; omega
    | false =>
      rw [cond_false]
      cases k == 10 with
      | true =>
        have : (bif fvFun nm ns xs then 2 else 0) ≤ 2 := by cases fvFun nm ns xs <;> simp
        rw [cond_true]; omega
      | false =>
        rw [cond_false]
        have : (bif k == 13 || k == 18 then armU nm ms else 0) ≤ armU nm ms := by cases (k == 13 || k == 18) <;> simp
        omega
theorem sum_le (nm : ByteArray) (k : Int) (t : ByteArray) : ∀ (l : List Ex) (i : Nat), sumU nm k t i l + mostU nm k t i l ≤ 2 * PV.wts (eEs l)
  | [], i => by simp [sumU, mostU]
  | e :: r, i => by
    have h1 := use_le nm e
    have h2 := sum_le nm k t r (i + 1)
    rw [sumU, mostU]
    simp only [eEs, PV.wts]
    rw [show PV.wt (eE e) = wE e from rfl]
    have h3 : (bif k == 6 && (i == 1 && t == nm) then 0 else useF nm e) ≤ useF nm e := by cases k == 6 && (i == 1 && t == nm) <;> simp
    generalize (bif k == 6 && (i == 1 && t == nm) then 0 else useF nm e) = u at *
    cases (k == 7 && !(i == 0)) || k == 18 with
    | true => rw [cond_true, cond_true]; omega
    | false => rw [cond_false, cond_false]; omega
theorem armU_le (nm : ByteArray) : ∀ (l : List Arm), armU nm l ≤ 2 * PV.wts (eAs l)
  | [] => by simp [armU]
  | .mk p e :: r => by
    have h1 := use_le nm e
    have h2 := armU_le nm r
    have h4 := wA_mk p e
    rw [armU]
    simp only [eAs, PV.wts]
    rw [show PV.wt (eA (.mk p e)) = wA (.mk p e) from rfl]
    have h3 : (bif (boundF p).contains nm then 0 else useF nm e) ≤ useF nm e := by cases (boundF p).contains nm <;> simp
    omega
end
end TR
