/-
  DERIVED. Contracts of the functions that the law reaches, and the law itself, for every input. No conditions.
-/
import Derived.Test.YtbggmlepkjbbhaaDoorTR4
open Go Go.AM Go.Proofs
set_option maxRecDepth 100000
namespace TR
def visitL (l : List Ex) (σ : St) : St := l.foldl (fun σ e => visitF e σ) σ
def armL (l : List Arm) (σ : St) : St := l.foldl (fun σ a => underF (boundF a.pat) a.body σ) σ
theorem visitFn_eq : ∀ (n : Nat) (xs : List Ex) (σ : St), visitFn n xs σ = visitL (xs.take n) σ
  | 0, [], σ => by simp [visitFn, visitL]
  | n + 1, [], σ => by simp [visitFn, visitL]
  | 0, _ :: _, σ => by simp [visitFn, visitL]
  | n + 1, e :: r, σ => by rw [visitFn, visitFn_eq n r]; simp [visitL]
theorem armFs_eq : ∀ (ms : List Arm) (σ : St), armFs ms σ = armL ms σ
  | [], σ => by simp [armFs, armL]
  | .mk p e :: r, σ => by rw [armFs, armFs_eq r]; simp [armL, underF, Arm.pat, Arm.body]
theorem visitL_snoc (l : List Ex) (e : Ex) (σ : St) : visitL (l ++ [e]) σ = visitF e (visitL l σ) := by simp [visitL]
theorem armL_snoc (l : List Arm) (a : Arm) (σ : St) : armL (l ++ [a]) σ = underF (boundF a.pat) a.body (armL l σ) := by simp [armL]
theorem inc_out (σ : St) (ns : List ByteArray) : (σ.inc ns).out = σ.out := rfl
theorem dec_out (σ : St) (ns : List ByteArray) : (σ.dec ns).out = σ.out := rfl
theorem varF_out (t : ByteArray) (σ : St) : (varF t σ).out.length ≤ σ.out.length + 1 := by
  unfold varF; cases ((slook t σ.bound).getD 0 == 0) && !((slook t σ.seen).getD false) <;> simp
theorem visitL_out (l : List Ex) (h : ∀ e ∈ l, ∀ σ, (visitF e σ).out.length ≤ σ.out.length + wE e) : ∀ σ, (visitL l σ).out.length ≤ σ.out.length + PV.wts (eEs l) := by
  induction l with
  | nil => intro σ; simp [visitL]
  | cons e r ih =>
    intro σ
    have h1 := h e (by simp) σ
    have h2 := ih (fun x hx => h x (by simp [hx])) (visitF e σ)
    simp only [eEs, PV.wts]
    rw [show visitL (e :: r) σ = visitL r (visitF e σ) from rfl]
    unfold wE at h1; omega
theorem armL_out (l : List Arm) (h : ∀ a ∈ l, ∀ σ, (visitF a.body σ).out.length ≤ σ.out.length + wE a.body) : ∀ σ, (armL l σ).out.length ≤ σ.out.length + PV.wts (eAs l) := by
  induction l with
  | nil => intro σ; simp [armL]
  | cons a r ih =>
    intro σ
    have h1 := h a (by simp) (σ.inc (boundF a.pat))
    have h2 := ih (fun x hx => h x (by simp [hx])) (underF (boundF a.pat) a.body σ)
    have h3 := wA_body a
    simp only [eAs, PV.wts]
    rw [show armL (a :: r) σ = armL r (underF (boundF a.pat) a.body σ) from rfl]
    rw [underF, dec_out] at h2
    rw [inc_out] at h1
    unfold wA at h3
    rw [underF]; omega
theorem wts_take (l : List PV) (k : Nat) : PV.wts (l.take k) ≤ PV.wts l := by
  have := PV.wts_append (l.take k) (l.drop k)
  rw [List.take_append_drop] at this; omega
theorem eEs_take (l : List Ex) (k : Nat) : eEs (l.take k) = (eEs l).take k := by simp [eEs_map, List.map_take]
theorem eAs_take (l : List Arm) (k : Nat) : eAs (l.take k) = (eAs l).take k := by simp [eAs_map, List.map_take]
theorem visit_out (e : Ex) : ∀ σ, (visitF e σ).out.length ≤ σ.out.length + wE e := by
  induction e using Ex.ind with
  | h k n t ns ts xs ms p ih1 ih2 =>
  intro σ
  have hA := fun σ => armL_out ms ih2 σ
  have hV := fun j σ => visitL_out (xs.take j) (fun e he => ih1 e (List.mem_of_mem_take he)) σ
  have hT := fun j => wts_take (eEs xs) j
  rw [wE_mk, visitF]
  have key : ∀ σ1 : St, σ1.out.length ≤ σ.out.length + 1 + PV.wts (eEs xs) → (bif k == 13 || k == 18 then armFs ms σ1 else σ1).out.length ≤ σ.out.length + (t.size + 8 + PV.wts (ns.map eStr) + PV.wts (eTs ts) + PV.wts (eEs xs) + PV.wts (eAs ms)) := by
    intro σ1 h1
    have := hA σ1
    rw [armFs_eq]
    cases k == 13 || k == 18 <;> simp <;> omega
  cases decide (needsF k n xs.length < 0) with
  | true => simp <;> omega
  | false =>
  simp only [cond_false]
  cases decide ((xs.length : Int) < needsF k n xs.length) with
  | true => simp only [cond_true]; rw [visitFn_eq]; have := hV xs.length σ; have := hT xs.length; rw [eEs_take] at *; omega
  | false =>
  simp only [cond_false]
  refine key _ ?_
  cases k == 5 with
  | true => have := varF_out t σ; simp; omega
  | false =>
  cases k == 6 with
  | true =>
    simp only [cond_false, cond_true]
    match xs, ih1 with
    | [], _ => simp [letFs]; omega
    | [a], _ => simp [letFs]; omega
    | a :: b :: r, ih1 =>
      have h1 := ih1 a (by simp) σ
      have h2 := ih1 b (by simp) ((visitF a σ).inc [t])
      rw [inc_out] at h2
      rw [letFs, dec_out]
      simp only [eEs, PV.wts]
      unfold wE at h1 h2; omega
  | false =>
  cases k == 10 with
  | true =>
    simp only [cond_false, cond_true]
    match xs, ih1 with
    | [], _ => simp [funFs]; omega
    | a :: r, ih1 =>
      have h1 := ih1 a (by simp) (σ.inc ns)
      rw [inc_out] at h1
      rw [funFs, dec_out]
      simp only [eEs, PV.wts]
      unfold wE at h1; omega
  | false => simp only [cond_false]; rw [visitFn_eq]; have := hV (needsF k n xs.length).toNat σ; have := hT (needsF k n xs.length).toNat; rw [eEs_take] at *; omega

theorem visit_all (e : Ex) (he : wE e ≤ 1048640) (ih1 : ∀ a ∈ e.args, VisitS a) (ih2 : ∀ a ∈ e.arms, VisitS a.body) : VisitS e := by
  intro σ hσ
  obtain ⟨k0, n0, t0, ns0, ts0, as0, ms0, p0⟩ := e
  have hl := wE_lens k0 n0 t0 ns0 ts0 as0 ms0 p0
  have hwm := wE_mk k0 n0 t0 ns0 ts0 as0 ms0 p0
  simp only [Ex.args, Ex.arms] at ih1 ih2
  have hnd := needs_spec (Ex.mk k0 n0 t0 ns0 ts0 as0 ms0 p0)
  simp only [Ex.kind, Ex.num, Ex.args] at hnd
  generalize hR : visitF (Ex.mk k0 n0 t0 ns0 ts0 as0 ms0 p0) σ = R
  rw [visitF] at hR
  have hT := fun j => wts_take (eEs as0) j
  have hV := fun j σ => visitL_out (as0.take j) (fun e _ => visit_out e) σ
  have hcall : ∀ (j : Nat) (b : Ex) (σ' : St), as0[j]? = some b → σ'.out.length ≤ σ.out.length + PV.wts (eEs (as0.take j)) → σ'.out.length + wE b ≤ 2097152 := by
    intro j b σ' hb h
    have h1 := wts_take (eEs as0) (j + 1)
    rw [← eEs_take, take_snoc hb, eEs_app, PV.wts_append] at h1
    simp only [eEs, PV.wts] at h1
    unfold wE at hσ hwm ⊢
    omega
  generalize hnn : needsF k0 n0 as0.length = nd at hnd hR
  refine AMem.intro (tyOf_ok Tryd.prog) hmix Tryd.func40 rfl (by rfl) (by kernel_rfl) (by show 2 ≤ _; decide) rfl ?_
  conv => whnf
  refine apc hnd ?_
  conv => whnf
  refine asplit ?_ ?_ <;> intro h1 <;> conv => whnf
  · rw [h1, cond_true] at hR
    subst hR
    exact ⟨.inl rfl, ⟨.inl rfl, .inl rfl, .inl rfl, trivial⟩, ⟨rfl, rfl⟩, ⟨rfl, rfl⟩, trivial⟩
  rw [h1] at hR
  simp only [cond_false] at hR
  refine asplit ?_ ?_ <;> intro h2 <;> conv => whnf
  · have h2' : decide ((as0.length : Int) < nd) = true := by rw [← eEs_len as0]; exact h2
    rw [h2', cond_true, visitFn_eq, List.take_length] at hR
    refine loopS (tyOf_ok _) hmix (by kernel_rfl) as0.length [0, 3, 23, 24, 25] [1000000000, 1000000001, 1000000002, 3] (fun k (s : St) => [.ptr 1000000000 0, .ptr 3 0, .p (.sl 8 (eEs as0)), .p (.i .i64 (eEs as0).length), .p (.i .i64 (ix k))])
      (fun k s => [.cells [.mp 1000000001, .mp 1000000002, .so 1 (s.out.map eStr)], .map .ks (eM vB s.seen), .map .ks (eM vI s.bound), .cells [.p (.i .i64 k0), .p (.i .i64 n0), .p (.s t0), .p (.sl 1 (ns0.map eStr)), .p (.sl 3 (eTs ts0)), .p (.sl 8 (eEs as0)), .p (.sl 12 (eAs ms0)), .p (.i .i64 p0)]]) (fun k s => s = visitL (as0.take k) σ) σ ⟨rfl, rfl, rfl, rfl⟩ rfl ?_
    intro k s hk hs
    conv => whnf
    refine asplit ?_ ?_ <;> intro h3 <;> conv => whnf
    · have hk1 := ix_tt h3 (by rw [eEs_len]) hk (by omega)
      obtain ⟨b, hb1⟩ : ∃ b, as0[k]? = some b := ⟨as0[k], by simp [hk1]⟩
      refine aidxk (eEs_get hb1) (by omega) ?_
      have hc := ih1 b (List.mem_of_getElem? hb1) s (hcall k b s hb1 (by rw [hs]; exact hV k σ))
      have hts : visitL (as0.take (k + 1)) σ = visitF b s := by rw [take_snoc hb1, visitL_snoc, hs]
      generalize visitF b s = s' at hc hts
      obtain ⟨b1, b2, b3, b4, b5, b6, b7, b8⟩ := b
      conv => whnf
      refine amc [1000000000, 1000000001, 1000000002] 10000 hc ?_
      conv => whnf
      exact ⟨hk1, s', ⟨rfl, rfl, rfl, rfl⟩, hts.symm⟩
    · have hk1 := ix_ff h3 (by rw [eEs_len]) hk (by omega)
      have hs2 : visitL as0 σ = s := by rw [hs, hk1, List.take_length]
      rw [hs2] at hR
      subst hR
      exact ⟨.inl rfl, ⟨.inl rfl, .inl rfl, .inl rfl, trivial⟩, ⟨rfl, rfl⟩, ⟨rfl, rfl⟩, trivial⟩
  have h2' : decide ((as0.length : Int) < nd) = false := by rw [← eEs_len as0]; exact h2
  have hnl : nd ≤ as0.length := by have := of_decide_eq_false h2'; omega
  have hn0 : 0 ≤ nd := by have := of_decide_eq_false h1; omega
  rw [h2'] at hR
  simp only [cond_false] at hR
  refine asplit ?_ ?_ <;> intro h3 <;> conv => whnf
  · have h3 : (k0 == 5) = true := h3
    obtain rfl : k0 = 5 := by simpa using h3
    rw [show ((5 : Int) == 5) = true from rfl, show ((5 : Int) == 13 || (5 : Int) == 18) = false from rfl] at hR
    simp only [cond_false, cond_true] at hR
    rw [varF] at hR
    refine alook (mlook_I t0 σ.bound) ?_
    conv => whnf
    refine asplit ?_ ?_ <;> intro g1 <;> conv => whnf
    · have g1 : ((slook t0 σ.bound).getD 0 == 0) = true := g1
      refine alook (mlook_B t0 σ.seen) ?_
      conv => whnf
      refine aneed (by kernel_rfl) ?_
      conv => whnf
      refine asplit ?_ ?_ <;> intro g2 <;> conv => whnf
      · have g2 : (!((slook t0 σ.seen).getD false)) = true := g2
        rw [g1, g2, Bool.and_self, cond_true] at hR
        subst hR
        refine aneed (by kernel_rfl) ?_
        conv => whnf
        refine aneed (show ((σ.out.map eStr).length + 1) * 16 ≤ 140737488355328 by simp; omega) ?_
        conv => whnf
        refine aneed (by kernel_rfl) ?_
        conv => whnf
        refine ⟨.inl rfl, ⟨.inl rfl, .inl rfl, .inl ?_, trivial⟩, ⟨rfl, ?_⟩, ⟨rfl, rfl⟩, trivial⟩
        · simp only [List.map_append]; rfl
        · simp only; rw [← mput_eM]; rfl
      · have g2 : (!((slook t0 σ.seen).getD false)) = false := g2
        rw [g1, g2, Bool.and_false, cond_false] at hR
        subst hR
        exact ⟨.inl rfl, ⟨.inl rfl, .inl rfl, .inl rfl, trivial⟩, ⟨rfl, rfl⟩, ⟨rfl, rfl⟩, trivial⟩
    · have g1 : ((slook t0 σ.bound).getD 0 == 0) = false := g1
      rw [g1, Bool.false_and, cond_false] at hR
      subst hR
      refine aneed (by kernel_rfl) ?_
      conv => whnf
      exact ⟨.inl rfl, ⟨.inl rfl, .inl rfl, .inl rfl, trivial⟩, ⟨rfl, rfl⟩, ⟨rfl, rfl⟩, trivial⟩
  have h3 : (k0 == 5) = false := h3
  rw [h3] at hR
  simp only [cond_false] at hR
  refine asplit ?_ ?_ <;> intro h4 <;> conv => whnf
  · have h4 : (k0 == 6) = true := h4
    obtain rfl : k0 = 6 := by simpa using h4
    rw [show ((6 : Int) == 6) = true from rfl, show ((6 : Int) == 13 || (6 : Int) == 18) = false from rfl] at hR
    simp only [cond_false, cond_true] at hR
    obtain rfl : nd = 2 := by rw [← hnn]; rfl
    match as0, hnl with
    | [], hnl => simp at hnl
    | [a], hnl => simp at hnl
    | a :: b :: r, _ =>
      rw [letFs] at hR
      refine aidxi (x := eE a) (by decide) rfl ?_
      have hwa := wE_args (k := 6) (n := n0) (t := t0) (ns := ns0) (ts := ts0) (ms := ms0) (p := p0) (show a ∈ a :: b :: r by simp)
      have hwb := wE_args (k := 6) (n := n0) (t := t0) (ns := ns0) (ts := ts0) (ms := ms0) (p := p0) (show b ∈ a :: b :: r by simp)
      have g7 := ih1 a (by simp) σ (by omega)
      have ho := visit_out a σ
      simp only [eEs, PV.wts] at hwm
      have g8 := under_of [t0] b (by simp) (ih1 b (by simp)) (visitF a σ) (by unfold wE at hwm ho hσ ⊢; omega)
      rw [underF] at g8
      generalize visitF a σ = σ1 at g7 g8 hR
      rw [hR] at g8
      obtain ⟨a1, a2, a3, a4, a5, a6, a7, a8⟩ := a
      conv => whnf
      refine amc [1000000000, 1000000001, 1000000002] 10000 g7 ?_
      conv => whnf
      refine aidxi (x := eE b) (by decide) rfl ?_
      obtain ⟨b1, b2, b3, b4, b5, b6, b7, b8⟩ := b
      conv => whnf
      refine amc [1000000000, 1000000001, 1000000002] 10000 g8 ?_
      conv => whnf
      refine aneed (by kernel_rfl) ?_
      conv => whnf
      exact ⟨.inl rfl, ⟨.inl rfl, .inl rfl, .inl rfl, trivial⟩, ⟨rfl, rfl⟩, ⟨rfl, rfl⟩, trivial⟩
  have h4 : (k0 == 6) = false := h4
  rw [h4] at hR
  simp only [cond_false] at hR
  refine asplit ?_ ?_ <;> intro h5 <;> conv => whnf
  · have h5 : (k0 == 10) = true := h5
    obtain rfl : k0 = 10 := by simpa using h5
    rw [show ((10 : Int) == 10) = true from rfl, show ((10 : Int) == 13 || (10 : Int) == 18) = false from rfl] at hR
    simp only [cond_false, cond_true] at hR
    obtain rfl : nd = 1 := by rw [← hnn]; rfl
    match as0, hnl with
    | [], hnl => simp at hnl
    | a :: r, _ =>
      rw [funFs] at hR
      refine aidxi (x := eE a) (by decide) rfl ?_
      have hwa := wE_args (k := 10) (n := n0) (t := t0) (ns := ns0) (ts := ts0) (ms := ms0) (p := p0) (show a ∈ a :: r by simp)
      have g7 := under_of ns0 a (by omega) (ih1 a (by simp)) σ (by omega)
      rw [underF, hR] at g7
      obtain ⟨a1, a2, a3, a4, a5, a6, a7, a8⟩ := a
      conv => whnf
      refine amc [1000000000, 1000000001, 1000000002] 10000 g7 ?_
      conv => whnf
      refine aneed (by kernel_rfl) ?_
      conv => whnf
      exact ⟨.inl rfl, ⟨.inl rfl, .inl rfl, .inl rfl, trivial⟩, ⟨rfl, rfl⟩, ⟨rfl, rfl⟩, trivial⟩
  have h5 : (k0 == 10) = false := h5
  rw [h5] at hR
  simp only [cond_false] at hR
  rw [visitFn_eq] at hR
  have hnl2 : (as0.take nd.toNat).length = nd.toNat := by simp; omega
  refine aneed ⟨by omega, by omega, by rw [eEs_len]; omega⟩ ?_
  conv => whnf
  refine loopS (tyOf_ok _) hmix (by kernel_rfl) (as0.take nd.toNat).length [0, 3, 38, 39, 40] [1000000000, 1000000001, 1000000002, 3] (fun k (s : St) => [.ptr 1000000000 0, .ptr 3 0, .p (.sl 8 (eEs (as0.take nd.toNat))), .p (.i .i64 (eEs (as0.take nd.toNat)).length), .p (.i .i64 (ix k))])
    (fun k s => [.cells [.mp 1000000001, .mp 1000000002, .so 1 (s.out.map eStr)], .map .ks (eM vB s.seen), .map .ks (eM vI s.bound), .cells [.p (.i .i64 k0), .p (.i .i64 n0), .p (.s t0), .p (.sl 1 (ns0.map eStr)), .p (.sl 3 (eTs ts0)), .p (.sl 8 (eEs as0)), .p (.sl 12 (eAs ms0)), .p (.i .i64 p0)]]) (fun k s => s = visitL ((as0.take nd.toNat).take k) σ) σ ⟨rfl, by rw [eEs_take]; rfl, rfl, rfl⟩ rfl ?_
  intro k s hk hs
  conv => whnf
  refine asplit ?_ ?_ <;> intro h6 <;> conv => whnf
  · have hk1 := ix_tt h6 (by rw [eEs_len]) hk (by omega)
    obtain ⟨b, hb1⟩ : ∃ b, (as0.take nd.toNat)[k]? = some b := ⟨_, List.getElem?_eq_getElem hk1⟩
    refine aidxk (eEs_get hb1) (by omega) ?_
    have hb2 : as0[k]? = some b := by rw [List.getElem?_take] at hb1; split at hb1; exact hb1; cases hb1
    have hkt : (as0.take nd.toNat).take k = as0.take k := by rw [List.take_take, Nat.min_eq_left (by omega)]
    have hc := ih1 b (List.mem_of_getElem? hb2) s (hcall k b s hb2 (by rw [hs, hkt]; exact hV k σ))
    have hts : visitL ((as0.take nd.toNat).take (k + 1)) σ = visitF b s := by rw [take_snoc hb1, visitL_snoc, hs]
    generalize visitF b s = s' at hc hts
    obtain ⟨b1, b2, b3, b4, b5, b6, b7, b8⟩ := b
    conv => whnf
    refine amc [1000000000, 1000000001, 1000000002] 10000 hc ?_
    conv => whnf
    exact ⟨hk1, s', ⟨rfl, rfl, rfl, rfl⟩, hts.symm⟩
  · have hk1 := ix_ff h6 (by rw [eEs_len]) hk (by omega)
    have hs2 : visitL (as0.take nd.toNat) σ = s := by rw [hs, hk1, List.take_length]
    rw [hs2] at hR
    have hsl : s.out.length ≤ σ.out.length + PV.wts (eEs as0) := by
      have h1 := hV nd.toNat σ
      have h2 := hT nd.toNat
      rw [hs2, eEs_take] at h1; omega
    have hso := fun j => armL_out (ms0.take j) (fun a _ => visit_out a.body) s
    have harm : ∀ (j : Nat) (b : Arm) (σ' : St), ms0[j]? = some b → σ'.out.length ≤ s.out.length + PV.wts (eAs (ms0.take j)) → σ'.out.length + wE b.body ≤ 2097152 := by
      intro j b σ' hb h
      have h1 := wts_take (eAs ms0) (j + 1)
      rw [← eAs_take, take_snoc hb, eAs_app, PV.wts_append] at h1
      simp only [eAs, PV.wts] at h1
      have h2 := wA_body b
      unfold wA at h2
      omega
    refine asplit ?_ ?_ <;> intro h7 <;> conv => whnf
    · have h7 : (k0 == 13) = true := h7
      rw [h7, Bool.true_or, cond_true, armFs_eq] at hR
      refine loopS (tyOf_ok _) hmix (by kernel_rfl) ms0.length [0, 3, 121, 122, 123] [1000000000, 1000000001, 1000000002, 3] (fun k (s : St) => [.ptr 1000000000 0, .ptr 3 0, .p (.sl 12 (eAs ms0)), .p (.i .i64 (eAs ms0).length), .p (.i .i64 (ix k))])
        (fun k s => [.cells [.mp 1000000001, .mp 1000000002, .so 1 (s.out.map eStr)], .map .ks (eM vB s.seen), .map .ks (eM vI s.bound), .cells [.p (.i .i64 k0), .p (.i .i64 n0), .p (.s t0), .p (.sl 1 (ns0.map eStr)), .p (.sl 3 (eTs ts0)), .p (.sl 8 (eEs as0)), .p (.sl 12 (eAs ms0)), .p (.i .i64 p0)]]) (fun k s' => s' = armL (ms0.take k) s) s ⟨rfl, rfl, rfl, rfl⟩ rfl ?_
      intro j s3 hj hs3
      conv => whnf
      refine asplit ?_ ?_ <;> intro h9 <;> conv => whnf
      · have hj1 := ix_tt h9 (by rw [eAs_len]) hj (by omega)
        obtain ⟨b, hb1⟩ : ∃ b, ms0[j]? = some b := ⟨ms0[j], by simp [hj1]⟩
        refine aidxk (eAs_get hb1) (by omega) ?_
        have hbw := wE_body (k := k0) (n := n0) (t := t0) (ns := ns0) (ts := ts0) (xs := as0) (p := p0) (List.mem_of_getElem? hb1)
        have hbb := bound_le b.pat
        have hbs := bound_spec b.pat (by omega)
        have hc := under_of (boundF b.pat) b.body (by omega) (ih2 b (List.mem_of_getElem? hb1)) s3 (harm j b s3 hb1 (by rw [hs3]; exact hso j))
        have hts : armL (ms0.take (j + 1)) s = underF (boundF b.pat) b.body s3 := by rw [take_snoc hb1, armL_snoc, hs3]
        generalize underF (boundF b.pat) b.body s3 = s' at hc hts
        generalize boundF b.pat = bp at hbs hc hbb
        obtain ⟨⟨ck, cn, ct, ca⟩, ⟨c1, c2, c3, c4, c5, c6, c7, c8⟩⟩ := b
        conv => whnf
        refine apc hbs ?_
        conv => whnf
        refine amc [1000000000, 1000000001, 1000000002] 10000 hc ?_
        conv => whnf
        refine aneed (by kernel_rfl) ?_
        conv => whnf
        exact ⟨hj1, s', ⟨rfl, rfl, rfl, rfl⟩, hts.symm⟩
      · have hj1 := ix_ff h9 (by rw [eAs_len]) hj (by omega)
        have hs4 : armL ms0 s = s3 := by rw [hs3, hj1, List.take_length]
        rw [hs4] at hR
        subst hR
        exact ⟨.inl rfl, ⟨.inl rfl, .inl rfl, .inl rfl, trivial⟩, ⟨rfl, rfl⟩, ⟨rfl, rfl⟩, trivial⟩
    · have h7 : (k0 == 13) = false := h7
      rw [h7, Bool.false_or] at hR
      refine asplit ?_ ?_ <;> intro h8 <;> conv => whnf
      · have h8 : (k0 == 18) = true := h8
        rw [h8, cond_true, armFs_eq] at hR
        refine loopS (tyOf_ok _) hmix (by kernel_rfl) ms0.length [0, 3, 121, 122, 123] [1000000000, 1000000001, 1000000002, 3] (fun k (s : St) => [.ptr 1000000000 0, .ptr 3 0, .p (.sl 12 (eAs ms0)), .p (.i .i64 (eAs ms0).length), .p (.i .i64 (ix k))])
          (fun k s => [.cells [.mp 1000000001, .mp 1000000002, .so 1 (s.out.map eStr)], .map .ks (eM vB s.seen), .map .ks (eM vI s.bound), .cells [.p (.i .i64 k0), .p (.i .i64 n0), .p (.s t0), .p (.sl 1 (ns0.map eStr)), .p (.sl 3 (eTs ts0)), .p (.sl 8 (eEs as0)), .p (.sl 12 (eAs ms0)), .p (.i .i64 p0)]]) (fun k s' => s' = armL (ms0.take k) s) s ⟨rfl, rfl, rfl, rfl⟩ rfl ?_
        intro j s3 hj hs3
        conv => whnf
        refine asplit ?_ ?_ <;> intro h9 <;> conv => whnf
        · have hj1 := ix_tt h9 (by rw [eAs_len]) hj (by omega)
          obtain ⟨b, hb1⟩ : ∃ b, ms0[j]? = some b := ⟨ms0[j], by simp [hj1]⟩
          refine aidxk (eAs_get hb1) (by omega) ?_
          have hbw := wE_body (k := k0) (n := n0) (t := t0) (ns := ns0) (ts := ts0) (xs := as0) (p := p0) (List.mem_of_getElem? hb1)
          have hbb := bound_le b.pat
          have hbs := bound_spec b.pat (by omega)
          have hc := under_of (boundF b.pat) b.body (by omega) (ih2 b (List.mem_of_getElem? hb1)) s3 (harm j b s3 hb1 (by rw [hs3]; exact hso j))
          have hts : armL (ms0.take (j + 1)) s = underF (boundF b.pat) b.body s3 := by rw [take_snoc hb1, armL_snoc, hs3]
          generalize underF (boundF b.pat) b.body s3 = s' at hc hts
          generalize boundF b.pat = bp at hbs hc hbb
          obtain ⟨⟨ck, cn, ct, ca⟩, ⟨c1, c2, c3, c4, c5, c6, c7, c8⟩⟩ := b
          conv => whnf
          refine apc hbs ?_
          conv => whnf
          refine amc [1000000000, 1000000001, 1000000002] 10000 hc ?_
          conv => whnf
          refine aneed (by kernel_rfl) ?_
          conv => whnf
          exact ⟨hj1, s', ⟨rfl, rfl, rfl, rfl⟩, hts.symm⟩
        · have hj1 := ix_ff h9 (by rw [eAs_len]) hj (by omega)
          have hs4 : armL ms0 s = s3 := by rw [hs3, hj1, List.take_length]
          rw [hs4] at hR
          subst hR
          exact ⟨.inl rfl, ⟨.inl rfl, .inl rfl, .inl rfl, trivial⟩, ⟨rfl, rfl⟩, ⟨rfl, rfl⟩, trivial⟩
      · have h8 : (k0 == 18) = false := h8
        rw [h8, cond_false] at hR
        subst hR
        exact ⟨.inl rfl, ⟨.inl rfl, .inl rfl, .inl rfl, trivial⟩, ⟨rfl, rfl⟩, ⟨rfl, rfl⟩, trivial⟩
theorem visit_spec (e : Ex) : wE e ≤ 1048640 → VisitS e :=
  Ex.ind (Q := fun e => wE e ≤ 1048640 → VisitS e) (fun k n t ns ts xs ms p h1 h2 h => visit_all (.mk k n t ns ts xs ms p) h (fun a ha => h1 a ha (by have := wE_args (k := k) (n := n) (t := t) (ns := ns) (ts := ts) (ms := ms) (p := p) (show a ∈ xs from ha); omega))
    (fun a ha => h2 a ha (by have := wE_body (k := k) (n := n) (t := t) (ns := ns) (ts := ts) (xs := xs) (p := p) (show a ∈ ms from ha); omega))) e

/-- Free -/
def freeF (e : Ex) : List ByteArray := (visitF e ⟨[], [], []⟩).out
theorem free_spec (e : Ex) (he : wE e ≤ 1048640) : APure Tryd.prog 10 [.p (eE e)] (.p (.sl 1 ((freeF e).map eStr))) := by
  have h1 := visit_spec e he ⟨[], [], []⟩ (by simp; omega)
  rw [freeF]
  generalize visitF e ⟨[], [], []⟩ = σ at h1
  obtain ⟨k0, n0, t0, ns0, ts0, as0, ms0, p0⟩ := e
  refine APure.intro (tyOf_ok Tryd.prog) hmix Tryd.func10 rfl (by rfl) (by kernel_rfl) (by show 1 ≤ _; decide) rfl ?_
  conv => whnf
  refine amcl [3, 4, 5] 10000 h1 ?_ ?_
  · conv => whnf
    exact .inr (.inl rfl)
  · exact ⟨rfl, ⟨.inl rfl, .inl rfl, .inr (.inr ⟨rfl, 0, rfl⟩), trivial⟩, rfl, ⟨rfl, rfl⟩, rfl, ⟨rfl, rfl⟩, trivial⟩
end TR

open Go Go.AM Go.Proofs
set_option maxRecDepth 100000
namespace TR
/-- slices.Equal of strings -/
def eqS : List ByteArray → List ByteArray → Bool
  | [], [] => true
  | a :: r, b :: s => (a == b) && eqS r s
  | _, _ => false
theorem eqS_iff : ∀ (l r : List ByteArray), eqS l r = true ↔ l = r
  | [], [] => by simp [eqS]
  | [], _ :: _ => by simp [eqS]
  | _ :: _, [] => by simp [eqS]
  | a :: r, b :: s => by simp [eqS, eqS_iff r s, beq_bytes]
theorem eqS_len : ∀ (l r : List ByteArray), l.length ≠ r.length → eqS l r = false
  | [], [], h => by simp at h
  | [], _ :: _, _ => rfl
  | _ :: _, [], _ => rfl
  | a :: r, b :: s, h => by simp at h; simp [eqS, eqS_len r s h]
theorem equalS_spec (l r : List ByteArray) (hl : l.length ≤ 2097152) : APure Tryd.prog 9 [.p (.sl 1 (l.map eStr)), .p (.sl 1 (r.map eStr))] (.p (.b (eqS l r))) := by
  refine APure.intro (tyOf_ok Tryd.prog) hmix Tryd.func9 rfl (by rfl) (by kernel_rfl) (by show 2 ≤ _; decide) rfl ?_
  conv => whnf
  refine asplit ?_ ?_ <;> intro h1 <;> conv => whnf
  · exact .inl (pb (by rw [eqS_len]; intro h; simp [h] at h1))
  have hlr : (l.length : Int) = r.length := by simpa using h1
  have hlr : l.length = r.length := by omega
  refine loopS (tyOf_ok _) hmix (by kernel_rfl) l.length [0, 1, 12, 13] [] (fun k _ => [.p (.sl 1 (l.map eStr)), .p (.sl 1 (r.map eStr)), .p (.i .i64 (l.map eStr).length), .p (.i .i64 (ix k))]) (fun _ _ => []) (fun k _ => eqS l r = eqS (l.drop k) (r.drop k)) () ⟨rfl, rfl, rfl, rfl⟩ rfl ?_
  intro k _ hk hs
  conv => whnf
  refine asplit ?_ ?_ <;> intro h2 <;> conv => whnf
  · have hk1 := ix_tt h2 (by simp) hk (by omega)
    obtain ⟨a, ha⟩ : ∃ b, l[k]? = some b := ⟨_, List.getElem?_eq_getElem hk1⟩
    obtain ⟨b, hb⟩ : ∃ b, r[k]? = some b := ⟨_, List.getElem?_eq_getElem (by omega)⟩
    rw [drop_cons ha, drop_cons hb, eqS] at hs
    refine aidxk (x := eStr a) (by simp [ha]) (by omega) ?_
    conv => whnf
    refine aidxk (x := eStr b) (by simp [hb]) (by omega) ?_
    conv => whnf
    refine aneed (by kernel_rfl) ?_
    conv => whnf
    refine asplit ?_ ?_ <;> intro h3 <;> conv => whnf
    · have h3 : (!(a.toList == b.toList)) = true := h3
      rw [bl_iff] at h3
      exact .inl (pb (by rw [hs]; cases hq : a == b with | true => rw [hq] at h3; cases h3 | false => rfl))
    · have h3 : (!(a.toList == b.toList)) = false := h3
      rw [bl_iff] at h3
      refine ⟨hk1, (), ⟨rfl, rfl, rfl, rfl⟩, ?_⟩
      rw [hs]; cases hq : a == b with | true => rfl | false => rw [hq] at h3; cases h3
  · have hk1 := ix_ff h2 (by simp) hk (by omega)
    exact .inl (pb (by rw [hs, hk1, List.drop_length, hlr, List.drop_length]; rfl))

/-- walks -/
def e0 : Ex := .mk 6 0 ⟨#[120]⟩ [] [] [.mk 2 0 ⟨#[]⟩ [] [] [] [] 0, .mk 5 0 ⟨#[121]⟩ [] [] [] [] 0] [] 0
theorem walks_spec : APure Tryd.prog 4 [] (.p (.b true)) := by
  have hw : wE e0 ≤ 1048576 := by decide +kernel
  have h1 := size_spec e0 hw
  have h2 := walk_spec e0 hw
  have h3 := free_spec e0 (by omega)
  rw [show sizeF e0 = 3 by decide +kernel] at h1
  rw [show walkF e0 = [e0, .mk 2 0 ⟨#[]⟩ [] [] [] [] 0, .mk 5 0 ⟨#[121]⟩ [] [] [] [] 0] by rfl] at h2
  rw [show freeF e0 = [⟨#[121]⟩] by rfl] at h3
  have h4 := equalS_spec [⟨#[121]⟩] [⟨#[121]⟩] (by decide)
  rw [show eqS [⟨#[121]⟩] [⟨#[121]⟩] = true by rw [eqS_iff]] at h4
  refine APure.intro (tyOf_ok Tryd.prog) hmix Tryd.func4 rfl (by rfl) (by kernel_rfl) (by show 0 ≤ _; decide) rfl ?_
  conv => whnf
  refine apc h1 ?_
  conv => whnf
  refine apc h2 ?_
  conv => whnf
  refine apc h3 ?_
  conv => whnf
  refine apc h4 ?_
  conv => whnf
  exact .inl rfl

/-- the plain law of the walk -/
theorem parts_law (e : Ex) : (walkF e).length = 1 + (walkFs (partsF e)).length ∧ 1 + sizeFs (partsF e) ≤ sizeF e ∧ deepFs (partsF e) + 1 ≤ deepF e := by
  obtain ⟨k, n, t, ns, ts, xs, ms, p⟩ := e
  simp only [partsF, Ex.args, Ex.arms]
  refine ⟨by rw [walkF, walkFs_app, walkFa_map]; simp; omega, ?_, ?_⟩
  · rw [sizeFs_app, sizeF]
    have : sizeFs (ms.map Arm.body) ≤ sizeFa ms := by
      induction ms with
      | nil => simp [sizeFs]
      | cons a r ih => obtain ⟨q, e⟩ := a; simp [sizeFs, sizeFa, Arm.body]; omega
    omega
  · have h1 : ∀ l r : List Ex, deepFs (l ++ r) = max (deepFs l) (deepFs r) := fun l r => by
      induction l with
      | nil => simp [deepFs]
      | cons a l ih => simp [deepFs, ih, Nat.max_assoc]
    have h2 : deepFs (ms.map Arm.body) ≤ deepFa ms := by
      induction ms with
      | nil => simp [deepFs]
      | cons a r ih => obtain ⟨q, e⟩ := a; simp only [List.map_cons, deepFs, deepFa, Arm.body]; omega
    rw [h1, deepF]; omega
theorem parts_mem {e x : Ex} (h : x ∈ partsF e) : wE x ≤ wE e := by
  obtain ⟨k, n, t, ns, ts, xs, ms, p⟩ := e
  simp only [partsF, Ex.args, Ex.arms] at h
  rcases List.mem_append.1 h with h | h
  · have := wE_args (k := k) (n := n) (t := t) (ns := ns) (ts := ts) (ms := ms) (p := p) h; omega
  · obtain ⟨a, ha, rfl⟩ := List.mem_map.1 h
    have := wE_body (k := k) (n := n) (t := t) (ns := ns) (ts := ts) (xs := xs) (p := p) ha; omega
theorem walkFs_snoc (l : List Ex) (e : Ex) : walkFs (l ++ [e]) = walkFs l ++ walkF e := by rw [walkFs_app]; simp [walkFs]
theorem partsF_len (e : Ex) : (partsF e).length ≤ wE e := by
  obtain ⟨k, n, t, ns, ts, xs, ms, p⟩ := e
  have := wE_lens k n t ns ts xs ms p
  simp [partsF, Ex.args, Ex.arms]; omega

end TR
