/-
  DERIVED. Contracts of functions that the law reaches, and the law, for every input. No conditions.
-/
import Derived.Test.YtcgaadhbnckjbaaUX8
open Go Go.AM Go.Proofs
set_option maxRecDepth 100000
namespace KK
/-! UnifyOrder -/
def so2Q (r : Int × TM) (l : TM) : Prop := (r.1 = 0 ∧ l.Perm r.2) ∨ (r.1 ≠ 0 ∧ l = [])
def so2R (r : Int × TM) (l : TM) : AV := .tup [.p (.sl 4 (l.map eB)), .p (.i .i64 r.1)]
theorem solve_spec2 (f : Nat) (ps : List TP2) (r : Int × TM) (hr : solF f [] ps = some r) (hps : ∀ p ∈ ps, nodes p.1 ≤ 400 ∧ nodes p.2 ≤ 400) (hlen : ps.length ≤ 1000000) (hml0 : r.1 = 0 → r.2.length ≤ 1000000000) :
    AMemR Try.prog 8 [.p (.sl 6 (ps.map eP))] [] (so2Q r) (so2R r) (fun _ => []) := by
  obtain ⟨hb, _, hcall⟩ := solve_spec f ps r hr hps hlen hml0
  refine ⟨hb, fun _ _ => rfl, fun g w vs hH hbn hlen hrel => (hcall g w vs hH hbn hlen hrel).mono ?_⟩
  rintro en w' ⟨s, v, g', hq, he, hv, h4, h5, h6⟩
  cases s with
  | none => exact ⟨[], v, g', .inr ⟨hq, rfl⟩, he, hv, h4, h5, h6⟩
  | some l =>
    have hq : r.1 = 0 ∧ l.Perm r.2 := hq
    refine ⟨l, v, g', .inl hq, he, ?_, h4, h5, h6⟩
    have hv : VRel g' w' (domOf []) (some .ret) v (.tup [.p (.sl 4 (l.map eB)), .p (.i .i64 0)]) := hv
    show VRel g' w' (domOf []) (some .ret) v (.tup [.p (.sl 4 (l.map eB)), .p (.i .i64 r.1)])
    rw [hq.1]; exact hv
def backF (l : List TP2) : List TP2 := (l.map fun p => (p.2, p.1)).reverse
theorem back_mem {l : List TP2} {p : TP2} : p ∈ backF l ↔ (p.2, p.1) ∈ l := by
  unfold backF
  rw [List.mem_reverse, List.mem_map]
  constructor
  · rintro ⟨q, h, rfl⟩; exact h
  · intro h; exact ⟨_, h, rfl⟩
theorem back_sum : ∀ (l : List TP2), sumP (backF l) = sumP l
  | [] => rfl
  | p :: r => by
    have := back_sum r
    unfold backF at this ⊢
    rw [List.map_cons, List.reverse_cons, sumP_app, this, sumP, sumP, sumP]; simp only; omega
theorem order_law {f f' : Nat} {ps qs : List TP2} {r r' : Int × TM} (hp : ∀ p ∈ ps, pureP p) (hpq : ∀ p ∈ qs, (p.2, p.1) ∈ ps) (h : solF f [] ps = some r) (h' : solF f' [] qs = some r') (h0 : r.1 = 0) : r'.1 = 0 ∨ r'.1 = 2 := by
  obtain ⟨e, m⟩ := r
  simp only at h0
  subst h0
  obtain ⟨i1, _, i3⟩ := sol_solves f ps [] m Inv.nil hp h
  have := sol_most (nh_app m) (ri_app i1) f' qs [] r' Inv.nil (fun p hp => by cases hp) (fun p hp' => ⟨⟨(hp _ (hpq p hp')).2, (hp _ (hpq p hp')).1⟩, (i3 _ (hpq p hp')).symm⟩) h'
  rcases this with ⟨h1, _⟩ | h1
  · exact .inl h1
  · exact .inr h1
theorem unifyOrder_ok (ps : List TP2) (hs : sumP ps ≤ 1099511627776) : APure Try.prog 3 [.p (.sl 6 (ps.map eP))] (.p (.b true)) := by
  have hfair := fair_spec ps hs
  have hfo := @fair_of ps 0
  have huni := unifies_spec
  generalize fairF ps 0 = q at hfair hfo
  refine APure.introS (tyOf_ok Try.prog) Try.func3 rfl (by rfl) (by show 1 ≤ _; decide) rfl ?_
  refine AWp.cut (tyOf_ok Try.prog) hmix (by kernel_rfl) 5 [0, 3] [] (fun _ : Unit => [.p (.sl 6 (ps.map eP)), .so 6 ((backF ps).map eP)]) (fun _ => []) (fun _ => q = true) ?_ ?_
  · conv => whnf
    refine apc hfair ?_
    conv => whnf
    cases q with
    | false =>
      conv => whnf
      exact .inl rfl
    | true =>
      obtain ⟨hpure, hsm⟩ := hfo rfl
      rw [Nat.zero_add] at hsm
      have hl6 := sumP_len ps
      conv => whnf
      refine apc huni ?_
      conv => whnf
      refine lp_nil 3 5 rfl ?_
      refine loopS (tyOf_ok _) hmix (by kernel_rfl) ps.length [0, 3, 15, 16, 17] [] (fun k (_ : Unit) => [.p (.sl 6 (ps.map eP)), .so 6 ((backF (ps.take k)).map eP), .p (.sl 6 (ps.map eP)), .p (.i .i64 (ps.map eP).length), .p (.i .i64 (ix k))])
        (fun _ _ => []) (fun k s => True) () ⟨rfl, rfl, rfl, rfl⟩ trivial ?_
      rintro k _ hk -
      conv => whnf
      refine asplit ?_ ?_ <;> intro h9 <;> conv => whnf
      · have hk1 := ix_tt h9 (by rw [List.length_map]) hk (by omega)
        obtain ⟨p, hpk⟩ : ∃ b, ps[k]? = some b := ⟨_, List.getElem?_eq_getElem hk1⟩
        have hb1 : (backF (ps.take (k + 1))).map eP = [eP (p.2, p.1)] ++ (backF (ps.take k)).map eP := by
          unfold backF
          rw [take_snoc hpk, List.map_append, List.reverse_append]; rfl
        have hb2 : ((backF (ps.take k)).map eP).length = k := by unfold backF; simp; omega
        refine aidxk (eP_get hpk) (by omega) ?_
        obtain ⟨⟨xk, xn, xx⟩, yk, yn, yx⟩ := p
        generalize (backF (ps.take k)).map eP = zs at hb1 hb2
        conv => whnf
        refine aneed (by decide) ?_
        conv => whnf
        refine aneed (by decide) ?_
        conv => whnf
        refine aneed (show (1 + zs.length) * 96 ≤ 140737488355328 by omega) ?_
        conv => whnf
        refine ⟨hk1, (), ⟨rfl, ?_, rfl, rfl⟩, trivial⟩
        rw [hb1]
        rfl
      · have hk1 := ix_ff h9 (by rw [List.length_map]) hk (by omega)
        subst hk1
        rw [List.take_length]
        exact ⟨(), ⟨rfl, rfl, rfl, rfl⟩, rfl⟩
  · rintro _ rfl
    obtain ⟨hpure, hsm⟩ := hfo rfl
    rw [Nat.zero_add] at hsm
    obtain ⟨hn4, hl6⟩ := sumP_small hsm
    have hsm2 := hsm
    rw [← back_sum ps] at hsm2
    obtain ⟨hn5, hl7⟩ := sumP_small hsm2
    have hpure2 : ∀ p ∈ backF ps, pureP p := fun p hp => ⟨(hpure _ (back_mem.1 hp)).2, (hpure _ (back_mem.1 hp)).1⟩
    obtain ⟨f, r, hr, hinv⟩ := sol_ends ps hpure
    obtain ⟨f2, r2, hr2, hinv2⟩ := sol_ends (backF ps) hpure2
    have hA := order_law hpure (fun p hp => back_mem.1 hp) hr hr2
    have hB := order_law hpure2 (fun p hp => back_mem.2 hp) hr2 hr
    refine AWp.callRS (tyOf_ok Try.prog) (σ := TM) 1 [] 30000 (so2Q r) (so2R r) (fun _ => []) ⟨rfl, rfl, rfl⟩ (by kernel_rfl) ?_
    conv => whnf
    refine ⟨8, [], [], _, rfl, by kernel_rfl, rfl, ?_, fun s hs => rfl, fun l hs => ?_⟩
    · exact solve_spec2 f ps r hr hn4 hl6 fun h0 => by have := (hinv h0).2; omega
    · conv => whnf
      refine AWp.callRS (tyOf_ok Try.prog) (σ := TM) 1 [] 40000 (so2Q r2) (so2R r2) (fun _ => []) ⟨rfl, rfl, rfl⟩ (by kernel_rfl) ?_
      conv => whnf
      refine ⟨8, [], [], _, rfl, by kernel_rfl, rfl, ?_, fun s hs => rfl, fun l2 hs2 => ?_⟩
      · exact solve_spec2 f2 (backF ps) r2 hr2 hn5 hl7 fun h0 => by have := (hinv2 h0).2; omega
      · conv => whnf
        refine AWp.fin (tyOf_ok Try.prog) hmix (by kernel_rfl) ?_
        generalize r.1 = e at hA hB
        generalize r2.1 = e2 at hA hB
        conv => whnf
        refine asplit ?_ ?_ <;> intro h1 <;> conv => whnf
        · exact .inl rfl
        · replace h1 : (e == 2) = false := h1
          refine asplit ?_ ?_ <;> intro h2 <;> conv => whnf
          · exact .inl rfl
          · replace h2 : (e2 == 2) = false := h2
            have h1' : e ≠ 2 := by simpa using h1
            have h2' : e2 ≠ 2 := by simpa using h2
            refine .inl (pb ?_)
            show ((e == 0) == (e2 == 0)) = true
            by_cases h3 : e = 0
            · have : e2 = 0 := by rcases hA h3 with h | h; exact h; exact absurd h h2'
              subst h3; subst this; rfl
            · have h4 : e2 ≠ 0 := fun h => by rcases hB h with h | h; exact h3 h; exact h1' h
              have a1 : (e == 0) = false := by simpa using h3
              have a2 : (e2 == 0) = false := by simpa using h4
              rw [a1, a2]; rfl
end KK
open Go Go.AM Go.Proofs
set_option maxRecDepth 100000
namespace KK
/-! Unknowns as an object -/
def hpA (σ : CS) : Heap := [(1000000000, .cells [.mp 1000000001]), (1000000001, .map .ks (eM vB σ.seen)), (1000000002, .cells [.al false 1000000004 1 σ.out.length]), (1000000003, .cells [fnU]), (1000000004, .gr false 1 (σ.out.map eStr))]
def hpB (σ : CS) : Heap := [(1000000000, .cells [.mp 1000000001]), (1000000001, .map .ks (eM vB σ.seen)), (1000000002, .cells [.al false 23 1 σ.out.length]), (1000000003, .cells [fnU]), (1000000004, .dead), (23, .gr false 1 (σ.out.map eStr))]
def UnkA (t : Ty) : Prop := ∀ σ : CS, σ.out.length + nodes t ≤ 1099511627776 → AMem Try.prog 22 [.p (eT t), .ptr 1000000000 0, .ptr 1000000002 0, .ptr 1000000003 0] (hpA σ) (.tup []) (hpB (unkF t σ))
theorem unkA_all (t : Ty) (ih : ∀ a ∈ t.args, UnkA a) : UnkA t := by
  intro σ hσ
  have hu := unknown_spec t
  generalize hR : unkF t σ = R
  obtain ⟨k0, n0, xs⟩ := t
  simp only [Ty.args] at ih
  rw [unkF] at hR
  rw [nodes] at hσ
  have hxl := nodes_len xs
  have hol := ownU_len (.mk k0 n0 xs) σ
  generalize hτ : ownU (.mk k0 n0 xs) σ = τ at hR hol
  rw [ownU] at hτ
  simp only [Ty.name] at hτ
  generalize unkB (.mk k0 n0 xs) = ub at hu hτ
  refine AMem.intro (tyOf_ok Try.prog) hmix Try.func22 rfl (by rfl) (by kernel_rfl) (by show 4 ≤ _; decide) rfl ?_
  conv => whnf
  refine apc hu ?_
  conv => whnf
  refine asplit ?_ ?_ <;> intro h1 <;> conv => whnf
  · subst h1
    rw [cond_true] at hτ
    refine alook (mlook_B n0 σ.seen) ?_
    conv => whnf
    refine asplit ?_ ?_ <;> intro h2 <;> conv => whnf
    · replace h2 : (!has σ.seen n0) = true := h2
      rw [h2, cond_true] at hτ
      refine aneed (show σ.out.length = (σ.out.map eStr).length ∧ ((σ.out.map eStr).length + 1) * 16 ≤ 140737488355328 from ⟨by simp, by simp; omega⟩) ?_
      conv => whnf
      have hcall : ∀ (j : Nat) (b : Ty) (s : CS), xs[j]? = some b → s = unkFs (xs.take j) τ → s.out.length + nodes b ≤ 1099511627776 := by
        intro j b s hb h
        have h1 := nodess_take xs (j + 1)
        rw [take_snoc hb, nodess_app] at h1
        simp only [nodess] at h1
        have h2 := unks_len (xs.take j) τ
        rw [h]; omega
      refine loopR (tyOf_ok _) hmix (by kernel_rfl) 23 10023 xs.length [1, 2, 3, 25, 26, 27] [1000000000, 1000000001, 1000000002, 1000000003, 1000000004, 23] (fun k (s : CS) => [.ptr 1000000000 0, .ptr 1000000002 0, .ptr 1000000003 0, .p (.sl 3 (eTs xs)), .p (.i .i64 (eTs xs).length), .p (.i .i64 (ix k))])
        (fun k s => [.cells [.mp 1000000001], .map .ks (eM vB s.seen), .cells [.al false 23 1 s.out.length], .cells [fnU], .dead, .gr false 1 (s.out.map eStr)]) (fun k s => s = unkFs (xs.take k) τ) τ ⟨by rw [← hτ]; simp only [List.map_append, List.length_append, ← mput_eM]; rfl, rfl, rfl, rfl⟩ (by simp [unkFs]) ?_
      intro k s hk hs
      conv => whnf
      refine asplit ?_ ?_ <;> intro h5 <;> conv => whnf
      · have hk1 := ix_tt h5 (by rw [eTs_len]) hk (by omega)
        obtain ⟨b, hb1⟩ : ∃ b, xs[k]? = some b := ⟨_, List.getElem?_eq_getElem hk1⟩
        refine aidxk (eTs_get hb1) (by omega) ?_
        have hc := ih b (List.mem_of_getElem? hb1) s (hcall k b s hb1 hs)
        have hts : unkFs (xs.take (k + 1)) τ = unkF b s := by rw [take_snoc hb1, unkFs_snoc, hs]
        generalize unkF b s = s' at hc hts
        obtain ⟨b1, b2, b3⟩ := b
        conv => whnf
        refine amc [1000000000, 1000000001, 1000000002, 1000000003, 23] 10000 hc ?_
        conv => whnf
        exact ⟨hk1, s', ⟨rfl, rfl, rfl, rfl, rfl⟩, hts.symm⟩
      · have hk1 := ix_ff h5 (by rw [eTs_len]) hk (by omega)
        have hs2 : s = R := by rw [hs, hk1, List.take_length]; exact hR
        subst hs2
        exact ⟨.inl rfl, ⟨.inl rfl, trivial⟩, ⟨rfl, rfl⟩, ⟨.inl rfl, trivial⟩, ⟨.inl rfl, trivial⟩, trivial, ⟨rfl, rfl, rfl⟩, trivial⟩
    · replace h2 : (!has σ.seen n0) = false := h2
      rw [h2, cond_false] at hτ
      refine lp_mv 1000000004 23 [1, 2, 3, 25, 26, 27] [1000000000, 1000000001, 1000000002, 1000000003, 1000000004, 23] [.ptr 1000000000 0, .ptr 1000000002 0, .ptr 1000000003 0, .p (.sl 3 (eTs xs)), .p (.i .i64 (eTs xs).length), .p (.i .i64 0)]
        [.cells [.mp 1000000001], .map .ks (eM vB σ.seen), .cells [.al false 23 1 σ.out.length], .cells [fnU], .dead, .gr false 1 (σ.out.map eStr)] ⟨rfl, rfl, rfl, rfl, rfl, rfl, rfl⟩ ?_
      have hcall : ∀ (j : Nat) (b : Ty) (s : CS), xs[j]? = some b → s = unkFs (xs.take j) τ → s.out.length + nodes b ≤ 1099511627776 := by
        intro j b s hb h
        have h1 := nodess_take xs (j + 1)
        rw [take_snoc hb, nodess_app] at h1
        simp only [nodess] at h1
        have h2 := unks_len (xs.take j) τ
        rw [h]; omega
      refine loopR (tyOf_ok _) hmix (by kernel_rfl) 23 10023 xs.length [1, 2, 3, 25, 26, 27] [1000000000, 1000000001, 1000000002, 1000000003, 1000000004, 23] (fun k (s : CS) => [.ptr 1000000000 0, .ptr 1000000002 0, .ptr 1000000003 0, .p (.sl 3 (eTs xs)), .p (.i .i64 (eTs xs).length), .p (.i .i64 (ix k))])
        (fun k s => [.cells [.mp 1000000001], .map .ks (eM vB s.seen), .cells [.al false 23 1 s.out.length], .cells [fnU], .dead, .gr false 1 (s.out.map eStr)]) (fun k s => s = unkFs (xs.take k) τ) τ ⟨by rw [← hτ]; rfl, rfl, rfl, rfl⟩ (by simp [unkFs]) ?_
      intro k s hk hs
      conv => whnf
      refine asplit ?_ ?_ <;> intro h5 <;> conv => whnf
      · have hk1 := ix_tt h5 (by rw [eTs_len]) hk (by omega)
        obtain ⟨b, hb1⟩ : ∃ b, xs[k]? = some b := ⟨_, List.getElem?_eq_getElem hk1⟩
        refine aidxk (eTs_get hb1) (by omega) ?_
        have hc := ih b (List.mem_of_getElem? hb1) s (hcall k b s hb1 hs)
        have hts : unkFs (xs.take (k + 1)) τ = unkF b s := by rw [take_snoc hb1, unkFs_snoc, hs]
        generalize unkF b s = s' at hc hts
        obtain ⟨b1, b2, b3⟩ := b
        conv => whnf
        refine amc [1000000000, 1000000001, 1000000002, 1000000003, 23] 10000 hc ?_
        conv => whnf
        exact ⟨hk1, s', ⟨rfl, rfl, rfl, rfl, rfl⟩, hts.symm⟩
      · have hk1 := ix_ff h5 (by rw [eTs_len]) hk (by omega)
        have hs2 : s = R := by rw [hs, hk1, List.take_length]; exact hR
        subst hs2
        exact ⟨.inl rfl, ⟨.inl rfl, trivial⟩, ⟨rfl, rfl⟩, ⟨.inl rfl, trivial⟩, ⟨.inl rfl, trivial⟩, trivial, ⟨rfl, rfl, rfl⟩, trivial⟩
  · subst h1
    rw [cond_false] at hτ
    refine lp_mv 1000000004 23 [1, 2, 3, 25, 26, 27] [1000000000, 1000000001, 1000000002, 1000000003, 1000000004, 23] [.ptr 1000000000 0, .ptr 1000000002 0, .ptr 1000000003 0, .p (.sl 3 (eTs xs)), .p (.i .i64 (eTs xs).length), .p (.i .i64 0)]
      [.cells [.mp 1000000001], .map .ks (eM vB σ.seen), .cells [.al false 23 1 σ.out.length], .cells [fnU], .dead, .gr false 1 (σ.out.map eStr)] ⟨rfl, rfl, rfl, rfl, rfl, rfl, rfl⟩ ?_
    have hcall : ∀ (j : Nat) (b : Ty) (s : CS), xs[j]? = some b → s = unkFs (xs.take j) τ → s.out.length + nodes b ≤ 1099511627776 := by
      intro j b s hb h
      have h1 := nodess_take xs (j + 1)
      rw [take_snoc hb, nodess_app] at h1
      simp only [nodess] at h1
      have h2 := unks_len (xs.take j) τ
      rw [h]; omega
    refine loopR (tyOf_ok _) hmix (by kernel_rfl) 23 10023 xs.length [1, 2, 3, 25, 26, 27] [1000000000, 1000000001, 1000000002, 1000000003, 1000000004, 23] (fun k (s : CS) => [.ptr 1000000000 0, .ptr 1000000002 0, .ptr 1000000003 0, .p (.sl 3 (eTs xs)), .p (.i .i64 (eTs xs).length), .p (.i .i64 (ix k))])
      (fun k s => [.cells [.mp 1000000001], .map .ks (eM vB s.seen), .cells [.al false 23 1 s.out.length], .cells [fnU], .dead, .gr false 1 (s.out.map eStr)]) (fun k s => s = unkFs (xs.take k) τ) τ ⟨by rw [← hτ]; rfl, rfl, rfl, rfl⟩ (by simp [unkFs]) ?_
    intro k s hk hs
    conv => whnf
    refine asplit ?_ ?_ <;> intro h5 <;> conv => whnf
    · have hk1 := ix_tt h5 (by rw [eTs_len]) hk (by omega)
      obtain ⟨b, hb1⟩ : ∃ b, xs[k]? = some b := ⟨_, List.getElem?_eq_getElem hk1⟩
      refine aidxk (eTs_get hb1) (by omega) ?_
      have hc := ih b (List.mem_of_getElem? hb1) s (hcall k b s hb1 hs)
      have hts : unkFs (xs.take (k + 1)) τ = unkF b s := by rw [take_snoc hb1, unkFs_snoc, hs]
      generalize unkF b s = s' at hc hts
      obtain ⟨b1, b2, b3⟩ := b
      conv => whnf
      refine amc [1000000000, 1000000001, 1000000002, 1000000003, 23] 10000 hc ?_
      conv => whnf
      exact ⟨hk1, s', ⟨rfl, rfl, rfl, rfl, rfl⟩, hts.symm⟩
    · have hk1 := ix_ff h5 (by rw [eTs_len]) hk (by omega)
      have hs2 : s = R := by rw [hs, hk1, List.take_length]; exact hR
      subst hs2
      exact ⟨.inl rfl, ⟨.inl rfl, trivial⟩, ⟨rfl, rfl⟩, ⟨.inl rfl, trivial⟩, ⟨.inl rfl, trivial⟩, trivial, ⟨rfl, rfl, rfl⟩, trivial⟩
theorem unkA_spec (t : Ty) : UnkA t := Ty.ind (Q := UnkA) (fun k n xs ih => unkA_all (.mk k n xs) ih) t
theorem unknownsA_spec (t : Ty) (ht : nodes t ≤ 1099511627776) : AMem Try.prog 13 [.p (eT t)] [] (.al false 10023 1 (unksF t).length) [(10023, .gr false 1 ((unksF t).map eStr))] := by
  have h1 := unkA_spec t ⟨[], []⟩ (by simp; omega)
  rw [unksF]
  generalize unkF t ⟨[], []⟩ = σ at h1
  obtain ⟨k0, n0, xs⟩ := t
  refine AMem.intro0 (tyOf_ok Try.prog) hmix Try.func13 rfl (by rfl) (by kernel_rfl) (by show 1 ≤ _; decide) rfl (fun g w a s => s.nilObj (d := 900) 1) ?_
  conv => whnf
  refine amcN [3, 6, 4, 5, 900] 10000 h1 ?_ ?_
  · conv => whnf
    exact ⟨.inl rfl, ⟨rfl, rfl, rfl⟩, trivial⟩
  · exact ⟨rfl, ⟨.inl rfl, trivial⟩, rfl, rfl, rfl, ⟨.inr ⟨rfl, _, _, rfl, rfl⟩, trivial⟩, rfl, ⟨.inl rfl, trivial⟩, rfl, rfl, trivial⟩
theorem same_eq (a : Ty) : ∀ b, sameF a b = true → a = b :=
  Ty.ind (Q := fun a => ∀ b, sameF a b = true → a = b) (fun k n xs ih b h => by
    obtain ⟨k', n', ys⟩ := b
    rw [sameF, Bool.and_eq_true, Bool.and_eq_true] at h
    obtain ⟨h1, h2, h3⟩ := h
    have e1 : k = k' := by simpa using h1
    have e2 := (beq_bytes n n').1 h2
    subst e1; subst e2
    congr 1
    clear h1 h2
    induction xs generalizing ys with
    | nil =>
      cases ys with
      | nil => rfl
      | cons _ _ => rw [sameF.go] at h3 <;> first | cases h3 | simp
    | cons x xs ihx =>
      cases ys with
      | nil => rw [sameF.go] at h3 <;> first | cases h3 | simp
      | cons y ys =>
        rw [sameF.go, Bool.and_eq_true] at h3
        rw [ih x (by simp) y h3.1, ihx (fun a ha => ih a (by simp [ha])) ys h3.2]) a
/-! names that may be made anything -/
def badB : Bs → Bool
  | [] => true
  | c :: _ => c != 63
theorem good_q {l : Bs} (h : badB l = false) : qN (B l) := by
  match l, h with
  | c :: r, h =>
    have hc : c = 63 := by simpa [badB] using h
    subst hc
    unfold qN hpF
    rw [decide_eq_true (show ((B (63 :: r)).size : Int) ≥ (qm.size : Int) by rw [B_size]; show ((r.length + 1 : Nat) : Int) ≥ 1; omega), cond_true]
    refine (beq_bytes _ _).2 ?_
    rw [show qm.size = 1 from rfl, B_ext]; rfl
theorem bad_spec (l : Bs) (t : Ty) : APure Try.prog 12 [.p (eB (B l, t))] (.p (.b (badB l))) := by
  obtain ⟨tk, tn, tx⟩ := t
  have hb := B_beq l []
  refine APure.intro (tyOf_ok Try.prog) hmix Try.func12 rfl (by rfl) (by kernel_rfl) (by show 1 ≤ _; decide) rfl ?_
  conv => whnf
  refine asplit ?_ ?_ <;> intro h1 <;> conv => whnf
  · replace h1 : ((B l).toList == (B []).toList) = true := h1
    rw [hb] at h1
    match l, h1 with
    | [], _ => exact .inl rfl
  · replace h1 : ((B l).toList == (B []).toList) = false := h1
    rw [hb] at h1
    match l, h1 with
    | c :: r, _ =>
      refine asix (k := 0) (c := c) rfl rfl ?_
      conv => whnf
      refine .inl (pb ?_)
      show ((c.toNat : Int) != 63) = (c != 63)
      by_cases hc : c = 63
      · subst hc; rfl
      · have h2 : (c != 63) = true := by simpa using hc
        have h3 : c.toNat ≠ 63 := fun e => hc (UInt8.toNat_inj.1 e)
        rw [h2]
        simp; omega
def badP (p : ByteArray × Ty) : Bool := badB p.1.data.toList
theorem badP_spec (p : ByteArray × Ty) : APure Try.prog 12 [.p (eB p)] (.p (.b (badP p))) := by
  obtain ⟨n, t⟩ := p
  have h := bad_spec n.data.toList t
  rw [← B_of] at h
  exact h
def nbF : TM → Nat → Int
  | [], _ => -1
  | p :: r, k => bif badP p then (k : Int) else nbF r (k + 1)
theorem nb_good : ∀ (l : TM) (k : Nat), decide (nbF l k ≥ 0) = false → ∀ p ∈ l, qN p.1
  | [], _, _ => by simp
  | p :: r, k, h => by
    rw [nbF] at h
    cases hb : badP p with
    | true =>
      rw [hb, cond_true] at h
      have := of_decide_eq_false h
      omega
    | false =>
      rw [hb, cond_false] at h
      have h1 := nb_good r (k + 1) h
      intro q hq
      rcases List.mem_cons.1 hq with rfl | hq
      · have := good_q hb
        rw [← B_of] at this
        exact this
      · exact h1 q hq
theorem idxB_spec (l : TM) (hl : l.length ≤ 1000000000) : APure Try.prog 21 [.p (.sl 4 (l.map eB)), .fn 12 [] []] (.p (.i .i64 (nbF l 0))) := by
  generalize hR : nbF l 0 = R
  refine APure.intro (tyOf_ok Try.prog) hmix Try.func21 rfl (by rfl) (by kernel_rfl) (by show 2 ≤ _; decide) rfl ?_
  conv => whnf
  refine loopS (tyOf_ok _) hmix (by kernel_rfl) l.length [0, 1, 7, 8] [] (fun k (_ : Unit) => [.p (.sl 4 (l.map eB)), .fn 12 [] [], .p (.i .i64 (l.map eB).length), .p (.i .i64 (ix k))]) (fun _ _ => []) (fun k _ => nbF (l.drop k) k = R) () ⟨rfl, rfl, rfl, rfl⟩ hR ?_
  intro k _ hk hs
  conv => whnf
  refine asplit ?_ ?_ <;> intro h1 <;> conv => whnf
  · have hk1 := ix_tt h1 (by rw [List.length_map]) hk (by omega)
    obtain ⟨b, hb1⟩ : ∃ b, l[k]? = some b := ⟨_, List.getElem?_eq_getElem hk1⟩
    refine aidxk (eB_get hb1) (by omega) ?_
    rw [drop_cons hb1, nbF] at hs
    have hc := badP_spec b
    generalize badP b = q at hc hs
    obtain ⟨bn, b1, b2, b3⟩ := b
    conv => whnf
    refine apc hc ?_
    conv => whnf
    refine asplit ?_ ?_ <;> intro h2 <;> conv => whnf
    · subst h2
      exact .inl (pi (by rw [ix_eq (by omega)]; exact hs))
    · subst h2
      exact ⟨hk1, (), ⟨rfl, rfl, rfl, rfl⟩, hs⟩
  · have hk1 := ix_ff h1 (by rw [List.length_map]) hk (by omega)
    rw [hk1, List.drop_length, nbF] at hs
    exact .inl (pi hs)
theorem contB_spec (l : TM) (hl : l.length ≤ 1000000000) : APure Try.prog 11 [.p (.sl 4 (l.map eB)), .fn 12 [] []] (.p (.b (decide (nbF l 0 ≥ 0)))) := by
  have h := idxB_spec l hl
  refine APure.intro (tyOf_ok Try.prog) hmix Try.func11 rfl (by rfl) (by kernel_rfl) (by show 2 ≤ _; decide) rfl ?_
  conv => whnf
  refine apc h ?_
  conv => whnf
  exact .inl rfl
theorem nodes_put {ns : List ByteArray} {l : List Ty} {N : Nat} (hN : 0 < N) (h : ∀ t ∈ l, nodes t ≤ N) (t : Ty) : nodes (putF ns l t) ≤ nodes t * N :=
  Ty.ind (Q := fun t => nodes (putF ns l t) ≤ nodes t * N) (fun k n xs ih => by
    have hx : nodess (xs.map (putF ns l)) ≤ nodess xs * N := by
      induction xs with
      | nil => simp [nodess]
      | cons x r ihr =>
        have := ih x (by simp)
        have := ihr fun a ha => ih a (by simp [ha])
        rw [List.map_cons, nodess, nodess, Nat.add_mul]; omega
    rw [putF, putFs_map]
    cases (k == 5 && (decide (idxF n ns 0 ≥ 0) && decide (idxF n ns 0 < l.length))) with
    | false => rw [cond_false, nodes, nodes, Nat.add_mul]; omega
    | true =>
      rw [cond_true]
      cases hq : l[(idxF n ns 0).toNat]? with
      | none => rw [Option.getD_none, nodes]; exact Nat.le_mul_of_pos_right _ hN
      | some x =>
        have := h x (List.mem_of_getElem? hq)
        rw [Option.getD_some, nodes]
        exact Nat.le_trans this (Nat.le_mul_of_pos_left _ (by omega))) t
end KK
