/-
  DERIVED. Contracts of the functions that the law reaches, and the law itself, for every input. No conditions.
-/
import Derived.Test.YtfaeijklldnohaaDoorSC3
import Derived.Test.YtfaeijklldnohaaDoorAMMv
open Go Go.AM Go.Proofs
set_option maxRecDepth 100000
namespace KK
/-! pure -/
mutual
def pureF : Ty → Bool
  | .mk k _ xs => bif (bif k != 5 then true else xs.length == 0) then pureFs xs else false
def pureFs : List Ty → Bool
  | [] => true
  | t :: r => pureF t && pureFs r
end
def PureS (t : Ty) : Prop := APure Tryd.prog 6 [.p (eT t)] (.p (.b (pureF t)))
theorem pure1_of (t : Ty) (h : PureS t) : APure Tryd.prog 16 [.p (eT t)] (.p (.b (!pureF t))) := by
  unfold PureS at h
  generalize pureF t = q at h
  obtain ⟨k, n, xs⟩ := t
  refine APure.intro (tyOf_ok Tryd.prog) hmix Tryd.func16 rfl (by rfl) (by kernel_rfl) (by show 1 ≤ _; decide) rfl ?_
  conv => whnf
  refine apc h ?_
  conv => whnf
  exact .inl rfl
def npF : List Ty → Nat → Int
  | [], _ => -1
  | t :: r, k => bif !pureF t then (k : Int) else npF r (k + 1)
theorem np_pure : ∀ (l : List Ty) (k : Nat), (!decide (npF l k ≥ 0)) = pureFs l
  | [], k => rfl
  | t :: r, k => by
    rw [npF, pureFs]
    cases pureF t with
    | true => simpa using np_pure r (k + 1)
    | false => simp
theorem idxT_of (l : List Ty) (hl : l.length < 9223372036854775807) (ih : ∀ a ∈ l, PureS a) : APure Tryd.prog 27 [.p (.sl 3 (eTs l)), .fn 16 [] []] (.p (.i .i64 (npF l 0))) := by
  generalize hR : npF l 0 = R
  refine APure.intro (tyOf_ok Tryd.prog) hmix Tryd.func27 rfl (by rfl) (by kernel_rfl) (by show 2 ≤ _; decide) rfl ?_
  conv => whnf
  refine loopS (tyOf_ok _) hmix (by kernel_rfl) l.length [0, 1, 7, 8] [] (fun k (_ : Unit) => [.p (.sl 3 (eTs l)), .fn 16 [] [], .p (.i .i64 (eTs l).length), .p (.i .i64 (ix k))]) (fun _ _ => []) (fun k _ => npF (l.drop k) k = R) () ⟨rfl, rfl, rfl, rfl⟩ hR ?_
  intro k _ hk hs
  conv => whnf
  refine asplit ?_ ?_ <;> intro h1 <;> conv => whnf
  · have hk1 := ix_tt h1 (by rw [eTs_len]) hk (by omega)
    obtain ⟨b, hb1⟩ : ∃ b, l[k]? = some b := ⟨_, List.getElem?_eq_getElem hk1⟩
    refine aidxk (eTs_get hb1) (by omega) ?_
    rw [drop_cons hb1, npF] at hs
    have hc := pure1_of b (ih b (List.mem_of_getElem? hb1))
    generalize (!pureF b) = q at hc hs
    obtain ⟨b1, b2, b3⟩ := b
    conv => whnf
    refine apc hc ?_
    conv => whnf
    refine asplit ?_ ?_ <;> intro h2 <;> conv => whnf
    · subst h2
      exact .inl (pi (by rw [ix_eq (by omega)]; exact hs))
    · subst h2
      exact ⟨hk1, (), ⟨rfl, rfl, rfl, rfl⟩, hs⟩
  · have hk1 := ix_ff h1 (by rw [eTs_len]) hk (by omega)
    rw [hk1, List.drop_length, npF] at hs
    exact .inl (pi hs)
theorem contT_of (l : List Ty) (hl : l.length < 9223372036854775807) (ih : ∀ a ∈ l, PureS a) : APure Tryd.prog 15 [.p (.sl 3 (eTs l)), .fn 16 [] []] (.p (.b (decide (npF l 0 ≥ 0)))) := by
  have h := idxT_of l hl ih
  refine APure.intro (tyOf_ok Tryd.prog) hmix Tryd.func15 rfl (by rfl) (by kernel_rfl) (by show 2 ≤ _; decide) rfl ?_
  conv => whnf
  refine apc h ?_
  conv => whnf
  exact .inl rfl
theorem pure_spec (t : Ty) : okT t → PureS t := by
  induction t using Ty.ind with
  | h k n xs ih =>
  intro ht
  have hc := contT_of xs (by have := ht.1; omega) (fun a ha => ih a ha (okTs_mem ht.2 a ha))
  have hp := np_pure xs 0
  unfold PureS
  rw [pureF, ← hp]
  generalize decide (npF xs 0 ≥ 0) = q at hc
  refine APure.intro (tyOf_ok Tryd.prog) hmix Tryd.func6 rfl (by rfl) (by kernel_rfl) (by show 1 ≤ _; decide) rfl ?_
  conv => whnf
  refine asplit ?_ ?_ <;> intro h1 <;> conv => whnf
  · replace h1 : (k != 5) = true := h1
    rw [h1]
    refine apc hc ?_
    conv => whnf
    exact .inl rfl
  · replace h1 : (k != 5) = false := h1
    rw [h1]
    refine asplit ?_ ?_ <;> intro h2 <;> conv => whnf
    · replace h2 : (((eTs xs).length : Int) == 0) = true := h2
      have h3 : (xs.length == 0) = true := by rw [eTs_len] at h2; simp at h2 ⊢; omega
      rw [h3]
      refine apc hc ?_
      conv => whnf
      exact .inl rfl
    · replace h2 : (((eTs xs).length : Int) == 0) = false := h2
      have h3 : (xs.length == 0) = false := by rw [eTs_len] at h2; simp at h2 ⊢; omega
      rw [h3]
      exact .inl rfl
/-! Free where nothing is deleted -/
def scCells (s : Sc) : List PV := .sl 1 (s.ps.map eStr) :: (eT s.ty).cells
theorem free1_spec (s : Sc) (hp : s.ps.length < 9223372036854775807) (x : ByteArray) : APure Tryd.prog 20 [.p (.s x), .vp (scCells s)] (.p (.b (hasF x s.ps))) := by
  have hc := contains_spec s.ps x hp
  generalize hasF x s.ps = q at hc
  obtain ⟨ps, ⟨k, n, xs⟩⟩ := s
  refine APure.intro (tyOf_ok Tryd.prog) hmix Tryd.func20 rfl (by rfl) (by kernel_rfl) (by show 2 ≤ _; decide) rfl ?_
  conv => whnf
  refine apc hc ?_
  conv => whnf
  exact .inl rfl
theorem idxFr_spec (s : Sc) (hp : s.ps.length < 9223372036854775807) (l : List ByteArray) (hl : l.length ≤ 2199023255552) : APure Tryd.prog 28 [.p (.sl 1 (l.map eStr)), .fn 20 [] [.vp (scCells s)]] (.p (.i .i64 (fdF (fun x => hasF x s.ps) l 0))) := by
  generalize hR : fdF (fun x => hasF x s.ps) l 0 = R
  refine APure.intro (tyOf_ok Tryd.prog) hmix Tryd.func28 rfl (by rfl) (by kernel_rfl) (by show 2 ≤ _; decide) rfl ?_
  conv => whnf
  refine loopS (tyOf_ok _) hmix (by kernel_rfl) l.length [0, 1, 7, 8] [] (fun k (_ : Unit) => [.p (.sl 1 (l.map eStr)), .fn 20 [] [.vp (scCells s)], .p (.i .i64 (l.map eStr).length), .p (.i .i64 (ix k))]) (fun _ _ => []) (fun k _ => fdF (fun x => hasF x s.ps) (l.drop k) k = R) () ⟨rfl, rfl, rfl, rfl⟩ hR ?_
  intro k _ hk hs
  conv => whnf
  refine asplit ?_ ?_ <;> intro h1 <;> conv => whnf
  · have hk1 := ix_tt h1 (by simp) hk (by omega)
    obtain ⟨b, hb1⟩ : ∃ b, l[k]? = some b := ⟨_, List.getElem?_eq_getElem hk1⟩
    refine aidxk (x := eStr b) (by simp [hb1]) (by omega) ?_
    rw [drop_cons hb1, fdF] at hs
    have hc := free1_spec s hp b
    generalize hasF b s.ps = q at hc hs
    conv => whnf
    refine apc hc ?_
    conv => whnf
    refine asplit ?_ ?_ <;> intro h2 <;> conv => whnf
    · subst h2
      exact .inl (pi (by rw [ix_eq (by omega)]; exact hs))
    · subst h2
      exact ⟨hk1, (), ⟨rfl, rfl, rfl, rfl⟩, hs⟩
  · have hk1 := ix_ff h1 (by simp) hk (by omega)
    rw [hk1, List.drop_length, fdF] at hs
    exact .inl (pi hs)
def scAV (s : Sc) : List AV := [.p (.sl 1 (s.ps.map eStr)), .p (.i .i64 s.ty.kind), .p (.s s.ty.name), .p (.sl 3 (eTs s.ty.args))]
theorem delFr_none (s : Sc) (hp : s.ps.length < 9223372036854775807) (l : List ByteArray) (hl : l.length ≤ 2199023255552) (hn : ∀ x ∈ l, hasF x s.ps = false) : AMem Tryd.prog 17 [.p (.sl 1 (l.map eStr)), .fn 20 [] [.ptr 1000000000 0]] [(1000000000, .cells (scAV s))] (.p (.sl 1 (l.map eStr))) [(1000000000, .cells (scAV s))] := by
  have h1 := idxFr_spec s hp l hl
  rw [fd_none l 0 hn] at h1
  obtain ⟨ps, ⟨k, n, xs⟩⟩ := s
  refine AMem.intro (tyOf_ok Tryd.prog) hmix Tryd.func17 rfl (by rfl) (by kernel_rfl) (by show 2 ≤ _; decide) rfl ?_
  conv => whnf
  refine apb [1000000000] h1 ?_
  conv => whnf
  exact ⟨.inl rfl, ⟨.inl rfl, .inl rfl, .inl rfl, .inl rfl, trivial⟩, trivial⟩
theorem freeN_spec (t : Ty) (ht : nodes t ≤ 1099511627776) : APure Tryd.prog 9 [.p (eSc ⟨[], t⟩)] (.p (.sl 1 ((unksF t).map eStr))) := by
  have h1 := unknowns_spec t ht
  have hl := unk_len t ⟨[], []⟩
  have h2 := delFr_none ⟨[], t⟩ (by simp) (unksF t) (by rw [unksF]; simp at hl; omega) (fun x _ => rfl)
  generalize unksF t = U at h1 h2
  obtain ⟨k, n, xs⟩ := t
  simp only [scAV, Ty.kind, Ty.name, Ty.args] at h2
  refine APure.intro (tyOf_ok Tryd.prog) hmix Tryd.func9 rfl (by rfl) (by kernel_rfl) (by show 1 ≤ _; decide) rfl ?_
  conv => whnf
  refine apc h1 ?_
  conv => whnf
  refine amc [1] 10000 h2 ?_
  conv => whnf
  exact .inl rfl
/-! Unknowns as an object -/
def hpA (σ : CS) : Heap := [(1000000000, .cells [.mp 1000000001]), (1000000001, .map .ks (eM vB σ.seen)), (1000000002, .cells [.al false 1000000004 1 σ.out.length]), (1000000003, .cells [fnU]), (1000000004, .gr false 1 (σ.out.map eStr))]
def hpB (σ : CS) : Heap := [(1000000000, .cells [.mp 1000000001]), (1000000001, .map .ks (eM vB σ.seen)), (1000000002, .cells [.al false 23 1 σ.out.length]), (1000000003, .cells [fnU]), (1000000004, .dead), (23, .gr false 1 (σ.out.map eStr))]
def UnkA (t : Ty) : Prop := ∀ σ : CS, σ.out.length + nodes t ≤ 1099511627776 → AMem Tryd.prog 22 [.p (eT t), .ptr 1000000000 0, .ptr 1000000002 0, .ptr 1000000003 0] (hpA σ) (.tup []) (hpB (unkF t σ))
theorem unkA_all (t : Ty) (ih : ∀ a ∈ t.args, UnkA a) : UnkA t := by
  intro σ hσ
  have hu := unknown_spec t
  generalize hR : unkF t σ = R
  obtain ⟨k0, n0, xs⟩ := t
  simp only [Ty.args] at ih
  rw [unkF] at hR
  rw [nodes] at hσ
  have hxl := nodes_len xs
  have hol := ownU_len (.mk k0 n0 xs) σ
  generalize hτ : ownU (.mk k0 n0 xs) σ = τ at hR hol
  rw [ownU] at hτ
  simp only [Ty.name] at hτ
  generalize unkB (.mk k0 n0 xs) = ub at hu hτ
  refine AMem.intro (tyOf_ok Tryd.prog) hmix Tryd.func22 rfl (by rfl) (by kernel_rfl) (by show 4 ≤ _; decide) rfl ?_
  conv => whnf
  refine apc hu ?_
  conv => whnf
  refine asplit ?_ ?_ <;> intro h1 <;> conv => whnf
  · subst h1
    rw [cond_true] at hτ
    refine alook (mlook_B n0 σ.seen) ?_
    conv => whnf
    refine asplit ?_ ?_ <;> intro h2 <;> conv => whnf
    · replace h2 : (!has σ.seen n0) = true := h2
      rw [h2, cond_true] at hτ
      refine aneed (show σ.out.length = (σ.out.map eStr).length ∧ ((σ.out.map eStr).length + 1) * 16 ≤ 140737488355328 from ⟨by simp, by simp; omega⟩) ?_
      conv => whnf
      have hcall : ∀ (j : Nat) (b : Ty) (s : CS), xs[j]? = some b → s = unkFs (xs.take j) τ → s.out.length + nodes b ≤ 1099511627776 := by
        intro j b s hb h
        have h1 := nodess_take xs (j + 1)
        rw [take_snoc hb, nodess_app] at h1
        simp only [nodess] at h1
        have h2 := unks_len (xs.take j) τ
        rw [h]; omega
      refine loopR (tyOf_ok _) hmix (by kernel_rfl) 23 10023 xs.length [1, 2, 3, 25, 26, 27] [1000000000, 1000000001, 1000000002, 1000000003, 1000000004, 23] (fun k (s : CS) => [.ptr 1000000000 0, .ptr 1000000002 0, .ptr 1000000003 0, .p (.sl 3 (eTs xs)), .p (.i .i64 (eTs xs).length), .p (.i .i64 (ix k))])
        (fun k s => [.cells [.mp 1000000001], .map .ks (eM vB s.seen), .cells [.al false 23 1 s.out.length], .cells [fnU], .dead, .gr false 1 (s.out.map eStr)]) (fun k s => s = unkFs (xs.take k) τ) τ ⟨by rw [← hτ]; simp only [List.map_append, List.length_append, ← mput_eM]; rfl, rfl, rfl, rfl⟩ (by simp [unkFs]) ?_
      intro k s hk hs
      conv => whnf
      refine asplit ?_ ?_ <;> intro h5 <;> conv => whnf
      · have hk1 := ix_tt h5 (by rw [eTs_len]) hk (by omega)
        obtain ⟨b, hb1⟩ : ∃ b, xs[k]? = some b := ⟨_, List.getElem?_eq_getElem hk1⟩
        refine aidxk (eTs_get hb1) (by omega) ?_
        have hc := ih b (List.mem_of_getElem? hb1) s (hcall k b s hb1 hs)
        have hts : unkFs (xs.take (k + 1)) τ = unkF b s := by rw [take_snoc hb1, unkFs_snoc, hs]
        generalize unkF b s = s' at hc hts
        obtain ⟨b1, b2, b3⟩ := b
        conv => whnf
        refine amc [1000000000, 1000000001, 1000000002, 1000000003, 23] 10000 hc ?_
        conv => whnf
        exact ⟨hk1, s', ⟨rfl, rfl, rfl, rfl, rfl⟩, hts.symm⟩
      · have hk1 := ix_ff h5 (by rw [eTs_len]) hk (by omega)
        have hs2 : s = R := by rw [hs, hk1, List.take_length]; exact hR
        subst hs2
        exact ⟨.inl rfl, ⟨.inl rfl, trivial⟩, ⟨rfl, rfl⟩, ⟨.inl rfl, trivial⟩, ⟨.inl rfl, trivial⟩, trivial, ⟨rfl, rfl, rfl⟩, trivial⟩
    · replace h2 : (!has σ.seen n0) = false := h2
      rw [h2, cond_false] at hτ
      refine lp_mv 1000000004 23 [1, 2, 3, 25, 26, 27] [1000000000, 1000000001, 1000000002, 1000000003, 1000000004, 23] [.ptr 1000000000 0, .ptr 1000000002 0, .ptr 1000000003 0, .p (.sl 3 (eTs xs)), .p (.i .i64 (eTs xs).length), .p (.i .i64 0)]
        [.cells [.mp 1000000001], .map .ks (eM vB σ.seen), .cells [.al false 23 1 σ.out.length], .cells [fnU], .dead, .gr false 1 (σ.out.map eStr)] ⟨rfl, rfl, rfl, rfl, rfl, rfl, rfl⟩ ?_
      have hcall : ∀ (j : Nat) (b : Ty) (s : CS), xs[j]? = some b → s = unkFs (xs.take j) τ → s.out.length + nodes b ≤ 1099511627776 := by
        intro j b s hb h
        have h1 := nodess_take xs (j + 1)
        rw [take_snoc hb, nodess_app] at h1
        simp only [nodess] at h1
        have h2 := unks_len (xs.take j) τ
        rw [h]; omega
      refine loopR (tyOf_ok _) hmix (by kernel_rfl) 23 10023 xs.length [1, 2, 3, 25, 26, 27] [1000000000, 1000000001, 1000000002, 1000000003, 1000000004, 23] (fun k (s : CS) => [.ptr 1000000000 0, .ptr 1000000002 0, .ptr 1000000003 0, .p (.sl 3 (eTs xs)), .p (.i .i64 (eTs xs).length), .p (.i .i64 (ix k))])
        (fun k s => [.cells [.mp 1000000001], .map .ks (eM vB s.seen), .cells [.al false 23 1 s.out.length], .cells [fnU], .dead, .gr false 1 (s.out.map eStr)]) (fun k s => s = unkFs (xs.take k) τ) τ ⟨by rw [← hτ]; rfl, rfl, rfl, rfl⟩ (by simp [unkFs]) ?_
      intro k s hk hs
      conv => whnf
      refine asplit ?_ ?_ <;> intro h5 <;> conv => whnf
      · have hk1 := ix_tt h5 (by rw [eTs_len]) hk (by omega)
        obtain ⟨b, hb1⟩ : ∃ b, xs[k]? = some b := ⟨_, List.getElem?_eq_getElem hk1⟩
        refine aidxk (eTs_get hb1) (by omega) ?_
        have hc := ih b (List.mem_of_getElem? hb1) s (hcall k b s hb1 hs)
        have hts : unkFs (xs.take (k + 1)) τ = unkF b s := by rw [take_snoc hb1, unkFs_snoc, hs]
        generalize unkF b s = s' at hc hts
        obtain ⟨b1, b2, b3⟩ := b
        conv => whnf
        refine amc [1000000000, 1000000001, 1000000002, 1000000003, 23] 10000 hc ?_
        conv => whnf
        exact ⟨hk1, s', ⟨rfl, rfl, rfl, rfl, rfl⟩, hts.symm⟩
      · have hk1 := ix_ff h5 (by rw [eTs_len]) hk (by omega)
        have hs2 : s = R := by rw [hs, hk1, List.take_length]; exact hR
        subst hs2
        exact ⟨.inl rfl, ⟨.inl rfl, trivial⟩, ⟨rfl, rfl⟩, ⟨.inl rfl, trivial⟩, ⟨.inl rfl, trivial⟩, trivial, ⟨rfl, rfl, rfl⟩, trivial⟩
  · subst h1
    rw [cond_false] at hτ
    refine lp_mv 1000000004 23 [1, 2, 3, 25, 26, 27] [1000000000, 1000000001, 1000000002, 1000000003, 1000000004, 23] [.ptr 1000000000 0, .ptr 1000000002 0, .ptr 1000000003 0, .p (.sl 3 (eTs xs)), .p (.i .i64 (eTs xs).length), .p (.i .i64 0)]
      [.cells [.mp 1000000001], .map .ks (eM vB σ.seen), .cells [.al false 23 1 σ.out.length], .cells [fnU], .dead, .gr false 1 (σ.out.map eStr)] ⟨rfl, rfl, rfl, rfl, rfl, rfl, rfl⟩ ?_
    have hcall : ∀ (j : Nat) (b : Ty) (s : CS), xs[j]? = some b → s = unkFs (xs.take j) τ → s.out.length + nodes b ≤ 1099511627776 := by
      intro j b s hb h
      have h1 := nodess_take xs (j + 1)
      rw [take_snoc hb, nodess_app] at h1
      simp only [nodess] at h1
      have h2 := unks_len (xs.take j) τ
      rw [h]; omega
    refine loopR (tyOf_ok _) hmix (by kernel_rfl) 23 10023 xs.length [1, 2, 3, 25, 26, 27] [1000000000, 1000000001, 1000000002, 1000000003, 1000000004, 23] (fun k (s : CS) => [.ptr 1000000000 0, .ptr 1000000002 0, .ptr 1000000003 0, .p (.sl 3 (eTs xs)), .p (.i .i64 (eTs xs).length), .p (.i .i64 (ix k))])
      (fun k s => [.cells [.mp 1000000001], .map .ks (eM vB s.seen), .cells [.al false 23 1 s.out.length], .cells [fnU], .dead, .gr false 1 (s.out.map eStr)]) (fun k s => s = unkFs (xs.take k) τ) τ ⟨by rw [← hτ]; rfl, rfl, rfl, rfl⟩ (by simp [unkFs]) ?_
    intro k s hk hs
    conv => whnf
    refine asplit ?_ ?_ <;> intro h5 <;> conv => whnf
    · have hk1 := ix_tt h5 (by rw [eTs_len]) hk (by omega)
      obtain ⟨b, hb1⟩ : ∃ b, xs[k]? = some b := ⟨_, List.getElem?_eq_getElem hk1⟩
      refine aidxk (eTs_get hb1) (by omega) ?_
      have hc := ih b (List.mem_of_getElem? hb1) s (hcall k b s hb1 hs)
      have hts : unkFs (xs.take (k + 1)) τ = unkF b s := by rw [take_snoc hb1, unkFs_snoc, hs]
      generalize unkF b s = s' at hc hts
      obtain ⟨b1, b2, b3⟩ := b
      conv => whnf
      refine amc [1000000000, 1000000001, 1000000002, 1000000003, 23] 10000 hc ?_
      conv => whnf
      exact ⟨hk1, s', ⟨rfl, rfl, rfl, rfl, rfl⟩, hts.symm⟩
    · have hk1 := ix_ff h5 (by rw [eTs_len]) hk (by omega)
      have hs2 : s = R := by rw [hs, hk1, List.take_length]; exact hR
      subst hs2
      exact ⟨.inl rfl, ⟨.inl rfl, trivial⟩, ⟨rfl, rfl⟩, ⟨.inl rfl, trivial⟩, ⟨.inl rfl, trivial⟩, trivial, ⟨rfl, rfl, rfl⟩, trivial⟩
theorem unkA_spec (t : Ty) : UnkA t := Ty.ind (Q := UnkA) (fun k n xs ih => unkA_all (.mk k n xs) ih) t
theorem unknownsA_spec (t : Ty) (ht : nodes t ≤ 1099511627776) : AMem Tryd.prog 11 [.p (eT t)] [] (.al false 10023 1 (unksF t).length) [(10023, .gr false 1 ((unksF t).map eStr))] := by
  have h1 := unkA_spec t ⟨[], []⟩ (by simp; omega)
  rw [unksF]
  generalize unkF t ⟨[], []⟩ = σ at h1
  obtain ⟨k0, n0, xs⟩ := t
  refine AMem.intro0 (tyOf_ok Tryd.prog) hmix Tryd.func11 rfl (by rfl) (by kernel_rfl) (by show 1 ≤ _; decide) rfl (fun g w a s => s.nilObj (d := 900) 1) ?_
  conv => whnf
  refine amcN [3, 6, 4, 5, 900] 10000 h1 ?_ ?_
  · conv => whnf
    exact ⟨.inl rfl, ⟨rfl, rfl, rfl⟩, trivial⟩
  · exact ⟨rfl, ⟨.inl rfl, trivial⟩, rfl, rfl, rfl, ⟨.inr ⟨rfl, _, _, rfl, rfl⟩, trivial⟩, rfl, ⟨.inl rfl, trivial⟩, rfl, rfl, trivial⟩
end KK
