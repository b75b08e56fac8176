/-
  DERIVED. Contracts of the functions that the law reaches, and the law itself, for every input. No conditions.
-/
import Derived.Test.YtfaeijklldnohaaDoorKS
import Derived.Test.YtfaeijklldnohaaDoorAMInt
open Go Go.AM Go.Proofs
set_option maxRecDepth 100000
namespace KK
abbrev BM := List (ByteArray × Bool)
abbrev TM := List (ByteArray × Ty)
def has (A : BM) (t : ByteArray) : Bool := (slook t A).getD false
/-- strings.HasPrefix -/
def hpF (s p : ByteArray) : Bool := bif decide ((s.size : Int) ≥ (p.size : Int)) then s.extract 0 p.size == p else false
theorem hp0_spec (s p : ByteArray) (hp : p.size ≤ 9223372036854775807) : APure Tryd.prog 36 [.p (.s s), .p (.s p)] (.p (.b (hpF s p))) := by
  rw [hpF, ← bl_iff]
  refine APure.intro (tyOf_ok Tryd.prog) hmix Tryd.func36 rfl (by rfl) (by kernel_rfl) (by show 2 ≤ _; decide) rfl ?_
  conv => whnf
  refine asplit ?_ ?_ <;> intro h1 <;> conv => whnf
  · replace h1 : decide ((s.size : Int) ≥ (p.size : Int)) = true := h1
    rw [h1]
    have := of_decide_eq_true h1
    refine aneed ⟨by omega, by omega, by omega⟩ ?_
    conv => whnf
    exact .inl rfl
  · replace h1 : decide ((s.size : Int) ≥ (p.size : Int)) = false := h1
    rw [h1]
    exact .inl rfl
theorem hp_spec (s p : ByteArray) (hp : p.size ≤ 9223372036854775807) : APure Tryd.prog 34 [.p (.s s), .p (.s p)] (.p (.b (hpF s p))) := by
  have h := hp0_spec s p hp
  generalize hpF s p = q at h
  refine APure.intro (tyOf_ok Tryd.prog) hmix Tryd.func34 rfl (by rfl) (by kernel_rfl) (by show 2 ≤ _; decide) rfl ?_
  conv => whnf
  refine apc h ?_
  conv => whnf
  exact .inl rfl
def qm : ByteArray := ⟨#[63]⟩
def unkB : Ty → Bool
  | .mk k n xs => bif (k == 5) then (bif xs.length == 0 then hpF n qm else false) else false
theorem unknown0_spec (t : Ty) : APure Tryd.prog 30 [.p (eT t)] (.p (.b (unkB t))) := by
  obtain ⟨k, n, xs⟩ := t
  rw [unkB]
  have h := hp_spec n qm (by decide)
  generalize hpF n qm = q at h
  refine APure.intro (tyOf_ok Tryd.prog) hmix Tryd.func30 rfl (by rfl) (by kernel_rfl) (by show 1 ≤ _; decide) rfl ?_
  conv => whnf
  refine asplit ?_ ?_ <;> intro h1 <;> conv => whnf
  · replace h1 : (k == 5) = true := h1
    rw [h1]
    refine asplit ?_ ?_ <;> intro h2 <;> conv => whnf
    · replace h2 : (((eTs xs).length : Int) == 0) = true := h2
      have h3 : (xs.length == 0) = true := by rw [eTs_len] at h2; simp at h2 ⊢; omega
      rw [h3]
      refine apc h ?_
      conv => whnf
      exact .inl rfl
    · replace h2 : (((eTs xs).length : Int) == 0) = false := h2
      have h3 : (xs.length == 0) = false := by rw [eTs_len] at h2; simp at h2 ⊢; omega
      rw [h3]
      exact .inl rfl
  · replace h1 : (k == 5) = false := h1
    rw [h1]
    exact .inl rfl
theorem unknown_spec (t : Ty) : APure Tryd.prog 23 [.p (eT t)] (.p (.b (unkB t))) := by
  have h := unknown0_spec t
  generalize unkB t = q at h
  obtain ⟨k, n, xs⟩ := t
  refine APure.intro (tyOf_ok Tryd.prog) hmix Tryd.func23 rfl (by rfl) (by kernel_rfl) (by show 1 ≤ _; decide) rfl ?_
  conv => whnf
  refine apc h ?_
  conv => whnf
  exact .inl rfl
/-- Unknowns -/
structure CS where
  seen : BM
  out : List ByteArray
mutual
def nodes : Ty → Nat
  | .mk _ _ xs => 1 + nodess xs
def nodess : List Ty → Nat
  | [] => 0
  | t :: r => nodes t + nodess r
end
def ownU (t : Ty) (σ : CS) : CS := bif unkB t then (bif !has σ.seen t.name then ⟨sput t.name true σ.seen, σ.out ++ [t.name]⟩ else σ) else σ
mutual
def unkF : Ty → CS → CS
  | .mk k n xs, σ => unkFs xs (ownU (.mk k n xs) σ)
def unkFs : List Ty → CS → CS
  | [], σ => σ
  | t :: r, σ => unkFs r (unkF t σ)
end
theorem nodess_app : ∀ (l r : List Ty), nodess (l ++ r) = nodess l + nodess r
  | [], r => by simp [nodess]
  | t :: l, r => by simp [nodess, nodess_app l r]; omega
theorem nodess_take (l : List Ty) (k : Nat) : nodess (l.take k) ≤ nodess l := by
  have := nodess_app (l.take k) (l.drop k); rw [List.take_append_drop] at this; omega
theorem unkFs_app : ∀ (l r : List Ty) (σ : CS), unkFs (l ++ r) σ = unkFs r (unkFs l σ)
  | [], r, σ => by simp [unkFs]
  | t :: l, r, σ => by simp [unkFs, unkFs_app l r]
theorem unkFs_snoc (l : List Ty) (t : Ty) (σ : CS) : unkFs (l ++ [t]) σ = unkF t (unkFs l σ) := by rw [unkFs_app]; simp [unkFs]
theorem ownU_len (t : Ty) (σ : CS) : (ownU t σ).out.length ≤ σ.out.length + 1 := by
  unfold ownU; cases unkB t <;> cases (!has σ.seen t.name) <;> simp
mutual
theorem unk_len : ∀ (t : Ty) (σ : CS), (unkF t σ).out.length ≤ σ.out.length + nodes t
  | .mk k n xs, σ => by
    rw [unkF, nodes]
    have h1 := unks_len xs (ownU (.mk k n xs) σ)
    have h2 := ownU_len (.mk k n xs) σ
    omega
theorem unks_len : ∀ (l : List Ty) (σ : CS), (unkFs l σ).out.length ≤ σ.out.length + nodess l
  | [], σ => by simp [unkFs]
  | t :: r, σ => by
    rw [unkFs, nodess]
    have h1 := unks_len r (unkF t σ)
    have h2 := unk_len t σ
    omega
end
def fnU : AV := .fn 22 [] [.ptr 1000000000 0, .ptr 1000000002 0, .ptr 1000000003 0]
def hpU (σ : CS) : Heap := [(1000000000, .cells [.mp 1000000001]), (1000000001, .map .ks (eM vB σ.seen)), (1000000002, .cells [.so 1 (σ.out.map eStr)]), (1000000003, .cells [fnU])]
def UnkS (t : Ty) : Prop := ∀ σ : CS, σ.out.length + nodes t ≤ 1099511627776 → AMem Tryd.prog 22 [.p (eT t), .ptr 1000000000 0, .ptr 1000000002 0, .ptr 1000000003 0] (hpU σ) (.tup []) (hpU (unkF t σ))
theorem nodes_len : ∀ (l : List Ty), l.length ≤ nodess l
  | [] => by simp
  | ⟨k, n, xs⟩ :: r => by have := nodes_len r; simp only [nodess, nodes, List.length_cons]; omega
theorem unk_all (t : Ty) (ih : ∀ a ∈ t.args, UnkS a) : UnkS t := by
  intro σ hσ
  have hu := unknown_spec t
  generalize hR : unkF t σ = R
  obtain ⟨k0, n0, xs⟩ := t
  simp only [Ty.args] at ih
  rw [unkF] at hR
  rw [nodes] at hσ
  have hxl := nodes_len xs
  have hol := ownU_len (.mk k0 n0 xs) σ
  generalize hτ : ownU (.mk k0 n0 xs) σ = τ at hR hol
  rw [ownU] at hτ
  simp only [Ty.name] at hτ
  generalize unkB (.mk k0 n0 xs) = ub at hu hτ
  refine AMem.intro (tyOf_ok Tryd.prog) hmix Tryd.func22 rfl (by rfl) (by kernel_rfl) (by show 4 ≤ _; decide) rfl ?_
  conv => whnf
  refine apc hu ?_
  conv => whnf
  refine asplit ?_ ?_ <;> intro h1 <;> conv => whnf
  · subst h1
    rw [cond_true] at hτ
    refine alook (mlook_B n0 σ.seen) ?_
    conv => whnf
    refine asplit ?_ ?_ <;> intro h2 <;> conv => whnf
    · replace h2 : (!has σ.seen n0) = true := h2
      rw [h2, cond_true] at hτ
      refine aneed (show ((σ.out.map eStr).length + 1) * 16 ≤ 140737488355328 by simp; omega) ?_
      conv => whnf
      have hcall : ∀ (j : Nat) (b : Ty) (s : CS), xs[j]? = some b → s = unkFs (xs.take j) τ → s.out.length + nodes b ≤ 1099511627776 := by
        intro j b s hb h
        have h1 := nodess_take xs (j + 1)
        rw [take_snoc hb, nodess_app] at h1
        simp only [nodess] at h1
        have h2 := unks_len (xs.take j) τ
        rw [h]; omega
      refine loopS (tyOf_ok _) hmix (by kernel_rfl) xs.length [1, 2, 3, 25, 26, 27] [1000000000, 1000000001, 1000000002, 1000000003] (fun k (s : CS) => [.ptr 1000000000 0, .ptr 1000000002 0, .ptr 1000000003 0, .p (.sl 3 (eTs xs)), .p (.i .i64 (eTs xs).length), .p (.i .i64 (ix k))])
        (fun k s => [.cells [.mp 1000000001], .map .ks (eM vB s.seen), .cells [.so 1 (s.out.map eStr)], .cells [fnU]]) (fun k s => s = unkFs (xs.take k) τ) τ ⟨by rw [← hτ]; simp only [List.map_append, ← mput_eM]; rfl, rfl, rfl, rfl⟩ (by simp [unkFs]) ?_
      intro k s hk hs
      conv => whnf
      refine asplit ?_ ?_ <;> intro h5 <;> conv => whnf
      · have hk1 := ix_tt h5 (by rw [eTs_len]) hk (by omega)
        obtain ⟨b, hb1⟩ : ∃ b, xs[k]? = some b := ⟨_, List.getElem?_eq_getElem hk1⟩
        refine aidxk (eTs_get hb1) (by omega) ?_
        have hc := ih b (List.mem_of_getElem? hb1) s (hcall k b s hb1 hs)
        have hts : unkFs (xs.take (k + 1)) τ = unkF b s := by rw [take_snoc hb1, unkFs_snoc, hs]
        generalize unkF b s = s' at hc hts
        obtain ⟨b1, b2, b3⟩ := b
        conv => whnf
        refine amc [1000000000, 1000000001, 1000000002, 1000000003] 10000 hc ?_
        conv => whnf
        exact ⟨hk1, s', ⟨rfl, rfl, rfl, rfl⟩, hts.symm⟩
      · have hk1 := ix_ff h5 (by rw [eTs_len]) hk (by omega)
        have hs2 : s = R := by rw [hs, hk1, List.take_length]; exact hR
        subst hs2
        exact ⟨.inl rfl, ⟨.inl rfl, trivial⟩, ⟨rfl, rfl⟩, ⟨.inl rfl, trivial⟩, ⟨.inl rfl, trivial⟩, trivial⟩
    · replace h2 : (!has σ.seen n0) = false := h2
      rw [h2, cond_false] at hτ
      have hcall : ∀ (j : Nat) (b : Ty) (s : CS), xs[j]? = some b → s = unkFs (xs.take j) τ → s.out.length + nodes b ≤ 1099511627776 := by
        intro j b s hb h
        have h1 := nodess_take xs (j + 1)
        rw [take_snoc hb, nodess_app] at h1
        simp only [nodess] at h1
        have h2 := unks_len (xs.take j) τ
        rw [h]; omega
      refine loopS (tyOf_ok _) hmix (by kernel_rfl) xs.length [1, 2, 3, 25, 26, 27] [1000000000, 1000000001, 1000000002, 1000000003] (fun k (s : CS) => [.ptr 1000000000 0, .ptr 1000000002 0, .ptr 1000000003 0, .p (.sl 3 (eTs xs)), .p (.i .i64 (eTs xs).length), .p (.i .i64 (ix k))])
        (fun k s => [.cells [.mp 1000000001], .map .ks (eM vB s.seen), .cells [.so 1 (s.out.map eStr)], .cells [fnU]]) (fun k s => s = unkFs (xs.take k) τ) τ ⟨by rw [← hτ]; rfl, rfl, rfl, rfl⟩ (by simp [unkFs]) ?_
      intro k s hk hs
      conv => whnf
      refine asplit ?_ ?_ <;> intro h5 <;> conv => whnf
      · have hk1 := ix_tt h5 (by rw [eTs_len]) hk (by omega)
        obtain ⟨b, hb1⟩ : ∃ b, xs[k]? = some b := ⟨_, List.getElem?_eq_getElem hk1⟩
        refine aidxk (eTs_get hb1) (by omega) ?_
        have hc := ih b (List.mem_of_getElem? hb1) s (hcall k b s hb1 hs)
        have hts : unkFs (xs.take (k + 1)) τ = unkF b s := by rw [take_snoc hb1, unkFs_snoc, hs]
        generalize unkF b s = s' at hc hts
        obtain ⟨b1, b2, b3⟩ := b
        conv => whnf
        refine amc [1000000000, 1000000001, 1000000002, 1000000003] 10000 hc ?_
        conv => whnf
        exact ⟨hk1, s', ⟨rfl, rfl, rfl, rfl⟩, hts.symm⟩
      · have hk1 := ix_ff h5 (by rw [eTs_len]) hk (by omega)
        have hs2 : s = R := by rw [hs, hk1, List.take_length]; exact hR
        subst hs2
        exact ⟨.inl rfl, ⟨.inl rfl, trivial⟩, ⟨rfl, rfl⟩, ⟨.inl rfl, trivial⟩, ⟨.inl rfl, trivial⟩, trivial⟩
  · subst h1
    rw [cond_false] at hτ
    have hcall : ∀ (j : Nat) (b : Ty) (s : CS), xs[j]? = some b → s = unkFs (xs.take j) τ → s.out.length + nodes b ≤ 1099511627776 := by
      intro j b s hb h
      have h1 := nodess_take xs (j + 1)
      rw [take_snoc hb, nodess_app] at h1
      simp only [nodess] at h1
      have h2 := unks_len (xs.take j) τ
      rw [h]; omega
    refine loopS (tyOf_ok _) hmix (by kernel_rfl) xs.length [1, 2, 3, 25, 26, 27] [1000000000, 1000000001, 1000000002, 1000000003] (fun k (s : CS) => [.ptr 1000000000 0, .ptr 1000000002 0, .ptr 1000000003 0, .p (.sl 3 (eTs xs)), .p (.i .i64 (eTs xs).length), .p (.i .i64 (ix k))])
      (fun k s => [.cells [.mp 1000000001], .map .ks (eM vB s.seen), .cells [.so 1 (s.out.map eStr)], .cells [fnU]]) (fun k s => s = unkFs (xs.take k) τ) τ ⟨by rw [← hτ]; rfl, rfl, rfl, rfl⟩ (by simp [unkFs]) ?_
    intro k s hk hs
    conv => whnf
    refine asplit ?_ ?_ <;> intro h5 <;> conv => whnf
    · have hk1 := ix_tt h5 (by rw [eTs_len]) hk (by omega)
      obtain ⟨b, hb1⟩ : ∃ b, xs[k]? = some b := ⟨_, List.getElem?_eq_getElem hk1⟩
      refine aidxk (eTs_get hb1) (by omega) ?_
      have hc := ih b (List.mem_of_getElem? hb1) s (hcall k b s hb1 hs)
      have hts : unkFs (xs.take (k + 1)) τ = unkF b s := by rw [take_snoc hb1, unkFs_snoc, hs]
      generalize unkF b s = s' at hc hts
      obtain ⟨b1, b2, b3⟩ := b
      conv => whnf
      refine amc [1000000000, 1000000001, 1000000002, 1000000003] 10000 hc ?_
      conv => whnf
      exact ⟨hk1, s', ⟨rfl, rfl, rfl, rfl⟩, hts.symm⟩
    · have hk1 := ix_ff h5 (by rw [eTs_len]) hk (by omega)
      have hs2 : s = R := by rw [hs, hk1, List.take_length]; exact hR
      subst hs2
      exact ⟨.inl rfl, ⟨.inl rfl, trivial⟩, ⟨rfl, rfl⟩, ⟨.inl rfl, trivial⟩, ⟨.inl rfl, trivial⟩, trivial⟩
theorem unk_spec (t : Ty) : UnkS t := Ty.ind (Q := UnkS) (fun k n xs ih => unk_all (.mk k n xs) ih) t
def unksF (t : Ty) : List ByteArray := (unkF t ⟨[], []⟩).out
theorem unknowns_spec (t : Ty) (ht : nodes t ≤ 1099511627776) : APure Tryd.prog 11 [.p (eT t)] (.p (.sl 1 ((unksF t).map eStr))) := by
  have h1 := unk_spec t ⟨[], []⟩ (by simp; omega)
  rw [unksF]
  generalize unkF t ⟨[], []⟩ = σ at h1
  obtain ⟨k0, n0, xs⟩ := t
  refine APure.intro (tyOf_ok Tryd.prog) hmix Tryd.func11 rfl (by rfl) (by kernel_rfl) (by show 1 ≤ _; decide) rfl ?_
  conv => whnf
  refine amcl [3, 6, 4, 5] 10000 h1 ?_ ?_
  · conv => whnf
    exact .inr (.inl rfl)
  · exact ⟨rfl, ⟨.inl rfl, trivial⟩, rfl, ⟨rfl, rfl⟩, rfl, ⟨.inr (.inr ⟨rfl, 0, rfl⟩), trivial⟩, rfl, ⟨.inl rfl, trivial⟩, trivial⟩
end KK
