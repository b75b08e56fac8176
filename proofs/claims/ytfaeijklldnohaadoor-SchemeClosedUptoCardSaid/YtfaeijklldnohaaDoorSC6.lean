/-
  DERIVED. Contracts of the functions that the law reaches, and the law itself, for every input. No conditions.
-/
import Derived.Test.YtfaeijklldnohaaDoorSC5
open Go Go.AM Go.Proofs
set_option maxRecDepth 100000
namespace KK
theorem fd_head {q : ByteArray → Bool} {a : ByteArray} (r : List ByteArray) (h : q a = true) : fdF q (a :: r) 0 = 0 := by rw [fdF, h]; rfl
/-- Free: all are deleted -/
theorem delFr_all (s : Sc) (hp : s.ps.length < 9223372036854775807) (a : ByteArray) (r : List ByteArray) (hl : (a :: r).length ≤ 2199023255552) (hn : ∀ x ∈ a :: r, hasF x s.ps = true) :
    AMem Tryd.prog 17 [.al false 1000000000 1 (a :: r).length, .fn 20 [] [.ptr 1000000001 0]] [(1000000000, .gr false 1 ((a :: r).map eStr)), (1000000001, .cells (scAV s))] (.al true 41 1 0) [(1000000000, .dead), (1000000001, .cells (scAV s)), (41, .gr true 1 [])] := by
  have h1 := idxFr_spec s hp (a :: r) hl
  rw [fd_head r (hn a (by simp))] at h1
  have hcl := fun x => free1_spec s hp x
  simp only [List.length_cons] at hl
  obtain ⟨ps, ⟨k, n, xs⟩⟩ := s
  refine AMem.intro0 (tyOf_ok Tryd.prog) hmix Tryd.func17 rfl (by rfl) (by kernel_rfl) (by show 2 ≤ _; decide) rfl (fun g w a' s' => s'.flag (i := 0) (l := 1000000000) (sz := 1) (k := r.length) (x := eStr a) (xs := r.map eStr) rfl rfl) ?_
  conv => whnf
  refine apb [1000000000, 1000000001] h1 ?_ (hq := ⟨by simp, trivial⟩)
  conv => whnf
  refine loopS (tyOf_ok _) hmix (by kernel_rfl) r.length [0, 1, 5, 6] [1000000000, 1000000001] (fun j (s : Int) => [.al true 1000000000 1 (r.length + 1), .fn 20 [] [.ptr 1000000001 0], .p (.i .i64 0), .p (.i .i64 s)])
    (fun _ _ => [.gr true 1 ((a :: r).map eStr), .cells (scAV ⟨ps, ⟨k, n, xs⟩⟩)]) (fun j s => s = (j : Int) + 1) 1 ⟨rfl, rfl, rfl, rfl⟩ rfl ?_
  intro j s hj hs
  conv => whnf
  refine asplit ?_ ?_ <;> intro h2 <;> conv => whnf
  · replace h2 : decide (s < ((r.length + 1 : Nat) : Int)) = true := h2
    have h3 := of_decide_eq_true h2
    have hj1 : j < r.length := by omega
    obtain ⟨b, hb⟩ : ∃ b, (a :: r)[j + 1]? = some b := ⟨_, List.getElem?_eq_getElem (by simp; omega)⟩
    have hsn : s.toNat = j + 1 := by omega
    refine aneed (show 0 ≤ s ∧ s.toNat < r.length + 1 from ⟨by omega, by omega⟩) ?_
    conv => whnf
    refine aidxn (i := s.toNat) (x := eStr b) (by rw [hsn, List.getElem?_map, hb]; rfl) ?_
    have hc := hcl b
    rw [hn b (List.mem_of_getElem? hb)] at hc
    conv => whnf
    refine apb [1000000001] hc ?_
    conv => whnf
    exact ⟨hj1, IntKind.i64.wrap (s + 1), ⟨rfl, rfl, rfl, rfl⟩, by rw [wrap64 (by omega) (by omega), hs]; omega⟩
  · refine aneed (show (0 : Int) ≤ 0 ∧ (0 : Int) ≤ ((r.length + 1 : Nat) : Int) from ⟨by omega, by omega⟩) ?_
    conv => whnf
    refine aneed (show (0 : Int) ≤ 0 ∧ (0 : Int) ≤ ((r.length + 1 : Nat) : Int) ∧ (0 : Int) ≤ ((((a :: r).map eStr).take 0).length : Int) from ⟨by omega, by omega, by omega⟩) ?_
    conv => whnf
    exact ⟨.inl rfl, trivial, ⟨.inl rfl, .inl rfl, .inl rfl, .inl rfl, trivial⟩, ⟨rfl, rfl, rfl⟩, trivial⟩
theorem hasF_mem {x : ByteArray} {l : List ByteArray} (h : x ∈ l) : hasF x l = true := by unfold hasF; rw [List.any_eq_true]; exact ⟨x, h, (beq_bytes x x).2 rfl⟩
theorem unks_len' (t : Ty) : (unksF t).length ≤ nodes t := by have := unk_len t ⟨[], []⟩; rw [unksF]; simpa using this
theorem freeA_spec (t : Ty) (ht : nodes t ≤ 1099511627776) : APure Tryd.prog 9 [.p (eSc ⟨unksF t, t⟩)] (.p (.sl 1 [])) := by
  have hul := unks_len' t
  cases hU : unksF t with
  | nil =>
    have := freeN_spec t ht
    rw [hU] at this; exact this
  | cons a r =>
    have h1 := unknownsA_spec t ht
    rw [hU] at h1 hul
    have h2 := delFr_all ⟨a :: r, t⟩ (by simp only; omega) a r (by omega) (fun x hx => hasF_mem hx)
    obtain ⟨k, n, xs⟩ := t
    simp only [scAV, Ty.kind, Ty.name, Ty.args] at h2
    refine APure.intro (tyOf_ok Tryd.prog) hmix Tryd.func9 rfl (by rfl) (by kernel_rfl) (by show 1 ≤ _; decide) rfl ?_
    conv => whnf
    refine amc [] 20000 h1 ?_
    conv => whnf
    refine amc [30023, 1] 40000 h2 ?_
    conv => whnf
    exact .inr (.inr ⟨rfl, rfl, trivial⟩)
/-- Close: all are deleted -/
def hpG (l : List ByteArray) (A : BM) : Heap := [(1000000000, .gr true 1 (l.map eStr)), (1000000001, .cells [.mp 1000000002]), (1000000002, .map .ks (eM vB A))]
theorem idxCA_spec (A : BM) (a : ByteArray) (r : List ByteArray) (ha : has A a = true) : AMem Tryd.prog 28 [.al true 1000000000 1 (r.length + 1), .fn 18 [] [.ptr 1000000001 0]] (hpG (a :: r) A) (.p (.i .i64 0)) (hpG (a :: r) A) := by
  have hc := close1_spec A a
  rw [ha] at hc
  refine AMem.intro (tyOf_ok Tryd.prog) hmix Tryd.func28 rfl (by rfl) (by kernel_rfl) (by show 2 ≤ _; decide) rfl ?_
  conv => whnf
  refine loopS (tyOf_ok _) hmix (by kernel_rfl) 1 [0, 1, 7, 8] [1000000000, 1000000001, 1000000002] (fun k (_ : Unit) => [.al true 1000000000 1 (r.length + 1), .fn 18 [] [.ptr 1000000001 0], .p (.i .i64 ((r.length + 1 : Nat) : Int)), .p (.i .i64 (ix k))]) (fun _ _ => [.gr true 1 ((a :: r).map eStr), .cells [.mp 1000000002], .map .ks (eM vB A)]) (fun k _ => k = 0) () ⟨rfl, rfl, rfl, rfl⟩ rfl ?_
  rintro k _ hk rfl
  conv => whnf
  refine ast (show decide ((0 : Int) < ((r.length + 1 : Nat) : Int)) = true by simp only [decide_eq_true_eq]; omega) ?_
  conv => whnf
  refine aneed (show (0 : Int) ≤ 0 ∧ (0 : Int).toNat < r.length + 1 from ⟨by omega, by simp⟩) ?_
  conv => whnf
  refine aidxn (i := 0) (x := eStr a) rfl ?_
  conv => whnf
  refine amc [1000000001, 1000000002] 10000 hc ?_
  conv => whnf
  exact ⟨.inl rfl, ⟨rfl, rfl, rfl⟩, ⟨.inl rfl, trivial⟩, ⟨rfl, rfl⟩, trivial⟩
theorem delC_all (A : BM) (a : ByteArray) (r : List ByteArray) (hl : (a :: r).length ≤ 2199023255552) (hn : ∀ x ∈ a :: r, has A x = true) :
    AMem Tryd.prog 17 [.al false 1000000000 1 (a :: r).length, .fn 18 [] [.ptr 1000000001 0]] [(1000000000, .gr false 1 ((a :: r).map eStr)), (1000000001, .cells [.mp 1000000002]), (1000000002, .map .ks (eM vB A))] (.al true 41 1 0) [(1000000000, .dead), (1000000001, .cells [.mp 1000000002]), (1000000002, .map .ks (eM vB A)), (41, .gr true 1 [])] := by
  have h1 := idxCA_spec A a r (hn a (by simp))
  simp only [List.length_cons] at hl
  refine AMem.intro0 (tyOf_ok Tryd.prog) hmix Tryd.func17 rfl (by rfl) (by kernel_rfl) (by show 2 ≤ _; decide) rfl (fun g w a' s' => s'.flag (i := 0) (l := 1000000000) (sz := 1) (k := r.length) (x := eStr a) (xs := r.map eStr) rfl rfl) ?_
  conv => whnf
  refine amc [1000000000, 1000000001, 1000000002] 10000 h1 ?_
  conv => whnf
  refine loopS (tyOf_ok _) hmix (by kernel_rfl) r.length [0, 1, 5, 6] [1000000000, 1000000001, 1000000002] (fun j (s : Int) => [.al true 1000000000 1 (r.length + 1), .fn 18 [] [.ptr 1000000001 0], .p (.i .i64 0), .p (.i .i64 s)])
    (fun _ _ => [.gr true 1 ((a :: r).map eStr), .cells [.mp 1000000002], .map .ks (eM vB A)]) (fun j s => s = (j : Int) + 1) 1 ⟨rfl, rfl, rfl, rfl⟩ rfl ?_
  intro j s hj hs
  conv => whnf
  refine asplit ?_ ?_ <;> intro h2 <;> conv => whnf
  · replace h2 : decide (s < ((r.length + 1 : Nat) : Int)) = true := h2
    have h3 := of_decide_eq_true h2
    have hj1 : j < r.length := by omega
    obtain ⟨b, hb⟩ : ∃ b, (a :: r)[j + 1]? = some b := ⟨_, List.getElem?_eq_getElem (by simp; omega)⟩
    have hsn : s.toNat = j + 1 := by omega
    refine aneed (show 0 ≤ s ∧ s.toNat < r.length + 1 from ⟨by omega, by omega⟩) ?_
    conv => whnf
    refine aidxn (i := s.toNat) (x := eStr b) (by rw [hsn, List.getElem?_map, hb]; rfl) ?_
    have hc := close1_spec A b
    rw [hn b (List.mem_of_getElem? hb)] at hc
    conv => whnf
    refine amc [1000000001, 1000000002] 10000 hc ?_
    conv => whnf
    exact ⟨hj1, IntKind.i64.wrap (s + 1), ⟨rfl, rfl, rfl, rfl⟩, by rw [wrap64 (by omega) (by omega), hs]; omega⟩
  · refine aneed (show (0 : Int) ≤ 0 ∧ (0 : Int) ≤ ((r.length + 1 : Nat) : Int) from ⟨by omega, by omega⟩) ?_
    conv => whnf
    refine aneed (show (0 : Int) ≤ 0 ∧ (0 : Int) ≤ ((r.length + 1 : Nat) : Int) ∧ (0 : Int) ≤ ((((a :: r).map eStr).take 0).length : Int) from ⟨by omega, by omega, by omega⟩) ?_
    conv => whnf
    exact ⟨.inl rfl, trivial, ⟨.inl rfl, trivial⟩, ⟨rfl, rfl⟩, ⟨rfl, rfl, rfl⟩, trivial⟩
theorem closeA_spec (t : Ty) (ht : okT t) (hn : nodes t ≤ 1099511627776) : APure Tryd.prog 7 [.p (.sl 4 [eSc ⟨[], t⟩]), .p (eT t)] (.p (eSc ⟨[], t⟩)) := by
  have h1 := plain_spec t ht
  have h2 := freeN_spec t hn
  have h3 := unknownsA_spec t hn
  have h3' := unknowns_spec t hn
  have hul := unks_len' t
  have hA : ∀ x ∈ unksF t, has (setF (unksF t)) x = true := fun x hx => by rw [has_setF]; exact hasF_mem hx
  generalize unksF t = U at *
  obtain ⟨k, n, xs⟩ := t
  refine APure.intro (tyOf_ok Tryd.prog) hmix Tryd.func7 rfl (by rfl) (by kernel_rfl) (by show 2 ≤ _; decide) rfl ?_
  conv => whnf
  refine loopS (tyOf_ok _) hmix (by kernel_rfl) 1 [3, 4, 5, 12, 13, 14] [3, 4, 5, 11] (fun j (m : BM) => [.ptr 3 0, .ptr 4 0, .ptr 5 0, .p (.sl 4 [eSc ⟨[], .mk k n xs⟩]), .p (.i .i64 1), .p (.i .i64 (ix j))])
    (fun _ m => [.cells [.p (.i .i64 k), .p (.s n), .p (.sl 3 (eTs xs))], .cells [.nilS, .p (.i .i64 0), .p (.s ⟨#[]⟩), .nilS], .cells [.mp 11], .map .ks (eM vB m)]) (fun j m => (j = 0 → m = []) ∧ (j = 1 → m = setF U)) [] ⟨rfl, rfl, rfl, rfl⟩ ⟨fun _ => rfl, fun h => by cases h⟩ ?_
  rintro j m hj ⟨hm0, hm1⟩
  rcases (show j = 0 ∨ j = 1 by omega) with rfl | rfl
  · obtain rfl := hm0 rfl
    conv => whnf
    refine aidxk (x := eSc ⟨[], .mk k n xs⟩) rfl (by omega) ?_
    conv => whnf
    refine apc h2 ?_
    conv => whnf
    refine loopS (tyOf_ok _) hmix (by kernel_rfl) U.length [3, 4, 5, 12, 13, 14, 19, 20, 21] [3, 4, 5, 11] (fun i (m : BM) => [.ptr 3 0, .ptr 4 0, .ptr 5 0, .p (.sl 4 [eSc ⟨[], .mk k n xs⟩]), .p (.i .i64 1), .p (.i .i64 0), .p (.sl 1 (U.map eStr)), .p (.i .i64 (U.map eStr).length), .p (.i .i64 (ix i))])
      (fun _ m => [.cells [.p (.i .i64 k), .p (.s n), .p (.sl 3 (eTs xs))], .cells [.nilS, .p (.i .i64 0), .p (.s ⟨#[]⟩), .nilS], .cells [.mp 11], .map .ks (eM vB m)]) (fun i m => m = setF (U.take i)) [] ⟨rfl, rfl, rfl, rfl⟩ rfl ?_
    intro i m hi hm
    conv => whnf
    refine asplit ?_ ?_ <;> intro g1 <;> conv => whnf
    · have hi1 := ix_tt g1 (by simp) hi (by omega)
      obtain ⟨b, hb1⟩ : ∃ b, U[i]? = some b := ⟨_, List.getElem?_eq_getElem hi1⟩
      refine aidxk (x := eStr b) (by simp [hb1]) (by omega) ?_
      conv => whnf
      refine ⟨hi1, sput b true m, ⟨by rw [← mput_eM]; rfl, rfl, rfl, rfl⟩, ?_⟩
      rw [take_snoc hb1, setF, List.foldl_append, hm]; rfl
    · have hi1 := ix_ff g1 (by simp) hi (by omega)
      rw [hi1, List.take_length] at hm
      exact ⟨by decide, m, ⟨rfl, rfl, rfl, rfl⟩, ⟨fun h => (by cases h), fun _ => hm⟩⟩
  · obtain rfl := hm1 rfl
    conv => whnf
    refine apc h1 ?_
    conv => whnf
    cases U with
    | nil =>
      have h4 := delC_none (setF []) [] (by simp) (fun x hx => by cases hx)
      refine apc h3' ?_
      conv => whnf
      refine amc [5, 11] 40000 h4 ?_
      conv => whnf
      exact .inl rfl
    | cons a r =>
      have h4 := delC_all (setF (a :: r)) a r (by omega) hA
      refine amc [] 20000 h3 ?_
      conv => whnf
      refine amc [30023, 5, 11] 40000 h4 ?_
      conv => whnf
      exact .inr (.inr ⟨rfl, rfl, trivial⟩)
/-! the plain law -/
def CV (m : TM) : Prop := ∀ n x, slook n m = some x → x = .mk 5 n []
theorem mat_self (A : BM) (t : Ty) : pureF t = true → ∀ m, CV m → (matF A t t m).1 = true ∧ CV (matF A t t m).2 := by
  induction t using Ty.ind with
  | h k n xs ih =>
  intro hp m hm
  rw [pureF] at hp
  rw [matF]
  simp only [Ty.kind, Ty.name, Ty.args, beq_self_eq_true, (beq_bytes n n).2 rfl, Bool.and_self, cond_true]
  cases hc : (k == 5) && has A n with
  | true =>
    simp only [Bool.and_eq_true] at hc
    obtain rfl : k = 5 := by simpa using hc.1
    have hx : xs = [] := by
      cases hq : xs.length == 0 with
      | true => simpa using hq
      | false => rw [hq] at hp; cases hp
    subst hx
    simp only [cond_true]
    cases hq : slook n m with
    | some x => obtain rfl := hm n x hq; exact ⟨same_refl _, hm⟩
    | none =>
      refine ⟨rfl, fun n' x hx => ?_⟩
      simp only at hx
      rw [slook_sput] at hx
      cases he : n' == n with
      | true => rw [he] at hx; cases hx; obtain rfl := (beq_bytes n' n).1 he; rfl
      | false => rw [he] at hx; exact hm n' x hx
  | false =>
    simp only [cond_false]
    have hps : pureFs xs = true := by
      cases hq : (bif k != 5 then true else xs.length == 0) with
      | true => rw [hq] at hp; exact hp
      | false => rw [hq] at hp; cases hp
    clear hp hc
    induction xs generalizing m with
    | nil => simpa [matFs] using hm
    | cons x r ihr =>
      rw [pureFs, Bool.and_eq_true] at hps
      simp only [matFs]
      obtain ⟨g1, g2⟩ := ih x (by simp) hps.1 m hm
      rw [g1, cond_true]
      exact ihr (fun a ha => ih a (by simp [ha])) _ g2 hps.2
theorem schemeClosed_spec (t : Ty) (ht : okT t) (hn : nodes t ≤ 1099511627776) : APure Tryd.prog 3 [.p (eT t)] (.p (.b true)) := by
  have h1 := pure_spec t ht
  have h2 := close0_spec t ht hn
  have h3 := plain_spec t ht
  have h4 := closeA_spec t ht hn
  have h5 := freeA_spec t hn
  have h6 := freeN_spec t hn
  have h7 := unknowns_spec t hn
  have hul := unks_len' t
  have h8 := equalS_spec (unksF t) (unksF t) (by omega)
  rw [(eqS_iff _ _).2 rfl] at h8
  have h9 := more_spec ⟨unksF t, t⟩ t ht (by simp only; omega) ht
  have hm := mat_self (setF (unksF t)) t
  unfold PureS at h1
  cases hq : pureF t with
  | false =>
    rw [hq] at h1
    obtain ⟨k, n, xs⟩ := t
    refine APure.intro (tyOf_ok Tryd.prog) hmix Tryd.func3 rfl (by rfl) (by kernel_rfl) (by show 1 ≤ _; decide) rfl ?_
    conv => whnf
    refine apc schemes_spec ?_
    conv => whnf
    refine apc h1 ?_
    conv => whnf
    exact .inl rfl
  | true =>
    rw [hq] at h1
    rw [show (⟨unksF t, t⟩ : Sc).ps = unksF t from rfl, show (⟨unksF t, t⟩ : Sc).ty = t from rfl, (hm hq [] (fun n x h => by simp [slook] at h)).1] at h9
    generalize unksF t = U at *
    obtain ⟨k, n, xs⟩ := t
    refine APure.intro (tyOf_ok Tryd.prog) hmix Tryd.func3 rfl (by rfl) (by kernel_rfl) (by show 1 ≤ _; decide) rfl ?_
    conv => whnf
    refine apc schemes_spec ?_
    conv => whnf
    refine apc h1 ?_
    conv => whnf
    refine apc h2 ?_
    conv => whnf
    refine apc h3 ?_
    conv => whnf
    refine apc h4 ?_
    conv => whnf
    refine aneed (by kernel_rfl) ?_
    conv => whnf
    refine apc h5 ?_
    conv => whnf
    refine apc h6 ?_
    conv => whnf
    refine apc h7 ?_
    conv => whnf
    refine apc h8 ?_
    conv => whnf
    refine apc h9 ?_
    conv => whnf
    refine aneed (by kernel_rfl) ?_
    conv => whnf
    exact .inl rfl
end KK
