/-
  DERIVED. Contracts of the functions that the law reaches, and the law itself, for every input. No conditions.
-/
import Derived.Test.YtfaeijklldnohaaDoorSC2
open Go Go.AM Go.Proofs
set_option maxRecDepth 100000
namespace KK
theorem plain_spec (t : Ty) (ht : okT t) : APure Tryd.prog 8 [.p (eT t)] (.p (eSc ⟨[], t⟩)) := by
  have hc := copy_spec t ht
  obtain ⟨k, n, xs⟩ := t
  refine APure.intro (tyOf_ok Tryd.prog) hmix Tryd.func8 rfl (by rfl) (by kernel_rfl) (by show 1 ≤ _; decide) rfl ?_
  conv => whnf
  refine apc hc ?_
  conv => whnf
  exact .inr (.inl rfl)
/-! what is deleted: the names of a map -/
def hpC (A : BM) : Heap := [(1000000000, .cells [.mp 1000000001]), (1000000001, .map .ks (eM vB A))]
theorem close1_spec (A : BM) (x : ByteArray) : AMem Tryd.prog 18 [.p (.s x), .ptr 1000000000 0] (hpC A) (.p (.b (has A x))) (hpC A) := by
  refine AMem.intro (tyOf_ok Tryd.prog) hmix Tryd.func18 rfl (by rfl) (by kernel_rfl) (by show 2 ≤ _; decide) rfl ?_
  conv => whnf
  refine alook (mlook_B x A) ?_
  conv => whnf
  exact ⟨.inl rfl, ⟨.inl rfl, trivial⟩, ⟨rfl, rfl⟩, trivial⟩
def fdF (q : ByteArray → Bool) : List ByteArray → Nat → Int
  | [], _ => -1
  | a :: r, k => bif q a then (k : Int) else fdF q r (k + 1)
theorem fd_none {q : ByteArray → Bool} : ∀ (l : List ByteArray) (k : Nat), (∀ x ∈ l, q x = false) → fdF q l k = -1
  | [], _, _ => rfl
  | a :: r, k, h => by rw [fdF, h a (by simp)]; exact fd_none r (k + 1) (fun x hx => h x (by simp [hx]))
theorem idxC_spec (A : BM) (l : List ByteArray) (hl : l.length ≤ 2199023255552) : AMem Tryd.prog 28 [.p (.sl 1 (l.map eStr)), .fn 18 [] [.ptr 1000000000 0]] (hpC A) (.p (.i .i64 (fdF (has A) l 0))) (hpC A) := by
  generalize hR : fdF (has A) l 0 = R
  refine AMem.intro (tyOf_ok Tryd.prog) hmix Tryd.func28 rfl (by rfl) (by kernel_rfl) (by show 2 ≤ _; decide) rfl ?_
  conv => whnf
  refine loopS (tyOf_ok _) hmix (by kernel_rfl) l.length [0, 1, 7, 8] [1000000000, 1000000001] (fun k (_ : Unit) => [.p (.sl 1 (l.map eStr)), .fn 18 [] [.ptr 1000000000 0], .p (.i .i64 (l.map eStr).length), .p (.i .i64 (ix k))]) (fun _ _ => [.cells [.mp 1000000001], .map .ks (eM vB A)]) (fun k _ => fdF (has A) (l.drop k) k = R) () ⟨rfl, rfl, rfl, rfl⟩ hR ?_
  intro k _ hk hs
  conv => whnf
  refine asplit ?_ ?_ <;> intro h1 <;> conv => whnf
  · have hk1 := ix_tt h1 (by simp) hk (by omega)
    obtain ⟨b, hb1⟩ : ∃ b, l[k]? = some b := ⟨_, List.getElem?_eq_getElem hk1⟩
    refine aidxk (x := eStr b) (by simp [hb1]) (by omega) ?_
    rw [drop_cons hb1, fdF] at hs
    have hc := close1_spec A b
    generalize has A b = q at hc hs
    conv => whnf
    refine amc [1000000000, 1000000001] 10000 hc ?_
    conv => whnf
    refine asplit ?_ ?_ <;> intro h2 <;> conv => whnf
    · subst h2
      exact ⟨.inl (pi (by rw [ix_eq (by omega)]; exact hs)), ⟨.inl rfl, trivial⟩, ⟨rfl, rfl⟩, trivial⟩
    · subst h2
      exact ⟨hk1, (), ⟨rfl, rfl, rfl, rfl⟩, hs⟩
  · have hk1 := ix_ff h1 (by simp) hk (by omega)
    rw [hk1, List.drop_length, fdF] at hs
    exact ⟨.inl (pi hs), ⟨.inl rfl, trivial⟩, ⟨rfl, rfl⟩, trivial⟩
theorem delC_none (A : BM) (l : List ByteArray) (hl : l.length ≤ 2199023255552) (hn : ∀ x ∈ l, has A x = false) : AMem Tryd.prog 17 [.p (.sl 1 (l.map eStr)), .fn 18 [] [.ptr 1000000000 0]] (hpC A) (.p (.sl 1 (l.map eStr))) (hpC A) := by
  have h1 := idxC_spec A l hl
  rw [fd_none l 0 hn] at h1
  refine AMem.intro (tyOf_ok Tryd.prog) hmix Tryd.func17 rfl (by rfl) (by kernel_rfl) (by show 2 ≤ _; decide) rfl ?_
  conv => whnf
  refine amc [1000000000, 1000000001] 10000 h1 ?_
  conv => whnf
  exact ⟨.inl rfl, ⟨.inl rfl, trivial⟩, ⟨rfl, rfl⟩, trivial⟩
theorem close0_spec (t : Ty) (ht : okT t) (hn : nodes t ≤ 1099511627776) : APure Tryd.prog 7 [.p (.sl 4 []), .p (eT t)] (.p (eSc ⟨unksF t, t⟩)) := by
  have h1 := plain_spec t ht
  have h2 := unknowns_spec t hn
  have hl := unk_len t ⟨[], []⟩
  have h3 := delC_none [] (unksF t) (by rw [unksF]; simp at hl; omega) (fun x _ => rfl)
  generalize unksF t = U at h2 h3 ⊢
  obtain ⟨k, n, xs⟩ := t
  refine APure.intro (tyOf_ok Tryd.prog) hmix Tryd.func7 rfl (by rfl) (by kernel_rfl) (by show 2 ≤ _; decide) rfl ?_
  conv => whnf
  refine loopS (tyOf_ok _) hmix (by kernel_rfl) 0 [3, 4, 5, 13, 14] [3, 4, 5, 11] (fun k' (_ : Unit) => [.ptr 3 0, .ptr 4 0, .ptr 5 0, .p (.i .i64 0), .p (.i .i64 (ix k'))])
    (fun _ _ => [.cells [.p (.i .i64 k), .p (.s n), .p (.sl 3 (eTs xs))], .cells [.nilS, .p (.i .i64 0), .p (.s ⟨#[]⟩), .nilS], .cells [.mp 11], .map .ks []]) (fun _ _ => True) () ⟨rfl, rfl, rfl, rfl⟩ trivial ?_
  intro j _ hj _
  obtain rfl : j = 0 := by omega
  conv => whnf
  refine apc h1 ?_
  conv => whnf
  refine apc h2 ?_
  conv => whnf
  refine amc [5, 11] 10000 h3 ?_
  conv => whnf
  exact .inl rfl
/-- strconv.Itoa 5 -/
theorem small5 : APure Tryd.prog 38 [.p (.i .i64 5)] (.p (.s ⟨#[53]⟩)) := by
  refine APure.intro (tyOf_ok Tryd.prog) hmix Tryd.func38 rfl (by rfl) (by kernel_rfl) (by show 1 ≤ _; decide) rfl ?_
  conv => whnf
  refine aneed ⟨by decide, by decide, by decide +kernel⟩ ?_
  conv => whnf
  exact .inl rfl
theorem format5 : APure Tryd.prog 37 [.p (.i .i64 5), .p (.i .i64 10)] (.p (.s ⟨#[53]⟩)) := by
  refine APure.intro (tyOf_ok Tryd.prog) hmix Tryd.func37 rfl (by rfl) (by kernel_rfl) (by show 2 ≤ _; decide) rfl ?_
  conv => whnf
  refine apc small5 ?_
  conv => whnf
  exact .inl rfl
theorem itoa5 : APure Tryd.prog 35 [.p (.i .i64 5)] (.p (.s ⟨#[53]⟩)) := by
  refine APure.intro (tyOf_ok Tryd.prog) hmix Tryd.func35 rfl (by rfl) (by kernel_rfl) (by show 1 ≤ _; decide) rfl ?_
  conv => whnf
  refine apc format5 ?_
  conv => whnf
  exact .inl rfl
theorem itoa5' : APure Tryd.prog 33 [.p (.i .i64 5)] (.p (.s ⟨#[53]⟩)) := by
  refine APure.intro (tyOf_ok Tryd.prog) hmix Tryd.func33 rfl (by rfl) (by kernel_rfl) (by show 1 ≤ _; decide) rfl ?_
  conv => whnf
  refine apc itoa5 ?_
  conv => whnf
  exact .inl rfl
theorem name5 : APure Tryd.prog 26 [.p (.i .i64 5)] (.p (.s ⟨#[63, 53]⟩)) := by
  refine APure.intro (tyOf_ok Tryd.prog) hmix Tryd.func26 rfl (by rfl) (by kernel_rfl) (by show 1 ≤ _; decide) rfl ?_
  conv => whnf
  refine apc itoa5' ?_
  conv => whnf
  refine aneed (by decide) ?_
  conv => whnf
  exact .inl rfl
def q1 : ByteArray := ⟨#[63, 49]⟩
def q5 : ByteArray := ⟨#[63, 53]⟩
def t1 : Ty := .mk 5 q1 []
def t5 : Ty := .mk 5 q5 []
theorem fresh5 : APure Tryd.prog 14 [.p (eSc ⟨[q1], t1⟩), .p (.i .i64 5)] (.tup [.p (eT t5), .p (.i .i64 6)]) := by
  have hp := put_spec [q1] [t5] (by decide) (by decide) (by simp [okTs, okT, t5]) t1 (by simp [okT, t1, okTs])
  rw [show putF [q1] [t5] t1 = t5 by rfl] at hp
  refine APure.intro (tyOf_ok Tryd.prog) hmix Tryd.func14 rfl (by rfl) (by kernel_rfl) (by show 2 ≤ _; decide) rfl ?_
  conv => whnf
  refine lp_nil 6 2 rfl ?_
  refine loopS (tyOf_ok _) hmix (by kernel_rfl) 1 [1, 2, 4, 6, 9, 10] [2, 4] (fun k (s : Int × List Ty) => [.p (.i .i64 s.1), .ptr 2 0, .ptr 4 0, .so 3 (eTs s.2), .p (.i .i64 1), .p (.i .i64 (ix k))])
    (fun _ _ => [.cells [.p (.sl 1 [eStr q1]), .p (.i .i64 5), .p (.s q1), .p (.sl 3 [])], .cells [.p (.i .i64 0), .p (.s ⟨#[]⟩), .nilS]]) (fun k s => (k = 0 → s = (5, [])) ∧ (k = 1 → s = (6, [t5]))) (5, []) ⟨rfl, rfl, rfl, rfl⟩ ⟨fun _ => rfl, fun h => by cases h⟩ ?_
  rintro k ⟨s1, s2⟩ hk ⟨h0, h1⟩
  rcases (show k = 0 ∨ k = 1 by omega) with rfl | rfl
  · cases h0 rfl
    conv => whnf
    refine apc name5 ?_
    conv => whnf
    refine aneed (by decide) ?_
    conv => whnf
    exact ⟨by decide, (6, [t5]), ⟨rfl, rfl, rfl, rfl⟩, ⟨fun h => (by cases h), fun _ => rfl⟩⟩
  · cases h1 rfl
    conv => whnf
    refine apc hp ?_
    conv => whnf
    exact .inl rfl
/-- slices.Equal of strings -/
def eqS : List ByteArray → List ByteArray → Bool
  | [], [] => true
  | a :: r, b :: s => (a == b) && eqS r s
  | _, _ => false
theorem eqS_iff : ∀ (l r : List ByteArray), eqS l r = true ↔ l = r
  | [], [] => by simp [eqS]
  | [], _ :: _ => by simp [eqS]
  | _ :: _, [] => by simp [eqS]
  | a :: r, b :: s => by simp [eqS, eqS_iff r s, beq_bytes]
theorem eqS_len : ∀ (l r : List ByteArray), l.length ≠ r.length → eqS l r = false
  | [], [], h => by simp at h
  | [], _ :: _, _ => rfl
  | _ :: _, [], _ => rfl
  | a :: r, b :: s, h => by simp at h; simp [eqS, eqS_len r s h]
theorem equalS_spec (l r : List ByteArray) (hl : l.length ≤ 2199023255552) : APure Tryd.prog 10 [.p (.sl 1 (l.map eStr)), .p (.sl 1 (r.map eStr))] (.p (.b (eqS l r))) := by
  refine APure.intro (tyOf_ok Tryd.prog) hmix Tryd.func10 rfl (by rfl) (by kernel_rfl) (by show 2 ≤ _; decide) rfl ?_
  conv => whnf
  refine asplit ?_ ?_ <;> intro h1 <;> conv => whnf
  · exact .inl (pb (by rw [eqS_len]; intro h; simp [h] at h1))
  have hlr : (l.length : Int) = r.length := by simpa using h1
  have hlr : l.length = r.length := by omega
  refine loopS (tyOf_ok _) hmix (by kernel_rfl) l.length [0, 1, 12, 13] [] (fun k (_ : Unit) => [.p (.sl 1 (l.map eStr)), .p (.sl 1 (r.map eStr)), .p (.i .i64 (l.map eStr).length), .p (.i .i64 (ix k))]) (fun _ _ => []) (fun k _ => eqS l r = eqS (l.drop k) (r.drop k)) () ⟨rfl, rfl, rfl, rfl⟩ rfl ?_
  intro k _ hk hs
  conv => whnf
  refine asplit ?_ ?_ <;> intro h2 <;> conv => whnf
  · have hk1 := ix_tt h2 (by simp) hk (by omega)
    obtain ⟨a, ha⟩ : ∃ b, l[k]? = some b := ⟨_, List.getElem?_eq_getElem hk1⟩
    obtain ⟨b, hb⟩ : ∃ b, r[k]? = some b := ⟨_, List.getElem?_eq_getElem (by omega)⟩
    rw [drop_cons ha, drop_cons hb, eqS] at hs
    refine aidxk (x := eStr a) (by simp [ha]) (by omega) ?_
    conv => whnf
    refine aidxk (x := eStr b) (by simp [hb]) (by omega) ?_
    conv => whnf
    refine aneed (by kernel_rfl) ?_
    conv => whnf
    refine asplit ?_ ?_ <;> intro h3 <;> conv => whnf
    · replace h3 : (!(a.toList == b.toList)) = true := h3
      rw [bl_iff] at h3
      exact .inl (pb (by rw [hs]; cases hq : a == b with | true => rw [hq] at h3; cases h3 | false => rfl))
    · replace h3 : (!(a.toList == b.toList)) = false := h3
      rw [bl_iff] at h3
      refine ⟨hk1, (), ⟨rfl, rfl, rfl, rfl⟩, ?_⟩
      rw [hs]; cases hq : a == b with | true => rfl | false => rw [hq] at h3; cases h3
  · have hk1 := ix_ff h2 (by simp) hk (by omega)
    exact .inl (pb (by rw [hs, hk1, List.drop_length, hlr, List.drop_length]; rfl))
theorem schemes_spec : APure Tryd.prog 5 [] (.p (.b true)) := by
  have h1 := close0_spec t1 (by simp [okT, t1, okTs]) (by decide +kernel)
  rw [show unksF t1 = [q1] by rfl] at h1
  have h2 := equalS_spec [q1] [q1] (by decide)
  rw [show eqS [q1] [q1] = true by rw [eqS_iff]] at h2
  refine APure.intro (tyOf_ok Tryd.prog) hmix Tryd.func5 rfl (by rfl) (by kernel_rfl) (by show 0 ≤ _; decide) rfl ?_
  conv => whnf
  refine apc h1 ?_
  conv => whnf
  refine apc fresh5 ?_
  conv => whnf
  refine apc h2 ?_
  conv => whnf
  refine ast (show (q5.toList == (⟨#[63, 53]⟩ : ByteArray).toList) = true by rw [bl_iff]; exact (beq_bytes _ _).2 rfl) ?_
  conv => whnf
  exact .inl rfl
/-! the plain law -/
theorem has_setF (ps : List ByteArray) (n : ByteArray) : has (setF ps) n = hasF n ps := by
  have key : ∀ (l : List ByteArray) (m : BM), has (l.foldl (fun m s => sput s true m) m) n = (hasF n l || has m n) := by
    intro l
    induction l with
    | nil => intro m; simp [hasF]
    | cons a r ih =>
      intro m
      rw [List.foldl_cons, ih]
      unfold has hasF
      rw [slook_sput]
      simp only [List.any_cons]
      cases n == a <;> simp
  have := key ps []
  rw [setF, this]
  simp [has, slook]
def Cons (ps : List ByteArray) (l : List Ty) (m : TM) : Prop := ∀ n x, slook n m = some x → ∀ j : Nat, idxF n ps 0 = (j : Int) → l[j]? = some x
theorem mat_put {ps : List ByteArray} {l : List Ty} (hl : l.length = ps.length) (t : Ty) : ∀ m, Cons ps l m → (matF (setF ps) t (putF ps l t) m).1 = true ∧ Cons ps l (matF (setF ps) t (putF ps l t) m).2 := by
  induction t using Ty.ind with
  | h k n xs ih =>
  intro m hm
  rw [matF, has_setF]
  cases hc : (k == 5) && hasF n ps with
  | true =>
    simp only [Bool.and_eq_true] at hc
    obtain ⟨j, hj, hjl⟩ := idx_get n ps 0 hc.2
    simp only [Nat.zero_add] at hj
    have hlj : l[j]? = some l[j] := List.getElem?_eq_getElem (by omega)
    have hput : putF ps l (.mk k n xs) = l[j] := by
      rw [putF, hc.1, hj, show decide ((j : Int) ≥ 0) = true by simp, show decide ((j : Int) < (l.length : Int)) = true by simp; omega]
      simp only [Bool.and_self, cond_true, Int.toNat_natCast, hlj, Option.getD_some]
    rw [hput]
    simp only [cond_true]
    cases hq : slook n m with
    | some x =>
      have := hm n x hq j hj
      rw [hlj] at this; cases this
      exact ⟨same_refl _, hm⟩
    | none =>
      refine ⟨rfl, fun n' x hx i hi => ?_⟩
      simp only at hx
      rw [slook_sput] at hx
      cases he : n' == n with
      | true =>
        rw [he] at hx; cases hx
        obtain rfl := (beq_bytes n' n).1 he
        rw [hj] at hi
        obtain rfl : j = i := by omega
        exact hlj
      | false => rw [he] at hx; exact hm n' x hx i hi
  | false =>
    have hput : putF ps l (.mk k n xs) = .mk k n (putF.putFs ps l xs) := by
      rw [putF]
      cases hk : k == 5 with
      | false => rfl
      | true =>
        rw [hk, Bool.true_and] at hc
        rw [idx_has, hc]; rfl
    rw [hput, putFs_map]
    simp only [Ty.kind, Ty.name, Ty.args, beq_self_eq_true, (beq_bytes n n).2 rfl, Bool.and_self, List.length_map, cond_true, cond_false]
    clear hput hc
    induction xs generalizing m with
    | nil => simpa [matFs] using hm
    | cons x r ihr =>
      simp only [List.map_cons, matFs]
      obtain ⟨g1, g2⟩ := ih x (by simp) m hm
      rw [g1, cond_true]
      exact ihr (fun a ha => ih a (by simp [ha])) _ g2
theorem schemeInstance_spec (s : Sc) (l : List Ty) (hs : okT s.ty) (hp : s.ps.length < 9223372036854775807) (hl : l.length < 9223372036854775807) (hol : okTs l) : APure Tryd.prog 4 [.p (eSc s), .p (.sl 3 (eTs l))] (.p (.b true)) := by
  have h1 := instance_spec s l hs hp hl hol
  cases hq : l.length == s.ps.length with
  | false =>
    rw [hq, cond_false] at h1
    obtain ⟨ps, ⟨k, n, xs⟩⟩ := s
    simp only at hq
    refine APure.intro (tyOf_ok Tryd.prog) hmix Tryd.func4 rfl (by rfl) (by kernel_rfl) (by show 2 ≤ _; decide) rfl ?_
    conv => whnf
    refine apc schemes_spec ?_
    conv => whnf
    refine apc h1 ?_
    conv => whnf
    exact .inl (pb (show (((eTs l).length : Int) != ((ps.map eStr).length : Int)) = true by rw [eTs_len]; simp at hq ⊢; omega))
  | true =>
    rw [hq, cond_true] at h1
    have h2 := more_spec s (putF s.ps l s.ty) hs hp (okT_put hol s.ty hs)
    rw [(mat_put (by simpa using hq) s.ty [] (fun n x h => by simp [slook] at h)).1] at h2
    generalize putF s.ps l s.ty = R at h1 h2
    obtain ⟨ps, ⟨k, n, xs⟩⟩ := s
    obtain ⟨r1, r2, r3⟩ := R
    refine APure.intro (tyOf_ok Tryd.prog) hmix Tryd.func4 rfl (by rfl) (by kernel_rfl) (by show 2 ≤ _; decide) rfl ?_
    conv => whnf
    refine apc schemes_spec ?_
    conv => whnf
    refine apc h1 ?_
    conv => whnf
    refine apc h2 ?_
    conv => whnf
    exact .inl rfl
end KK
