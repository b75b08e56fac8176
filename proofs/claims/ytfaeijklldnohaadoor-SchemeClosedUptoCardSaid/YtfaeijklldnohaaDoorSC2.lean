/-
  DERIVED. Contracts of the functions that the law reaches, and the law itself, for every input. No conditions.
-/
import Derived.Test.YtfaeijklldnohaaDoorSC1
open Go Go.AM Go.Proofs
set_option maxRecDepth 100000
namespace KK
/-! the matcher -/
mutual
def matF (A : BM) : Ty → Ty → TM → Bool × TM
  | .mk k n xs, b, m => bif (k == 5) && has A n then (match slook n m with | some x => (sameF x b, m) | none => (true, sput n b m)) else
    bif (k == b.kind) && (n == b.name) then (bif xs.length == b.args.length then matFs A xs b.args m else (false, m)) else (false, m)
def matFs (A : BM) : List Ty → List Ty → TM → Bool × TM
  | [], _, m => (true, m)
  | _ :: _, [], m => (true, m)
  | x :: xs, y :: ys, m => bif (matF A x y m).1 then matFs A xs ys (matF A x y m).2 else (false, (matF A x y m).2)
end
def okM (m : TM) : Prop := ∀ k x, slook k m = some x → okT x
theorem okM.put {m : TM} (h : okM m) {n : ByteArray} {b : Ty} (hb : okT b) : okM (sput n b m) := fun k x hx => by
  rw [slook_sput] at hx
  cases hq : k == n with
  | true => rw [hq] at hx; cases hx; exact hb
  | false => rw [hq] at hx; exact h k x hx
def hpM (A : BM) (m : TM) : Heap := [(1000000000, .cells [.mp 1000000001, .mp 1000000002]), (1000000001, .map .ks (eM vB A)), (1000000002, .map .ks (eM eT m))]
def MatS (A : BM) (a : Ty) : Prop := ∀ b m, okT b → okM m → okM (matF A a b m).2 ∧ AMem Tryd.prog 24 [.ptr 1000000000 0, .p (eT a), .p (eT b)] (hpM A m) (.p (.b (matF A a b m).1)) (hpM A (matF A a b m).2)
def zT : Ty := .mk 0 ⟨#[]⟩ []
theorem mlook_T (k : ByteArray) (m : TM) : mlook (.s k) (eT zT) (eM eT m) = (eT ((slook k m).getD zT), (slook k m).isSome) := by
  unfold mlook; rw [mfind_eM]; cases slook k m <;> rfl
/-- slices.EqualFunc with the matcher -/
theorem eqM_of (A : BM) (xs ys : List Ty) (hx : xs.length < 9223372036854775807) (hy : ∀ y ∈ ys, okT y) (ih : ∀ a ∈ xs, MatS A a) (hlen : xs.length = ys.length) (m0 : TM) (hm0 : okM m0) :
    okM (matFs A xs ys m0).2 ∧ AMem Tryd.prog 32 [.p (.sl 3 (eTs xs)), .p (.sl 3 (eTs ys)), .fn 24 [.ptr 1000000000 0] []] (hpM A m0) (.p (.b (matFs A xs ys m0).1)) (hpM A (matFs A xs ys m0).2) := by
  have hok : ∀ (l r : List Ty), (∀ a ∈ l, a ∈ xs) → (∀ b ∈ r, b ∈ ys) → ∀ m, okM m → okM (matFs A l r m).2 := by
    intro l
    induction l with
    | nil => intro r _ _ m hm; simpa [matFs] using hm
    | cons a l ihl =>
      intro r hl hr m hm
      cases r with
      | nil => simpa [matFs] using hm
      | cons b r =>
        have h1 := (ih a (hl a (by simp)) b m (hy b (hr b (by simp))) hm).1
        rw [matFs]
        cases (matF A a b m).1 with
        | true => exact ihl r (fun x hx => hl x (by simp [hx])) (fun x hx => hr x (by simp [hx])) _ h1
        | false => exact h1
  refine ⟨hok xs ys (fun _ h => h) (fun _ h => h) m0 hm0, ?_⟩
  generalize hR : matFs A xs ys m0 = R
  refine AMem.intro (tyOf_ok Tryd.prog) hmix Tryd.func32 rfl (by rfl) (by kernel_rfl) (by show 3 ≤ _; decide) rfl ?_
  conv => whnf
  refine asf (by rw [eTs_len, eTs_len, hlen]; simp) ?_
  conv => whnf
  refine loopS (tyOf_ok _) hmix (by kernel_rfl) xs.length [1, 2, 15, 16, 17] [1000000000, 1000000001, 1000000002] (fun k (m : TM) => [.p (.sl 3 (eTs ys)), .fn 24 [.ptr 1000000000 0] [], .p (.sl 3 (eTs xs)), .p (.i .i64 (eTs xs).length), .p (.i .i64 (ix k))])
    (fun _ m => [.cells [.mp 1000000001, .mp 1000000002], .map .ks (eM vB A), .map .ks (eM eT m)]) (fun k m => okM m ∧ matFs A (xs.drop k) (ys.drop k) m = R) m0 ⟨rfl, rfl, rfl, rfl⟩ ⟨hm0, hR⟩ ?_
  rintro k m hk ⟨hm, hs⟩
  conv => whnf
  refine asplit ?_ ?_ <;> intro h2 <;> conv => whnf
  · have hk1 := ix_tt h2 (by rw [eTs_len]) hk (by omega)
    obtain ⟨a, ha⟩ : ∃ b, xs[k]? = some b := ⟨_, List.getElem?_eq_getElem hk1⟩
    obtain ⟨b, hb⟩ : ∃ b, ys[k]? = some b := ⟨_, List.getElem?_eq_getElem (by omega)⟩
    refine aidxk (eTs_get ha) (by omega) ?_
    rw [drop_cons ha, drop_cons hb, matFs] at hs
    obtain ⟨hok1, hc⟩ := ih a (List.mem_of_getElem? ha) b m (hy b (List.mem_of_getElem? hb)) hm
    generalize matF A a b m = q at hok1 hc hs
    obtain ⟨q1, q2⟩ := q
    simp only at hok1 hc hs
    obtain ⟨a1, a2, a3⟩ := a
    have hgb := eTs_get hb
    obtain ⟨b1, b2, b3⟩ := b
    conv => whnf
    refine aidxk hgb (by omega) ?_
    conv => whnf
    refine amc [1000000000, 1000000001, 1000000002] 10000 hc ?_
    conv => whnf
    refine asplit ?_ ?_ <;> intro h3 <;> conv => whnf
    · have h4 : q1 = false := by simpa using h3
      subst h4
      rw [cond_false] at hs
      subst hs
      exact ⟨.inl rfl, ⟨.inl rfl, .inl rfl, trivial⟩, ⟨rfl, rfl⟩, ⟨rfl, rfl⟩, trivial⟩
    · have h4 : q1 = true := by simpa using h3
      subst h4
      rw [cond_true] at hs
      exact ⟨hk1, q2, ⟨rfl, rfl, rfl, rfl⟩, hok1, hs⟩
  · have hk1 := ix_ff h2 (by rw [eTs_len]) hk (by omega)
    rw [hk1, List.drop_length, matFs] at hs
    subst hs
    exact ⟨.inl rfl, ⟨.inl rfl, .inl rfl, trivial⟩, ⟨rfl, rfl⟩, ⟨rfl, rfl⟩, trivial⟩
theorem eqN_of (A : BM) (xs ys : List Ty) (hlen : xs.length ≠ ys.length) (m0 : TM) :
    AMem Tryd.prog 32 [.p (.sl 3 (eTs xs)), .p (.sl 3 (eTs ys)), .fn 24 [.ptr 1000000000 0] []] (hpM A m0) (.p (.b false)) (hpM A m0) := by
  refine AMem.intro (tyOf_ok Tryd.prog) hmix Tryd.func32 rfl (by rfl) (by kernel_rfl) (by show 3 ≤ _; decide) rfl ?_
  conv => whnf
  refine ast (by rw [eTs_len, eTs_len]; simp; omega) ?_
  conv => whnf
  exact ⟨.inl rfl, ⟨.inl rfl, .inl rfl, trivial⟩, ⟨rfl, rfl⟩, ⟨rfl, rfl⟩, trivial⟩
theorem mat_all (A : BM) (a : Ty) (ha : okT a) (ih : ∀ x ∈ a.args, MatS A x) : MatS A a := by
  intro b m hb hm
  obtain ⟨k, n, xs⟩ := a
  obtain ⟨k', n', ys⟩ := b
  simp only [Ty.args] at ih
  obtain ⟨hx, _⟩ := ha
  obtain ⟨hyl, hys⟩ := hb
  have hE := fun h => eqM_of A xs ys (by omega) (okTs_mem hys) ih h m hm
  have hN := fun h => eqN_of A xs ys h m
  have hsame := fun x (h : slook n m = some x) => sameType_spec x (hm n x h) (.mk k' n' ys) ⟨hyl, hys⟩
  constructor
  · rw [matF]
    simp only [Ty.kind, Ty.name, Ty.args]
    cases (k == 5) && has A n with
    | true =>
      simp only [cond_true]
      cases hq : slook n m with
      | some x => exact hm
      | none => exact hm.put ⟨hyl, hys⟩
    | false =>
      cases (k == k') && (n == n') with
      | false => exact hm
      | true =>
        simp only [cond_true, cond_false]
        cases hl : xs.length == ys.length with
        | true => exact (hE (by simpa using hl)).1
        | false => exact hm
  generalize hR : matF A (.mk k n xs) (.mk k' n' ys) m = R
  rw [matF] at hR
  simp only [Ty.kind, Ty.name, Ty.args] at hR
  refine AMem.intro (tyOf_ok Tryd.prog) hmix Tryd.func24 rfl (by rfl) (by kernel_rfl) (by show 3 ≤ _; decide) rfl ?_
  conv => whnf
  refine asplit ?_ ?_ <;> intro h1 <;> conv => whnf
  · replace h1 : (k == 5) = true := h1
    refine alook (mlook_B n A) ?_
    conv => whnf
    refine aneed (by kernel_rfl) ?_
    conv => whnf
    refine asplit ?_ ?_ <;> intro h2 <;> conv => whnf
    · replace h2 : has A n = true := h2
      rw [h1, h2, Bool.and_self, cond_true] at hR
      refine alook (mlook_T n m) ?_
      conv => whnf
      cases hq : slook n m with
      | some x =>
        rw [hq] at hR
        simp only at hR
        subst hR
        have hc := hsame x hq
        obtain ⟨x1, x2, x3⟩ := x
        conv => whnf
        refine aneed (by kernel_rfl) ?_
        conv => whnf
        refine apc hc ?_
        conv => whnf
        exact ⟨.inl rfl, ⟨.inl rfl, .inl rfl, trivial⟩, ⟨rfl, rfl⟩, ⟨rfl, rfl⟩, trivial⟩
      | none =>
        rw [hq] at hR
        simp only at hR
        subst hR
        conv => whnf
        refine aneed (by kernel_rfl) ?_
        conv => whnf
        refine aneed (by kernel_rfl) ?_
        conv => whnf
        exact ⟨.inl rfl, ⟨.inl rfl, .inl rfl, trivial⟩, ⟨rfl, rfl⟩, ⟨rfl, by simp only; rw [← mput_eM]; rfl⟩, trivial⟩
    · replace h2 : has A n = false := h2
      have h0 : ((k == 5) && has A n) = false := (by rw [h2, Bool.and_false])
      rw [h0, cond_false] at hR
      refine asplit ?_ ?_ <;> intro g1 <;> conv => whnf
      · replace g1 : (k == k') = true := g1
        rw [g1, Bool.true_and] at hR
        refine asplit ?_ ?_ <;> intro g2 <;> conv => whnf
        · replace g2 : (n.toList == n'.toList) = true := g2
          rw [bl_iff] at g2
          rw [g2, cond_true] at hR
          by_cases hl : xs.length = ys.length
          · have := (hE hl).2
            rw [show (xs.length == ys.length) = true by simpa using hl, cond_true] at hR
            rw [hR] at this
            refine amc [1000000000, 1000000001, 1000000002] 10000 this ?_
            conv => whnf
            exact ⟨.inl rfl, ⟨.inl rfl, .inl rfl, trivial⟩, ⟨rfl, rfl⟩, ⟨rfl, rfl⟩, trivial⟩
          · have := hN hl
            rw [show (xs.length == ys.length) = false by simpa using hl, cond_false] at hR
            subst hR
            refine amc [1000000000, 1000000001, 1000000002] 10000 this ?_
            conv => whnf
            exact ⟨.inl rfl, ⟨.inl rfl, .inl rfl, trivial⟩, ⟨rfl, rfl⟩, ⟨rfl, rfl⟩, trivial⟩
        · replace g2 : (n.toList == n'.toList) = false := g2
          rw [bl_iff] at g2
          rw [g2, cond_false] at hR
          subst hR
          exact ⟨.inl rfl, ⟨.inl rfl, .inl rfl, trivial⟩, ⟨rfl, rfl⟩, ⟨rfl, rfl⟩, trivial⟩
      · replace g1 : (k == k') = false := g1
        rw [g1, Bool.false_and, cond_false] at hR
        subst hR
        exact ⟨.inl rfl, ⟨.inl rfl, .inl rfl, trivial⟩, ⟨rfl, rfl⟩, ⟨rfl, rfl⟩, trivial⟩
  · replace h1 : (k == 5) = false := h1
    refine aneed (by kernel_rfl) ?_
    conv => whnf
    have h0 : ((k == 5) && has A n) = false := (by rw [h1, Bool.false_and])
    rw [h0, cond_false] at hR
    refine asplit ?_ ?_ <;> intro g1 <;> conv => whnf
    · replace g1 : (k == k') = true := g1
      rw [g1, Bool.true_and] at hR
      refine asplit ?_ ?_ <;> intro g2 <;> conv => whnf
      · replace g2 : (n.toList == n'.toList) = true := g2
        rw [bl_iff] at g2
        rw [g2, cond_true] at hR
        by_cases hl : xs.length = ys.length
        · have := (hE hl).2
          rw [show (xs.length == ys.length) = true by simpa using hl, cond_true] at hR
          rw [hR] at this
          refine amc [1000000000, 1000000001, 1000000002] 10000 this ?_
          conv => whnf
          exact ⟨.inl rfl, ⟨.inl rfl, .inl rfl, trivial⟩, ⟨rfl, rfl⟩, ⟨rfl, rfl⟩, trivial⟩
        · have := hN hl
          rw [show (xs.length == ys.length) = false by simpa using hl, cond_false] at hR
          subst hR
          refine amc [1000000000, 1000000001, 1000000002] 10000 this ?_
          conv => whnf
          exact ⟨.inl rfl, ⟨.inl rfl, .inl rfl, trivial⟩, ⟨rfl, rfl⟩, ⟨rfl, rfl⟩, trivial⟩
      · replace g2 : (n.toList == n'.toList) = false := g2
        rw [bl_iff] at g2
        rw [g2, cond_false] at hR
        subst hR
        exact ⟨.inl rfl, ⟨.inl rfl, .inl rfl, trivial⟩, ⟨rfl, rfl⟩, ⟨rfl, rfl⟩, trivial⟩
    · replace g1 : (k == k') = false := g1
      rw [g1, Bool.false_and, cond_false] at hR
      subst hR
      exact ⟨.inl rfl, ⟨.inl rfl, .inl rfl, trivial⟩, ⟨rfl, rfl⟩, ⟨rfl, rfl⟩, trivial⟩
theorem mat_spec (A : BM) (a : Ty) : okT a → MatS A a := Ty.ind (Q := fun a => okT a → MatS A a) (fun k n xs ih h => mat_all A (.mk k n xs) h fun x hx => ih x hx (okTs_mem h.2 x hx)) a
/-- schemes -/
structure Sc where
  ps : List ByteArray
  ty : Ty
def eSc (s : Sc) : PV := .agg (.sl 1 (s.ps.map eStr) :: (eT s.ty).cells)
def setF (l : List ByteArray) : BM := l.foldl (fun m s => sput s true m) []
theorem more_spec (s : Sc) (t : Ty) (hs : okT s.ty) (hp : s.ps.length < 9223372036854775807) (ht : okT t) : APure Tryd.prog 12 [.p (eSc s), .p (eT t)] (.p (.b (matF (setF s.ps) s.ty t []).1)) := by
  have hc := (mat_spec (setF s.ps) s.ty hs t [] ht (fun k x h => by simp [slook] at h)).2
  generalize matF (setF s.ps) s.ty t [] = R at hc
  obtain ⟨ps, ⟨k, n, xs⟩⟩ := s
  obtain ⟨k', n', ys⟩ := t
  obtain ⟨r1, r2⟩ := R
  simp only at hc hp ⊢
  refine APure.intro (tyOf_ok Tryd.prog) hmix Tryd.func12 rfl (by rfl) (by kernel_rfl) (by show 2 ≤ _; decide) rfl ?_
  conv => whnf
  refine loopS (tyOf_ok _) hmix (by kernel_rfl) ps.length [2, 3, 5, 12, 13, 14] [2, 3, 5, 8, 9] (fun j (m : BM) => [.ptr 2 0, .ptr 3 0, .ptr 5 0, .p (.sl 1 (ps.map eStr)), .p (.i .i64 (ps.map eStr).length), .p (.i .i64 (ix j))])
    (fun _ m => [.cells [.p (.sl 1 (ps.map eStr)), .p (.i .i64 k), .p (.s n), .p (.sl 3 (eTs xs))], .cells [.p (.i .i64 k'), .p (.s n'), .p (.sl 3 (eTs ys))], .cells [.mp 8, .mp 9], .map .ks (eM vB m), .map .ks []]) (fun j m => m = setF (ps.take j)) [] ⟨rfl, rfl, rfl, rfl⟩ rfl ?_
  intro j m hj hm
  conv => whnf
  refine asplit ?_ ?_ <;> intro h1 <;> conv => whnf
  · have hj1 := ix_tt h1 (by simp) hj (by omega)
    obtain ⟨b, hb1⟩ : ∃ b, ps[j]? = some b := ⟨_, List.getElem?_eq_getElem hj1⟩
    refine aidxk (x := eStr b) (by simp [hb1]) (by omega) ?_
    conv => whnf
    refine ⟨hj1, sput b true m, ⟨by rw [← mput_eM]; rfl, rfl, rfl, rfl⟩, ?_⟩
    rw [take_snoc hb1, setF, List.foldl_append, hm]; rfl
  · have hj1 := ix_ff h1 (by simp) hj (by omega)
    rw [hj1, List.take_length] at hm
    subst hm
    refine amc [5, 8, 9] 10000 hc ?_
    conv => whnf
    exact .inl rfl
theorem instance_spec (s : Sc) (l : List Ty) (hs : okT s.ty) (hp : s.ps.length < 9223372036854775807) (hl : l.length < 9223372036854775807) (hol : okTs l) : APure Tryd.prog 13 [.p (eSc s), .p (.sl 3 (eTs l))]
    (bif l.length == s.ps.length then .tup [.p (eT (putF s.ps l s.ty)), .p (.i .i64 0)] else .tup [.p (eT zT), .p (.i .i64 1)]) := by
  have hc := put_spec s.ps l hp hl hol s.ty hs
  generalize putF s.ps l s.ty = R at hc
  obtain ⟨ps, ⟨k, n, xs⟩⟩ := s
  simp only at hc hp ⊢
  cases hq : l.length == ps.length with
  | false =>
    refine APure.intro (tyOf_ok Tryd.prog) hmix Tryd.func13 rfl (by rfl) (by kernel_rfl) (by show 2 ≤ _; decide) rfl ?_
    conv => whnf
    refine ast (show (((eTs l).length : Int) != ((ps.map eStr).length : Int)) = true by rw [eTs_len]; simp at hq ⊢; omega) ?_
    conv => whnf
    exact .inl rfl
  | true =>
    obtain ⟨r1, r2, r3⟩ := R
    refine APure.intro (tyOf_ok Tryd.prog) hmix Tryd.func13 rfl (by rfl) (by kernel_rfl) (by show 2 ≤ _; decide) rfl ?_
    conv => whnf
    refine asf (show (((eTs l).length : Int) != ((ps.map eStr).length : Int)) = false by rw [eTs_len]; simp at hq ⊢; omega) ?_
    conv => whnf
    refine apc hc ?_
    conv => whnf
    exact .inl rfl
end KK
