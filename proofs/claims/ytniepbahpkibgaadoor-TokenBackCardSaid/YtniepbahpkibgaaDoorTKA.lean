/-
  DERIVED. Contracts of the functions that the law reaches, and the law itself, for every input. No conditions.
-/
import Derived.Test.YtniepbahpkibgaaDoorTK9
import Derived.Test.YtniepbahpkibgaaDoorTKP
open Go Go.AM Go.Proofs
set_option maxRecDepth 100000
namespace TK
theorem toks_aux (x y : ByteArray) (k1 k2 a1 a2 : Int) (h : APure Tryd.prog 7 [.p (.s ⟨#[108, 101, 116, 32, 120, 32, 35, 32, 121]⟩)] (.tup [.p (.sl 3 [.agg [.i .i64 k1, .s x, .i .i64 a1], .agg [.i .i64 k2, .s y, .i .i64 a2]]), .p (.i .i64 0), .p (.i .i64 0)]))
    (hx : (x.toList == ByteArray.toList ⟨#[108, 101, 116]⟩) = true) (hy : (y.toList == ByteArray.toList ⟨#[120]⟩) = true) : APure Tryd.prog 6 [] (.p (.b true)) := by
  refine APure.intro (tyOf_ok Tryd.prog) hmix Tryd.func6 rfl (by rfl) (by kernel_rfl) (by show 0 ≤ _; decide) rfl ?_
  conv => whnf
  refine apc h ?_
  conv => whnf
  refine aidxi (by decide) rfl ?_
  conv => whnf
  refine ast hx ?_
  conv => whnf
  refine aidxi (by decide) rfl ?_
  conv => whnf
  exact .inl (pb hy)
theorem read0 : readF [108, 101, 116, 32, 120, 32, 35, 32, 121] = ([⟨3, [108, 101, 116], 0⟩, ⟨1, [120], 4⟩], 0, 0) := by
  have e1 : blankF 108 = false := by decide
  have e2 : nextF [108, 101, 116, 32, 120, 32, 35, 32, 121] = (3, [108, 101, 116], 3) := by
    rw [nextF_cons _ _ _ rfl, show letterF 108 = true by decide, cond_true, show spanF partF [108, 101, 116, 32, 120, 32, 35, 32, 121] = 3 by decide]
    rw [show List.take 3 ([108, 101, 116, 32, 120, 32, 35, 32, 121] : Bs) = [108, 101, 116] from rfl, show wordF [108, 101, 116] = true by decide, cond_true]
  have e3 : nextF [120, 32, 35, 32, 121] = (1, [120], 1) := by
    rw [nextF_cons _ _ _ rfl, show letterF 120 = true by decide, cond_true, show spanF partF [120, 32, 35, 32, 121] = 1 by decide]
    rw [show List.take 1 ([120, 32, 35, 32, 121] : Bs) = [120] from rfl, show wordF [120] = false by decide, cond_false, show lowF [120] = true by decide, cond_true]
  rw [readF, show decide (([108, 101, 116, 32, 120, 32, 35, 32, 121] : Bs).length > 4000) = false by decide, cond_false]
  rw [readGo, e1, cond_false, show (bi 108 == 35) = false by decide, cond_false, e2]
  simp only [show ((3 : Nat) == 0) = false from rfl, cond_false]
  rw [show List.drop (3 - 1) ([101, 116, 32, 120, 32, 35, 32, 121] : Bs) = [32, 120, 32, 35, 32, 121] from rfl]
  rw [readGo, show blankF 32 = true by decide, cond_true, readGo, show blankF 120 = false by decide, cond_false, show (bi 120 == 35) = false by decide, cond_false, e3]
  simp only [show ((1 : Nat) == 0) = false from rfl, cond_false]
  rw [show List.drop (1 - 1) ([32, 35, 32, 121] : Bs) = [32, 35, 32, 121] from rfl]
  rw [readGo, show blankF 32 = true by decide, cond_true, readGo, show blankF 35 = false by decide, cond_false, show (bi 35 == 35) = true by decide, cond_true, show spanF nlF [32, 121] = 2 by decide, show List.drop 2 ([32, 121] : Bs) = [] from rfl, readGo]
  rfl
theorem toks_spec : APure Tryd.prog 6 [] (.p (.b true)) := by
  have h := read_spec [108, 101, 116, 32, 120, 32, 35, 32, 121]
  rw [read0] at h
  exact toks_aux (B [108, 101, 116]) (B [120]) 3 1 0 4 h (by rw [show (⟨#[108, 101, 116]⟩ : ByteArray) = B [108, 101, 116] from rfl, B_beq]; rfl) (by rw [show (⟨#[120]⟩ : ByteArray) = B [120] from rfl, B_beq]; rfl)
/-! TokenPlaces -/
theorem places_aux (l : Bs) (hl : l.length ≤ 4000) (o : List Tk) (at_ e : Int) (h1 : APure Tryd.prog 6 [] (.p (.b true))) (h2 : APure Tryd.prog 7 [.p (.s (B l))] (.tup [.p (.sl 3 (o.map eTk)), .p (.i .i64 at_), .p (.i .i64 e)]))
    (ho : Inc l.length o) (hol : o.length ≤ 4000) (he2 : (e == 2) = false) (h0 : e = 0 → at_ = 0) (o2 : List PV) (at2 : Int) (hn : e ≠ 0 → ∃ j : Nat, at_ = j ∧ j < l.length ∧ APure Tryd.prog 7 [.p (.s (B (l.take j)))] (.tup [.p (.sl 3 o2), .p (.i .i64 at2), .p (.i .i64 0)])) :
    APure Tryd.prog 3 [.p (.s (B l))] (.p (.b true)) := by
  have hsz : (B l).size = l.length := B_size l
  refine APure.intro (tyOf_ok Tryd.prog) hmix Tryd.func3 rfl (by rfl) (by kernel_rfl) (by show 1 ≤ _; decide) rfl ?_
  conv => whnf
  refine apc h1 ?_
  conv => whnf
  refine apc h2 ?_
  conv => whnf
  refine asf he2 ?_
  conv => whnf
  refine loopS (tyOf_ok _) hmix (by kernel_rfl) o.length [0, 3, 4, 5, 24, 25, 26] [] (fun k _ => [.p (.s (B l)), .p (.sl 3 (o.map eTk)), .p (.i .i64 at_), .p (.i .i64 e), .p (.sl 3 (o.map eTk)), .p (.i .i64 (o.map eTk).length), .p (.i .i64 (ix k))]) (fun _ _ => []) (fun _ _ => True) () ⟨rfl, rfl, rfl, rfl⟩ trivial ?_
  intro k s hk _
  conv => whnf
  refine asplit ?_ ?_ <;> intro g1 <;> conv => whnf
  · have hk1 := ix_tt g1 (by simp) hk (by omega)
    have hkx : ix k = (k : Int) := ix_eq (by omega)
    obtain ⟨t, ht⟩ : ∃ t, o[k]? = some t := ⟨_, List.getElem?_eq_getElem hk1⟩
    have htl := ho.1 t (List.mem_of_getElem? ht)
    refine aidxk (x := eTk t) (by simp [ht]) (by omega) ?_
    conv => whnf
    refine asf (by rw [hsz]; exact decide_eq_false (by omega)) ?_
    conv => whnf
    by_cases hk0 : k = 0
    · refine asf (by rw [hkx]; exact decide_eq_false (by omega)) ?_
      conv => whnf
      refine aneed (by kernel_rfl) ?_
      conv => whnf
      exact ⟨hk1, (), ⟨rfl, rfl, rfl, rfl⟩, trivial⟩
    · refine ast (by rw [hkx]; exact decide_eq_true (by omega)) ?_
      conv => whnf
      obtain ⟨t', ht'⟩ : ∃ t, o[k - 1]? = some t := ⟨_, List.getElem?_eq_getElem (by omega)⟩
      have hlt := ho.2 (k - 1) t' t ht' (by rw [show k - 1 + 1 = k by omega]; exact ht)
      have w1 : IntKind.i64.wrap (ix k - 1) = ((k - 1 : Nat) : Int) := by rw [hkx, wrap64 (by omega) (by omega)]; omega
      refine aidxi (x := eTk t') (by rw [w1]; omega) (by rw [w1]; simp [ht']) ?_
      conv => whnf
      refine aneed (by kernel_rfl) ?_
      conv => whnf
      refine asf (decide_eq_false (by omega)) ?_
      conv => whnf
      exact ⟨hk1, (), ⟨rfl, rfl, rfl, rfl⟩, trivial⟩
  · by_cases he : e = 0
    · refine ast (by rw [he]; rfl) ?_
      conv => whnf
      exact .inl (pb (by rw [h0 he]; rfl))
    · refine asf (by simpa using he) ?_
      conv => whnf
      obtain ⟨j, rfl, hj, hr⟩ := hn he
      refine asf (by rw [hsz]; exact decide_eq_false (by omega)) ?_
      conv => whnf
      refine aneed (by rw [hsz]; omega) ?_
      rw [show (B l).extract (Int.toNat 0) (Int.toNat j) = B (l.take j) by rw [B_ext]; rfl]
      conv => whnf
      refine apc hr ?_
      conv => whnf
      exact .inl rfl
theorem places_big (l : Bs) (hl : 4000 < l.length) (h1 : APure Tryd.prog 6 [] (.p (.b true))) (h2 : APure Tryd.prog 7 [.p (.s (B l))] (.tup [.p (.sl 3 []), .p (.i .i64 0), .p (.i .i64 2)])) :
    APure Tryd.prog 3 [.p (.s (B l))] (.p (.b true)) := by
  have hsz : (B l).size = l.length := B_size l
  refine APure.intro (tyOf_ok Tryd.prog) hmix Tryd.func3 rfl (by rfl) (by kernel_rfl) (by show 1 ≤ _; decide) rfl ?_
  conv => whnf
  refine apc h1 ?_
  conv => whnf
  refine apc h2 ?_
  conv => whnf
  exact .inl (pb (by rw [hsz]; exact decide_eq_true (by omega)))
theorem inc_len : ∀ {n : Nat} {o : List Tk}, Inc n o → o.length ≤ n := by
  intro n o h
  have key : ∀ (k : Nat) (t : Tk), o[k]? = some t → k ≤ t.at_ := by
    intro k
    induction k with
    | zero => intro t _; omega
    | succ k ih =>
      intro t ht
      have hk : k < o.length := by have := (List.getElem?_eq_some_iff.1 ht).1; omega
      obtain ⟨a, ha⟩ : ∃ a, o[k]? = some a := ⟨_, List.getElem?_eq_getElem hk⟩
      have := ih a ha
      have := h.2 k a t ha ht
      omega
  cases hq : o.length with
  | zero => omega
  | succ m =>
    obtain ⟨a, ha⟩ : ∃ a, o[m]? = some a := ⟨_, List.getElem?_eq_getElem (by omega)⟩
    have := key m a ha
    have := h.1 a (List.mem_of_getElem? ha)
    omega
theorem tokenPlaces (l : Bs) : APure Tryd.prog 3 [.p (.s (B l))] (.p (.b true)) := by
  have h2 := read_spec l
  by_cases hl : l.length > 4000
  · rw [readF, decide_eq_true hl, cond_true] at h2
    exact places_big l hl toks_spec h2
  · rw [readF, decide_eq_false hl, cond_false] at h2
    have hinv := read_inv _ l 0 [] (Nat.le_refl _) ⟨by simp, by simp⟩
    match hq : readGo l 0 [] with
    | (o, none) =>
      rw [hq] at h2
      have hi := hinv.1 o hq
      rw [Nat.zero_add] at hi
      have := inc_len hi
      exact places_aux l (by omega) o 0 0 toks_spec h2 hi (by omega) rfl (fun _ => rfl) [] 0 (fun h => absurd rfl h)
    | (o, some j) =>
      rw [hq] at h2
      obtain ⟨q1, q2⟩ := readF_front l o j (by omega) hq
      have h3 := read_spec (l.take j)
      obtain ⟨a, b, c⟩ : List Tk × Nat × Int := readF (l.take j)
      rw [vRead, q2] at h3
      exact places_aux l (by omega) [] j 10 toks_spec h2 ⟨by simp, by simp⟩ (by simp) rfl (fun h => by cases h) _ _ (fun _ => ⟨j, rfl, q1, h3⟩)
end TK
