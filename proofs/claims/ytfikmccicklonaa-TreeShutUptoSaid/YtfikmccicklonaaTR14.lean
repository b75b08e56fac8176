/-
  DERIVED. Contracts of the functions that the law reaches, and the law itself, for every input. No conditions.
-/
import Derived.Test.YtfikmccicklonaaTR13
open Go Go.AM Go.Proofs
set_option maxRecDepth 100000
namespace TR
/-- the closure of TreeShut -/
theorem shutFn_spec (s nm : ByteArray) : APure Try.prog 23 [.p (.s s), .vp [.s nm]] (.p (.b (s == nm))) := by
  rw [← bl_iff]
  refine APure.intro (tyOf_ok Try.prog) hmix Try.func23 rfl (by rfl) (by kernel_rfl) (by show 2 ≤ _; decide) rfl ?_
  conv => whnf
  exact .inl rfl
/-- where the name stands first; -1: nowhere -/
def idxF (nm : ByteArray) : List ByteArray → Option Nat
  | [] => none
  | s :: r => bif s == nm then some 0 else (idxF nm r).map (· + 1)
def idxI (nm : ByteArray) (l : List ByteArray) : Int := match idxF nm l with | some k => k | none => -1
theorem indexFunc_spec (l : List ByteArray) (nm : ByteArray) (hl : l.length ≤ 2097152) : APure Try.prog 43 [.p (.sl 1 (l.map eStr)), .fn 23 [] [.vp [.s nm]]] (.p (.i .i64 (idxI nm l))) := by
  refine APure.intro (tyOf_ok Try.prog) hmix Try.func43 rfl (by rfl) (by kernel_rfl) (by show 2 ≤ _; decide) rfl ?_
  conv => whnf
  refine loopS (tyOf_ok _) hmix (by kernel_rfl) l.length [0, 1, 7, 8] [] (fun k _ => [.p (.sl 1 (l.map eStr)), .fn 23 [] [.vp [.s nm]], .p (.i .i64 (l.map eStr).length), .p (.i .i64 (ix k))]) (fun _ _ => []) (fun k _ => idxF nm l = (idxF nm (l.drop k)).map (· + k)) () ⟨rfl, rfl, rfl, rfl⟩ (by simp) ?_
  intro k _ hk hs
  conv => whnf
  refine asplit ?_ ?_ <;> intro h1 <;> conv => whnf
  · have hk1 := ix_tt h1 (by simp) hk (by omega)
    obtain ⟨a, ha⟩ : ∃ b, l[k]? = some b := ⟨_, List.getElem?_eq_getElem hk1⟩
    rw [drop_cons ha, idxF] at hs
    refine aidxk (x := eStr a) (by simp [ha]) (by omega) ?_
    conv => whnf
    refine apc (shutFn_spec a nm) ?_
    conv => whnf
    refine asplit ?_ ?_ <;> intro h2 <;> conv => whnf
    · have h2 : (a == nm) = true := h2
      rw [h2, cond_true] at hs
      exact .inl (pi (by unfold idxI; rw [hs, ix_eq (by omega)]; simp))
    · have h2 : (a == nm) = false := h2
      rw [h2, cond_false] at hs
      refine ⟨hk1, (), ⟨rfl, rfl, rfl, rfl⟩, ?_⟩
      rw [hs]
      cases idxF nm (l.drop (k + 1)) with
      | none => rfl
      | some q => simp; omega
  · have hk1 := ix_ff h1 (by simp) hk (by omega)
    exact .inl (pi (by unfold idxI; rw [hs, hk1, List.drop_length]; rfl))

def cut (nm : ByteArray) (l : List ByteArray) : List ByteArray := l.filter (fun s => !(s == nm))
theorem idx_none {nm : ByteArray} : ∀ {l : List ByteArray}, idxF nm l = none → cut nm l = l
  | [], _ => rfl
  | s :: r, h => by
    rw [idxF] at h
    cases hs : s == nm with
    | true => rw [hs] at h; cases h
    | false =>
      rw [hs, cond_false, Option.map_eq_none_iff] at h
      have := idx_none h
      unfold cut at this ⊢
      rw [List.filter_cons, hs]; simp only [Bool.not_false, if_true, this]
theorem idx_some {nm : ByteArray} : ∀ {l : List ByteArray} {i : Nat}, idxF nm l = some i → i < l.length ∧ cut nm (l.take (i + 1)) = l.take i
  | [], _, h => by cases h
  | s :: r, i, h => by
    rw [idxF] at h
    cases hs : s == nm with
    | true =>
      rw [hs, cond_true] at h; cases h
      refine ⟨by simp, ?_⟩
      simp [cut, hs]
    | false =>
      rw [hs, cond_false, Option.map_eq_some_iff] at h
      obtain ⟨j, hj, rfl⟩ := h
      obtain ⟨h1, h2⟩ := idx_some hj
      refine ⟨by simp; omega, ?_⟩
      unfold cut at h2 ⊢
      rw [List.take_succ_cons, List.filter_cons, hs, h2]
      simp
theorem cut_snoc (nm s : ByteArray) (l : List ByteArray) : cut nm (l ++ [s]) = bif s == nm then cut nm l else cut nm l ++ [s] := by
  unfold cut
  rw [List.filter_append]
  cases hs : s == nm <;> simp [hs]
def DelInv (nm : ByteArray) (l : List ByteArray) (i0 k : Nat) (s : Int × Int × List ByteArray) : Prop :=
  ∃ i : Nat, s.1 = i ∧ s.2.1 = (i0 + 1 + k : Nat) ∧ s.2.2.length = l.length ∧ i ≤ i0 + k ∧ s.2.2.take i = cut nm (l.take (i0 + 1 + k)) ∧ s.2.2.drop (i0 + 1 + k) = l.drop (i0 + 1 + k)
theorem drop_more {α : Type} {a b : List α} {n : Nat} (h : a.drop n = b.drop n) : a.drop (n + 1) = b.drop (n + 1) := by
  have := congrArg (List.drop 1) h
  rwa [List.drop_drop, List.drop_drop] at this
theorem del_no {nm b : ByteArray} {l : List ByteArray} {i0 k : Nat} {s : Int × Int × List ByteArray} (h : DelInv nm l i0 k s) (hl : l.length ≤ 2097152) (hb : l[i0 + 1 + k]? = some b) (hq : (b == nm) = true) : DelInv nm l i0 (k + 1) (s.1, IntKind.i64.wrap (s.2.1 + 1), s.2.2) := by
  obtain ⟨i, h1, h2, h3, h4, h5, h6⟩ := h
  have hlt := (List.getElem?_eq_some_iff.1 hb).1
  refine ⟨i, h1, ?_, h3, by omega, ?_, ?_⟩
  · show IntKind.i64.wrap (s.2.1 + 1) = _
    rw [h2, wrap64 (by omega) (by omega)]; omega
  · show s.2.2.take i = _
    rw [h5, show i0 + 1 + (k + 1) = i0 + 1 + k + 1 by omega, take_snoc hb, cut_snoc, hq]; rfl
  · show s.2.2.drop _ = _
    exact drop_more h6
theorem del_yes {nm b : ByteArray} {l : List ByteArray} {i0 k : Nat} {s : Int × Int × List ByteArray} (h : DelInv nm l i0 k s) (hl : l.length ≤ 2097152) (hb : l[i0 + 1 + k]? = some b) (hq : (b == nm) = false) : DelInv nm l i0 (k + 1) (IntKind.i64.wrap (s.1 + 1), IntKind.i64.wrap (s.2.1 + 1), s.2.2.set s.1.toNat b) := by
  obtain ⟨i, h1, h2, h3, h4, h5, h6⟩ := h
  have hlt := (List.getElem?_eq_some_iff.1 hb).1
  have hi : s.1.toNat = i := by omega
  refine ⟨i + 1, ?_, ?_, ?_, by omega, ?_, ?_⟩
  · show IntKind.i64.wrap (s.1 + 1) = _
    rw [h1, wrap64 (by omega) (by omega)]; omega
  · show IntKind.i64.wrap (s.2.1 + 1) = _
    rw [h2, wrap64 (by omega) (by omega)]; omega
  · show (s.2.2.set s.1.toNat b).length = _
    rw [List.length_set, h3]
  · show (s.2.2.set s.1.toNat b).take (i + 1) = _
    rw [hi, show i0 + 1 + (k + 1) = i0 + 1 + k + 1 by omega, take_snoc hb, cut_snoc, hq, cond_false, ← h5]
    rw [take_snoc (a := b) (by rw [List.getElem?_set_self (by omega)]), List.take_set_of_le (by omega)]
  · show (s.2.2.set s.1.toNat b).drop _ = _
    rw [hi, List.drop_set_of_lt (by omega)]; exact drop_more h6
def hpD (l : List ByteArray) (nm : ByteArray) : Heap := [(1000000000, .gr true 1 (l.map eStr)), (1000000001, .cells [.p (.s nm)])]
theorem delNone_spec (l : List ByteArray) (nm : ByteArray) (hl : l.length ≤ 2097152) (hn : idxF nm l = none) : AMem Try.prog 21 [.al true 1000000000 1 l.length, .fn 23 [] [.ptr 1000000001 0]] (hpD l nm) (.al true 1000000000 1 l.length) (hpD l nm) := by
  have h1 := indexFunc_spec l nm hl
  rw [show idxI nm l = -1 by unfold idxI; rw [hn]] at h1
  refine AMem.intro (tyOf_ok Try.prog) hmix Try.func21 rfl (by rfl) (by kernel_rfl) (by show 2 ≤ _; decide) rfl ?_
  conv => whnf
  refine apb [1000000000, 1000000001] h1 ?_ (hq := ⟨by simp, trivial⟩)
  conv => whnf
  exact ⟨.inl rfl, ⟨rfl, rfl, rfl⟩, ⟨.inl rfl, trivial⟩, trivial⟩
theorem delSome_spec (l : List ByteArray) (nm : ByteArray) (hl : l.length ≤ 2097152) {i0 : Nat} (hn : idxF nm l = some i0) : AMem Try.prog 21 [.al true 1000000000 1 l.length, .fn 23 [] [.ptr 1000000001 0]] (hpD l nm) (.al true 41 1 (cut nm l).length) [(1000000000, .dead), (1000000001, .cells [.p (.s nm)]), (41, .gr true 1 ((cut nm l).map eStr))] := by
  have h1 := indexFunc_spec l nm hl
  obtain ⟨hi0, hi1⟩ := idx_some hn
  rw [show idxI nm l = i0 by unfold idxI; rw [hn]] at h1
  generalize hR : cut nm l = R
  refine AMem.intro (tyOf_ok Try.prog) hmix Try.func21 rfl (by rfl) (by kernel_rfl) (by show 2 ≤ _; decide) rfl ?_
  conv => whnf
  refine apb [1000000000, 1000000001] h1 ?_ (hq := ⟨by simp, trivial⟩)
  conv => whnf
  refine loopS (tyOf_ok _) hmix (by kernel_rfl) (l.length - (i0 + 1)) [0, 1, 5, 6] [1000000000, 1000000001] (fun k (s : Int × Int × List ByteArray) => [.al true 1000000000 1 l.length, .fn 23 [] [.ptr 1000000001 0], .p (.i .i64 s.1), .p (.i .i64 s.2.1)]) (fun _ s => [.gr true 1 (s.2.2.map eStr), .cells [.p (.s nm)]])
    (fun k s => DelInv nm l i0 k s) (i0, IntKind.i64.wrap (i0 + 1), l) ⟨rfl, rfl, rfl, rfl⟩ ⟨i0, rfl, by rw [wrap64 (by omega) (by omega)]; rfl, rfl, by omega, hi1.symm, rfl⟩ ?_
  intro k s hk hs
  obtain ⟨i, g1, g2, g3, g4, g5, g6⟩ := id hs
  obtain ⟨s1, s2, xs⟩ := s
  simp only at g1 g2 g3 g5 g6
  conv => whnf
  refine asplit ?_ ?_ <;> intro h2 <;> conv => whnf
  · have h2 : decide (s2 < (l.length : Int)) = true := h2
    rw [decide_eq_true_eq] at h2
    have hj : i0 + 1 + k < l.length := by omega
    obtain ⟨b, hb⟩ : ∃ b, l[i0 + 1 + k]? = some b := ⟨_, List.getElem?_eq_getElem hj⟩
    have hb2 : xs[i0 + 1 + k]? = some b := by
      have := congrArg (fun q => q[0]?) g6
      simpa [List.getElem?_drop, hb] using this
    have hn2 : s2.toNat = i0 + 1 + k := by omega
    have hn1 : s1.toNat = i := by omega
    refine aneed (show 0 ≤ s2 ∧ s2.toNat < l.length from ⟨by omega, by omega⟩) ?_
    conv => whnf
    refine aidxn (i := s2.toNat) (x := eStr b) (by rw [hn2, List.getElem?_map, hb2]; rfl) ?_
    conv => whnf
    refine apb [1000000001] (shutFn_spec b nm) ?_
    conv => whnf
    refine asplit ?_ ?_ <;> intro h3 <;> conv => whnf
    · have h3 : (!(b == nm)) = true := h3
      have h3 : (b == nm) = false := by simpa using h3
      refine aneed (show 0 ≤ s1 ∧ s1.toNat < l.length from ⟨by omega, by omega⟩) ?_
      conv => whnf
      refine aneed (show s1.toNat < (xs.map eStr).length by rw [List.length_map]; omega) ?_
      conv => whnf
      refine ⟨by omega, (IntKind.i64.wrap (s1 + 1), IntKind.i64.wrap (s2 + 1), xs.set s1.toNat b), ⟨?_, rfl, rfl, rfl⟩, del_yes hs hl hb h3⟩
      rw [List.map_set]; rfl
    · have h3 : (!(b == nm)) = false := h3
      have h3 : (b == nm) = true := by simpa using h3
      exact ⟨by omega, (s1, IntKind.i64.wrap (s2 + 1), xs), ⟨rfl, rfl, rfl, rfl⟩, del_no hs hl hb h3⟩
  · have h2 : decide (s2 < (l.length : Int)) = false := h2
    rw [decide_eq_false_iff_not] at h2
    have hj : i0 + 1 + k = l.length := by omega
    rw [hj, List.take_length, hR] at g5
    have hlen : R.length = i := by rw [← g5]; simp; omega
    have hn1 : s1.toNat = i := by omega
    refine aneed (show 0 ≤ s1 ∧ s1 ≤ (l.length : Int) from ⟨by omega, by omega⟩) ?_
    conv => whnf
    refine aneed (show 0 ≤ s1 ∧ s1 ≤ (l.length : Int) ∧ s1 ≤ (((xs.map eStr).take s1.toNat).length : Int) from ⟨by omega, by omega, by rw [List.length_take, List.length_map]; omega⟩) ?_
    conv => whnf
    have e1 : s1.toNat = R.length := by omega
    have e2 : ((xs.map eStr).take s1.toNat).take s1.toNat = R.map eStr := by rw [List.take_take, Nat.min_self, hn1, ← List.map_take, g5]
    exact ⟨.inl (congrArg (AV.al true 41 1) e1), trivial, ⟨.inl rfl, trivial⟩, ⟨rfl, rfl, e2⟩, trivial⟩
theorem delEmpty_spec (nm : ByteArray) : AMem Try.prog 21 [.p (.sl 1 []), .fn 23 [] [.ptr 1000000000 0]] [(1000000000, .cells [.p (.s nm)])] (.p (.sl 1 [])) [(1000000000, .cells [.p (.s nm)])] := by
  have h1 := indexFunc_spec [] nm (by simp)
  refine AMem.intro (tyOf_ok Try.prog) hmix Try.func21 rfl (by rfl) (by kernel_rfl) (by show 2 ≤ _; decide) rfl ?_
  conv => whnf
  refine apb [1000000000] h1 ?_
  conv => whnf
  exact ⟨.inl rfl, ⟨.inl rfl, trivial⟩, trivial⟩
theorem cloneO_spec (a : ByteArray) (r : List ByteArray) (h : (a :: r).length ≤ 2097152) : AMem Try.prog 22 [.p (.sl 1 ((a :: r).map eStr))] [] (.al true 7 1 (a :: r).length) [(7, .gr true 1 ((a :: r).map eStr))] := by
  refine AMem.intro ((tyOf_ok Try.prog).hint 30 [5]) hmix Try.func22 rfl (by rfl) (by kernel_rfl) (by show 1 ≤ _; decide) rfl ?_
  conv => whnf
  refine aneed ⟨rfl, (show (([] : List PV).length + ((a :: r).map eStr).length) * 16 ≤ 140737488355328 by simp at h ⊢; omega)⟩ ?_
  conv => whnf
  exact ⟨.inl (congrArg (AV.al true 7 1) (by simp)), ⟨rfl, rfl, rfl⟩, trivial⟩
theorem cloneN_spec : APure Try.prog 22 [.p (.sl 1 [])] (.p (.sl 1 [])) := by
  refine APure.nilOrNot (pre := []) (post := []) (sz := 1) ?_ ?_
  · refine APure.intro (tyOf_ok Try.prog) hmix Try.func22 rfl (by rfl) (by kernel_rfl) (by show 1 ≤ _; decide) rfl ?_
    conv => whnf
    exact .inr (.inl rfl)
  · refine APure.intro (tyOf_ok Try.prog) hmix Try.func22 rfl (by rfl) (by kernel_rfl) (by show 1 ≤ _; decide) rfl ?_
    conv => whnf
    refine aneed (by decide) ?_
    conv => whnf
    exact .inr (.inl rfl)
end TR
