/-
  DERIVED. Contracts of the functions that the law reaches, and the law itself, for every input. No conditions.
-/
import Derived.Test.YtbggmlepkjbbhaaDoorLS7
open Go Go.AM Go.Proofs
set_option maxRecDepth 100000
namespace TR
/-! without -/
def woL {α : Type} (l : List α) (k : Int) : List α := bif decide (k < 0) || decide (k ≥ l.length) then l else l.take k.toNat ++ l.drop (k.toNat + 1)
def woK {α : Type} (l : List α) (k : Int) : Int := bif decide (k < 0) || decide (k ≥ l.length) then k - l.length else -1
theorem woUse (l : List LUse) (k : Int) (hl : l.length ≤ 1048576) (h0 : 0 ≤ k) (hk : k ≤ 8388608) : APure Tryd.prog 13 [.p (.sl 3 (l.map elUse)), .p (.i .i64 k)] (.tup [.p (.sl 3 ((woL l k).map elUse)), .p (.i .i64 (woK l k))]) := by
  have hln : (l.map elUse).length = l.length := List.length_map _
  refine APure.intro (tyOf_ok Tryd.prog) hmix Tryd.func13 rfl (by rfl) (by kernel_rfl) (by show 2 ≤ _; decide) rfl ?_
  conv => whnf
  refine asf (decide_eq_false (by omega)) ?_
  conv => whnf
  refine asplit ?_ ?_ <;> intro h1 <;> conv => whnf
  · rw [hln] at h1
    have e1 : woL l k = l := by rw [woL, h1, Bool.or_true]; rfl
    have e2 : woK l k = IntKind.i64.wrap (k - ((l.map elUse).length : Int)) := by rw [woK, h1, Bool.or_true, hln, wrap64 (by omega) (by omega)]; rfl
    exact .inl (by rw [e1, e2]; rfl)
  · rw [hln] at h1
    have hlt : k < l.length := by have := of_decide_eq_false h1; omega
    have w1 : IntKind.i64.wrap (k + 1) = k + 1 := wrap64 (by omega) (by omega)
    refine aneed (by rw [hln]; omega) ?_
    conv => whnf
    refine aneed (Nat.le_trans (Nat.mul_le_mul_left _ (Nat.le_of_ble_eq_true (show Nat.ble _ 512 = true by rfl))) (by simp; omega)) ?_
    conv => whnf
    refine aneed (by rw [hln, w1]; omega) ?_
    conv => whnf
    refine aneed (Nat.le_trans (Nat.mul_le_mul_left _ (Nat.le_of_ble_eq_true (show Nat.ble _ 512 = true by rfl))) (by simp; omega)) ?_
    conv => whnf
    refine aneed (by kernel_rfl) ?_
    conv => whnf
    have e1 : (woL l k).map elUse = [] ++ List.drop (Int.toNat 0) (List.take k.toNat (l.map elUse)) ++ List.drop (IntKind.i64.wrap (k + 1)).toNat (List.take ((l.map elUse).length : Int).toNat (l.map elUse)) := by
      rw [woL, h1, show decide (k < 0) = false from decide_eq_false (by omega), w1]
      rw [show (k + 1).toNat = k.toNat + 1 by omega]
      simp
      rw [List.take_of_length_le (Nat.le_of_eq hln)]
    have e2 : woK l k = -1 := by rw [woK, h1, show decide (k < 0) = false from decide_eq_false (by omega)]; rfl
    exact .inl (by rw [e1, e2]; rfl)
theorem woDt (l : List LDt) (k : Int) (hl : l.length ≤ 1048576) (h0 : 0 ≤ k) (hk : k ≤ 8388608) : APure Tryd.prog 15 [.p (.sl 3 (l.map elDt)), .p (.i .i64 k)] (.tup [.p (.sl 3 ((woL l k).map elDt)), .p (.i .i64 (woK l k))]) := by
  have hln : (l.map elDt).length = l.length := List.length_map _
  refine APure.intro (tyOf_ok Tryd.prog) hmix Tryd.func15 rfl (by rfl) (by kernel_rfl) (by show 2 ≤ _; decide) rfl ?_
  conv => whnf
  refine asf (decide_eq_false (by omega)) ?_
  conv => whnf
  refine asplit ?_ ?_ <;> intro h1 <;> conv => whnf
  · rw [hln] at h1
    have e1 : woL l k = l := by rw [woL, h1, Bool.or_true]; rfl
    have e2 : woK l k = IntKind.i64.wrap (k - ((l.map elDt).length : Int)) := by rw [woK, h1, Bool.or_true, hln, wrap64 (by omega) (by omega)]; rfl
    exact .inl (by rw [e1, e2]; rfl)
  · rw [hln] at h1
    have hlt : k < l.length := by have := of_decide_eq_false h1; omega
    have w1 : IntKind.i64.wrap (k + 1) = k + 1 := wrap64 (by omega) (by omega)
    refine aneed (by rw [hln]; omega) ?_
    conv => whnf
    refine aneed (Nat.le_trans (Nat.mul_le_mul_left _ (Nat.le_of_ble_eq_true (show Nat.ble _ 512 = true by rfl))) (by simp; omega)) ?_
    conv => whnf
    refine aneed (by rw [hln, w1]; omega) ?_
    conv => whnf
    refine aneed (Nat.le_trans (Nat.mul_le_mul_left _ (Nat.le_of_ble_eq_true (show Nat.ble _ 512 = true by rfl))) (by simp; omega)) ?_
    conv => whnf
    refine aneed (by kernel_rfl) ?_
    conv => whnf
    have e1 : (woL l k).map elDt = [] ++ List.drop (Int.toNat 0) (List.take k.toNat (l.map elDt)) ++ List.drop (IntKind.i64.wrap (k + 1)).toNat (List.take ((l.map elDt).length : Int).toNat (l.map elDt)) := by
      rw [woL, h1, show decide (k < 0) = false from decide_eq_false (by omega), w1]
      rw [show (k + 1).toNat = k.toNat + 1 by omega]
      simp
      rw [List.take_of_length_le (Nat.le_of_eq hln)]
    have e2 : woK l k = -1 := by rw [woK, h1, show decide (k < 0) = false from decide_eq_false (by omega)]; rfl
    exact .inl (by rw [e1, e2]; rfl)
theorem woTr (l : List LTr) (k : Int) (hl : l.length ≤ 1048576) (h0 : 0 ≤ k) (hk : k ≤ 8388608) : APure Tryd.prog 17 [.p (.sl 2 (l.map elTr)), .p (.i .i64 k)] (.tup [.p (.sl 2 ((woL l k).map elTr)), .p (.i .i64 (woK l k))]) := by
  have hln : (l.map elTr).length = l.length := List.length_map _
  refine APure.intro (tyOf_ok Tryd.prog) hmix Tryd.func17 rfl (by rfl) (by kernel_rfl) (by show 2 ≤ _; decide) rfl ?_
  conv => whnf
  refine asf (decide_eq_false (by omega)) ?_
  conv => whnf
  refine asplit ?_ ?_ <;> intro h1 <;> conv => whnf
  · rw [hln] at h1
    have e1 : woL l k = l := by rw [woL, h1, Bool.or_true]; rfl
    have e2 : woK l k = IntKind.i64.wrap (k - ((l.map elTr).length : Int)) := by rw [woK, h1, Bool.or_true, hln, wrap64 (by omega) (by omega)]; rfl
    exact .inl (by rw [e1, e2]; rfl)
  · rw [hln] at h1
    have hlt : k < l.length := by have := of_decide_eq_false h1; omega
    have w1 : IntKind.i64.wrap (k + 1) = k + 1 := wrap64 (by omega) (by omega)
    refine aneed (by rw [hln]; omega) ?_
    conv => whnf
    refine aneed (Nat.le_trans (Nat.mul_le_mul_left _ (Nat.le_of_ble_eq_true (show Nat.ble _ 512 = true by rfl))) (by simp; omega)) ?_
    conv => whnf
    refine aneed (by rw [hln, w1]; omega) ?_
    conv => whnf
    refine aneed (Nat.le_trans (Nat.mul_le_mul_left _ (Nat.le_of_ble_eq_true (show Nat.ble _ 512 = true by rfl))) (by simp; omega)) ?_
    conv => whnf
    refine aneed (by kernel_rfl) ?_
    conv => whnf
    have e1 : (woL l k).map elTr = [] ++ List.drop (Int.toNat 0) (List.take k.toNat (l.map elTr)) ++ List.drop (IntKind.i64.wrap (k + 1)).toNat (List.take ((l.map elTr).length : Int).toNat (l.map elTr)) := by
      rw [woL, h1, show decide (k < 0) = false from decide_eq_false (by omega), w1]
      rw [show (k + 1).toNat = k.toNat + 1 by omega]
      simp
      rw [List.take_of_length_le (Nat.le_of_eq hln)]
    have e2 : woK l k = -1 := by rw [woK, h1, show decide (k < 0) = false from decide_eq_false (by omega)]; rfl
    exact .inl (by rw [e1, e2]; rfl)
theorem woIm (l : List LIm) (k : Int) (hl : l.length ≤ 1048576) (h0 : 0 ≤ k) (hk : k ≤ 8388608) : APure Tryd.prog 19 [.p (.sl 3 (l.map elIm)), .p (.i .i64 k)] (.tup [.p (.sl 3 ((woL l k).map elIm)), .p (.i .i64 (woK l k))]) := by
  have hln : (l.map elIm).length = l.length := List.length_map _
  refine APure.intro (tyOf_ok Tryd.prog) hmix Tryd.func19 rfl (by rfl) (by kernel_rfl) (by show 2 ≤ _; decide) rfl ?_
  conv => whnf
  refine asf (decide_eq_false (by omega)) ?_
  conv => whnf
  refine asplit ?_ ?_ <;> intro h1 <;> conv => whnf
  · rw [hln] at h1
    have e1 : woL l k = l := by rw [woL, h1, Bool.or_true]; rfl
    have e2 : woK l k = IntKind.i64.wrap (k - ((l.map elIm).length : Int)) := by rw [woK, h1, Bool.or_true, hln, wrap64 (by omega) (by omega)]; rfl
    exact .inl (by rw [e1, e2]; rfl)
  · rw [hln] at h1
    have hlt : k < l.length := by have := of_decide_eq_false h1; omega
    have w1 : IntKind.i64.wrap (k + 1) = k + 1 := wrap64 (by omega) (by omega)
    refine aneed (by rw [hln]; omega) ?_
    conv => whnf
    refine aneed (Nat.le_trans (Nat.mul_le_mul_left _ (Nat.le_of_ble_eq_true (show Nat.ble _ 512 = true by rfl))) (by simp; omega)) ?_
    conv => whnf
    refine aneed (by rw [hln, w1]; omega) ?_
    conv => whnf
    refine aneed (Nat.le_trans (Nat.mul_le_mul_left _ (Nat.le_of_ble_eq_true (show Nat.ble _ 512 = true by rfl))) (by simp; omega)) ?_
    conv => whnf
    refine aneed (by kernel_rfl) ?_
    conv => whnf
    have e1 : (woL l k).map elIm = [] ++ List.drop (Int.toNat 0) (List.take k.toNat (l.map elIm)) ++ List.drop (IntKind.i64.wrap (k + 1)).toNat (List.take ((l.map elIm).length : Int).toNat (l.map elIm)) := by
      rw [woL, h1, show decide (k < 0) = false from decide_eq_false (by omega), w1]
      rw [show (k + 1).toNat = k.toNat + 1 by omega]
      simp
      rw [List.take_of_length_le (Nat.le_of_eq hln)]
    have e2 : woK l k = -1 := by rw [woK, h1, show decide (k < 0) = false from decide_eq_false (by omega)]; rfl
    exact .inl (by rw [e1, e2]; rfl)
theorem woFu (l : List LFu) (k : Int) (hl : l.length ≤ 1048576) (h0 : 0 ≤ k) (hk : k ≤ 8388608) : APure Tryd.prog 21 [.p (.sl 15 (l.map elFu)), .p (.i .i64 k)] (.tup [.p (.sl 15 ((woL l k).map elFu)), .p (.i .i64 (woK l k))]) := by
  have hln : (l.map elFu).length = l.length := List.length_map _
  refine APure.intro (tyOf_ok Tryd.prog) hmix Tryd.func21 rfl (by rfl) (by kernel_rfl) (by show 2 ≤ _; decide) rfl ?_
  conv => whnf
  refine asf (decide_eq_false (by omega)) ?_
  conv => whnf
  refine asplit ?_ ?_ <;> intro h1 <;> conv => whnf
  · rw [hln] at h1
    have e1 : woL l k = l := by rw [woL, h1, Bool.or_true]; rfl
    have e2 : woK l k = IntKind.i64.wrap (k - ((l.map elFu).length : Int)) := by rw [woK, h1, Bool.or_true, hln, wrap64 (by omega) (by omega)]; rfl
    exact .inl (by rw [e1, e2]; rfl)
  · rw [hln] at h1
    have hlt : k < l.length := by have := of_decide_eq_false h1; omega
    have w1 : IntKind.i64.wrap (k + 1) = k + 1 := wrap64 (by omega) (by omega)
    refine aneed (by rw [hln]; omega) ?_
    conv => whnf
    refine aneed (Nat.le_trans (Nat.mul_le_mul_left _ (Nat.le_of_ble_eq_true (show Nat.ble _ 512 = true by rfl))) (by simp; omega)) ?_
    conv => whnf
    refine aneed (by rw [hln, w1]; omega) ?_
    conv => whnf
    refine aneed (Nat.le_trans (Nat.mul_le_mul_left _ (Nat.le_of_ble_eq_true (show Nat.ble _ 512 = true by rfl))) (by simp; omega)) ?_
    conv => whnf
    refine aneed (by kernel_rfl) ?_
    conv => whnf
    have e1 : (woL l k).map elFu = [] ++ List.drop (Int.toNat 0) (List.take k.toNat (l.map elFu)) ++ List.drop (IntKind.i64.wrap (k + 1)).toNat (List.take ((l.map elFu).length : Int).toNat (l.map elFu)) := by
      rw [woL, h1, show decide (k < 0) = false from decide_eq_false (by omega), w1]
      rw [show (k + 1).toNat = k.toNat + 1 by omega]
      simp
      rw [List.take_of_length_le (Nat.le_of_eq hln)]
    have e2 : woK l k = -1 := by rw [woK, h1, show decide (k < 0) = false from decide_eq_false (by omega)]; rfl
    exact .inl (by rw [e1, e2]; rfl)
theorem woAc (l : List LAc) (k : Int) (hl : l.length ≤ 1048576) (h0 : 0 ≤ k) (hk : k ≤ 8388608) : APure Tryd.prog 23 [.p (.sl 14 (l.map elAc)), .p (.i .i64 k)] (.tup [.p (.sl 14 ((woL l k).map elAc)), .p (.i .i64 (woK l k))]) := by
  have hln : (l.map elAc).length = l.length := List.length_map _
  refine APure.intro (tyOf_ok Tryd.prog) hmix Tryd.func23 rfl (by rfl) (by kernel_rfl) (by show 2 ≤ _; decide) rfl ?_
  conv => whnf
  refine asf (decide_eq_false (by omega)) ?_
  conv => whnf
  refine asplit ?_ ?_ <;> intro h1 <;> conv => whnf
  · rw [hln] at h1
    have e1 : woL l k = l := by rw [woL, h1, Bool.or_true]; rfl
    have e2 : woK l k = IntKind.i64.wrap (k - ((l.map elAc).length : Int)) := by rw [woK, h1, Bool.or_true, hln, wrap64 (by omega) (by omega)]; rfl
    exact .inl (by rw [e1, e2]; rfl)
  · rw [hln] at h1
    have hlt : k < l.length := by have := of_decide_eq_false h1; omega
    have w1 : IntKind.i64.wrap (k + 1) = k + 1 := wrap64 (by omega) (by omega)
    refine aneed (by rw [hln]; omega) ?_
    conv => whnf
    refine aneed (Nat.le_trans (Nat.mul_le_mul_left _ (Nat.le_of_ble_eq_true (show Nat.ble _ 512 = true by rfl))) (by simp; omega)) ?_
    conv => whnf
    refine aneed (by rw [hln, w1]; omega) ?_
    conv => whnf
    refine aneed (Nat.le_trans (Nat.mul_le_mul_left _ (Nat.le_of_ble_eq_true (show Nat.ble _ 512 = true by rfl))) (by simp; omega)) ?_
    conv => whnf
    refine aneed (by kernel_rfl) ?_
    conv => whnf
    have e1 : (woL l k).map elAc = [] ++ List.drop (Int.toNat 0) (List.take k.toNat (l.map elAc)) ++ List.drop (IntKind.i64.wrap (k + 1)).toNat (List.take ((l.map elAc).length : Int).toNat (l.map elAc)) := by
      rw [woL, h1, show decide (k < 0) = false from decide_eq_false (by omega), w1]
      rw [show (k + 1).toNat = k.toNat + 1 by omega]
      simp
      rw [List.take_of_length_le (Nat.le_of_eq hln)]
    have e2 : woK l k = -1 := by rw [woK, h1, show decide (k < 0) = false from decide_eq_false (by omega)]; rfl
    exact .inl (by rw [e1, e2]; rfl)
end TR
open Go Go.AM Go.Proofs
set_option maxRecDepth 100000
namespace TR
def st1 (s : LPg × Int) : LPg × Int := ({ s.1 with uses := woL s.1.uses s.2 }, woK s.1.uses s.2)
theorem st1_spec (s : LPg × Int) (hl : s.1.uses.length ≤ 1048576) (h0 : 0 ≤ s.2) (hk : s.2 ≤ 8388608) : AMem Tryd.prog 12 [.ptr 1000000000 0, .ptr 1000000001 0] [(1000000000, .cells (elCells s.1)), (1000000001, .cells [.p (.i .i64 s.2)])] (.tup []) [(1000000000, .cells (elCells (st1 s).1)), (1000000001, .cells [.p (.i .i64 (st1 s).2)])] := by
  have h := woUse s.1.uses s.2 hl h0 hk
  obtain ⟨⟨nm, ve, us, ds, ts, is, fs, acs⟩, k⟩ := s
  rw [st1]
  simp only at *
  generalize woK us k = q at *
  generalize woL us k = u at *
  refine AMem.intro (tyOf_ok Tryd.prog) hmix Tryd.func12 rfl (by rfl) (by kernel_rfl) (by show 2 ≤ _; decide) rfl ?_
  conv => whnf
  refine apc h ?_
  conv => whnf
  exact ⟨.inl rfl, ⟨.inl rfl, .inl rfl, .inl rfl, .inl rfl, .inl rfl, .inl rfl, .inl rfl, .inl rfl, trivial⟩, ⟨.inl rfl, trivial⟩, trivial⟩
def st2 (s : LPg × Int) : LPg × Int := ({ s.1 with datas := woL s.1.datas s.2 }, woK s.1.datas s.2)
theorem st2_spec (s : LPg × Int) (hl : s.1.datas.length ≤ 1048576) (h0 : 0 ≤ s.2) (hk : s.2 ≤ 8388608) : AMem Tryd.prog 14 [.ptr 1000000000 0, .ptr 1000000001 0] [(1000000000, .cells (elCells s.1)), (1000000001, .cells [.p (.i .i64 s.2)])] (.tup []) [(1000000000, .cells (elCells (st2 s).1)), (1000000001, .cells [.p (.i .i64 (st2 s).2)])] := by
  have h := woDt s.1.datas s.2 hl h0 hk
  obtain ⟨⟨nm, ve, us, ds, ts, is, fs, acs⟩, k⟩ := s
  rw [st2]
  simp only at *
  generalize woK ds k = q at *
  generalize woL ds k = u at *
  refine AMem.intro (tyOf_ok Tryd.prog) hmix Tryd.func14 rfl (by rfl) (by kernel_rfl) (by show 2 ≤ _; decide) rfl ?_
  conv => whnf
  refine apc h ?_
  conv => whnf
  exact ⟨.inl rfl, ⟨.inl rfl, .inl rfl, .inl rfl, .inl rfl, .inl rfl, .inl rfl, .inl rfl, .inl rfl, trivial⟩, ⟨.inl rfl, trivial⟩, trivial⟩
def st3 (s : LPg × Int) : LPg × Int := ({ s.1 with traits := woL s.1.traits s.2 }, woK s.1.traits s.2)
theorem st3_spec (s : LPg × Int) (hl : s.1.traits.length ≤ 1048576) (h0 : 0 ≤ s.2) (hk : s.2 ≤ 8388608) : AMem Tryd.prog 16 [.ptr 1000000000 0, .ptr 1000000001 0] [(1000000000, .cells (elCells s.1)), (1000000001, .cells [.p (.i .i64 s.2)])] (.tup []) [(1000000000, .cells (elCells (st3 s).1)), (1000000001, .cells [.p (.i .i64 (st3 s).2)])] := by
  have h := woTr s.1.traits s.2 hl h0 hk
  obtain ⟨⟨nm, ve, us, ds, ts, is, fs, acs⟩, k⟩ := s
  rw [st3]
  simp only at *
  generalize woK ts k = q at *
  generalize woL ts k = u at *
  refine AMem.intro (tyOf_ok Tryd.prog) hmix Tryd.func16 rfl (by rfl) (by kernel_rfl) (by show 2 ≤ _; decide) rfl ?_
  conv => whnf
  refine apc h ?_
  conv => whnf
  exact ⟨.inl rfl, ⟨.inl rfl, .inl rfl, .inl rfl, .inl rfl, .inl rfl, .inl rfl, .inl rfl, .inl rfl, trivial⟩, ⟨.inl rfl, trivial⟩, trivial⟩
def st4 (s : LPg × Int) : LPg × Int := ({ s.1 with impls := woL s.1.impls s.2 }, woK s.1.impls s.2)
theorem st4_spec (s : LPg × Int) (hl : s.1.impls.length ≤ 1048576) (h0 : 0 ≤ s.2) (hk : s.2 ≤ 8388608) : AMem Tryd.prog 18 [.ptr 1000000000 0, .ptr 1000000001 0] [(1000000000, .cells (elCells s.1)), (1000000001, .cells [.p (.i .i64 s.2)])] (.tup []) [(1000000000, .cells (elCells (st4 s).1)), (1000000001, .cells [.p (.i .i64 (st4 s).2)])] := by
  have h := woIm s.1.impls s.2 hl h0 hk
  obtain ⟨⟨nm, ve, us, ds, ts, is, fs, acs⟩, k⟩ := s
  rw [st4]
  simp only at *
  generalize woK is k = q at *
  generalize woL is k = u at *
  refine AMem.intro (tyOf_ok Tryd.prog) hmix Tryd.func18 rfl (by rfl) (by kernel_rfl) (by show 2 ≤ _; decide) rfl ?_
  conv => whnf
  refine apc h ?_
  conv => whnf
  exact ⟨.inl rfl, ⟨.inl rfl, .inl rfl, .inl rfl, .inl rfl, .inl rfl, .inl rfl, .inl rfl, .inl rfl, trivial⟩, ⟨.inl rfl, trivial⟩, trivial⟩
def st5 (s : LPg × Int) : LPg × Int := ({ s.1 with funcs := woL s.1.funcs s.2 }, woK s.1.funcs s.2)
theorem st5_spec (s : LPg × Int) (hl : s.1.funcs.length ≤ 1048576) (h0 : 0 ≤ s.2) (hk : s.2 ≤ 8388608) : AMem Tryd.prog 20 [.ptr 1000000000 0, .ptr 1000000001 0] [(1000000000, .cells (elCells s.1)), (1000000001, .cells [.p (.i .i64 s.2)])] (.tup []) [(1000000000, .cells (elCells (st5 s).1)), (1000000001, .cells [.p (.i .i64 (st5 s).2)])] := by
  have h := woFu s.1.funcs s.2 hl h0 hk
  obtain ⟨⟨nm, ve, us, ds, ts, is, fs, acs⟩, k⟩ := s
  rw [st5]
  simp only at *
  generalize woK fs k = q at *
  generalize woL fs k = u at *
  refine AMem.intro (tyOf_ok Tryd.prog) hmix Tryd.func20 rfl (by rfl) (by kernel_rfl) (by show 2 ≤ _; decide) rfl ?_
  conv => whnf
  refine apc h ?_
  conv => whnf
  exact ⟨.inl rfl, ⟨.inl rfl, .inl rfl, .inl rfl, .inl rfl, .inl rfl, .inl rfl, .inl rfl, .inl rfl, trivial⟩, ⟨.inl rfl, trivial⟩, trivial⟩
def st6 (s : LPg × Int) : LPg × Int := ({ s.1 with actors := woL s.1.actors s.2 }, woK s.1.actors s.2)
theorem st6_spec (s : LPg × Int) (hl : s.1.actors.length ≤ 1048576) (h0 : 0 ≤ s.2) (hk : s.2 ≤ 8388608) : AMem Tryd.prog 22 [.ptr 1000000000 0, .ptr 1000000001 0] [(1000000000, .cells (elCells s.1)), (1000000001, .cells [.p (.i .i64 s.2)])] (.tup []) [(1000000000, .cells (elCells (st6 s).1)), (1000000001, .cells [.p (.i .i64 (st6 s).2)])] := by
  have h := woAc s.1.actors s.2 hl h0 hk
  obtain ⟨⟨nm, ve, us, ds, ts, is, fs, acs⟩, k⟩ := s
  rw [st6]
  simp only at *
  generalize woK acs k = q at *
  generalize woL acs k = u at *
  refine AMem.intro (tyOf_ok Tryd.prog) hmix Tryd.func22 rfl (by rfl) (by kernel_rfl) (by show 2 ≤ _; decide) rfl ?_
  conv => whnf
  refine apc h ?_
  conv => whnf
  exact ⟨.inl rfl, ⟨.inl rfl, .inl rfl, .inl rfl, .inl rfl, .inl rfl, .inl rfl, .inl rfl, .inl rfl, trivial⟩, ⟨.inl rfl, trivial⟩, trivial⟩
def partsN (p : LPg) : Nat := p.uses.length + p.datas.length + p.traits.length + p.impls.length + p.funcs.length + p.actors.length
theorem partsN_spec (p : LPg) (h1 : p.uses.length ≤ 1048576) (h2 : p.datas.length ≤ 1048576) (h3 : p.traits.length ≤ 1048576) (h4 : p.impls.length ≤ 1048576) (h5 : p.funcs.length ≤ 1048576) (h6 : p.actors.length ≤ 1048576) :
    APure Tryd.prog 11 [.p (elPg p)] (.p (.i .i64 (partsN p))) := by
  rw [partsN]
  obtain ⟨nm, ve, us, ds, ts, is, fs, acs⟩ := p
  simp only at *
  refine APure.intro (tyOf_ok Tryd.prog) hmix Tryd.func11 rfl (by rfl) (by kernel_rfl) (by show 1 ≤ _; decide) rfl ?_
  conv => whnf
  refine .inl (pi ?_)
  simp only [List.length_map]
  rw [wrap64 (x := (us.length : Int) + _) (by omega) (by omega), wrap64 (x := (us.length : Int) + _ + _) (by omega) (by omega), wrap64 (x := (us.length : Int) + _ + _ + _) (by omega) (by omega), wrap64 (x := (us.length : Int) + _ + _ + _ + _) (by omega) (by omega), wrap64 (by omega) (by omega)]
  omega
/-- what stays -/
structure SubP (p q : LPg) : Prop where
  name : q.name = p.name
  ver : q.ver = p.ver
  uses : q.uses.Sublist p.uses
  datas : q.datas.Sublist p.datas
  traits : q.traits.Sublist p.traits
  impls : q.impls.Sublist p.impls
  funcs : q.funcs.Sublist p.funcs
  actors : q.actors.Sublist p.actors
theorem SubP.refl (p : LPg) : SubP p p := ⟨rfl, rfl, .refl _, .refl _, .refl _, .refl _, .refl _, .refl _⟩
theorem woL_sub {α : Type} (l : List α) (k : Int) : (woL l k).Sublist l := by
  rw [woL]
  cases decide (k < 0) || decide (k ≥ l.length) with
  | true => exact .refl _
  | false =>
    have h : (l.take k.toNat ++ l.drop (k.toNat + 1)).Sublist (l.take k.toNat ++ l.drop k.toNat) := List.Sublist.append (.refl _) (by rw [← List.tail_drop]; exact List.tail_sublist _)
    rw [List.take_append_drop] at h
    exact h
def runW : List (LPg × Int → LPg × Int) → LPg × Int → LPg
  | [], s => s.1
  | f :: r, s => bif decide ((f s).2 < 0) then (f s).1 else runW r (f s)
def stepsW : List (LPg × Int → LPg × Int) := [st1, st2, st3, st4, st5, st6]
theorem woK_le {α : Type} (l : List α) (k : Int) (h : k ≤ 8388608) : woK l k ≤ 8388608 := by
  rw [woK]
  cases decide (k < 0) || decide (k ≥ l.length) <;> simp <;> omega
def okL (p : LPg) : Prop := p.uses.length ≤ 1048576 ∧ p.datas.length ≤ 1048576 ∧ p.traits.length ≤ 1048576 ∧ p.impls.length ≤ 1048576 ∧ p.funcs.length ≤ 1048576 ∧ p.actors.length ≤ 1048576
theorem SubP.ok {p q : LPg} (h : SubP p q) (hp : okL p) : okL q := by
  obtain ⟨a, b, c, d, e, f⟩ := hp
  exact ⟨Nat.le_trans h.uses.length_le a, Nat.le_trans h.datas.length_le b, Nat.le_trans h.traits.length_le c, Nat.le_trans h.impls.length_le d, Nat.le_trans h.funcs.length_le e, Nat.le_trans h.actors.length_le f⟩
theorem st_sub (f : LPg × Int → LPg × Int) (hf : f ∈ stepsW) (s : LPg × Int) : SubP s.1 (f s).1 ∧ (s.2 ≤ 8388608 → (f s).2 ≤ 8388608) := by
  simp only [stepsW, List.mem_cons, List.not_mem_nil, or_false] at hf
  rcases hf with rfl | rfl | rfl | rfl | rfl | rfl
  · exact ⟨⟨rfl, rfl, woL_sub _ _, .refl _, .refl _, .refl _, .refl _, .refl _⟩, woK_le _ _⟩
  · exact ⟨⟨rfl, rfl, .refl _, woL_sub _ _, .refl _, .refl _, .refl _, .refl _⟩, woK_le _ _⟩
  · exact ⟨⟨rfl, rfl, .refl _, .refl _, woL_sub _ _, .refl _, .refl _, .refl _⟩, woK_le _ _⟩
  · exact ⟨⟨rfl, rfl, .refl _, .refl _, .refl _, woL_sub _ _, .refl _, .refl _⟩, woK_le _ _⟩
  · exact ⟨⟨rfl, rfl, .refl _, .refl _, .refl _, .refl _, woL_sub _ _, .refl _⟩, woK_le _ _⟩
  · exact ⟨⟨rfl, rfl, .refl _, .refl _, .refl _, .refl _, .refl _, woL_sub _ _⟩, woK_le _ _⟩
theorem SubP.trans {p q r : LPg} (h : SubP p q) (k : SubP q r) : SubP p r :=
  ⟨k.name.trans h.name, k.ver.trans h.ver, k.uses.trans h.uses, k.datas.trans h.datas, k.traits.trans h.traits, k.impls.trans h.impls, k.funcs.trans h.funcs, k.actors.trans h.actors⟩
theorem run_sub : ∀ (l : List (LPg × Int → LPg × Int)) (s : LPg × Int), (∀ f ∈ l, f ∈ stepsW) → SubP s.1 (runW l s)
  | [], s, _ => .refl _
  | f :: r, s, h => by
    rw [runW]
    have h1 := (st_sub f (h f (by simp)) s).1
    cases decide ((f s).2 < 0) with
    | true => exact h1
    | false => exact h1.trans (run_sub r (f s) (fun g hg => h g (by simp [hg])))
end TR
open Go Go.AM Go.Proofs
set_option maxRecDepth 100000
namespace TR
def p0L : LPg := ⟨⟨#[]⟩, 0, [], [], [], [], [], []⟩
def fnsW : List AV := [.fn 12 [] [.ptr 2 0, .ptr 3 0], .fn 14 [] [.ptr 2 0, .ptr 3 0], .fn 16 [] [.ptr 2 0, .ptr 3 0], .fn 18 [] [.ptr 2 0, .ptr 3 0], .fn 20 [] [.ptr 2 0, .ptr 3 0], .fn 22 [] [.ptr 2 0, .ptr 3 0]]
theorem without_bad (p : LPg) (k : Int) (n : Nat) (hp : APure Tryd.prog 11 [.p (elPg p)] (.p (.i .i64 n))) (hb : k < 0 ∨ k ≥ n) : APure Tryd.prog 5 [.p (elPg p), .p (.i .i64 k)] (.tup [.p (elPg p0L), .p (.i .i64 4)]) := by
  obtain ⟨nm, ve, us, ds, ts, is, fs, acs⟩ := p
  refine APure.intro (tyOf_ok Tryd.prog) hmix Tryd.func5 rfl (by rfl) (by kernel_rfl) (by show 2 ≤ _; decide) rfl ?_
  conv => whnf
  refine asplit ?_ ?_ <;> intro h1 <;> conv => whnf
  · refine aneed (by kernel_rfl) ?_
    conv => whnf
    exact .inl rfl
  refine apc hp ?_
  conv => whnf
  refine aneed (by kernel_rfl) ?_
  conv => whnf
  refine ast (decide_eq_true (by have := of_decide_eq_false h1; omega)) ?_
  conv => whnf
  exact .inl rfl
theorem without_ok (p : LPg) (k : Int) (n : Nat) (hp : APure Tryd.prog 11 [.p (elPg p)] (.p (.i .i64 n))) (h0 : 0 ≤ k) (hk : k < n) (hn : n ≤ 8388608) (hok : okL p) : APure Tryd.prog 5 [.p (elPg p), .p (.i .i64 k)] (.tup [.p (elPg (runW stepsW (p, k))), .p (.i .i64 0)]) := by
  have q1 := fun s h1 h2 h3 => st1_spec s h1 h2 h3
  generalize hR : runW stepsW (p, k) = R at *
  have hp0 : elPg p = .agg [.s p.name, .i .i64 p.ver, .sl 3 (p.uses.map elUse), .sl 3 (p.datas.map elDt), .sl 2 (p.traits.map elTr), .sl 3 (p.impls.map elIm), .sl 15 (p.funcs.map elFu), .sl 14 (p.actors.map elAc)] := rfl
  refine APure.intro (tyOf_ok Tryd.prog) hmix Tryd.func5 rfl (by rfl) (by kernel_rfl) (by show 2 ≤ _; decide) rfl ?_
  conv => whnf
  refine asf (decide_eq_false (by omega)) ?_
  conv => whnf
  refine apc hp ?_
  conv => whnf
  refine aneed (by kernel_rfl) ?_
  conv => whnf
  refine asf (decide_eq_false (by omega)) ?_
  conv => whnf
  refine loopS (tyOf_ok _) hmix (by kernel_rfl) 6 [2, 3, 4, 23, 24, 25] [2, 3, 4, 23] (fun j _ => [.ptr 2 0, .ptr 3 0, .ptr 4 0, .ar 23, .p (.i .i64 (6 : Nat)), .p (.i .i64 (ix j))]) (fun _ (s : LPg × Int) => [.cells (elCells s.1), .cells [.p (.i .i64 s.2)], .cells [.p (.s ⟨#[]⟩), .p (.i .i64 0), .nilS, .nilS, .nilS, .nilS, .nilS, .nilS], .cells fnsW])
    (fun j s => runW (stepsW.drop j) s = R ∧ 0 ≤ s.2 ∧ s.2 ≤ 8388608 ∧ okL s.1) (p, k) ⟨rfl, rfl, rfl, rfl⟩ ⟨hR, h0, by simp only; omega, hok⟩ ?_
  rintro j s hj ⟨e1, e2, e3, e4⟩
  obtain ⟨o1, o2, o3, o4, o5, o6⟩ := id e4
  match j, hj with
  | 0, _ =>
      conv => whnf
      refine aneed ⟨by decide, by decide⟩ ?_
      conv => whnf
      have hs := (st_sub st1 (by simp [stepsW]) s)
      have hc := st1_spec s o1 e2 e3
      have e1 : (bif decide ((st1 s).2 < 0) then (st1 s).1 else runW (stepsW.drop 1) (st1 s)) = R := e1
      generalize st1 s = s' at *
      refine amc [2, 3] 10000 hc ?_
      conv => whnf
      refine asplit ?_ ?_ <;> intro g <;> conv => whnf
      · rw [g, cond_true] at e1
        subst e1
        exact .inl rfl
      · rw [g, cond_false] at e1
        exact ⟨by omega, s', ⟨rfl, rfl, rfl, rfl⟩, e1, by have := of_decide_eq_false g; omega, hs.2 e3, hs.1.ok e4⟩
  | 1, _ =>
      conv => whnf
      refine aneed ⟨by decide, by decide⟩ ?_
      conv => whnf
      have hs := (st_sub st2 (by simp [stepsW]) s)
      have hc := st2_spec s o2 e2 e3
      have e1 : (bif decide ((st2 s).2 < 0) then (st2 s).1 else runW (stepsW.drop 2) (st2 s)) = R := e1
      generalize st2 s = s' at *
      refine amc [2, 3] 10000 hc ?_
      conv => whnf
      refine asplit ?_ ?_ <;> intro g <;> conv => whnf
      · rw [g, cond_true] at e1
        subst e1
        exact .inl rfl
      · rw [g, cond_false] at e1
        exact ⟨by omega, s', ⟨rfl, rfl, rfl, rfl⟩, e1, by have := of_decide_eq_false g; omega, hs.2 e3, hs.1.ok e4⟩
  | 2, _ =>
      conv => whnf
      refine aneed ⟨by decide, by decide⟩ ?_
      conv => whnf
      have hs := (st_sub st3 (by simp [stepsW]) s)
      have hc := st3_spec s o3 e2 e3
      have e1 : (bif decide ((st3 s).2 < 0) then (st3 s).1 else runW (stepsW.drop 3) (st3 s)) = R := e1
      generalize st3 s = s' at *
      refine amc [2, 3] 10000 hc ?_
      conv => whnf
      refine asplit ?_ ?_ <;> intro g <;> conv => whnf
      · rw [g, cond_true] at e1
        subst e1
        exact .inl rfl
      · rw [g, cond_false] at e1
        exact ⟨by omega, s', ⟨rfl, rfl, rfl, rfl⟩, e1, by have := of_decide_eq_false g; omega, hs.2 e3, hs.1.ok e4⟩
  | 3, _ =>
      conv => whnf
      refine aneed ⟨by decide, by decide⟩ ?_
      conv => whnf
      have hs := (st_sub st4 (by simp [stepsW]) s)
      have hc := st4_spec s o4 e2 e3
      have e1 : (bif decide ((st4 s).2 < 0) then (st4 s).1 else runW (stepsW.drop 4) (st4 s)) = R := e1
      generalize st4 s = s' at *
      refine amc [2, 3] 10000 hc ?_
      conv => whnf
      refine asplit ?_ ?_ <;> intro g <;> conv => whnf
      · rw [g, cond_true] at e1
        subst e1
        exact .inl rfl
      · rw [g, cond_false] at e1
        exact ⟨by omega, s', ⟨rfl, rfl, rfl, rfl⟩, e1, by have := of_decide_eq_false g; omega, hs.2 e3, hs.1.ok e4⟩
  | 4, _ =>
      conv => whnf
      refine aneed ⟨by decide, by decide⟩ ?_
      conv => whnf
      have hs := (st_sub st5 (by simp [stepsW]) s)
      have hc := st5_spec s o5 e2 e3
      have e1 : (bif decide ((st5 s).2 < 0) then (st5 s).1 else runW (stepsW.drop 5) (st5 s)) = R := e1
      generalize st5 s = s' at *
      refine amc [2, 3] 10000 hc ?_
      conv => whnf
      refine asplit ?_ ?_ <;> intro g <;> conv => whnf
      · rw [g, cond_true] at e1
        subst e1
        exact .inl rfl
      · rw [g, cond_false] at e1
        exact ⟨by omega, s', ⟨rfl, rfl, rfl, rfl⟩, e1, by have := of_decide_eq_false g; omega, hs.2 e3, hs.1.ok e4⟩
  | 5, _ =>
      conv => whnf
      refine aneed ⟨by decide, by decide⟩ ?_
      conv => whnf
      have hs := (st_sub st6 (by simp [stepsW]) s)
      have hc := st6_spec s o6 e2 e3
      have e1 : (bif decide ((st6 s).2 < 0) then (st6 s).1 else runW (stepsW.drop 6) (st6 s)) = R := e1
      generalize st6 s = s' at *
      refine amc [2, 3] 10000 hc ?_
      conv => whnf
      refine asplit ?_ ?_ <;> intro g <;> conv => whnf
      · rw [g, cond_true] at e1
        subst e1
        exact .inl rfl
      · rw [g, cond_false] at e1
        exact ⟨by omega, s', ⟨rfl, rfl, rfl, rfl⟩, e1, by have := of_decide_eq_false g; omega, hs.2 e3, hs.1.ok e4⟩
  | 6, _ =>
    conv => whnf
    have e1 : s.1 = R := e1
    subst e1
    exact .inl rfl
end TR
open Go Go.AM Go.Proofs
set_option maxRecDepth 100000
namespace TR
/-! plain: what is right stays right without a part -/
theorem eachF_zero {α : Type} (φ : α → Int) : ∀ (l : List α), eachF φ l = 0 ↔ ∀ x ∈ l, φ x = 0
  | [] => by simp [eachF]
  | x :: r => by
    rw [eachF]
    cases h : φ x == 0 with
    | true =>
      have h := eq_of_beq h
      rw [cond_true, eachF_zero φ r]; simp [h]
    | false =>
      have h : φ x ≠ 0 := by simpa using h
      rw [cond_false]; simp [h]
theorem eachF_sub {α : Type} {φ : α → Int} {l l' : List α} (h : l'.Sublist l) (h0 : eachF φ l = 0) : eachF φ l' = 0 :=
  (eachF_zero φ l').2 fun x hx => (eachF_zero φ l).1 h0 x (h.subset hx)
theorem nextE_zero {a b : Int} : nextE a b = 0 ↔ a = 0 ∧ b = 0 := by
  rw [nextE]
  cases h : a == 0 with
  | true => have h := eq_of_beq h; simp [h]
  | false => have h : a ≠ 0 := by simpa using h
             simp [h]
theorem wts_sub {l l' : List PV} (h : l'.Sublist l) : PV.wts l' ≤ PV.wts l := by
  induction h with
  | slnil => exact Nat.le_refl _
  | cons a _ ih => simp only [PV.wts]; omega
  | cons_cons a _ ih => simp only [PV.wts]; omega
theorem rPg_zero (p : LPg) : rPg p = 0 ↔ (p.uses.length ≤ 40 ∧ p.datas.length ≤ 40 ∧ p.traits.length ≤ 40 ∧ p.impls.length ≤ 40 ∧ p.funcs.length ≤ 40 ∧ p.actors.length ≤ 40) ∧ (lowB p.name = true ∧ plainF p.ver = true) ∧ eachF rUse p.uses = 0 ∧ eachF rDt p.datas = 0 ∧ eachF rTr p.traits = 0 ∧ eachF rIm p.impls = 0 ∧ eachF rFu p.funcs = 0 ∧ eachF rAc p.actors = 0 := by
  have hb : bigF [((p.uses.map elUse).length : Int), ((p.datas.map elDt).length : Int), ((p.traits.map elTr).length : Int), ((p.impls.map elIm).length : Int), ((p.funcs.map elFu).length : Int), ((p.actors.map elAc).length : Int)] = false ↔ (p.uses.length ≤ 40 ∧ p.datas.length ≤ 40 ∧ p.traits.length ≤ 40 ∧ p.impls.length ≤ 40 ∧ p.funcs.length ≤ 40 ∧ p.actors.length ≤ 40) := by
    simp [bigF]; omega
  rw [rPg]
  cases h1 : bigF [((p.uses.map elUse).length : Int), ((p.datas.map elDt).length : Int), ((p.traits.map elTr).length : Int), ((p.impls.map elIm).length : Int), ((p.funcs.map elFu).length : Int), ((p.actors.map elAc).length : Int)] with
  | true =>
    rw [h1] at hb
    rw [cond_true]
    refine ⟨fun h => (by cases h), fun h => ?_⟩
    have := hb.2 h.1; cases this
  | false =>
    have hb := hb.1 h1
    rw [cond_false]
    cases h2 : lowB p.name with
    | false => simp
    | true =>
      cases h3 : plainF p.ver with
      | false => simp
      | true =>
        simp only [Bool.not_true, Bool.or_self, cond_false, nextE_zero, hb, true_and, and_assoc, and_self]
theorem rPg_sub {p q : LPg} (h : SubP p q) (h0 : rPg p = 0) : rPg q = 0 := by
  obtain ⟨⟨l1, l2, l3, l4, l5, l6⟩, ⟨n1, n2⟩, c1, c2, c3, c4, c5, c6⟩ := (rPg_zero p).1 h0
  exact (rPg_zero q).2 ⟨⟨Nat.le_trans h.uses.length_le l1, Nat.le_trans h.datas.length_le l2, Nat.le_trans h.traits.length_le l3, Nat.le_trans h.impls.length_le l4, Nat.le_trans h.funcs.length_le l5, Nat.le_trans h.actors.length_le l6⟩, ⟨h.name ▸ n1, h.ver ▸ n2⟩,
    eachF_sub h.uses c1, eachF_sub h.datas c2, eachF_sub h.traits c3, eachF_sub h.impls c4, eachF_sub h.funcs c5, eachF_sub h.actors c6⟩
theorem wlPg_sub {p q : LPg} (h : SubP p q) : wlPg q ≤ wlPg p := by
  rw [wlPg_eq, wlPg_eq, h.name]
  have := wts_sub (h.uses.map elUse)
  have := wts_sub (h.datas.map elDt)
  have := wts_sub (h.traits.map elTr)
  have := wts_sub (h.impls.map elIm)
  have := wts_sub (h.funcs.map elFu)
  have := wts_sub (h.actors.map elAc)
  omega
theorem less_bad (p q : LPg) (k : Int) (h1 : APure Tryd.prog 4 [] (.p (.b true))) (h2 : APure Tryd.prog 5 [.p (elPg p), .p (.i .i64 k)] (.tup [.p (elPg q), .p (.i .i64 4)])) :
    APure Tryd.prog 3 [.p (elPg p), .p (.i .i64 k)] (.p (.b true)) := by
  obtain ⟨nm, ve, us, ds, ts, is, fs, acs⟩ := p
  obtain ⟨nm', ve', us', ds', ts', is', fs', acs'⟩ := q
  refine APure.intro (tyOf_ok Tryd.prog) hmix Tryd.func3 rfl (by rfl) (by kernel_rfl) (by show 2 ≤ _; decide) rfl ?_
  conv => whnf
  refine apc h1 ?_
  conv => whnf
  refine apc h2 ?_
  conv => whnf
  exact .inl rfl
theorem less_ok (p q : LPg) (k a b : Int) (h1 : APure Tryd.prog 4 [] (.p (.b true))) (h2 : APure Tryd.prog 5 [.p (elPg p), .p (.i .i64 k)] (.tup [.p (elPg q), .p (.i .i64 0)]))
    (h3 : APure Tryd.prog 6 [.p (elPg p)] (.p (.i .i64 a))) (h4 : APure Tryd.prog 6 [.p (elPg q)] (.p (.i .i64 b))) (h : a = 0 → b = 0) :
    APure Tryd.prog 3 [.p (elPg p), .p (.i .i64 k)] (.p (.b true)) := by
  obtain ⟨nm, ve, us, ds, ts, is, fs, acs⟩ := p
  obtain ⟨nm', ve', us', ds', ts', is', fs', acs'⟩ := q
  refine APure.intro (tyOf_ok Tryd.prog) hmix Tryd.func3 rfl (by rfl) (by kernel_rfl) (by show 2 ≤ _; decide) rfl ?_
  conv => whnf
  refine apc h1 ?_
  conv => whnf
  refine apc h2 ?_
  conv => whnf
  refine apc h3 ?_
  conv => whnf
  refine asplit ?_ ?_ <;> intro g <;> conv => whnf
  · exact .inl rfl
  · refine apc h4 ?_
    conv => whnf
    exact .inl (pb (by rw [h (eq_of_beq (eq0 g))]; rfl))
theorem treeLess_spec (p : LPg) (k : Int) (hw : wlPg p ≤ 1048576) : APure Tryd.prog 3 [.p (elPg p), .p (.i .i64 k)] (.p (.b true)) := by
  have hw' := hw
  rw [wlPg_eq] at hw'
  have hok : okL p := by
    have h1 := l_wts elUse (fun m => by rw [wlUse_eq]; omega) p.uses
    have h2 := l_wts elDt (fun m => by rw [wlDt_eq]; omega) p.datas
    have h3 := l_wts elTr (fun m => by rw [wlTr_eq]; omega) p.traits
    have h4 := l_wts elIm (fun m => by rw [wlIm_eq]; omega) p.impls
    have h5 := l_wts elFu (fun m => by have := wlFu_eq m; rw [wlFu] at this; omega) p.funcs
    have h6 := l_wts elAc (fun m => by rw [wlAc_eq]; omega) p.actors
    exact ⟨by omega, by omega, by omega, by omega, by omega, by omega⟩
  obtain ⟨o1, o2, o3, o4, o5, o6⟩ := id hok
  have hp := partsN_spec p o1 o2 o3 o4 o5 o6
  have hn : partsN p ≤ 8388608 := by rw [partsN]; omega
  by_cases hb : k < 0 ∨ k ≥ partsN p
  · exact less_bad p p0L k walks_spec (without_bad p k _ hp hb)
  · have hsub := run_sub stepsW (p, k) (fun f hf => hf)
    exact less_ok p _ k _ _ walks_spec (without_ok p k _ hp (by omega) (by omega) hn hok) (right_spec p hw) (right_spec _ (Nat.le_trans (wlPg_sub hsub) hw)) (rPg_sub hsub)
end TR
