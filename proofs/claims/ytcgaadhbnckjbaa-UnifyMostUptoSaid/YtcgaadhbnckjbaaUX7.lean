/-
  DERIVED. Contracts of functions that the law reaches, and the law, for every input. No conditions.
-/
import Derived.Test.YtcgaadhbnckjbaaUX6
import Derived.Shelf.SlSortCmp.WholeK
import Derived.Shelf.Small.Strs
open Go Go.AM Go.Proofs Go.Shelf Go.RowKit Go.Lib Go.Sort
set_option maxRecDepth 100000
namespace KK
/-! slices.SortFunc's laying -/
def sortL_ren : Go.Shelf.Ren := ⟨fun | 6 => 32 | 14 => 42 | 15 => 43 | 20 => 46 | 21 => 47 | 22 => 48 | 23 => 49 | 24 => 50 | 25 => 51 | 26 => 52 | 27 => 53 | 28 => 54 | 29 => 55 | 46 => 57 | 47 => 58 | 48 => 59 | 49 => 60 | 50 => 61 | 57 => 62 | n => n, fun | 0 => 0 | 3 => 3 | 4 => 4 | 5 => 5 | 9 => 9 | 22 => 29 | 24 => 37 | 25 => 64 | 39 => 73 | 45 => 75 | 46 => 76 | 50 => 80 | 53 => 83 | 55 => 85 | 66 => 86 | 70 => 90 | 76 => 92 | 77 => 43 | n => n, fun n => n⟩
theorem sortL : SlLaysF0.n6 Try.prog sortL_ren := {
  mixed := by kernel_rfl
  f6 := ⟨Try.f32.name, by kernel_rfl, Try.func32.trans (congrArg some (by kernel_rfl))⟩
  f14 := ⟨Try.f42.name, by kernel_rfl, Try.func42.trans (congrArg some (by kernel_rfl))⟩
  f15 := Try.func43.trans (congrArg some (by kernel_rfl))
  f20 := ⟨Try.f46.name, by kernel_rfl, Try.func46.trans (congrArg some (by kernel_rfl))⟩
  f21 := ⟨Try.f47.name, by kernel_rfl, Try.func47.trans (congrArg some (by kernel_rfl))⟩
  f22 := ⟨Try.f48.name, by kernel_rfl, Try.func48.trans (congrArg some (by kernel_rfl))⟩
  f23 := ⟨Try.f49.name, by kernel_rfl, Try.func49.trans (congrArg some (by kernel_rfl))⟩
  f24 := ⟨Try.f50.name, by kernel_rfl, Try.func50.trans (congrArg some (by kernel_rfl))⟩
  f25 := ⟨Try.f51.name, by kernel_rfl, Try.func51.trans (congrArg some (by kernel_rfl))⟩
  f26 := ⟨Try.f52.name, by kernel_rfl, Try.func52.trans (congrArg some (by kernel_rfl))⟩
  f27 := ⟨Try.f53.name, by kernel_rfl, Try.func53.trans (congrArg some (by kernel_rfl))⟩
  f28 := Try.func54.trans (congrArg some (by kernel_rfl))
  f29 := Try.func55.trans (congrArg some (by kernel_rfl))
  f46 := ⟨Try.f57.name, by kernel_rfl, Try.func57.trans (congrArg some (by kernel_rfl))⟩
  f47 := Try.func58.trans (congrArg some (by kernel_rfl))
  f48 := Try.func59.trans (congrArg some (by kernel_rfl))
  f49 := ⟨Try.f60.name, by kernel_rfl, Try.func60.trans (congrArg some (by kernel_rfl))⟩
  f50 := ⟨Try.f61.name, by kernel_rfl, Try.func61.trans (congrArg some (by kernel_rfl))⟩
  f57 := ⟨Try.f62.name, by kernel_rfl, Try.func62.trans (congrArg some (by kernel_rfl))⟩
  t0 := Try.underlying0
  a0 := Try.isAgg0
  z0 := Try.sizeOf0
  v0 := Try.zeroValue0
  t3 := Try.underlying3
  a3 := Try.isAgg3
  z3 := Try.sizeOf3
  v3 := Try.zeroValue3
  t4 := Try.underlying4
  a4 := Try.isAgg4
  z4 := Try.sizeOf4
  v4 := Try.zeroValue4
  t5 := Try.underlying5
  a5 := Try.isAgg5
  z5 := Try.sizeOf5
  v5 := Try.zeroValue5
  t9 := Try.underlying9
  a9 := Try.isAgg9
  z9 := Try.sizeOf9
  v9 := Try.zeroValue9
  t22 := Try.underlying29
  a22 := Try.isAgg29
  z22 := Try.sizeOf29
  v22 := Try.zeroValue29
  t25 := Try.underlying64
  a25 := Try.isAgg64
  z25 := Try.sizeOf64
  v25 := Try.zeroValue64
  t39 := Try.underlying73
  a39 := Try.isAgg73
  z39 := Try.sizeOf73
  v39 := Try.zeroValue73
  t45 := Try.underlying75
  a45 := Try.isAgg75
  z45 := Try.sizeOf75
  v45 := Try.zeroValue75
  t46 := Try.underlying76
  a46 := Try.isAgg76
  z46 := Try.sizeOf76
  v46 := Try.zeroValue76
  t50 := Try.underlying80
  a50 := Try.isAgg80
  z50 := Try.sizeOf80
  v50 := Try.zeroValue80
  t53 := Try.underlying83
  a53 := Try.isAgg83
  z53 := Try.sizeOf83
  v53 := Try.zeroValue83
  t55 := Try.underlying85
  a55 := Try.isAgg85
  z55 := Try.sizeOf85
  v55 := Try.zeroValue85
  t66 := Try.underlying86
  a66 := Try.isAgg86
  z66 := Try.sizeOf86
  v66 := Try.zeroValue86
  t70 := Try.underlying90
  a70 := Try.isAgg90
  z70 := Try.sizeOf90
  v70 := Try.zeroValue90
  t76 := Try.underlying92
  a76 := Try.isAgg92
  z76 := Try.sizeOf92
  v76 := Try.zeroValue92
  t77 := Try.underlying43
  a77 := Try.isAgg43
  z77 := Try.sizeOf43
  v77 := Try.zeroValue43 }
end KK
open Go Go.AM Go.Proofs Go.Shelf Go.RowKit Go.Lib Go.Sort
set_option maxRecDepth 100000
namespace KK
/-! slices.SortFunc: a permutation comes back -/
def strC_ren : Go.Shelf.Ren := ⟨fun | 106 => 34 | 213 => 44 | 265 => 56 | n => n, fun | 3 => 3 | 9 => 9 | n => n, fun n => n⟩
theorem strC : Lays.n106 Try.prog strC_ren := {
  mixed := by kernel_rfl
  f106 := Try.func34.trans (congrArg some (by kernel_rfl))
  f213 := Try.func44.trans (congrArg some (by kernel_rfl))
  f265 := Try.func56.trans (congrArg some (by kernel_rfl))
  t3 := Try.underlying3
  a3 := Try.isAgg3
  z3 := Try.sizeOf3
  v3 := Try.zeroValue3
  t9 := Try.underlying9
  a9 := Try.isAgg9
  z9 := Try.sizeOf9
  v9 := Try.zeroValue9 }
abbrev El := ByteArray × Int × ByteArray × Option Addr × Nat × Nat
def enE (x : El) : List Value := [.string x.1, .int .i64 x.2.1, .string x.2.2.1, .slice x.2.2.2.1 x.2.2.2.2.1 x.2.2.2.2.2]
def cmE (x y : El) : Int := compareBytes x.1.data.toList y.1.data.toList
theorem cmp_irrefl : ∀ (a : List UInt8), compareBytes a a = 0
  | [] => rfl
  | a :: r => by rw [compareBytes, if_neg (by simp), if_neg (by simp)]; exact cmp_irrefl r
theorem cmp_trans : ∀ (a b c : List UInt8), compareBytes a b < 0 → compareBytes b c < 0 → compareBytes a c < 0
  | [], [], _, h, _ => by simp [compareBytes] at h
  | [], _ :: _, [], _, h => by simp [compareBytes] at h
  | [], _ :: _, _ :: _, _, _ => by simp [compareBytes]
  | _ :: _, [], _, h, _ => by simp [compareBytes] at h
  | _ :: _, _ :: _, [], _, h => by simp [compareBytes] at h
  | a :: ar, b :: br, c :: cr, h1, h2 => by
    rw [compareBytes] at h1 h2 ⊢
    simp only [UInt8.lt_iff_toNat_lt] at h1 h2 ⊢
    by_cases q1 : a.toNat < b.toNat
    · by_cases q2 : b.toNat < c.toNat
      · rw [if_pos (by omega)]; decide
      · rw [if_neg q2] at h2
        by_cases q3 : c.toNat < b.toNat
        · rw [if_pos q3] at h2; simp at h2
        · rw [if_pos (by omega)]; decide
    · rw [if_neg q1] at h1
      by_cases q3 : b.toNat < a.toNat
      · rw [if_pos q3] at h1; simp at h1
      · rw [if_neg q3] at h1
        by_cases q2 : b.toNat < c.toNat
        · rw [if_pos (by omega)]; decide
        · rw [if_neg q2] at h2
          by_cases q4 : c.toNat < b.toNat
          · rw [if_pos q4] at h2; simp at h2
          · rw [if_neg q4] at h2
            rw [if_neg (by omega), if_neg (by omega)]
            exact cmp_trans ar br cr h1 h2
theorem cmp_ntrans : ∀ (a b c : List UInt8), ¬ compareBytes a b < 0 → ¬ compareBytes b c < 0 → ¬ compareBytes a c < 0
  | [], _ :: _, _, h, _ => by simp [compareBytes] at h
  | [], [], [], _, _ => by simp [compareBytes]
  | [], [], _ :: _, _, h => by simp [compareBytes] at h
  | _ :: _, [], [], _, _ => by simp [compareBytes]
  | _ :: _, [], _ :: _, _, h => by simp [compareBytes] at h
  | _ :: _, _ :: _, [], _, _ => by simp [compareBytes]
  | a :: ar, b :: br, c :: cr, h1, h2 => by
    rw [compareBytes] at h1 h2 ⊢
    simp only [UInt8.lt_iff_toNat_lt] at h1 h2 ⊢
    by_cases q1 : a.toNat < b.toNat
    · rw [if_pos q1] at h1; exact absurd (by decide) h1
    · by_cases q2 : b.toNat < c.toNat
      · rw [if_pos q2] at h2; exact absurd (by decide) h2
      · rw [if_neg q1] at h1
        rw [if_neg q2] at h2
        rw [if_neg (by omega)]
        by_cases q3 : c.toNat < a.toNat
        · rw [if_pos q3]; decide
        · rw [if_neg (by omega)] at h1
          rw [if_neg (by omega)] at h2
          rw [if_neg q3]
          exact cmp_ntrans ar br cr h1 h2
theorem swoE : SWO (ltOf cmE) where
  irrefl x := by unfold ltOf cmE; rw [cmp_irrefl]; rfl
  trans x y z h1 h2 := by
    unfold ltOf cmE at *
    exact decide_eq_true (cmp_trans _ _ _ (of_decide_eq_true h1) (of_decide_eq_true h2))
  ntrans x y z h1 h2 := by
    unfold ltOf cmE at *
    exact decide_eq_false (cmp_ntrans _ _ _ (of_decide_eq_false h1) (of_decide_eq_false h2))
set_option maxHeartbeats 1000000 in
theorem cmp_closure (x y : El) (W : World) : Calls Try.prog 33 #[.agg (enE x).toArray, .agg (enE y).toArray] W fun e w' => e = .returned (.int .i64 (cmE x y)) ∧ ∃ q os', w' = grow (W.drewN q) os' := by
  have hcon := fun W' => Any.strings_Compare strC x.1 y.1 W'
  change ∀ W', Calls Try.prog 34 _ _ _ at hcon
  change ∀ W', Calls Try.prog _ _ _ (fun e w' => e = .returned (.int .i64 (cmE x y)) ∧ w' = W') at hcon
  generalize cmE x y = r at hcon ⊢
  obtain ⟨x1, x2, x3, x4, x5, x6⟩ := x
  obtain ⟨y1, y2, y3, y4, y5, y6⟩ := y
  change Calls Try.prog _ #[.agg #[.string x1, .int .i64 x2, .string x3, .slice x4 x5 x6], .agg #[.string y1, .int .i64 y2, .string y3, .slice y4 y5 y6]] _ _
  go_enter Try.func33, Try.ntmps33
  go_wp2_with (go_at_call 34; refine (hcon _).mono ?_; rintro e w' ⟨rfl, rfl⟩)
  go_ret
  exact ⟨rfl, 0, _, by rw [alloc_eq_grow, alloc_eq_grow, grow_grow]; rfl⟩
end KK
