/-
  DERIVED. Contracts of the functions that the law reaches, and the law itself, for every input. No conditions.
-/
import Derived.Test.YtfikmccicklonaaTR7
open Go Go.AM Go.Proofs
set_option maxRecDepth 100000
namespace TR
/-- slices.Clone of strings -/
theorem cloneS_spec (l : List ByteArray) (h : l.length ≤ 2097152) : APure Try.prog 22 [.p (.sl 1 (l.map eStr))] (.so 1 (l.map eStr)) := by
  cases l with
  | nil =>
    refine APure.nilOrNot (pre := []) (post := []) (sz := 1) ?_ ?_
    · refine APure.intro (tyOf_ok Try.prog) hmix Try.func22 rfl (by rfl) (by kernel_rfl) (by show 1 ≤ _; decide) rfl ?_
      conv => whnf
      exact .inl rfl
    · refine APure.intro (tyOf_ok Try.prog) hmix Try.func22 rfl (by rfl) (by kernel_rfl) (by show 1 ≤ _; decide) rfl ?_
      conv => whnf
      refine aneed (by decide) ?_
      conv => whnf
      exact .inl rfl
  | cons a r =>
    refine APure.intro (tyOf_ok Try.prog) hmix Try.func22 rfl (by rfl) (by kernel_rfl) (by show 1 ≤ _; decide) rfl ?_
    conv => whnf
    refine aneed (show (([] : List PV).length + ((a :: r).map eStr).length) * 16 ≤ 140737488355328 by simp at h ⊢; omega) ?_
    conv => whnf
    exact .inl rfl
theorem mappedTy_spec (g : Ty → Ty) (f : Nat) (l : List Ty) (hl : l.length ≤ 1048576) (h : ∀ x ∈ l, APure Try.prog f [.p (eT x)] (.p (eT (g x)))) : APure Try.prog 51 [.p (.sl 3 (eTs l)), .fn f [] []] (.p (.sl 3 (eTs (l.map g)))) := by
  refine APure.intro (tyOf_ok Try.prog) hmix Try.func51 rfl (by rfl) (by kernel_rfl) (by show 2 ≤ _; decide) rfl ?_
  conv => whnf
  refine lp_nil 5 2 rfl ?_
  refine loopS (tyOf_ok _) hmix (by kernel_rfl) l.length [1, 5, 8, 9, 10] [] (fun k (s : List Ty) => [.fn f [] [], .so 3 (eTs s), .p (.sl 3 (eTs l)), .p (.i .i64 (eTs l).length), .p (.i .i64 (ix k))]) (fun _ _ => []) (fun k s => s = (l.take k).map g) [] ⟨rfl, rfl, rfl, rfl⟩ (by simp) ?_
  intro k s hk hs
  have hsl : s.length ≤ 1048576 := by rw [hs]; simp; omega
  conv => whnf
  refine asplit ?_ ?_ <;> intro h1 <;> conv => whnf
  · have hk1 := ix_tt h1 (by rw [eTs_len]) hk (by omega)
    obtain ⟨b, hb1⟩ : ∃ b, l[k]? = some b := ⟨_, List.getElem?_eq_getElem hk1⟩
    refine aidxk (eTs_get hb1) (by omega) ?_
    have hc := h b (List.mem_of_getElem? hb1)
    have hts : (l.take (k + 1)).map g = s ++ [g b] := by rw [take_snoc hb1, List.map_append, hs]; rfl
    generalize g b = c at hc hts
    obtain ⟨b1, b2, b3⟩ := b
    obtain ⟨c1, c2, c3⟩ := c
    conv => whnf
    refine apc hc ?_
    conv => whnf
    refine aneed (show ((eTs s).length + 1) * 48 ≤ 140737488355328 by rw [eTs_len]; omega) ?_
    conv => whnf
    refine ⟨hk1, _, ⟨rfl, ?_, rfl, rfl⟩, hts.symm⟩
    rw [eTs_app]; rfl
  · have hk1 := ix_ff h1 (by rw [eTs_len]) hk (by omega)
    have hs2 : s = l.map g := by rw [hs, hk1, List.take_length]
    subst hs2
    exact .inr (.inl rfl)
theorem equalTy_spec (f : Nat) (l r : List Ty) (hl : l.length ≤ 1048576) (hlr : l.length = r.length) (h : ∀ (k : Nat) (x y : Ty), l[k]? = some x → r[k]? = some y → APure Try.prog f [.p (eT x), .p (eT y)] (.p (.b true))) : APure Try.prog 59 [.p (.sl 3 (eTs l)), .p (.sl 3 (eTs r)), .fn f [] []] (.p (.b true)) := by
  refine APure.intro (tyOf_ok Try.prog) hmix Try.func59 rfl (by rfl) (by kernel_rfl) (by show 3 ≤ _; decide) rfl ?_
  conv => whnf
  refine asf (by rw [eTs_len, eTs_len, hlr]; simp) ?_
  conv => whnf
  refine loopS (tyOf_ok _) hmix (by kernel_rfl) l.length [1, 2, 15, 16, 17] [] (fun k (_ : Unit) => [.p (.sl 3 (eTs r)), .fn f [] [], .p (.sl 3 (eTs l)), .p (.i .i64 (eTs l).length), .p (.i .i64 (ix k))]) (fun _ _ => []) (fun k _ => True) () ⟨rfl, rfl, rfl, rfl⟩ trivial ?_
  intro k _ hk _
  conv => whnf
  refine asplit ?_ ?_ <;> intro h1 <;> conv => whnf
  · have hk1 := ix_tt h1 (by rw [eTs_len]) hk (by omega)
    obtain ⟨b, hb1⟩ : ∃ b, l[k]? = some b := ⟨_, List.getElem?_eq_getElem hk1⟩
    obtain ⟨c, hc1⟩ : ∃ b, r[k]? = some b := ⟨_, List.getElem?_eq_getElem (by omega)⟩
    refine aidxk (eTs_get hb1) (by omega) ?_
    have hc := h k b c hb1 hc1
    have hcg := eTs_get hc1
    obtain ⟨b1, b2, b3⟩ := b
    conv => whnf
    refine aidxk hcg (by omega) ?_
    obtain ⟨c1, c2, c3⟩ := c
    conv => whnf
    refine apc hc ?_
    conv => whnf
    exact ⟨hk1, (), ⟨rfl, rfl, rfl, rfl⟩, trivial⟩
  · exact .inl rfl
theorem mappedPt_spec (g : Pt → Pt) (f : Nat) (l : List Pt) (hl : l.length ≤ 1048576) (h : ∀ x ∈ l, APure Try.prog f [.p (eP x)] (.p (eP (g x)))) : APure Try.prog 72 [.p (.sl 4 (ePs l)), .fn f [] []] (.p (.sl 4 (ePs (l.map g)))) := by
  refine APure.intro (tyOf_ok Try.prog) hmix Try.func72 rfl (by rfl) (by kernel_rfl) (by show 2 ≤ _; decide) rfl ?_
  conv => whnf
  refine lp_nil 5 3 rfl ?_
  refine loopS (tyOf_ok _) hmix (by kernel_rfl) l.length [1, 5, 8, 9, 10] [] (fun k (s : List Pt) => [.fn f [] [], .so 4 (ePs s), .p (.sl 4 (ePs l)), .p (.i .i64 (ePs l).length), .p (.i .i64 (ix k))]) (fun _ _ => []) (fun k s => s = (l.take k).map g) [] ⟨rfl, rfl, rfl, rfl⟩ (by simp) ?_
  intro k s hk hs
  have hsl : s.length ≤ 1048576 := by rw [hs]; simp; omega
  conv => whnf
  refine asplit ?_ ?_ <;> intro h1 <;> conv => whnf
  · have hk1 := ix_tt h1 (by rw [ePs_len]) hk (by omega)
    obtain ⟨b, hb1⟩ : ∃ b, l[k]? = some b := ⟨_, List.getElem?_eq_getElem hk1⟩
    refine aidxk (ePs_get hb1) (by omega) ?_
    have hc := h b (List.mem_of_getElem? hb1)
    have hts : (l.take (k + 1)).map g = s ++ [g b] := by rw [take_snoc hb1, List.map_append, hs]; rfl
    generalize g b = c at hc hts
    obtain ⟨b1, b2, b3, b4⟩ := b
    obtain ⟨c1, c2, c3, c4⟩ := c
    conv => whnf
    refine apc hc ?_
    conv => whnf
    refine aneed (show ((ePs s).length + 1) * 56 ≤ 140737488355328 by rw [ePs_len]; omega) ?_
    conv => whnf
    refine ⟨hk1, _, ⟨rfl, ?_, rfl, rfl⟩, hts.symm⟩
    rw [ePs_app]; rfl
  · have hk1 := ix_ff h1 (by rw [ePs_len]) hk (by omega)
    have hs2 : s = l.map g := by rw [hs, hk1, List.take_length]
    subst hs2
    exact .inr (.inl rfl)
theorem equalPt_spec (f : Nat) (l r : List Pt) (hl : l.length ≤ 1048576) (hlr : l.length = r.length) (h : ∀ (k : Nat) (x y : Pt), l[k]? = some x → r[k]? = some y → APure Try.prog f [.p (eP x), .p (eP y)] (.p (.b true))) : APure Try.prog 73 [.p (.sl 4 (ePs l)), .p (.sl 4 (ePs r)), .fn f [] []] (.p (.b true)) := by
  refine APure.intro (tyOf_ok Try.prog) hmix Try.func73 rfl (by rfl) (by kernel_rfl) (by show 3 ≤ _; decide) rfl ?_
  conv => whnf
  refine asf (by rw [ePs_len, ePs_len, hlr]; simp) ?_
  conv => whnf
  refine loopS (tyOf_ok _) hmix (by kernel_rfl) l.length [1, 2, 15, 16, 17] [] (fun k (_ : Unit) => [.p (.sl 4 (ePs r)), .fn f [] [], .p (.sl 4 (ePs l)), .p (.i .i64 (ePs l).length), .p (.i .i64 (ix k))]) (fun _ _ => []) (fun k _ => True) () ⟨rfl, rfl, rfl, rfl⟩ trivial ?_
  intro k _ hk _
  conv => whnf
  refine asplit ?_ ?_ <;> intro h1 <;> conv => whnf
  · have hk1 := ix_tt h1 (by rw [ePs_len]) hk (by omega)
    obtain ⟨b, hb1⟩ : ∃ b, l[k]? = some b := ⟨_, List.getElem?_eq_getElem hk1⟩
    obtain ⟨c, hc1⟩ : ∃ b, r[k]? = some b := ⟨_, List.getElem?_eq_getElem (by omega)⟩
    refine aidxk (ePs_get hb1) (by omega) ?_
    have hc := h k b c hb1 hc1
    have hcg := ePs_get hc1
    obtain ⟨b1, b2, b3, b4⟩ := b
    conv => whnf
    refine aidxk hcg (by omega) ?_
    obtain ⟨c1, c2, c3, c4⟩ := c
    conv => whnf
    refine apc hc ?_
    conv => whnf
    exact ⟨hk1, (), ⟨rfl, rfl, rfl, rfl⟩, trivial⟩
  · exact .inl rfl
theorem mappedEx_spec (g : Ex → Ex) (f : Nat) (l : List Ex) (hl : l.length ≤ 1048576) (h : ∀ x ∈ l, APure Try.prog f [.p (eE x)] (.p (eE (g x)))) : APure Try.prog 53 [.p (.sl 8 (eEs l)), .fn f [] []] (.p (.sl 8 (eEs (l.map g)))) := by
  refine APure.intro (tyOf_ok Try.prog) hmix Try.func53 rfl (by rfl) (by kernel_rfl) (by show 2 ≤ _; decide) rfl ?_
  conv => whnf
  refine lp_nil 5 7 rfl ?_
  refine loopS (tyOf_ok _) hmix (by kernel_rfl) l.length [1, 5, 8, 9, 10] [] (fun k (s : List Ex) => [.fn f [] [], .so 8 (eEs s), .p (.sl 8 (eEs l)), .p (.i .i64 (eEs l).length), .p (.i .i64 (ix k))]) (fun _ _ => []) (fun k s => s = (l.take k).map g) [] ⟨rfl, rfl, rfl, rfl⟩ (by simp) ?_
  intro k s hk hs
  have hsl : s.length ≤ 1048576 := by rw [hs]; simp; omega
  conv => whnf
  refine asplit ?_ ?_ <;> intro h1 <;> conv => whnf
  · have hk1 := ix_tt h1 (by rw [eEs_len]) hk (by omega)
    obtain ⟨b, hb1⟩ : ∃ b, l[k]? = some b := ⟨_, List.getElem?_eq_getElem hk1⟩
    refine aidxk (eEs_get hb1) (by omega) ?_
    have hc := h b (List.mem_of_getElem? hb1)
    have hts : (l.take (k + 1)).map g = s ++ [g b] := by rw [take_snoc hb1, List.map_append, hs]; rfl
    generalize g b = c at hc hts
    obtain ⟨b1, b2, b3, b4, b5, b6, b7, b8⟩ := b
    obtain ⟨c1, c2, c3, c4, c5, c6, c7, c8⟩ := c
    conv => whnf
    refine apc hc ?_
    conv => whnf
    refine aneed (show ((eEs s).length + 1) * 136 ≤ 140737488355328 by rw [eEs_len]; omega) ?_
    conv => whnf
    refine ⟨hk1, _, ⟨rfl, ?_, rfl, rfl⟩, hts.symm⟩
    rw [eEs_app]; rfl
  · have hk1 := ix_ff h1 (by rw [eEs_len]) hk (by omega)
    have hs2 : s = l.map g := by rw [hs, hk1, List.take_length]
    subst hs2
    exact .inr (.inl rfl)
theorem equalEx_spec (f : Nat) (l r : List Ex) (hl : l.length ≤ 1048576) (hlr : l.length = r.length) (h : ∀ (k : Nat) (x y : Ex), l[k]? = some x → r[k]? = some y → APure Try.prog f [.p (eE x), .p (eE y)] (.p (.b true))) : APure Try.prog 61 [.p (.sl 8 (eEs l)), .p (.sl 8 (eEs r)), .fn f [] []] (.p (.b true)) := by
  refine APure.intro (tyOf_ok Try.prog) hmix Try.func61 rfl (by rfl) (by kernel_rfl) (by show 3 ≤ _; decide) rfl ?_
  conv => whnf
  refine asf (by rw [eEs_len, eEs_len, hlr]; simp) ?_
  conv => whnf
  refine loopS (tyOf_ok _) hmix (by kernel_rfl) l.length [1, 2, 15, 16, 17] [] (fun k (_ : Unit) => [.p (.sl 8 (eEs r)), .fn f [] [], .p (.sl 8 (eEs l)), .p (.i .i64 (eEs l).length), .p (.i .i64 (ix k))]) (fun _ _ => []) (fun k _ => True) () ⟨rfl, rfl, rfl, rfl⟩ trivial ?_
  intro k _ hk _
  conv => whnf
  refine asplit ?_ ?_ <;> intro h1 <;> conv => whnf
  · have hk1 := ix_tt h1 (by rw [eEs_len]) hk (by omega)
    obtain ⟨b, hb1⟩ : ∃ b, l[k]? = some b := ⟨_, List.getElem?_eq_getElem hk1⟩
    obtain ⟨c, hc1⟩ : ∃ b, r[k]? = some b := ⟨_, List.getElem?_eq_getElem (by omega)⟩
    refine aidxk (eEs_get hb1) (by omega) ?_
    have hc := h k b c hb1 hc1
    have hcg := eEs_get hc1
    obtain ⟨b1, b2, b3, b4, b5, b6, b7, b8⟩ := b
    conv => whnf
    refine aidxk hcg (by omega) ?_
    obtain ⟨c1, c2, c3, c4, c5, c6, c7, c8⟩ := c
    conv => whnf
    refine apc hc ?_
    conv => whnf
    exact ⟨hk1, (), ⟨rfl, rfl, rfl, rfl⟩, trivial⟩
  · exact .inl rfl
theorem mappedArm_spec (g : Arm → Arm) (f : Nat) (l : List Arm) (hl : l.length ≤ 1048576) (h : ∀ x ∈ l, APure Try.prog f [.p (eA x)] (.p (eA (g x)))) : APure Try.prog 54 [.p (.sl 12 (eAs l)), .fn f [] []] (.p (.sl 12 (eAs (l.map g)))) := by
  refine APure.intro (tyOf_ok Try.prog) hmix Try.func54 rfl (by rfl) (by kernel_rfl) (by show 2 ≤ _; decide) rfl ?_
  conv => whnf
  refine lp_nil 5 11 rfl ?_
  refine loopS (tyOf_ok _) hmix (by kernel_rfl) l.length [1, 5, 8, 9, 10] [] (fun k (s : List Arm) => [.fn f [] [], .so 12 (eAs s), .p (.sl 12 (eAs l)), .p (.i .i64 (eAs l).length), .p (.i .i64 (ix k))]) (fun _ _ => []) (fun k s => s = (l.take k).map g) [] ⟨rfl, rfl, rfl, rfl⟩ (by simp) ?_
  intro k s hk hs
  have hsl : s.length ≤ 1048576 := by rw [hs]; simp; omega
  conv => whnf
  refine asplit ?_ ?_ <;> intro h1 <;> conv => whnf
  · have hk1 := ix_tt h1 (by rw [eAs_len]) hk (by omega)
    obtain ⟨b, hb1⟩ : ∃ b, l[k]? = some b := ⟨_, List.getElem?_eq_getElem hk1⟩
    refine aidxk (eAs_get hb1) (by omega) ?_
    have hc := h b (List.mem_of_getElem? hb1)
    have hts : (l.take (k + 1)).map g = s ++ [g b] := by rw [take_snoc hb1, List.map_append, hs]; rfl
    generalize g b = c at hc hts
    obtain ⟨⟨b1, b2, b3, b4⟩, ⟨b5, b6, b7, b8, b9, b10, b11, b12⟩⟩ := b
    obtain ⟨⟨c1, c2, c3, c4⟩, ⟨c5, c6, c7, c8, c9, c10, c11, c12⟩⟩ := c
    conv => whnf
    refine apc hc ?_
    conv => whnf
    refine aneed (show ((eAs s).length + 1) * 192 ≤ 140737488355328 by rw [eAs_len]; omega) ?_
    conv => whnf
    refine ⟨hk1, _, ⟨rfl, ?_, rfl, rfl⟩, hts.symm⟩
    rw [eAs_app]; rfl
  · have hk1 := ix_ff h1 (by rw [eAs_len]) hk (by omega)
    have hs2 : s = l.map g := by rw [hs, hk1, List.take_length]
    subst hs2
    exact .inr (.inl rfl)
theorem equalArm_spec (f : Nat) (l r : List Arm) (hl : l.length ≤ 1048576) (hlr : l.length = r.length) (h : ∀ (k : Nat) (x y : Arm), l[k]? = some x → r[k]? = some y → APure Try.prog f [.p (eA x), .p (eA y)] (.p (.b true))) : APure Try.prog 62 [.p (.sl 12 (eAs l)), .p (.sl 12 (eAs r)), .fn f [] []] (.p (.b true)) := by
  refine APure.intro (tyOf_ok Try.prog) hmix Try.func62 rfl (by rfl) (by kernel_rfl) (by show 3 ≤ _; decide) rfl ?_
  conv => whnf
  refine asf (by rw [eAs_len, eAs_len, hlr]; simp) ?_
  conv => whnf
  refine loopS (tyOf_ok _) hmix (by kernel_rfl) l.length [1, 2, 15, 16, 17] [] (fun k (_ : Unit) => [.p (.sl 12 (eAs r)), .fn f [] [], .p (.sl 12 (eAs l)), .p (.i .i64 (eAs l).length), .p (.i .i64 (ix k))]) (fun _ _ => []) (fun k _ => True) () ⟨rfl, rfl, rfl, rfl⟩ trivial ?_
  intro k _ hk _
  conv => whnf
  refine asplit ?_ ?_ <;> intro h1 <;> conv => whnf
  · have hk1 := ix_tt h1 (by rw [eAs_len]) hk (by omega)
    obtain ⟨b, hb1⟩ : ∃ b, l[k]? = some b := ⟨_, List.getElem?_eq_getElem hk1⟩
    obtain ⟨c, hc1⟩ : ∃ b, r[k]? = some b := ⟨_, List.getElem?_eq_getElem (by omega)⟩
    refine aidxk (eAs_get hb1) (by omega) ?_
    have hc := h k b c hb1 hc1
    have hcg := eAs_get hc1
    obtain ⟨⟨b1, b2, b3, b4⟩, ⟨b5, b6, b7, b8, b9, b10, b11, b12⟩⟩ := b
    conv => whnf
    refine aidxk hcg (by omega) ?_
    obtain ⟨⟨c1, c2, c3, c4⟩, ⟨c5, c6, c7, c8, c9, c10, c11, c12⟩⟩ := c
    conv => whnf
    refine apc hc ?_
    conv => whnf
    exact ⟨hk1, (), ⟨rfl, rfl, rfl, rfl⟩, trivial⟩
  · exact .inl rfl

mutual
def clearF : Ex → Ex
  | .mk k n t ns ts xs ms _ => .mk k n t ns ts (clearFs xs) (clearFa ms) 0
def clearA : Arm → Arm
  | .mk p e => .mk p (clearF e)
def clearFs : List Ex → List Ex
  | [] => []
  | e :: r => clearF e :: clearFs r
def clearFa : List Arm → List Arm
  | [] => []
  | a :: r => clearA a :: clearFa r
end
theorem clearFs_map (l : List Ex) : clearFs l = l.map clearF := by
  induction l with
  | nil => rfl
  | cons t r ih => simp [clearFs, ih]
theorem clearFa_map (l : List Arm) : clearFa l = l.map clearA := by
  induction l with
  | nil => rfl
  | cons t r ih => simp [clearFa, ih]
theorem map_id' {α : Type} (l : List α) : l.map (fun x => x) = l := by simp

theorem copyType_spec (t : Ty) : wT t ≤ 1048576 → APure Try.prog 52 [.p (eT t)] (.p (eT t)) := by
  induction t using Ty.ind with
  | h k0 n0 as0 ih =>
  intro hw
  have h1 := wT_mk k0 n0 as0
  have h2 := wTs_len as0
  have hm := mappedTy_spec (fun x => x) 52 as0 (by omega) (fun x hx => ih x hx (by have := wTs_mem hx; omega))
  rw [map_id'] at hm
  refine APure.intro (tyOf_ok Try.prog) hmix Try.func52 rfl (by rfl) (by kernel_rfl) (by show 1 ≤ _; decide) rfl ?_
  conv => whnf
  refine apc hm ?_
  conv => whnf
  exact .inl rfl
theorem copyPat_spec (t : Pt) : wP t ≤ 1048576 → APure Try.prog 56 [.p (eP t)] (.p (eP t)) := by
  induction t using Pt.ind with
  | h k0 n0 t0 as0 ih =>
  intro hw
  have h1 := wP_mk k0 n0 t0 as0
  have h2 := wPs_len as0
  have hm := mappedPt_spec (fun x => x) 56 as0 (by omega) (fun x hx => ih x hx (by have := wPs_mem hx; omega))
  rw [map_id'] at hm
  refine APure.intro (tyOf_ok Try.prog) hmix Try.func56 rfl (by rfl) (by kernel_rfl) (by show 1 ≤ _; decide) rfl ?_
  conv => whnf
  refine apc hm ?_
  conv => whnf
  exact .inl rfl
theorem clearArm_spec (a : Arm) (h1 : wP a.pat ≤ 1048576) (h2 : APure Try.prog 32 [.p (eE a.body)] (.p (eE (clearF a.body)))) : APure Try.prog 55 [.p (eA a)] (.p (eA (clearA a))) := by
  obtain ⟨p, e⟩ := a
  simp only [Arm.pat, Arm.body] at h1 h2
  have hp := copyPat_spec p h1
  rw [clearA]
  generalize clearF e = e' at h2
  obtain ⟨p1, p2, p3, p4⟩ := p
  obtain ⟨b1, b2, b3, b4, b5, b6, b7, b8⟩ := e
  obtain ⟨c1, c2, c3, c4, c5, c6, c7, c8⟩ := e'
  refine APure.intro (tyOf_ok Try.prog) hmix Try.func55 rfl (by rfl) (by kernel_rfl) (by show 1 ≤ _; decide) rfl ?_
  conv => whnf
  refine apc hp ?_
  conv => whnf
  refine apc h2 ?_
  conv => whnf
  refine aneed (by kernel_rfl) ?_
  conv => whnf
  exact .inl rfl
theorem clear_spec (e : Ex) : wE e ≤ 1048576 → APure Try.prog 32 [.p (eE e)] (.p (eE (clearF e))) := by
  induction e using Ex.ind with
  | h k0 n0 t0 ns0 ts0 as0 ms0 p0 ih1 ih2 =>
  intro hw
  have hl := wE_lens k0 n0 t0 ns0 ts0 as0 ms0 p0
  have hwm := wE_mk k0 n0 t0 ns0 ts0 as0 ms0 p0
  have g1 := cloneS_spec ns0 (by omega)
  have g2 := mappedTy_spec (fun x => x) 52 ts0 (by omega) (fun x hx => copyType_spec x (by have := wTs_mem hx; omega))
  rw [map_id'] at g2
  have g3 := mappedEx_spec clearF 32 as0 (by omega) (fun x hx => ih1 x hx (by have := wEs_mem hx; omega))
  have g4 := mappedArm_spec clearA 55 ms0 (by omega) (fun x hx => clearArm_spec x (by have := wAs_mem hx; have := wA_body x; omega) (ih2 x hx (by have := wAs_mem hx; have := wA_body x; omega)))
  rw [clearF, clearFs_map, clearFa_map]
  generalize as0.map clearF = as1 at g3
  generalize ms0.map clearA = ms1 at g4
  refine APure.intro (tyOf_ok Try.prog) hmix Try.func32 rfl (by rfl) (by kernel_rfl) (by show 1 ≤ _; decide) rfl ?_
  conv => whnf
  refine apc g1 ?_
  conv => whnf
  refine apc g2 ?_
  conv => whnf
  refine apc g3 ?_
  conv => whnf
  refine apc g4 ?_
  conv => whnf
  exact .inl rfl
end TR

