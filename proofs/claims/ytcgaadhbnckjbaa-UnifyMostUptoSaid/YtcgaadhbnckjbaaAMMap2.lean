/-
  DERIVED. Part of an abstract machine over plain values, sound against the model. No conditions.
-/
import Derived.Test.YtcgaadhbnckjbaaAMMap
import Derived.Laws.MakeOwn
namespace Go.AM
section
variable {P : Program} {ty : Nat → Option TI} {n : Nat} {o : Oper} {e : Env} {h : Heap} {K : AK}

theorem aIndex_sound (hty : TyOK P ty) (hd : ∀ d, o.dst = some d → d < n) {t : Nat} {x ix : Operand} (ho : o.op = .index t x ix) (hk : aIndex ty o t (ev e x) (ev e ix) K) : ∃ f, K f ∧ OpOK P n o e h f := by
  have m1 : x ∈ o.op.operands := by simp [ho, Op.operands]
  have m2 : ix ∈ o.op.operands := by simp [ho, Op.operands]
  unfold aIndex at hk
  split at hk
  · rename_i i hi
    split at hk
    · rename_i s0 k m hde hx hix
      have hu := (hty t i hi).und
      rw [hde] at hu
      obtain ⟨_, ⟨h0, hlt⟩, rfl, hk⟩ := hk
      refine ret_sound hd hk fun e' h' he g w a s => ?_
      obtain ⟨_, r1⟩ := s.evo he m1 hx
      obtain ⟨_, r2⟩ := s.evo he m2 hix
      refine ⟨_, ?_, fun d _ => .p _ _ _ (.i _ _)⟩
      have hlt' : m.toNat < s0.size := by omega
      have hg : s0[m.toNat]? = some s0[m.toNat] := getElem?_pos s0 m.toNat hlt'
      simp [execOp, ho, Instr.index, r1.str, r2.int, asIntOf, run_underlying hu, h0, hg]
    · exact hk.elim
  · exact hk.elim

theorem aMin_sound (hd : ∀ d, o.dst = some d → d < n) {x y : Operand} {ts : Array TypeId} (ho : o.op = .call { callee := .builtin .min, args := ⟨[x, y]⟩, argTypes := ts })
    (hk : match ev e x, ev e y with
    | .p (.i k a), .p (.i k' b) => match decide (k = k') with
      | true => ret o (.p (.i k (if b < a then b else a))) K
      | false => AStuck "min"
    | _, _ => AStuck "min") : ∃ f, K f ∧ OpOK P n o e h f := by
  have m1 : x ∈ o.op.operands := by simp [ho, Op.operands, Call.operands]
  have m2 : y ∈ o.op.operands := by simp [ho, Op.operands, Call.operands]
  split at hk
  · rename_i k a1 k' b1 hx hy
    split at hk
    · rename_i hkk
      have hkk := of_decide_eq_true hkk
      subst hkk
      refine ret_sound hd hk fun e' h' he g w a s => ?_
      obtain ⟨_, r1⟩ := s.evo he m1 hx
      obtain ⟨_, r2⟩ := s.evo he m2 hy
      refine ⟨_, ?_, fun d _ => .p _ _ _ (.i _ _)⟩
      obtain ⟨cs, hcs⟩ := run_builtin_call (P := P) ho a w
      rw [hcs]
      simp [builtin, Builtin.min_, r1.int, r2.int, Builtin.min2]
    · exact hk.elim
  · exact hk.elim

theorem aMax_sound (hd : ∀ d, o.dst = some d → d < n) {x y : Operand} {ts : Array TypeId} (ho : o.op = .call { callee := .builtin .max, args := ⟨[x, y]⟩, argTypes := ts })
    (hk : match ev e x, ev e y with
    | .p (.i k a), .p (.i k' b) => match decide (k = k') with
      | true => ret o (.p (.i k (if a < b then b else a))) K
      | false => AStuck "max"
    | _, _ => AStuck "max") : ∃ f, K f ∧ OpOK P n o e h f := by
  have m1 : x ∈ o.op.operands := by simp [ho, Op.operands, Call.operands]
  have m2 : y ∈ o.op.operands := by simp [ho, Op.operands, Call.operands]
  split at hk
  · rename_i k a1 k' b1 hx hy
    split at hk
    · rename_i hkk
      have hkk := of_decide_eq_true hkk
      subst hkk
      refine ret_sound hd hk fun e' h' he g w a s => ?_
      obtain ⟨_, r1⟩ := s.evo he m1 hx
      obtain ⟨_, r2⟩ := s.evo he m2 hy
      refine ⟨_, ?_, fun d _ => .p _ _ _ (.i _ _)⟩
      obtain ⟨cs, hcs⟩ := run_builtin_call (P := P) ho a w
      rw [hcs]
      simp [builtin, Builtin.max_, r1.int, r2.int, Builtin.max2]
    · exact hk.elim
  · exact hk.elim

theorem aMax3_sound (hd : ∀ d, o.dst = some d → d < n) {x y z : Operand} {ts : Array TypeId} (ho : o.op = .call { callee := .builtin .max, args := ⟨[x, y, z]⟩, argTypes := ts })
    (hk : match ev e x, ev e y, ev e z with
    | .p (.i k a), .p (.i k' b), .p (.i k2 c) => match decide (k = k'), decide (k = k2) with
      | true, true => ret o (.p (.i k (imax (imax a b) c))) K
      | _, _ => AStuck "max"
    | _, _, _ => AStuck "max") : ∃ f, K f ∧ OpOK P n o e h f := by
  have m1 : x ∈ o.op.operands := by simp [ho, Op.operands, Call.operands]
  have m2 : y ∈ o.op.operands := by simp [ho, Op.operands, Call.operands]
  have m3 : z ∈ o.op.operands := by simp [ho, Op.operands, Call.operands]
  split at hk
  · rename_i k a1 k' b1 k2 c1 hx hy hz
    split at hk
    · rename_i hkk hkk2
      have hkk := of_decide_eq_true hkk
      have hkk2 := of_decide_eq_true hkk2
      subst hkk
      subst hkk2
      refine ret_sound hd hk fun e' h' he g w a s => ?_
      obtain ⟨_, r1⟩ := s.evo he m1 hx
      obtain ⟨_, r2⟩ := s.evo he m2 hy
      obtain ⟨_, r3⟩ := s.evo he m3 hz
      refine ⟨_, ?_, fun d _ => .p _ _ _ (.i _ _)⟩
      obtain ⟨cs, hcs⟩ := run_builtin_call (P := P) ho a w
      rw [hcs]
      simp only [builtin, Builtin.max_, imax]
      simp [r1.int, r2.int, r3.int, Builtin.max2]
      by_cases q : a1 < b1 <;> simp [q]
    · exact hk.elim
  · exact hk.elim

theorem aMakeSlice_sound (hty : TyOK P ty) (hd : ∀ d, o.dst = some d → d < n) {t : Nat} {x y : Operand} (ho : o.op = .makeSlice t x y) (hk : aMakeSlice ty o h t (ev e x) (ev e y) K) : ∃ f, K f ∧ OpOK P n o e h f := by
  have m1 : x ∈ o.op.operands := by simp [ho, Op.operands]
  have m2 : y ∈ o.op.operands := by simp [ho, Op.operands]
  unfold aMakeSlice at hk
  split at hk
  · rename_i i d hi hdd
    split at hk
    · rename_i el hde
      have hu := (hty t i hi).und
      rw [hde] at hu
      split at hk
      · rename_i j hj
        split at hk
        · rename_i z k1 x1 k2 y1 hz hx hy hfr hag hby
          have hby : j.bytes ≠ 0 := fun q => by rw [q] at hby; cases hby
          obtain ⟨⟨rfl, h0, hmax⟩, hk⟩ := hk
          obtain ⟨hrd, hdb⟩ := freshId_spec hfr
          refine ⟨_, hk, fun e' h' he hl g w a s => ?_⟩
          have hl0 : hget h' d = none := by rw [hl d (by simp)]; exact hrd
          obtain ⟨_, r1⟩ := s.evo he m1 hx
          obtain ⟨_, r2⟩ := s.evo he m2 hy
          obtain ⟨m, rfl⟩ : ∃ m : Nat, x1 = m := ⟨x1.toNat, by omega⟩
          have hmb : m * j.bytes ≤ 140737488355328 := by omega
          have hm1 : m ≤ 140737488355328 := Nat.le_trans (Nat.le_mul_of_pos_right m (Nat.pos_of_ne_zero hby)) hmb
          obtain ⟨zv, z1, z2, z3⟩ := zeroPV_spec hty hj hz (imm g w) w
          obtain ⟨inf, zv', f1, f2, f3, f4, f5, f6⟩ := (hty el j hj).inf
          have hzv : zv' = zv := by
            have : (zeroValue el).run P w = .ok zv' w := by simp [zeroValue, typeInfo, f1, f4]
            rw [z1] at this; cases this; rfl
          subst hzv
          have hnag : zv'.cells = #[zv'] := by
            obtain ⟨inf', z', e1, e2, e3⟩ := (hty el j hj).noz hag
            rw [f1] at e1; cases e1
            rw [f4] at e2; cases e2
            exact e3
          have hs1 : inf.size = 1 := by rw [f2, ← f6, ← f5, hnag]; rfl
          have hone : zv'.oneCell' = true := by
            have := (hty el j hj).one zv' (by rw [← f5, hnag]; simp)
            exact this
          have hr : (execOp a.eval o).run P w = .ok (.value (.slice (some ⟨w.heap.size, 0, none⟩) m m)) (World.push w (.cells (Array.replicate m zv') el (0, 0))) := by
            have hbi : (inf.bytes : Int) * (m : Int) ≤ 281474976710656 := by rw [f3, Int.mul_comm]; omega
            have hmk := run_make (P := P) w t el inf zv' hu f1 f4 k1 k2 m m (by omega) (by omega) hbi (by omega)
            have hcells : madeCells zv'.cells ((m : Int).toNat * inf.size) = Array.replicate m zv' := by
              rw [hs1, hnag]
              apply Array.ext
              · simp [madeCells]
              · intro q q1 q2
                simp [madeCells, Nat.mod_one]
            rw [hcells] at hmk
            simp only [execOp, ho, r1.int, r2.int, Sem.run_bind, hmk, Result.andThen_ok, Sem.run_pure]
            simp only [Int.toNat_natCast]
            rfl
          refine Oper.wp_value hr ⟨g.newObj w.heap.size d, ?_, Ext.push (fun b hb => by simp [Gh.newObj, Nat.ne_of_lt hb]) (fun a => frozen_push a) (fun l hl => newObj_ρ hdb l hl)⟩
          rw [hdd]
          simp only [List.reverse_cons, List.reverse_nil, List.nil_append, List.cons_append]
          have hob : (World.push w (.cells (Array.replicate m zv') el (0, 0))).heap[(g.newObj w.heap.size d).ρ d]? = some (.cells (Array.replicate m zv') el (0, 0)) := by simp [Gh.newObj, push_new]
          have s' := s.pushObj hl0 (.cells (Array.replicate m zv') el (0, 0)) (.arr (List.replicate m z)) (fun dom' hdm up => .arr (List.replicate m z) (Array.replicate m zv') el hob (by simp) (fun q v y q1 q2 => by
              have e1 : v = zv' := by rw [Array.getElem?_replicate] at q1; split at q1 <;> simp_all
              have e2 : y = z := by rw [List.getElem?_replicate] at q2; split at q2 <;> simp_all
              subst e1; subst e2
              exact z2.push (fun b hb => by simp [Gh.newObj, Nat.ne_of_lt hb])) (fun v hv => by
              have e1 : v = zv' := by simp at hv; exact hv.2
              subst e1; exact hone))
          rw [show ((m : Int)).toNat = m by omega]
          refine s'.put (hd d hdd) ?_
          have : w.heap.size = (g.newObj w.heap.size d).ρ d := by simp [Gh.newObj]
          conv => arg 5; rw [this]
          exact .ar _ _ _ (by simp [domOf, hget_self]) ⟨_, _, hob, by simp⟩
        · exact hk.elim
      · exact hk.elim
    · exact hk.elim
  · exact hk.elim
end
end Go.AM
