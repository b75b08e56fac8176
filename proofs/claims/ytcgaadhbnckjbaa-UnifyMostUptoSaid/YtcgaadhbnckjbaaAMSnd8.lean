/-
  DERIVED. Part of an abstract machine over plain values, sound against the model. No conditions.
-/
import Derived.Test.YtcgaadhbnckjbaaAMSnd7
namespace Go.AM
section
variable {P : Program} {ty : Nat → Option TI} {n : Nat} {o : Oper} {e : Env} {h : Heap} {K : AK}

/-- a slice's cells, as one row -/
structure SlV (M : Nat → Nat → Option Value) (a : Option Addr) (sz : Nat) (xs : List PV) (F : Nat → Value) : Prop where
  hz : ∀ x ∈ xs, x.cells.length = sz
  ad : xs ≠ [] → ∃ b, a = some b
  spot : ∀ b, a = some b → xs ≠ [] → b.spot = none
  cell : ∀ b (j : Nat) (x : PV) (i : Nat) (y : PV), a = some b → xs[j]? = some x → x.cells[i]? = some y →
    M b.block (b.off + (j * sz + i)) = some (F (j * sz + i)) ∧ (F (j * sz + i)).oneCell' = true ∧ PRel M (F (j * sz + i)) y

theorem div_mod_row {j sz i : Nat} (h : i < sz) : (j * sz + i) / sz = j ∧ (j * sz + i) % sz = i := by
  have h0 : 0 < sz := by omega
  constructor
  · rw [Nat.mul_comm, Nat.mul_add_div h0, Nat.div_eq_of_lt h, Nat.add_zero]
  · rw [Nat.mul_comm, Nat.mul_add_mod, Nat.mod_eq_of_lt h]

theorem PRel.spot {M : Nat → Nat → Option Value} {b : Addr} {len cap sz : Nat} {xs : List PV} (r : PRel M (.slice (some b) len cap) (.sl sz xs)) : cap ≠ 0 → b.spot = none := by
  cases r with | sl _ _ _ _ f hs => exact hs

theorem PRel.slv {M : Nat → Nat → Option Value} {a : Option Addr} {len cap sz : Nat} {xs : List PV} (r : PRel M (.slice a len cap) (.sl sz xs)) : len = xs.length ∧ len ≤ cap ∧ ∃ F, SlV M a sz xs F := by
  cases r with
  | nil => exact ⟨rfl, Nat.le_refl _, fun _ => undef, by simp, by simp, by simp, by simp⟩
  | sl b _ _ _ f hs hc hz hm hx =>
    refine ⟨rfl, hc, fun k => f (k / sz) (k % sz), hz, fun _ => ⟨b, rfl⟩, fun b' e hne => by cases e; exact hs (by have := List.length_pos_iff.2 hne; omega), fun b' j x i y e hj hi => ?_⟩
    cases e
    have hlt : i < sz := by have := (List.getElem?_eq_some_iff.1 hi).1; have := hz x (List.mem_of_getElem? hj); omega
    obtain ⟨e1, e2⟩ := div_mod_row (j := j) hlt
    simp only [e1, e2]
    have := hm j x hj i y hi
    exact ⟨by rw [← Nat.add_assoc]; exact this.1, this.2, hx j x hj i y hi⟩

theorem SlV.prel {M : Nat → Nat → Option Value} {b : Addr} {cap sz : Nat} {xs : List PV} {F : Nat → Value} (r : SlV M (some b) sz xs F) (hc : xs.length ≤ cap) (hsp : cap ≠ 0 → b.spot = none) : PRel M (.slice (some b) xs.length cap) (.sl sz xs) :=
  .sl b cap sz xs (fun j i => F (j * sz + i)) hsp hc r.hz (fun j x hj i y hi => ⟨by rw [Nat.add_assoc]; exact (r.cell b j x i y rfl hj hi).1, (r.cell b j x i y rfl hj hi).2.1⟩) (fun j x hj i y hi => (r.cell b j x i y rfl hj hi).2.2)

/-- every cell of the row is there -/
theorem SlV.all {M : Nat → Nat → Option Value} {b : Addr} {sz : Nat} {xs : List PV} {F : Nat → Value} (r : SlV M (some b) sz xs F) {k : Nat} (hk : k < xs.length * sz) : M b.block (b.off + k) = some (F k) ∧ (F k).oneCell' = true := by
  have h0 : 0 < sz := Nat.pos_of_ne_zero fun e => by subst e; simp at hk
  have hj : k / sz < xs.length := (Nat.div_lt_iff_lt_mul h0).2 hk
  have hi : k % sz < sz := Nat.mod_lt _ h0
  have hx : xs[k / sz]? = some xs[k / sz] := by simp [hj]
  have hl : k % sz < xs[k / sz].cells.length := by rw [r.hz _ (List.mem_of_getElem? hx)]; exact hi
  have := r.cell b (k / sz) _ (k % sz) _ rfl hx (List.getElem?_eq_getElem hl)
  have e : k / sz * sz + k % sz = k := Nat.div_add_mod' k sz
  rw [e] at this
  exact ⟨this.1, this.2.1⟩

theorem run_firstCells {g : Gh} {w : World} {a : Option Addr} {len cap sz : Nat} {xs : List PV} {F : Nat → Value} (r : SlV (imm g w) a sz xs F) (hl : len = xs.length) :
    (Builtin.firstCells sz len (.slice a len cap)).run P w = .ok ((List.range (len * sz)).map F).toArray w := by
  subst hl
  cases a with
  | none =>
    have : xs = [] := by
      by_cases hx : xs = []
      · exact hx
      · obtain ⟨b, hb⟩ := r.ad hx; cases hb
    subst this
    simp [Builtin.firstCells]
  | some b =>
    simp only [Builtin.firstCells]
    exact run_loadCells w b _ F (fun j hj => by rw [Addr.add_of_spot (r.spot b rfl (fun q => by subst q; simp at hj))]; exact imm_cell (r.all hj).1)

/-- what is appended, as a row -/
theorem aYs_rel {g : Gh} {w : World} {dom : Nat → Prop} {ow : Option Owner} {v : Value} {x : AV} {sz : Nat} {ys : List PV} (r : VRel g w dom ow v x) (h : aYs sz x = some ys) :
    ∃ a cap F, v = .slice a ys.length cap ∧ SlV (imm g w) a sz ys F := by
  have key : ∀ {v : Value} {sz' : Nat} {zs : List PV}, PRel (imm g w) v (.sl sz' zs) → (match Nat.beq sz sz' with | true => some zs | false => none) = some ys → ∃ a cap F, v = .slice a ys.length cap ∧ SlV (imm g w) a sz ys F := by
    intro v sz' zs hp hh
    split at hh
    · rename_i hb
      have hb : sz = sz' := Nat.eq_of_beq_eq_true hb
      subst hb
      cases hh
      have hp' := hp
      cases hp with
      | nil => obtain ⟨_, _, F, hF⟩ := hp'.slv; exact ⟨none, 0, F, rfl, hF⟩
      | sl a cap _ _ f => obtain ⟨_, _, F, hF⟩ := hp'.slv; exact ⟨some a, cap, F, rfl, hF⟩
    · cases hh
  cases r with
  | p _ _ y hp =>
    cases y with
    | sl sz' zs => exact key hp h
    | _ => simp [aYs] at h
  | nilS => simp [aYs] at h; subst h; exact ⟨none, 0, fun _ => undef, rfl, by simp, by simp, by simp, by simp⟩
  | es _ a cap z hs => simp [aYs] at h; subst h; exact ⟨some a, cap, fun _ => undef, rfl, by simp, by simp, by simp, by simp⟩
  | full _ a sz' zs hz hp => exact key hp h
  | own o a cap sz' zs cs E hz hp => exact key hp h
  | _ => simp [aYs] at h

theorem isSliceT_spec (hty : TyOK P ty) {t : Nat} (hh : isSliceT ty t = true) : ∃ el, P.underlying t = some (.slice el) := by
  unfold isSliceT at hh
  split at hh
  · rename_i i hi
    split at hh
    · rename_i el hde; exact ⟨el, by rw [← hde]; exact (hty t i hi).und⟩
    · cases hh
  · cases hh

/-- append where there is room: the cells behind the slice are written -/
theorem run_append_fit {t t2 el el2 : TypeId} {inf : TypeInfo} {sz : Nat} (hu : P.underlying t = some (.slice el)) (hu2 : P.underlying t2 = some (.slice el2)) (hi : P.info? el = some inf) (hsz : inf.size = sz)
    {w w' : World} {a a2 : Option Addr} {len cap len2 cap2 : Nat} {vs : List Value} (hfit : len + len2 ≤ cap) (hy : (Builtin.firstCells sz len2 (.slice a2 len2 cap2)).run P w = .ok vs.toArray w)
    (hst : ∀ b, a = some b → (storeCells (b.add (len * sz)) vs).run P w = .ok () w') (hno : a = none → w' = w) (u : TypeId) :
    (Builtin.append_ #[t, t2] u #[.slice a len cap, .slice a2 len2 cap2]).run P w = .ok (.slice a (len + len2) cap) w' := by
  subst hsz
  have e2 : (underlying t2).run P w = .ok (.slice el2) w := run_underlying hu2 w
  cases a with
  | none =>
    have hw := hno rfl
    subst hw
    simp [Builtin.append_, run_underlying hu, sizeOf, typeInfo, hi, e2, Builtin.lenOf, hfit, hy]
  | some b =>
    simp [Builtin.append_, run_underlying hu, sizeOf, typeInfo, hi, e2, Builtin.lenOf, hfit, hy, hst b rfl]

theorem nextslicecap_le {need cap : Nat} (h : cap < need) (hb : Nat) (hn : need * hb ≤ 140737488355328) : ¬ Builtin.nextslicecap need cap * hb > 2 ^ 48 := by
  have key : Builtin.nextslicecap need cap ≤ 2 * need := by
    unfold Builtin.nextslicecap
    split
    · omega
    · split
      · omega
      · -- the slow growth
        have step : ∀ r c, c ≤ need + (need + 768) / 4 → 256 ≤ c → Builtin.growBy need r c ≤ need + (need + 768) / 4 := by
          intro r
          induction r with
          | zero => intro c h1 _; simpa [Builtin.growBy] using h1
          | succ r ih =>
            intro c h1 h2
            unfold Builtin.growBy
            split
            · exact h1
            · exact ih _ (by omega) (by omega)
        have := step 4 cap (by omega) (by omega)
        omega
  have : Builtin.nextslicecap need cap * hb ≤ 2 * need * hb := Nat.mul_le_mul_right _ key
  have e : 2 * need * hb = 2 * (need * hb) := by rw [Nat.mul_assoc]
  omega

theorem zeroCells_size (z : Array Value) (m : Nat) : (Builtin.zeroCells z m).size = m * z.size := by
  simp [Builtin.zeroCells]

/-- append where there is none: a new block -/
theorem run_append_grow {t t2 el el2 : TypeId} {inf : TypeInfo} {z : Value} {sz : Nat} (hu : P.underlying t = some (.slice el)) (hu2 : P.underlying t2 = some (.slice el2)) (hi : P.info? el = some inf) (hsz : inf.size = sz)
    (hz : inf.zero = some z) {w : World} {a a2 : Option Addr} {len cap len2 cap2 : Nat} {us vs : List Value} (hfit : cap < len + len2) (hlen : len ≤ cap)
    (hx : ∀ k, (Builtin.firstCells sz len (.slice a len cap)).run P { w with drawn := k } = .ok us.toArray { w with drawn := k })
    (hy : ∀ k, (Builtin.firstCells sz len2 (.slice a2 len2 cap2)).run P { w with drawn := k } = .ok vs.toArray { w with drawn := k })
    (hroom : (len + len2) * inf.bytes ≤ 140737488355328) (hb0 : inf.bytes ≠ 0) (u : TypeId) :
    ∃ c, len + len2 ≤ c ∧ (Builtin.append_ #[t, t2] u #[.slice a len cap, .slice a2 len2 cap2]).run P w =
      .ok (.slice (some ⟨w.heap.size, 0, none⟩) (len + len2) c) (World.push { w with drawn := w.drawn + 1 } (.cells (us.toArray ++ vs.toArray ++ Builtin.zeroCells z.cells (c - (len + len2))) el (0, 0))) := by
  subst hsz
  have e2 : (underlying t2).run P w = .ok (.slice el2) w := run_underlying hu2 w
  have hnf : ¬ len + len2 ≤ cap := by omega
  have hno1 : ¬ (((len + len2 : Nat) : Int) > IntKind.i64.max ∧ (False ∨ inf.bytes = 0)) := by simp [hb0]
  have hno2 := nextslicecap_le hfit inf.bytes hroom
  refine ⟨(Question.appendCap (len + len2) cap el).cut (w.tape w.drawn (.appendCap (len + len2) cap el)), by simp [Question.cut], ?_⟩
  have hy' : (Builtin.firstCells inf.size len2 (.slice a2 len2 cap2)).run P w.drew = .ok vs.toArray w.drew := hy (w.drawn + 1)
  have hx' : (Builtin.firstCells inf.size len (.slice a len cap)).run P w.drew = .ok us.toArray w.drew := hx (w.drawn + 1)
  simp [Builtin.append_, run_underlying hu, sizeOf, typeInfo, hi, e2, Builtin.lenOf, hnf, hb0, hno2, Question.forced, hx', hy', zeroValue, hz, newRow]
  refine congrArg (fun q => World.push w.drew (.cells q el (0, 0))) ?_
  apply Array.ext'
  simp

end
end Go.AM
