/-
  DERIVED. Part of an abstract machine over plain values, sound against the model. No conditions.
-/
import Derived.Test.YtcgaadhbnckjbaaAMMem3
import Derived.Test.YtcgaadhbnckjbaaAMSndB
namespace Go.AM
section
variable {P : Program} {ty : Nat → Option TI} {n : Nat}

/-- an interface held against nil -/
theorem ifcOf {g w dom ow} {b : Bool} {v : Value} (r : VRel g w dom ow v (.ifc b)) : ifcOK b v := by
  cases r with
  | ifc _ _ _ h => exact h
theorem eqIfc (d : Nat) {t : TypeId} {ms : Array (String × TypeId)} (hu : P.underlying t = some (.interface ms)) {b : Bool} {v : Value} (w : World) (hv : ifcOK b v) : (Op.equalIn (d + 1) t v .nilIface).run P w = .ok (!b) w := by
  cases b with
  | false =>
    have : v = .nilIface := hv
    subst this
    simp only [Op.equalIn, Sem.run_bind, run_underlying hu, Result.andThen_ok, Sem.run_pure]; rfl
  | true =>
    obtain ⟨T, y, rfl⟩ := hv
    simp only [Op.equalIn, Sem.run_bind, run_underlying hu, Result.andThen_ok, Sem.run_pure]; rfl
theorem aIfc_sound (hty : TyOK P ty) {o : Oper} {e : Env} {h : Heap} {K : AK} (hd : ∀ d, o.dst = some d → d < n) {op : BinOp} {t t' : TypeId} {x : Operand} {b : Bool} (hx : ev e x = .ifc b) (hk : (match isIfaceT ty t, op with | true, .eql => ret o (.p (.b (!b))) K | true, .neq => ret o (.p (.b b)) K | _, _ => AStuck "binOp iface")) (ho : o.op = .binOp op t x (.const .nilIface) t') : ∃ f, K f ∧ OpOK P n o e h f := by
  have m1 : x ∈ o.op.operands := by simp [ho, Op.operands]
  have hu : isIfaceT ty t = true → ∃ ms, P.underlying t = some (.interface ms) := by
    intro hb
    unfold isIfaceT at hb
    split at hb
    · rename_i i hi
      split at hb
      · rename_i ms hdd; exact ⟨ms, by rw [← hdd]; exact (hty t i hi).und⟩
      · cases hb
    · cases hb
  have heq : isIfaceT ty t = true → ∀ (v : Value) (w : World), ifcOK b v → (Op.equal t v .nilIface).run P w = .ok (!b) w := by
    intro h1 v w hv
    obtain ⟨ms, hu⟩ := hu h1
    exact eqIfc 9999 hu w hv
  have hgd : ∀ (v : Value) (w : World), ifcOK b v → (eqGuard op t x (.const .nilIface) v .nilIface).run P w = .ok () w := by
    intro v w hv
    cases b with
    | false =>
      have : v = .nilIface := hv
      subst this
      unfold eqGuard
      cases op <;> simp
    | true =>
      obtain ⟨T, y, rfl⟩ := hv
      unfold eqGuard
      cases op <;> simp
  have fin : ∀ (q : Bool), ret o (.p (.b q)) K → (∀ (v : Value) (w : World), ifcOK b v → (eqGuard op t x (.const .nilIface) v .nilIface).run P w = .ok () w → (binOp op t v .nilIface).run P w = .ok (.bool q) w) → ∃ f, K f ∧ OpOK P n o e h f := by
    intro q hq hb
    refine ret_sound hd hq fun e' h' he g w a s => ?_
    obtain ⟨_, r1⟩ := s.evo he m1 hx
    have hv := ifcOf r1
    · refine ⟨.bool q, ?_, fun d _ => .p _ _ _ (.b _)⟩
      have := hb _ w hv (hgd _ w hv)
      have hc : a.eval (.const .nilIface) = .nilIface := rfl
      simp only [execOp, ho, hc, Sem.run_bind, hgd _ w hv, Result.andThen_ok, this, Sem.run_pure]
  cases hI : isIfaceT ty t with
  | false => rw [hI] at hk; cases op <;> exact hk.elim
  | true =>
    rw [hI] at hk
    cases op <;> first | exact hk.elim | skip
    · exact fin _ hk (by intro v w hv _; simp [binOp, heq hI _ _ hv])
    · exact fin _ hk (by intro v w hv _; simp [binOp, heq hI _ _ hv])
/-- every operation is sound -/
theorem aop_sound (hty : TyOK P ty) {mv : Nat → Bool} {o : Oper} {e : Env} {h : Heap} {K : AK} (hd : ∀ d, o.dst = some d → d < n) (hst : ∀ t x y, o.op = .store t x y → o.dst = none) (hst2 : ∀ t m k v, o.op = .mapUpdate t m k v ∨ o.op = .insert t m k v → o.dst = none) (hk : aop ty (pcall P) mv o e h K) : ∃ f, K f ∧ OpOK P n o e h f := by
  unfold aop at hk
  split at hk
  · rename_i t ho; exact aMove_sound hd (.inl ho) hk
  · rename_i x hx ho; exact operand_sound hd (.inl ho) (fun t q => hx t q) hk
  · rename_i t ho; exact aMove_sound hd (.inr ho) hk
  · rename_i x hx ho; exact operand_sound hd (.inr ho) (fun t q => hx t q) hk
  · rename_i c x y ho
    split at hk
    · rename_i gd hc; exact aPick_sound hd ho hc hk
    · exact hk.elim
  · rename_i t ho; exact aAlloc_sound hty hd ho hk
  · rename_i t x ho; exact aBox_sound hd ho hk
  · rename_i t parts ho; exact aBuild_sound hty hd ho hk
  · rename_i t len parts ho; exact aBuildSlice_sound hty hd ho hk
  · rename_i t x ho; exact aLoad_sound hty hd ho hk
  · rename_i t x y ho; exact aStore_sound hty ho (hst _ _ _ ho) hk
  · rename_i x ho; exact aNil_sound hd ho hk
  · rename_i op t x t' ho
    split at hk
    · rename_i b hx; exact aIfc_sound hty hd hx hk ho
    · exact hk.elim
  · rename_i op t x y t' _ ho; exact aBin_sound hty hd ho hk
  · rename_i op t x ho; exact aUn_sound hd ho hk
  · rename_i src dst x ho; exact aConv_sound hty hd ho hk
  · rename_i f first caps ho; exact aFunc_sound hd ho hk
  · rename_i t st lo ho
    split at hk
    · rename_i sz xs hx; exact aSliceO_sound hty hd ho hx hk
    · rename_i l sz m hx; exact aSliceT_sound hty hd ho hx hk
    · exact aSlice_sound hty hd ho hk
  · rename_i t st u ho
    split at hk
    · rename_i l sz m hx; exact aSliceA_sound hty hd ho hx hk
    · rename_i l hx; exact aSliceR_sound hty hd ho hx hk
    · exact aSlice_sound hty hd ho hk
  · rename_i t x lo hi _ _ ho; exact aSlice_sound hty hd ho hk
  · rename_i s x f ho; exact aFieldAddr_sound hty hd ho hk
  · rename_i t x f ho
    exact aField_sound hty hd ho hk
  · rename_i t x ix ho; exact aIndexAddr_sound hty hd ho hk
  · rename_i x m ho; exact aExtract_sound hd ho hk
  · rename_i x t ts ho; exact aLen_sound hty hd ho hk
  · rename_i x y t t2 ho; exact aAppend_sound hty hd ho hk
  · rename_i x y ts ho; exact aMin_sound hd ho hk
  · rename_i x y ts ho; exact aMax_sound hd ho hk
  · rename_i x y z ts ho; exact aMax3_sound hd ho hk
  · rename_i x t ts ho; exact aClear_sound hty ho hk
  · rename_i x as ts ho
    split at hk
    · rename_i f first caps hx; exact aCall_sound hd ho hx hk
    · exact hk.elim
  · rename_i t ho; exact aMakeMap_sound hty hd ho hk
  · rename_i t m k ok ho; exact aLookup_sound hty hd ho hk
  · rename_i t m k v ho; exact aMapUpdate_sound hty (.inl ho) (hst2 _ _ _ _ (.inl ho)) hk
  · rename_i t m k v ho; exact aMapUpdate_sound hty (.inr ho) (hst2 _ _ _ _ (.inr ho)) hk
  · rename_i t x y ho; exact aMakeSlice_sound hty hd ho hk
  · rename_i t x ix ho; exact aIndex_sound hty hd ho hk
  · exact hk.elim

end
end Go.AM
