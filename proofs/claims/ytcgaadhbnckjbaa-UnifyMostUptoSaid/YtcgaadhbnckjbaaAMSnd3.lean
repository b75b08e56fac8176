/-
  DERIVED. Part of an abstract machine over plain values, sound against the model. No conditions.
-/
import Derived.Test.YtcgaadhbnckjbaaAMSnd2
import Derived.MapKept
namespace Go.AM
section
variable {P : Program} {ty : Nat → Option TI} {n : Nat} {o : Oper} {e : Env} {h : Heap} {K : AK}

theorem run_builtin_call {x : List Operand} {b : Builtin} {ts : Array TypeId} (ho : o.op = .call { callee := .builtin b, args := ⟨x⟩, argTypes := ts }) (a : Act) (w : World) :
    ∃ cs, (execOp a.eval o).run P w = (builtin b ts o.type cs (x.map a.eval).toArray).run P w := by
  cases o
  simp only at ho
  subst ho
  exact ⟨_, congrArg (fun z => Sem.run P (builtin b ts _ _ z) w) (List.map_toArray ..)⟩

theorem run_len {t : TypeId} {d : TypeDesc} {v : Value} {k : Int} (hu : P.underlying t = some d) (h : (d = .string ∧ ∃ s, v = .string s ∧ k = s.size) ∨ ((∃ el, d = .slice el) ∧ ∃ a n c, v = .slice a n c ∧ k = n)) {ts : List TypeId} (w : World) :
    (Builtin.len_ (t :: ts).toArray 0 #[v]).run P w = .ok (.int .i64 k) w := by
  rcases h with ⟨rfl, s, rfl, rfl⟩ | ⟨⟨el, rfl⟩, a, n, c, rfl, rfl⟩ <;> simp [Builtin.len_, run_underlying hu, goInt]

/-- a slice's length -/
theorem VRel.slen {g : Gh} {w : World} {dom : Nat → Prop} {ow : Option Owner} {v : Value} {sz : Nat} {xs : List PV} (r : VRel g w dom ow v (.p (.sl sz xs))) : ∃ a c, v = .slice a xs.length c := by
  cases r with
  | p _ _ _ hp => cases hp with
    | nil => exact ⟨none, 0, rfl⟩
    | sl a cap _ _ f => exact ⟨some a, cap, rfl⟩

theorem aLen_sound (hty : TyOK P ty) (hd : ∀ d, o.dst = some d → d < n) {x : Operand} {t : Nat} {ts : List TypeId} (ho : o.op = .call { callee := .builtin .len, args := ⟨[x]⟩, argTypes := ⟨t :: ts⟩ })
    (hk : aLen ty o t (ev e x) h K) : ∃ f, K f ∧ OpOK P n o e h f := by
  have m1 : x ∈ o.op.operands := by simp [ho, Op.operands, Call.operands]
  have hrun : ∀ (a : Act) (w : World) (k : Int), (∀ u, (Builtin.len_ (t :: ts).toArray u #[a.eval x]).run P w = .ok (.int .i64 k) w) → (execOp a.eval o).run P w = .ok (.value (.int .i64 k)) w := by
    intro a w k hl
    obtain ⟨cs, hcs⟩ := run_builtin_call (P := P) ho a w
    rw [hcs]
    simp only [builtin, List.map_cons, List.map_nil, Sem.run_bind]
    rw [show (⟨t :: ts⟩ : Array TypeId) = (t :: ts).toArray from rfl, hl]; rfl
  have hl : ∀ {d : TypeDesc} {v : Value} {k : Int}, P.underlying t = some d → ((d = .string ∧ ∃ s, v = .string s ∧ k = (s.size : Int)) ∨ ((∃ el, d = .slice el) ∧ ∃ (a : Option Addr) (n c : Nat), v = .slice a n c ∧ k = (n : Int))) → ∀ u w, (Builtin.len_ (t :: ts).toArray u #[v]).run P w = .ok (.int .i64 k) w := by
    intro d v k hu hh u w
    exact run_len hu hh w
  unfold aLen at hk
  split at hk
  · rename_i i hi
    have hu := (hty t i hi).und
    split at hk
    · rename_i el hde
      rw [hde] at hu
      split at hk
      · rename_i sz xs hx
        refine ret_sound hd hk fun e' h' he g w a s => ?_
        obtain ⟨_, r1⟩ := s.evo he m1 hx
        obtain ⟨ad, c, hv⟩ := r1.slen
        exact ⟨_, hrun a w _ (fun u => hl hu (.inr ⟨⟨el, rfl⟩, ad, _, c, hv, rfl⟩) u w), fun d _ => .p _ _ _ (.i _ _)⟩
      · rename_i sz xs hx
        refine ret_sound hd hk fun e' h' he g w a s => ?_
        obtain ⟨_, r1⟩ := s.evo he m1 hx
        obtain ⟨ad, c, hv⟩ := (r1.copy (ow' := none)).slen
        exact ⟨_, hrun a w _ (fun u => hl hu (.inr ⟨⟨el, rfl⟩, ad, _, c, hv, rfl⟩) u w), fun d _ => .p _ _ _ (.i _ _)⟩
      · rename_i hx
        refine ret_sound hd hk fun e' h' he g w a s => ?_
        obtain ⟨_, r1⟩ := s.evo he m1 hx
        generalize hv : a.eval x = v at r1
        cases r1 with
        | nilS => exact ⟨_, hrun a w 0 (fun u => hl hu (.inr ⟨⟨el, rfl⟩, none, 0, 0, hv, rfl⟩) u w), fun d _ => .p _ _ _ (.i _ _)⟩
      · rename_i sz hx
        refine ret_sound hd hk fun e' h' he g w a s => ?_
        obtain ⟨_, r1⟩ := s.evo he m1 hx
        generalize hv : a.eval x = v at r1
        cases r1 with
        | es _ ad cap _ _ => exact ⟨_, hrun a w 0 (fun u => hl hu (.inr ⟨⟨el, rfl⟩, some ad, 0, cap, hv, rfl⟩) u w), fun d _ => .p _ _ _ (.i _ _)⟩
      · rename_i l hx
        split at hk
        · rename_i xs hh
          refine retR_sound hd hk fun e' h' he hl' g w a s => ?_
          obtain ⟨_, r1⟩ := s.evo he m1 hx
          generalize hv : a.eval x = v at r1
          cases r1 with
          | ar _ _ m hdm hn =>
            obtain ⟨cs, E, hb, rfl⟩ := hn
            rw [hh] at hl'
            cases s.heap.obj l _ hl' with
            | arr _ vs E' hb' hlen =>
              rw [hb] at hb'
              cases hb'
              exact ⟨_, hrun a w _ (fun u => hl hu (.inr ⟨⟨el, rfl⟩, _, _, _, hv, rfl⟩) u w), fun d _ => by rw [hlen]; exact .p _ _ _ (.i _ _)⟩
        · rename_i xs hh
          refine retR_sound hd hk fun e' h' he hl' g w a s => ?_
          obtain ⟨_, r1⟩ := s.evo he m1 hx
          generalize hv : a.eval x = v at r1
          cases r1 with
          | ar _ _ m hdm hn =>
            obtain ⟨cs, E, hb, rfl⟩ := hn
            rw [hh] at hl'
            cases s.heap.obj l _ hl' with
            | cells _ vs E' hb' hlen =>
              rw [hb] at hb'
              cases hb'
              exact ⟨_, hrun a w _ (fun u => hl hu (.inr ⟨⟨el, rfl⟩, _, _, _, hv, rfl⟩) u w), fun d _ => by rw [hlen]; exact .p _ _ _ (.i _ _)⟩
        · exact hk.elim
      · rename_i l sz m hx
        refine ret_sound hd hk fun e' h' he g w a s => ?_
        obtain ⟨_, r1⟩ := s.evo he m1 hx
        generalize hv : a.eval x = v at r1
        cases r1 with
        | al0 => exact ⟨_, hrun a w 0 (fun u => hl hu (.inr ⟨⟨el, rfl⟩, none, 0, 0, hv, rfl⟩) u w), fun d _ => .p _ _ _ (.i _ _)⟩
        | al _ _ _ _ _ cap => exact ⟨_, hrun a w _ (fun u => hl hu (.inr ⟨⟨el, rfl⟩, _, _, cap, hv, rfl⟩) u w), fun d _ => .p _ _ _ (.i _ _)⟩
      · exact hk.elim
    · rename_i kt et hde
      rw [hde] at hu
      split at hk
      · rename_i l hx
        split at hk
        · rename_i kd xs hh
          refine retR_sound hd hk fun e' h' he hl' g w a s => ?_
          obtain ⟨_, r1⟩ := s.evo he m1 hx
          generalize hv : a.eval x = v at r1
          cases r1 with
          | mp _ _ hdm =>
            rw [hh] at hl'
            cases s.heap.obj l _ hl' with
            | map _ _ es clock hb hxx hc =>
              refine ⟨_, hrun a w xs.length (fun u => ?_), fun d _ => .p _ _ _ (.i _ _)⟩
              have e1 : es.size = xs.length := by have := hxx.1; simpa using this
              rw [hv]
              simp [Builtin.len_, run_underlying hu, MapKept.run_getObj_map hb, e1, goInt]
        · exact hk.elim
      · rename_i hx
        refine ret_sound hd hk fun e' h' he g w a s => ?_
        obtain ⟨_, r1⟩ := s.evo he m1 hx
        generalize hv : a.eval x = v at r1
        cases r1 with
        | c _ _ h1 =>
          refine ⟨_, hrun a w 0 (fun u => ?_), fun d _ => .p _ _ _ (.i _ _)⟩
          rw [hv]
          simp [Builtin.len_, run_underlying hu, goInt]
      · exact hk.elim
    · rename_i hde
      rw [hde] at hu
      split at hk
      · rename_i y hx
        refine ret_sound hd hk fun e' h' he g w a s => ?_
        obtain ⟨_, r1⟩ := s.evo he m1 hx
        exact ⟨_, hrun a w _ (fun u => hl hu (.inl ⟨rfl, y, r1.str, rfl⟩) u w), fun d _ => .p _ _ _ (.i _ _)⟩
      · exact hk.elim
    · exact hk.elim
  · exact hk.elim

theorem imm_cell {g : Gh} {w : World} {b i : Nat} {v : Value} (h : imm g w b i = some v) : w.cell? ⟨b, i, none⟩ = some v := by
  unfold imm at h; split at h
  · exact h
  · cases h

theorem aIndexAddr_sound (hty : TyOK P ty) (hd : ∀ d, o.dst = some d → d < n) {x ix : Operand} {t : Nat} (ho : o.op = .indexAddr t x ix) (hk : aIndexAddr ty o t (ev e x).copy (ev e ix) h K) : ∃ f, K f ∧ OpOK P n o e h f := by
  have m1 : x ∈ o.op.operands := by simp [ho, Op.operands]
  have m2 : ix ∈ o.op.operands := by simp [ho, Op.operands]
  unfold aIndexAddr at hk
  split at hk
  · rename_i i hi
    split at hk
    · rename_i el hde
      have hu := (hty t i hi).und
      rw [hde] at hu
      split at hk
      · rename_i j hj
        split at hk
        · rename_i sz xs k m hx hix
          split at hk
          · rename_i hz
            obtain rfl : sz = j.size := Nat.eq_of_beq_eq_true hz
            obtain ⟨y, h0, hy, hk⟩ := hk
            refine ret_sound hd hk fun e' h' he g w a s => ?_
            obtain ⟨_, r1⟩ := s.evo he m1 rfl
            have r1 := r1.copy (ow' := none)
            rw [hx] at r1
            obtain ⟨_, r2⟩ := s.evo he m2 hix
            have hlt : m.toNat < xs.length := (List.getElem?_eq_some_iff.1 hy).1
            generalize hv : a.eval x = v at r1
            cases r1 with
            | p _ _ _ hp =>
              cases hp with
              | nil => simp at hy
              | sl ad cap _ _ f hs hc hz2 hm hxx =>
                refine ⟨.pointer (some ⟨ad.block, ad.off + m.toNat * j.size, none⟩), ?_, fun d _ => .vp _ _ _ (fun q => f m.toNat q) rfl (fun q z hq => hm m.toNat y hy q z hq) (fun q z hq => hxx m.toNat y hy q z hq)⟩
                have hlt' : m < (xs.length : Int) := by omega
                simp only [execOp, ho, hv, r2.int, Instr.indexAt, asIntOf, Sem.run_bind, Sem.run_pure, Result.andThen_ok, run_underlying hu, h0, hlt', and_self, if_true, run_sizeOf_ty hty hj, Addr.add_of_spot (hs (by omega))]
          · exact hk.elim
        · rename_i l k m hx hix
          split at hk
          · rename_i xs hh
            split at hk
            · rename_i hz
              have hz : j.size = 1 := Nat.eq_of_beq_eq_true hz
              obtain ⟨⟨h0, hlt⟩, hk⟩ := hk
              refine retR_sound hd hk fun e' h' he hl' g w a s => ?_
              obtain ⟨_, r1⟩ := s.evo he m1 rfl
              have r1 := r1.copy (ow' := none)
              rw [hx] at r1
              obtain ⟨_, r2⟩ := s.evo he m2 hix
              generalize hv : a.eval x = v at r1
              cases r1 with
              | ar _ _ q hdm hn =>
                obtain ⟨cs, E, hb, rfl⟩ := hn
                rw [hh] at hl'
                cases s.heap.obj l _ hl' with
                | arr _ vs E' hb' hlen =>
                  rw [hb] at hb'
                  cases hb'
                  refine ⟨.pointer (some ⟨g.ρ l, m.toNat, none⟩), ?_, fun d _ => .ap _ _ _ hdm⟩
                  have hlt' : m < (cs.size : Int) := by omega
                  simp only [execOp, ho, hv, r2.int, Instr.indexAt, asIntOf, Sem.run_bind, Sem.run_pure, Result.andThen_ok, run_underlying hu, h0, hlt', and_self, if_true, run_sizeOf_ty hty hj, hz, Nat.mul_one, Addr.add_plain, Nat.zero_add]
            · exact hk.elim
          · rename_i xs hh
            split at hk
            · rename_i hz
              have hz : j.size = 1 := Nat.eq_of_beq_eq_true hz
              obtain ⟨⟨h0, hlt⟩, hk⟩ := hk
              refine retR_sound hd hk fun e' h' he hl' g w a s => ?_
              obtain ⟨_, r1⟩ := s.evo he m1 rfl
              have r1 := r1.copy (ow' := none)
              rw [hx] at r1
              obtain ⟨_, r2⟩ := s.evo he m2 hix
              generalize hv : a.eval x = v at r1
              cases r1 with
              | ar _ _ q hdm hn =>
                obtain ⟨cs, E, hb, rfl⟩ := hn
                rw [hh] at hl'
                cases s.heap.obj l _ hl' with
                | cells _ vs E' hb' hlen =>
                  rw [hb] at hb'
                  cases hb'
                  refine ⟨.pointer (some ⟨g.ρ l, m.toNat, none⟩), ?_, fun d _ => .ptr _ _ _ hdm⟩
                  have hlt' : m < (cs.size : Int) := by omega
                  simp only [execOp, ho, hv, r2.int, Instr.indexAt, asIntOf, Sem.run_bind, Sem.run_pure, Result.andThen_ok, run_underlying hu, h0, hlt', and_self, if_true, run_sizeOf_ty hty hj, hz, Nat.mul_one, Addr.add_plain, Nat.zero_add]
            · exact hk.elim
          · exact hk.elim
        · rename_i l sz q k m hx hix
          split at hk
          · rename_i hz
            have hz : sz = j.size := Nat.eq_of_beq_eq_true hz
            obtain ⟨⟨h0, hlt⟩, hk⟩ := hk
            refine ret_sound hd hk fun e' h' he g w a s => ?_
            obtain ⟨_, r1⟩ := s.evo he m1 rfl
            have r1 := r1.copy (ow' := none)
            rw [hx] at r1
            obtain ⟨_, r2⟩ := s.evo he m2 hix
            generalize hv : a.eval x = v at r1
            cases r1 with
            | al0 => omega
            | al _ _ _ _ _ cap hdm h0' hc hn =>
              refine ⟨.pointer (some ⟨g.ρ l, m.toNat * sz + 0, none⟩), ?_, fun d _ => .ep _ _ _ _ _ hdm⟩
              have hlt' : m < (q : Int) := by omega
              simp only [execOp, ho, hv, r2.int, Instr.indexAt, asIntOf, Sem.run_bind, Sem.run_pure, Result.andThen_ok, run_underlying hu, h0, hlt', and_self, if_true, run_sizeOf_ty hty hj, hz, Addr.add_plain, Nat.zero_add, Nat.add_zero]
          · exact hk.elim
        · exact hk.elim
      · exact hk.elim
    · rename_i len el hde
      have hu := (hty t i hi).und
      rw [hde] at hu
      split at hk
      · rename_i j hj
        split at hk
        · rename_i cs k m hx hix
          obtain ⟨⟨h0, hlt⟩, hk⟩ := hk
          refine ret_sound hd hk fun e' h' he g w a s => ?_
          obtain ⟨_, r1⟩ := s.evo he m1 rfl
          have r1 := r1.copy (ow' := none)
          rw [hx] at r1
          obtain ⟨_, r2⟩ := s.evo he m2 hix
          generalize hv : a.eval x = v at r1
          cases r1 with
          | vp _ ad _ f hs hm hxx =>
            refine ⟨.pointer (some ⟨ad.block, ad.off + m.toNat * j.size, none⟩), ?_, fun d _ => .vp _ _ _ (fun q => f (m.toNat * j.size + q)) rfl (fun q z hq => ?_) (fun q z hq => ?_)⟩
            · simp only [execOp, ho, hv, r2.int, Instr.indexAt, Instr.sureAddr, asIntOf, Sem.run_bind, Sem.run_pure, Result.andThen_ok, run_underlying hu, h0, hlt, and_self, if_true, run_sizeOf_ty hty hj, Addr.add_of_spot hs]
            · have := hm (m.toNat * j.size + q) z (by rw [List.getElem?_drop] at hq; exact hq)
              rw [show ad.off + (m.toNat * j.size + q) = ad.off + m.toNat * j.size + q by omega] at this
              exact this
            · exact hxx (m.toNat * j.size + q) z (by rw [List.getElem?_drop] at hq; exact hq)
        · rename_i l off k m hx hix
          obtain ⟨⟨h0, hlt⟩, hk⟩ := hk
          refine ret_sound hd hk fun e' h' he g w a s => ?_
          obtain ⟨_, r1⟩ := s.evo he m1 rfl
          have r1 := r1.copy (ow' := none)
          rw [hx] at r1
          obtain ⟨_, r2⟩ := s.evo he m2 hix
          generalize hv : a.eval x = v at r1
          cases r1 with
          | ptr _ _ _ hdm =>
            refine ⟨.pointer (some ⟨g.ρ l, off + m.toNat * j.size, none⟩), ?_, fun d _ => .ptr _ _ _ hdm⟩
            simp only [execOp, ho, hv, r2.int, Instr.indexAt, Instr.sureAddr, asIntOf, Sem.run_bind, Sem.run_pure, Result.andThen_ok, run_underlying hu, h0, hlt, and_self, if_true, run_sizeOf_ty hty hj, Addr.add_plain]
        · exact hk.elim
      · exact hk.elim
    · exact hk.elim
  · exact hk.elim

end
end Go.AM
