/-
  DERIVED. Part of an abstract machine over plain values, sound against the model. No conditions.
-/
import Derived.Test.YtcgaadhbnckjbaaAMMap2
namespace Go.AM

mutual
/-- every object that a value leads to is in the set -/
def AV.within (d : Nat → Bool) : AV → Bool
  | .agg cs => AV.withins d cs
  | .tup cs => AV.withins d cs
  | .fn _ a b => AV.withins d a && AV.withins d b
  | .ptr l _ => d l
  | .mp l => d l
  | .ar l => d l
  | .ap l _ => d l
  | .al _ l _ _ => d l
  | .ep l _ _ _ => d l
  | .tl l _ _ _ => d l
  | _ => true
def AV.withins (d : Nat → Bool) : List AV → Bool
  | [] => true
  | v :: r => AV.within d v && AV.withins d r
end

theorem withins_get (d : Nat → Bool) : ∀ (xs : List AV), AV.withins d xs = true → ∀ (j : Nat) (x : AV), xs[j]? = some x → x.within d = true
  | [], _, j, x, hx => by simp at hx
  | y :: r, h, j, x, hx => by
    simp only [AV.withins, Bool.and_eq_true] at h
    cases j with
    | zero => simp at hx; subst hx; exact h.1
    | succ j => simp at hx; exact withins_get d r h.2 j x hx

theorem VRel.within {g : Gh} {w : World} {dom dom' : Nat → Prop} {d : Nat → Bool} (hd : ∀ l, d l = true → dom' l) {ow : Option Owner} {v : Value} {x : AV} (r : VRel g w dom ow v x) (hx : x.within d = true) : VRel g w dom' ow v x := by
  induction r with
  | top => exact .top _ _
  | p _ _ _ h => exact .p _ _ _ h
  | c _ _ h1 => exact .c _ _ h1
  | nilS => exact .nilS _
  | es _ a cap sz hs => exact .es _ a cap sz hs
  | full _ a sz xs hz h => exact .full _ a sz xs hz h
  | own o a cap sz xs cs E hz h ho hp hb hs => exact .own o a cap sz xs cs E hz h ho hp hb hs
  | ptr _ l off h => exact .ptr _ l off (hd l (by simpa [AV.within] using hx))
  | vp _ a cs f hs hm hxx => exact .vp _ a cs f hs hm hxx
  | agg _ vs cs hl h1 _ ih => exact .agg _ vs cs hl h1 (fun j v c q1 q2 => ih j v c q1 q2 (withins_get d cs (by simpa [AV.within] using hx) j c q2))
  | tup _ vs cs hl _ ih => exact .tup _ vs cs hl (fun j v c q1 q2 => ih j v c q1 q2 (withins_get d cs (by simpa [AV.within] using hx) j c q2))
  | mp _ l h => exact .mp _ l (hd l (by simpa [AV.within] using hx))
  | ar _ l m h hn => exact .ar _ l m (hd l (by simpa [AV.within] using hx)) hn
  | ap _ l i h => exact .ap _ l i (hd l (by simpa [AV.within] using hx))
  | ifc _ b v h => exact .ifc _ b v h
  | al0 _ l sz h => exact .al0 _ l sz (hd l (by simpa [AV.within] using hx))
  | al _ st l sz m cap h h0 hc hn => exact .al _ st l sz m cap (hd l (by simpa [AV.within] using hx)) h0 hc hn
  | ep _ l sz i c h => exact .ep _ l sz i c (hd l (by simpa [AV.within] using hx))
  | tl _ a l sz i m cap h ha hn => exact .tl _ a l sz i m cap (hd l (by simpa [AV.within] using hx)) ha hn
  | fn _ f fs cs first caps h1 h2 _ _ ih1 ih2 =>
    have hx : AV.withins d first = true ∧ AV.withins d caps = true := by simpa [AV.within] using hx
    exact .fn _ f fs cs first caps h1 h2 (fun j v c q1 q2 => ih1 j v c q1 q2 (withins_get d first hx.1 j c q2)) (fun j v c q1 q2 => ih2 j v c q1 q2 (withins_get d caps hx.2 j c q2))

def AObj.within (d : Nat → Bool) : AObj → Bool
  | .cells cs => AV.withins d cs
  | _ => true

def memB (l : List Nat) (i : Nat) : Bool := match l with
  | [] => false
  | x :: r => match Nat.beq x i with | true => true | false => memB r i

theorem memB_mem : ∀ (l : List Nat) (i : Nat), memB l i = true → i ∈ l
  | [], i, h => by simp [memB] at h
  | x :: r, i, h => by
    simp only [memB] at h
    split at h
    · rename_i q; have := Nat.eq_of_beq_eq_true q; simp [this]
    · exact List.mem_cons_of_mem _ (memB_mem r i h)

section
variable {P : Program} {ty : Nat → Option TI} {n : Nat} {o : Oper} {e : Env} {h : Heap} {K : AK}

def hasBody (P : Program) (f : Nat) : Prop := ∃ fn c, P.funcs[f]? = some fn ∧ fn.body = some c ∧ (fn.name == "runtime.NumGoroutine") = false

/-- 'called with these values, the function returns this one; of all that was there nothing turns' -/
def APure (P : Program) (f : Nat) (args : List AV) (r : AV) : Prop :=
  hasBody P f ∧ ∀ (g : Gh) (w : World) (vs : List Value), (∀ b, g.own b = none) → vs.length = args.length → (∀ (j : Nat) (v : Value) (x : AV), vs[j]? = some v → args[j]? = some x → VRel g w (fun _ => False) none v x) →
    Calls P f vs.toArray w fun en w' => ∃ v g', en = .returned v ∧ VRel g' w' (fun _ => False) (some .ret) v r ∧ Ext g w g' w'

theorem frees_get : ∀ (xs : List AV), AV.frees xs = true → ∀ (j : Nat) (x : AV), xs[j]? = some x → x.free = true
  | [], _, j, x, hx => by simp at hx
  | y :: r, h, j, x, hx => by
    simp only [AV.frees, Bool.and_eq_true] at h
    cases j with
    | zero => simp at hx; subst hx; exact h.1
    | succ j => simp at hx; exact frees_get r h.2 j x hx

theorem VRel.toFree {g : Gh} {w : World} {dom dom' : Nat → Prop} {ow : Option Owner} {v : Value} {x : AV} (r : VRel g w dom ow v x) (hx : x.free = true) (own' : Nat → Option Owner) (ow' : Option Owner) :
    VRel { g with own := own' } w dom' ow' v x := by
  induction r generalizing ow' with
  | top => exact .top _ _
  | p _ _ _ h => exact .p _ _ _ h
  | c _ _ h1 => exact .c _ _ h1
  | nilS => exact .nilS _
  | es _ a cap sz hs => exact .es _ a cap sz hs
  | full => simp [AV.free] at hx
  | own => simp [AV.free] at hx
  | ptr => simp [AV.free] at hx
  | vp _ a cs f hs hm hxx => exact .vp _ a cs f hs hm hxx
  | agg _ vs cs hl h1 _ ih => exact .agg _ vs cs hl h1 (fun j v c q1 q2 => ih j v c q1 q2 (frees_get cs (by simpa [AV.free] using hx) j c q2) none)
  | tup _ vs cs hl _ ih => exact .tup _ vs cs hl (fun j v c q1 q2 => ih j v c q1 q2 (frees_get cs (by simpa [AV.free] using hx) j c q2) none)
  | mp => simp [AV.free] at hx
  | ar => simp [AV.free] at hx
  | ap => simp [AV.free] at hx
  | ifc _ b v h => exact .ifc _ b v h
  | al0 => simp [AV.free] at hx
  | al => simp [AV.free] at hx
  | ep => simp [AV.free] at hx
  | tl => simp [AV.free] at hx
  | fn _ f fs cs first caps h1 h2 _ _ ih1 ih2 =>
    have hx : AV.frees first = true ∧ AV.frees caps = true := by simpa [AV.free] using hx
    exact .fn _ f fs cs first caps h1 h2 (fun j v c q1 q2 => ih1 j v c q1 q2 (frees_get first hx.1 j c q2) none) (fun j v c q1 q2 => ih2 j v c q1 q2 (frees_get caps hx.2 j c q2) none)

/-- a caller's state behind a call that touched nothing of its own -/
theorem Sim.called {g g' : Gh} {w w' : World} {a : Act} {e : Env} {h : Heap} (s : Sim g w n a e h) (hx : Ext { g with own := fun _ => none } w g' w') (d : Nat) :
    Sim { pre := g'.pre, own := fun b => if b < w.heap.size then g.own b else if b < w'.heap.size ∧ g'.own b = some .ret then some (.slot d) else none, ρ := g.ρ } w' n a e h ∧
    Ext g w { pre := g'.pre, own := fun b => if b < w.heap.size then g.own b else if b < w'.heap.size ∧ g'.own b = some .ret then some (.slot d) else none, ρ := g.ρ } w' ∧
    ∀ v r, VRel g' w' (fun _ => False) (some .ret) v r → VRel { pre := g'.pre, own := fun b => if b < w.heap.size then g.own b else if b < w'.heap.size ∧ g'.own b = some .ret then some (.slot d) else none, ρ := g.ρ } w' (domOf h) (some (.slot d)) v r := by
  generalize hG : ({ pre := g'.pre, own := fun b => if b < w.heap.size then g.own b else if b < w'.heap.size ∧ g'.own b = some .ret then some (.slot d) else none, ρ := g.ρ } : Gh) = G
  have Gpre : G.pre = g'.pre := by rw [← hG]
  have Gρ : G.ρ = g.ρ := by rw [← hG]
  have Gold : ∀ b, b < w.heap.size → G.own b = g.own b := fun b hb => by rw [← hG]; simp [hb]
  have Gnew : ∀ b, ¬ b < w.heap.size → G.own b = if b < w'.heap.size ∧ g'.own b = some .ret then some (.slot d) else none := fun b hb => by rw [← hG]; simp [hb]
  have kept : ∀ b, b < w.heap.size → w'.heap[b]? = w.heap[b]? ∧ G.pre b = g.pre b := fun b hb => by
    obtain ⟨q1, q2, _⟩ := hx.kept b hb rfl
    exact ⟨q1, by rw [Gpre]; exact q2⟩
  have himm : ∀ b k v, imm g w b k = some v → imm G w' b k = some v := fun b k v hv => by
    have := hx.imm b k v hv
    unfold imm at this ⊢; rw [Gpre]; exact this
  have up : ∀ {ow v x}, VRel g w (domOf h) ow v x → VRel G w' (domOf h) ow v x := fun r =>
    r.keep himm (fun l hl => ⟨hl, by rw [Gρ]⟩) (fun l cs E hl hb => ⟨cs, E, by rw [(kept _ (get_lt hb)).1]; exact hb, rfl⟩)
      (fun o b _ ho => by have hb := s.bnd b o ho; exact ⟨(Gold b hb).trans ho, (kept b hb).2, (kept b hb).1⟩)
  refine ⟨⟨s.defers, s.size, fun i => up (s.env i), ⟨fun l x hxl => ?_, fun l x hxl hq => ?_, fun l x hxl hq => ?_⟩, fun b o2 hb => ?_⟩, ⟨hx.size, hx.os, hx.out, himm, fun b hb ho => ⟨(kept b hb).1, (kept b hb).2, (Gold b hb).trans ho⟩, hx.frz, hx.frz', fun _ _ => by rw [Gρ], hx.siz⟩, fun v r hr => ?_⟩
  · have eo : ∀ {ob}, w.heap[g.ρ l]? = some ob → w'.heap[G.ρ l]? = some ob := fun hb => by rw [Gρ, (kept _ (get_lt hb)).1]; exact hb
    cases s.heap.obj l x hxl with
    | cells cs vs E hb hl hx' h1 => exact .cells cs vs E (eo hb) hl (fun j v c q1 q2 => up (hx' j v c q1 q2)) h1
    | arr xs vs E hb hl hx' h1 => exact .arr xs vs E (eo hb) hl (fun j v c q1 q2 => (hx' j v c q1 q2).mono himm) h1
    | gr st sz xs hg => exact .gr st sz xs fun q => (hg q).mono himm (fun _ _ hv => eo hv)
    | dead => exact .dead
    | glob gb gvs hgl => exact ORel.globM hgl (fun h1 hlt _ => ⟨(kept gb hlt).1, (Gold gb hlt).trans h1⟩)
    | bld T E2 bs2 hbl => exact ORel.bldM hbl (by rw [Gρ]) (by obtain ⟨_, _, hb, _⟩ := hbl; exact (kept _ (get_lt hb)).1) (fun bb hb2 => ⟨(Gold bb (s.bnd bb _ hb2)).trans hb2, (kept bb (s.bnd bb _ hb2)).1, (kept bb (s.bnd bb _ hb2)).2⟩)
    | map kd xs es clock hb hx' hc => exact .map kd xs es clock (eo hb) ⟨hx'.1, fun j p1 p2 p3 p4 => ⟨(hx'.2 j p1 p2 p3 p4).1.mono himm, (hx'.2 j p1 p2 p3 p4).2.mono himm⟩⟩ hc
  · have ho := s.heap.own l x hxl hq
    rw [Gρ, Gold _ (s.bnd _ _ ho)]; exact ho
  · have ho := s.heap.own l x hxl hq
    rw [Gρ, (kept _ (s.bnd _ _ ho)).2]; exact s.heap.pre l x hxl hq
  · by_cases hlt : b < w.heap.size
    · exact Nat.lt_of_lt_of_le hlt hx.size
    · rw [Gnew b hlt] at hb
      split at hb
      · rename_i q; exact q.1
      · cases hb
  · have hi2 : ∀ b k v, imm g' w' b k = some v → imm G w' b k = some v := fun b k v hv => by unfold imm at hv ⊢; rw [Gpre]; exact hv
    have conv : ∀ {ow v x}, ow = none → VRel g' w' (fun _ => False) ow v x → VRel G w' (domOf h) ow v x := fun q r =>
      r.keep hi2 (fun _ hf => hf.elim) (fun _ _ _ hf => hf.elim) (fun o b e1 _ => by rw [q] at e1; cases e1)
    cases r with
    | so sz xs =>
      cases hr with
      | full _ a _ _ hz hp => exact .full _ a sz xs hz (hp.mono hi2)
      | own _ a cap _ _ cs E hz hp ho hpre hb hs =>
        have hge : ¬ a.block < w.heap.size := fun hlt => by rw [(hx.kept _ hlt rfl).2.2] at ho; cases ho
        have hlt' : a.block < w'.heap.size := by
          rcases Nat.lt_or_ge a.block w'.heap.size with q | q
          · exact q
          · rw [Array.getElem?_eq_none q] at hb; cases hb
        exact .own (.slot d) a cap sz xs cs E hz (hp.mono hi2) (by rw [Gnew _ hge, if_pos ⟨hlt', ho⟩]) (by rw [Gpre]; exact hpre) hb hs
    | _ => exact (conv rfl (hr.anyOwner (ow' := none) (fun _ _ q => by cases q))).anyOwner (fun _ _ q => by cases q)

theorem argOf_spec {a : Act} {g : Gh} {w : World} {e' : Env} {h' : Heap} (s : Sim g w n a e' h') (he : ∀ t ∈ slotsOf o, eget e' t = eget e t) : ∀ (xs : List Operand) (ts : List Nat), (∀ x ∈ xs, x ∈ o.op.operands) →
    (argOf ty e xs ts).length = xs.length ∧ ∀ (j : Nat) (x : Operand) (y : AV), xs[j]? = some x → (argOf ty e xs ts)[j]? = some y → ∃ ow, VRel g w (domOf h') ow (a.eval x) y
  | [], ts, _ => by simp [argOf]
  | x :: r, ts, hm => by
    obtain ⟨k1, k2⟩ := argOf_spec s he r ts.tail (fun x hx => hm x (by simp [hx]))
    refine ⟨by simp [argOf, k1], fun j x' y hx hy => ?_⟩
    cases j with
    | zero =>
      simp only [argOf, List.getElem?_cons_zero, Option.some.injEq] at hx hy
      subst hx
      obtain ⟨ow, r1⟩ := s.evo he (hm x (by simp)) rfl
      split at hy
      · rename_i hn
        rw [hn] at r1
        subst hy
        generalize a.eval x = v at r1
        cases r1 with
        | nilS => cases keepN ty (headD ts) with
          | true => exact ⟨none, .nilS _⟩
          | false => exact ⟨none, .p _ _ _ (.nil _)⟩
      · rename_i sz hn
        rw [hn] at r1
        subst hy
        generalize a.eval x = v at r1
        cases r1 with
        | es _ ad cap _ hs => exact ⟨none, .p _ _ _ (.sl ad cap sz [] (fun _ _ => undef) hs (Nat.zero_le _) (by simp) (by simp) (by simp))⟩
      · rename_i sz xs hn
        rw [hn] at r1
        subst hy
        exact ⟨none, r1.copy⟩
      · rename_i cs hn
        rw [hn] at r1
        subst hy
        exact ⟨_, aggTy_rel _ r1⟩
      · subst hy; exact ⟨ow, r1⟩
    | succ j => simp only [argOf, List.getElem?_cons_succ] at hx hy; exact k2 j x' y hx hy

theorem run_call_value {x : Operand} {as : List Operand} {ts : Array TypeId} (ho : o.op = .call { callee := .value x, args := ⟨as⟩, argTypes := ts }) {a : Act} {w : World} {f : Nat} {fs cs : List Value} (hx : a.eval x = .func (.func f) fs.toArray cs.toArray) (hb : hasBody P f) :
    (execOp a.eval o).run P w = .ok (.enter f (fs ++ as.map a.eval ++ cs).toArray) w := by
  obtain ⟨fn, c, h1, h2, h3⟩ := hb
  have hnn : ¬ fn.name = "runtime.NumGoroutine" := by simpa using h3
  simp [execOp, ho, resolve, hx, Deferred.ofValue, invoke, callFunc, h1, h2, hnn]

end
end Go.AM
