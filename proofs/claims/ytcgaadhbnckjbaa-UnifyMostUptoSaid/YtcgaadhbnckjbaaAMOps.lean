/-
  DERIVED. Part of an abstract machine over plain values, sound against the model. No conditions.
-/
import Derived.Test.YtcgaadhbnckjbaaAMRel
namespace Go.AM

def kdT (P : Program) (t : Nat) : Option KD := match P.underlying t, P.info? t with
  | some .bool, some _ => some .kb
  | some (.int k), some _ => some (.ki k)
  | some .string, some _ => some .ks
  | _, _ => none
/-- the kinds of a struct's fields, if they are flat and stand one by one -/
def flatFields (P : Program) : Nat → List Field → List KD → Bool
  | _, [], [] => true
  | n, f :: r, k :: ks => Nat.beq f.offset n && (f.name != "_") && (kdT P f.type == some k) && Nat.beq (P.cellsOf f.type) 1 && flatFields P (n + 1) r ks
  | _, _, _ => false
def eqOK (P : Program) (t : Nat) (ks : List KD) : Bool := !(P.eqGuardType P.depth t) && (match P.underlying t with
  | some (.struct fs) => !(P.stoodInHeld t) && flatFields P 0 fs.toList ks
  | some (.array m el) => Nat.beq (P.cellsOf el) 1 && Nat.beq ks.length m && ks.all (fun k => kdT P el == some k)
  | _ => false)

structure TyRow (P : Program) (t : Nat) (i : TI) : Prop where
  und : P.underlying t = some i.desc
  inf : ∃ inf z, P.info? t = some inf ∧ inf.size = i.size ∧ inf.bytes = i.bytes ∧ inf.zero = some z ∧ z.cells.toList = i.zero ∧ i.zero.length = i.size
  one : ∀ v ∈ i.zero, v.oneCell' = true
  eqs : i.eqs = [] ∨ eqOK P t i.eqs = true
  agz : isAggD i.desc = true → ∃ inf z, P.info? t = some inf ∧ inf.zero = some z ∧ ∃ cs, z = .agg cs
  noz : isAggD i.desc = false → ∃ inf z, P.info? t = some inf ∧ inf.zero = some z ∧ z.cells = #[z]
  plc : ∀ fs, i.desc = .struct fs → ∃ places, fs.toList.mapM (fun f => (P.info? f.type).map fun i => (f.offset, i.size)) = some places

def TyOK (P : Program) (ty : Nat → Option TI) : Prop := ∀ t i, ty t = some i → TyRow P t i

theorem Oper.wp_value {P : Program} {o : Oper} {a : Act} {w w' : World} {v : Value} {K : Act → World → Prop} {Q : Exit → Act → World → Prop}
    (hr : (execOp a.eval o).run P w = .ok (.value v) w') (h : K (a.put o.dst v) w') : o.wp P a w K Q := by
  simp only [Oper.wp, hr, Oper.upon]; exact h
theorem Oper.wp_skip {P : Program} {o : Oper} {a : Act} {w w' : World} {K : Act → World → Prop} {Q : Exit → Act → World → Prop}
    (hr : (execOp a.eval o).run P w = .ok .skip w') (h : K (a.put o.dst undef) w') : o.wp P a w K Q := by
  simp only [Oper.wp, hr, Oper.upon]; exact h

def OpOK (P : Program) (n : Nat) (o : Oper) (e : Env) (h : Heap) (f : Eff) : Prop :=
  ∀ e' h', (∀ t ∈ slotsOf o, eget e' t = eget e t) → (∀ l ∈ f.rd ++ f.hw.map (·.1), hget h' l = hget h l) →
    ∀ g w a, Sim g w n a e' h' → o.wp P a w (fun a' w' => ∃ g', Sim g' w' n a' (f.ew.reverse ++ e') (f.hw.reverse ++ h') ∧ Ext g w g' w') (fun _ _ _ => False)

theorem beq_false {a b : Nat} (h : a ≠ b) : Nat.beq a b = false := by
  cases hb : Nat.beq a b with
  | false => rfl
  | true => exact absurd (Nat.eq_of_beq_eq_true hb) h
theorem beq_self (a : Nat) : Nat.beq a a = true := Nat.beq_refl a

theorem eget_self (d : Nat) (v : AV) (e : Env) : eget ((d, v) :: e) d = v := by simp [eget]
theorem eget_ne {d i : Nat} (h : d ≠ i) (v : AV) (e : Env) : eget ((d, v) :: e) i = eget e i := by simp [eget, beq_false h]
theorem hget_self (d : Nat) (v : AObj) (e : Heap) : hget ((d, v) :: e) d = some v := by simp [hget]
theorem hget_ne {d i : Nat} (h : d ≠ i) (v : AObj) (e : Heap) : hget ((d, v) :: e) i = hget e i := by simp [hget, beq_false h]

theorem Sim.put {g : Gh} {w : World} {n : Nat} {a : Act} {e : Env} {h : Heap} (s : Sim g w n a e h) {d : Nat} (hd : d < n) {v : Value} {x : AV}
    (r : VRel g w (domOf h) (some (.slot d)) v x) : Sim g w n (a.put (some d) v) ((d, x) :: e) h := by
  refine ⟨s.defers, by simp [Act.put, s.size], fun i => ?_, s.heap, s.bnd⟩
  by_cases hi : d = i
  · subst hi
    rw [eget_self]
    have : (a.put (some d) v).tmps.getD d undef = v := by simp [Act.put, s.size, hd]
    rw [this]; exact r
  · rw [eget_ne hi]
    have : (a.put (some d) v).tmps.getD i undef = a.tmps.getD i undef := by simp [Act.put, Array.getD_eq_getD_getElem?, hi]
    rw [this]; exact s.env i

theorem Sim.putAny {g : Gh} {w : World} {n : Nat} {a : Act} {e : Env} {h : Heap} (s : Sim g w n a e h) {d : Nat} (v : Value) : Sim g w n (a.put (some d) v) ((d, .top) :: e) h := by
  refine ⟨s.defers, by simp [Act.put, s.size], fun i => ?_, s.heap, s.bnd⟩
  by_cases hi : d = i
  · subst hi; rw [eget_self]; exact .top _ _
  · rw [eget_ne hi]
    have : (a.put (some d) v).tmps.getD i undef = a.tmps.getD i undef := by simp [Act.put, Array.getD_eq_getD_getElem?, hi]
    rw [this]; exact s.env i

theorem Sim.drew {g : Gh} {w : World} {n : Nat} {a : Act} {e : Env} {h : Heap} {k : Nat} (s : Sim g w n a e h) : Sim g { w with drawn := k } n a e h := by
  have key : ∀ {ow v x}, VRel g w (domOf h) ow v x → VRel g { w with drawn := k } (domOf h) ow v x := fun r =>
    VRel.keep (g := g) (g' := g) (w := w) (w' := { w with drawn := k }) (fun _ _ _ h => h) (fun l hl => ⟨hl, rfl⟩) (fun l cs E _ hb => ⟨cs, E, hb, rfl⟩) (fun o b _ ho => ⟨ho, rfl, rfl⟩) r
  refine ⟨s.defers, s.size, fun i => key (s.env i), ⟨fun l o ho => ?_, s.heap.own, s.heap.pre⟩, s.bnd⟩
  cases s.heap.obj l o ho with
  | cells cs vs E hb hl hx h1 => exact .cells cs vs E hb hl (fun j v c h2 h3 => key (hx j v c h2 h3)) h1
  | arr xs vs E hb hl hx h1 => exact .arr xs vs E hb hl hx h1
  | map kd xs es clock hb hx hc => exact .map kd xs es clock hb hx hc
  | gr st sz xs hg => exact .gr st sz xs hg
  | dead => exact .dead
  | glob gb gvs hgl => exact .glob gb gvs hgl
  | bld T E bs hbl => exact .bld T E bs hbl

theorem Ext.drew {g : Gh} {w : World} {k : Nat} : Ext g w g { w with drawn := k } :=
  ⟨Nat.le_refl _, rfl, rfl, fun _ _ _ h => h, fun _ _ ho => ⟨rfl, rfl, ho⟩, trivial, fun _ _ => rfl, fun _ _ => rfl, fun b cs E hb => ⟨cs, E, hb, rfl⟩⟩

/-- an operand's value -/
theorem constAV1_rel {g : Gh} {w : World} {dom : Nat → Prop} {ow : Option Owner} (v : Value) : VRel g w dom ow v (constAV1 v) := by
  unfold constAV1
  split <;> first | exact .p _ _ _ (.b _) | exact .p _ _ _ (.i _ _) | exact .p _ _ _ (.s _) | exact .nilS _ | exact .c _ _ rfl | exact .top _ _
theorem constAV1s_get : ∀ (l : List Value) (j : Nat), (constAV1s l)[j]? = (l[j]?).map constAV1
  | [], j => by simp [constAV1s]
  | x :: r, 0 => by simp [constAV1s]
  | x :: r, j + 1 => by simp [constAV1s, constAV1s_get r j]
theorem constAV1s_length : ∀ (l : List Value), (constAV1s l).length = l.length
  | [] => rfl
  | _ :: r => by simp [constAV1s, constAV1s_length r]
theorem oneCells_all : ∀ {l : List Value}, oneCells l = true → ∀ v ∈ l, v.oneCell' = true
  | [], _, v, hv => by cases hv
  | x :: r, h, v, hv => by
    simp only [oneCells, Bool.and_eq_true] at h
    rcases List.mem_cons.1 hv with rfl | hv
    · exact h.1
    · exact oneCells_all h.2 v hv
theorem constAV_rel {g : Gh} {w : World} {dom : Nat → Prop} {ow : Option Owner} (v : Value) : VRel g w dom ow v (constAV v) := by
  unfold constAV
  split
  · rename_i cs
    split
    · rename_i hc
      refine .agg ow cs (constAV1s cs) (constAV1s_length cs).symm (oneCells_all hc) (fun j v c h1 h2 => ?_)
      rw [constAV1s_get, h1] at h2
      cases h2
      exact constAV1_rel v
    · exact .top _ _
  · exact constAV1_rel _

theorem constAV_so {v : Value} {sz : Nat} {xs : List PV} (h : constAV v = .so sz xs) : False := by
  unfold constAV at h
  split at h
  · split at h <;> cases h
  · unfold constAV1 at h; split at h <;> cases h

theorem Sim.ev {g : Gh} {w : World} {n : Nat} {a : Act} {e : Env} {h : Heap} (s : Sim g w n a e h) (x : Operand) : ∃ ow, VRel g w (domOf h) ow (a.eval x) (ev e x) := by
  cases x with
  | tmp t => exact ⟨_, s.env t⟩
  | const v => exact ⟨none, constAV_rel v⟩
  | func f => exact ⟨none, .fn none f [] [] [] [] rfl rfl (fun j v c h => by simp at h) (fun j v c h => by simp at h)⟩
  | global b => exact ⟨none, .top _ _⟩

theorem ev_congr {o : Oper} {e e' : Env} (h : ∀ t ∈ slotsOf o, eget e' t = eget e t) {x : Operand} (hx : x ∈ o.op.operands) : ev e' x = ev e x := by
  cases x with
  | tmp t => exact h t (by simp only [slotsOf, List.mem_filterMap]; exact ⟨.tmp t, by simpa using hx, rfl⟩)
  | _ => rfl

/-- an operation that gives a value and leaves the world -/
theorem OpOK.ret {P : Program} {n : Nat} {o : Oper} {e : Env} {h : Heap} {rd : List Nat} {x : AV} (hd : ∀ d, o.dst = some d → d < n)
    (hx : ∀ e' h', (∀ t ∈ slotsOf o, eget e' t = eget e t) → (∀ l ∈ rd, hget h' l = hget h l) → ∀ g w a, Sim g w n a e' h' →
      ∃ v, (execOp a.eval o).run P w = .ok (.value v) w ∧ ∀ d, o.dst = some d → VRel g w (domOf h') (some (.slot d)) v x) :
    OpOK P n o e h (match o.dst with | some d => ⟨rd, [(d, x)], []⟩ | none => ⟨rd, [], []⟩) := by
  intro e' h' he hh g w a s
  have hrd : ∀ l ∈ rd, hget h' l = hget h l := by
    intro l hl
    cases hdst : o.dst <;> simp only [hdst] at hh <;> exact hh l (by simp [hl])
  obtain ⟨v, hr, hv⟩ := hx e' h' he hrd g w a s
  refine Oper.wp_value hr ⟨g, ?_, Ext.refl _ _⟩
  cases hdst : o.dst with
  | none => exact s
  | some d => exact s.put (hd d hdst) (hv d hdst)

theorem ret_iff {o : Oper} {v : AV} {K : AK} (hk : ret o v K) : K (match o.dst with | some d => ⟨[], [(d, v)], []⟩ | none => ⟨[], [], []⟩) := by
  unfold ret at hk
  cases hd : o.dst <;> simp only [hd, AV.force_eq] at hk <;> exact hk
theorem retR_iff {o : Oper} {l : Nat} {v : AV} {K : AK} (hk : retR o l v K) : K (match o.dst with | some d => ⟨[l], [(d, v)], []⟩ | none => ⟨[l], [], []⟩) := by
  unfold retR at hk
  cases hd : o.dst <;> simp only [hd, AV.force_eq] at hk <;> exact hk

/-- the common way: a value out of operands -/
theorem ret_sound {P : Program} {n : Nat} {o : Oper} {e : Env} {h : Heap} {x : AV} {K : AK} (hd : ∀ d, o.dst = some d → d < n) (hk : Go.AM.ret o x K)
    (hx : ∀ e' h', (∀ t ∈ slotsOf o, eget e' t = eget e t) → ∀ g w a, Sim g w n a e' h' →
      ∃ v, (execOp a.eval o).run P w = .ok (.value v) w ∧ ∀ d, o.dst = some d → VRel g w (domOf h') (some (.slot d)) v x) : ∃ f, K f ∧ OpOK P n o e h f :=
  ⟨_, ret_iff hk, OpOK.ret hd fun e' h' he _ => hx e' h' he⟩
theorem retR_sound {P : Program} {n : Nat} {o : Oper} {e : Env} {h : Heap} {l : Nat} {x : AV} {K : AK} (hd : ∀ d, o.dst = some d → d < n) (hk : Go.AM.retR o l x K)
    (hx : ∀ e' h', (∀ t ∈ slotsOf o, eget e' t = eget e t) → hget h' l = hget h l → ∀ g w a, Sim g w n a e' h' →
      ∃ v, (execOp a.eval o).run P w = .ok (.value v) w ∧ ∀ d, o.dst = some d → VRel g w (domOf h') (some (.slot d)) v x) : ∃ f, K f ∧ OpOK P n o e h f :=
  ⟨_, retR_iff hk, OpOK.ret hd fun e' h' he hl => hx e' h' he (hl l (by simp))⟩

end Go.AM
