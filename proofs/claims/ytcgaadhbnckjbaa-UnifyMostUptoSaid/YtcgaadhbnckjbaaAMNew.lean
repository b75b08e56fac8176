/-
  DERIVED. Part of an abstract machine over plain values, sound against the model. No conditions.
-/
import Derived.Test.YtcgaadhbnckjbaaAMLem
namespace Go.AM

/-- the world with a new block -/
def World.push (w : World) (o : Obj) : World := { w with heap := w.heap.push o }

theorem push_old {w : World} {o : Obj} {b : Nat} (h : b < w.heap.size) : (World.push w o).heap[b]? = w.heap[b]? := by
  show (w.heap.push o)[b]? = _
  rw [Array.getElem?_push, if_neg (Nat.ne_of_lt h)]
theorem push_new {w : World} {o : Obj} : (World.push w o).heap[w.heap.size]? = some o := by
  show (w.heap.push o)[w.heap.size]? = _
  rw [Array.getElem?_push, if_pos rfl]
theorem push_size {w : World} {o : Obj} : (World.push w o).heap.size = w.heap.size + 1 := by
  show (w.heap.push o).size = _
  rw [Array.size_push]
theorem cell?_push_old {w : World} {o : Obj} {b i : Nat} (h : b < w.heap.size) : (World.push w o).cell? ⟨b, i, none⟩ = w.cell? ⟨b, i, none⟩ := by
  simp only [World.cell?, push_old h]
theorem cell?_lt {w : World} {b i : Nat} {v : Value} (h : w.cell? ⟨b, i, none⟩ = some v) : b < w.heap.size := by
  rcases Nat.lt_or_ge b w.heap.size with h1 | h1
  · exact h1
  · simp [World.cell?, Array.getElem?_eq_none h1] at h

/-- the ghost with a new block: p cells are never written again; its owner -/
def Gh.new (g : Gh) (B p : Nat) (o : Option Owner) : Gh :=
  { pre := fun b => if b = B then p else g.pre b, own := fun b => if b = B then o else g.own b, ρ := g.ρ }
/-- .. as the object l -/
def Gh.newObj (g : Gh) (B l : Nat) : Gh :=
  { pre := fun b => if b = B then 0 else g.pre b, own := fun b => if b = B then some (.obj l) else g.own b, ρ := fun k => if k = l then B else g.ρ k }

theorem imm_lt {g : Gh} {w : World} {b o : Nat} {v : Value} (h : imm g w b o = some v) : b < w.heap.size := by
  unfold imm at h; split at h
  · exact cell?_lt h
  · cases h

theorem imm_push {g g' : Gh} {w : World} {ob : Obj} (hp : ∀ b, b < w.heap.size → g'.pre b = g.pre b) {b o : Nat} {v : Value} (h : imm g w b o = some v) : imm g' (World.push w ob) b o = some v := by
  have hb := imm_lt h
  unfold imm at h ⊢
  rw [hp b hb, cell?_push_old hb]; exact h

theorem get_lt {w : World} {b : Nat} {x : Obj} (h : w.heap[b]? = some x) : b < w.heap.size := (Array.getElem?_eq_some_iff.1 h).1
theorem VRel.push {g g' : Gh} {w : World} {ob : Obj} {dom dom' : Nat → Prop} (hp : ∀ b, b < w.heap.size → g'.pre b = g.pre b ∧ g'.own b = g.own b)
    (hd : ∀ l, dom l → dom' l ∧ g'.ρ l = g.ρ l) (hbn : ∀ b o, g.own b = some o → b < w.heap.size)
    {ow : Option Owner} {v : Value} {x : AV} (r : VRel g w dom ow v x) : VRel g' (World.push w ob) dom' ow v x :=
  r.keep (fun _ _ _ h => imm_push (fun b hb => (hp b hb).1) h) hd (fun l cs E h1 hb => ⟨cs, E, by rw [push_old (get_lt hb)]; exact hb, rfl⟩)
    (fun o b _ ho => by have := hbn b o ho; exact ⟨(hp b this).2.trans ho, (hp b this).1, push_old this⟩)

theorem PRel.push {g g' : Gh} {w : World} {ob : Obj} (hp : ∀ b, b < w.heap.size → g'.pre b = g.pre b) {v : Value} {x : PV} (r : PRel (imm g w) v x) : PRel (imm g' (World.push w ob)) v x :=
  r.mono fun _ _ _ h => imm_push hp h

theorem ORel.push {g g' : Gh} {w : World} {ob : Obj} {dom dom' : Nat → Prop} (hp : ∀ b, b < w.heap.size → g'.pre b = g.pre b ∧ g'.own b = g.own b)
    (hd : ∀ l, dom l → dom' l ∧ g'.ρ l = g.ρ l) (hbn : ∀ b o, g.own b = some o → b < w.heap.size)
    {l : Nat} (hdl : dom l) {o : AObj} (r : ORel g w dom l o) : ORel g' (World.push w ob) dom' l o := by
  have e : ∀ {x : Obj}, w.heap[g.ρ l]? = some x → (World.push w ob).heap[g'.ρ l]? = some x := fun h => by rw [(hd l hdl).2, push_old (get_lt h)]; exact h
  cases r with
  | cells cs vs E hb hlen hx h1 => exact .cells cs vs E (e hb) hlen (fun j v c a b => (hx j v c a b).push hp hd hbn) h1
  | arr xs vs E hb hlen hx h1 => exact .arr xs vs E (e hb) hlen (fun j v c a b => (hx j v c a b).push fun b hb => (hp b hb).1) h1
  | map kd xs es clock hb hx hc =>
    exact .map kd xs es clock (e hb) ⟨hx.1, fun j a b h1 h2 => ⟨(hx.2 j a b h1 h2).1.push fun b hb => (hp b hb).1, (hx.2 j a b h1 h2).2.push fun b hb => (hp b hb).1⟩⟩ hc
  | gr st sz xs hg => exact .gr st sz xs fun q => (hg q).mono (fun _ _ _ h => imm_push (fun b hb => (hp b hb).1) h) (fun _ _ h => e h)
  | dead => exact .dead
  | glob gb gvs hgl => exact ORel.globM hgl (fun h1 hlt _ => ⟨push_old hlt, ((hp gb hlt).2).trans h1⟩)
  | bld T E bs hbl =>
    have hlt : g.ρ l < w.heap.size := by obtain ⟨_, _, hb, _⟩ := hbl; exact get_lt hb
    exact ORel.bldM hbl (hd l hdl).2 (push_old hlt) (fun bb hbb => ⟨((hp bb (hbn bb _ hbb)).2).trans hbb, push_old (hbn bb _ hbb), (hp bb (hbn bb _ hbb)).1⟩)

/-- a new block, owned by a slot (or by nobody) -/
theorem Sim.pushOwn {g : Gh} {w : World} {n : Nat} {a : Act} {e : Env} {h : Heap} (s : Sim g w n a e h) (ob : Obj) (p : Nat) (o : Option Owner) :
    Sim (g.new w.heap.size p o) (World.push w ob) n a e h := by
  have hp : ∀ b, b < w.heap.size → (g.new w.heap.size p o).pre b = g.pre b ∧ (g.new w.heap.size p o).own b = g.own b := fun b hb => by simp [Gh.new, Nat.ne_of_lt hb]
  have hd : ∀ l, domOf h l → domOf h l ∧ (g.new w.heap.size p o).ρ l = g.ρ l := fun l hl => ⟨hl, rfl⟩
  refine ⟨s.defers, s.size, fun i => (s.env i).push hp hd s.bnd, ⟨fun l x hx => ?_, fun l x hx hq => ?_, fun l x hx hq => ?_⟩, fun b x hx => ?_⟩
  · have hdl : domOf h l := by simp [domOf, hx]
    exact (s.heap.obj l x hx).push hp hd s.bnd hdl
  · have this := s.heap.own l x hx hq
    show (g.new w.heap.size p o).own (g.ρ l) = _
    rw [(hp _ (s.bnd _ _ this)).2]; exact this
  · have this := s.heap.own l x hx hq
    show (g.new w.heap.size p o).pre (g.ρ l) = _
    rw [(hp _ (s.bnd _ _ this)).1]; exact s.heap.pre l x hx hq
  · rw [push_size]
    by_cases hb : b = w.heap.size
    · omega
    · have : (g.new w.heap.size p o).own b = g.own b := by simp [Gh.new, hb]
      rw [this] at hx; have := s.bnd b x hx; omega

theorem frozen_push {w : World} {cs : Array Value} {E : TypeId} (a : Addr) : (World.push w (.cells cs E (0, 0))).frozen? a = w.frozen? a := by
  by_cases h : a.block = w.heap.size
  · simp [World.frozen?, h, push_new]
  · have : (World.push w (.cells cs E (0, 0))).heap[a.block]? = w.heap[a.block]? := by
      rcases Nat.lt_or_gt_of_ne h with h1 | h1
      · exact push_old h1
      · rw [Array.getElem?_eq_none (by rw [push_size]; omega), Array.getElem?_eq_none (by omega)]
    simp [World.frozen?, this]
theorem frozen_push_map {w : World} {es : Array MapEntry} {c : Nat} (a : Addr) : (World.push w (.map es c)).frozen? a = w.frozen? a := by
  by_cases h : a.block = w.heap.size
  · simp [World.frozen?, h, push_new]
  · have : (World.push w (.map es c)).heap[a.block]? = w.heap[a.block]? := by
      rcases Nat.lt_or_gt_of_ne h with h1 | h1
      · exact push_old h1
      · rw [Array.getElem?_eq_none (by rw [push_size]; omega), Array.getElem?_eq_none (by omega)]
    simp [World.frozen?, this]

theorem Ext.push {g g' : Gh} {w : World} {ob : Obj} (hp : ∀ b, b < w.heap.size → g'.pre b = g.pre b ∧ g'.own b = g.own b) (hf : ∀ a, (World.push w ob).frozen? a = w.frozen? a) (hρ : ∀ l, bigId ≤ l → g'.ρ l = g.ρ l) : Ext g w g' (World.push w ob) :=
  ⟨by rw [push_size]; omega, rfl, rfl, fun _ _ _ h => imm_push (fun b hb => (hp b hb).1) h,
    fun b hb ho => ⟨push_old hb, (hp b hb).1, (hp b hb).2.trans ho⟩, trivial, fun a _ => hf a, hρ, fun b cs E hb => ⟨cs, E, by rw [push_old (Array.getElem?_eq_some_iff.1 hb).1]; exact hb, rfl⟩⟩
theorem newObj_ρ {g : Gh} {B d : Nat} (hd : d < bigId) (l : Nat) (hl : bigId ≤ l) : (g.newObj B d).ρ l = g.ρ l := by
  have : l ≠ d := by omega
  simp [Gh.newObj, this]
theorem freshId_spec {h : Heap} {d : Nat} (hf : freshId h d = true) : hget h d = none ∧ d < bigId := by
  unfold freshId at hf
  split at hf
  · rename_i hn; exact ⟨hn, by rw [Nat.blt_eq] at hf; exact hf⟩
  · cases hf

/-- a new object -/
theorem Sim.pushObj {g : Gh} {w : World} {n : Nat} {a : Act} {e : Env} {h : Heap} (s : Sim g w n a e h) {d : Nat} (hd0 : hget h d = none) (ob : Obj) (x : AObj)
    (hx : ∀ dom', (∀ l, domOf h l → dom' l) → (∀ {ow v y}, VRel g w (domOf h) ow v y → VRel (g.newObj w.heap.size d) (World.push w ob) dom' ow v y) → ORel (g.newObj w.heap.size d) (World.push w ob) dom' d x) :
    Sim (g.newObj w.heap.size d) (World.push w ob) n a e ((d, x) :: h) := by
  have hne : ∀ l, domOf h l → l ≠ d := fun l hl he => by subst he; simp [domOf, hd0] at hl
  have hp : ∀ b, b < w.heap.size → (g.newObj w.heap.size d).pre b = g.pre b ∧ (g.newObj w.heap.size d).own b = g.own b := fun b hb => by simp [Gh.newObj, Nat.ne_of_lt hb]
  have hdm : ∀ l, domOf h l → domOf ((d, x) :: h) l := fun l hl => by
    unfold domOf at hl ⊢; rw [hget_ne (fun e => hne l hl e.symm)]; exact hl
  have hd : ∀ l, domOf h l → domOf ((d, x) :: h) l ∧ (g.newObj w.heap.size d).ρ l = g.ρ l := fun l hl => ⟨hdm l hl, by simp [Gh.newObj, hne l hl]⟩
  refine ⟨s.defers, s.size, fun i => (s.env i).push hp hd s.bnd, ⟨fun l y hy => ?_, fun l y hy hq => ?_, fun l y hy hq => ?_⟩, fun b y hy => ?_⟩
  · by_cases e : d = l
    · subst e
      rw [hget_self] at hy
      cases hy
      exact hx _ hdm (fun r => r.push hp hd s.bnd)
    · rw [hget_ne e] at hy
      have hdl : domOf h l := by simp [domOf, hy]
      exact (s.heap.obj l y hy).push hp hd s.bnd hdl
  · by_cases e : d = l
    · subst e; simp [Gh.newObj]
    · rw [hget_ne e] at hy
      have hdl : domOf h l := by simp [domOf, hy]
      have this := s.heap.own l y hy hq
      rw [(hd l hdl).2, (hp _ (s.bnd _ _ this)).2]; exact this
  · by_cases e : d = l
    · subst e; simp [Gh.newObj]
    · rw [hget_ne e] at hy
      have hdl : domOf h l := by simp [domOf, hy]
      have this := s.heap.own l y hy hq
      rw [(hd l hdl).2, (hp _ (s.bnd _ _ this)).1]; exact s.heap.pre l y hy hq
  · rw [push_size]
    by_cases hb : b = w.heap.size
    · omega
    · have : (g.newObj w.heap.size d).own b = g.own b := by simp [Gh.newObj, hb]
      rw [this] at hy; have := s.bnd b y hy; omega

/-- another owner for a block -/
def Gh.relabel (g : Gh) (b : Nat) (o : Owner) : Gh := { g with own := fun b' => if b' = b then some o else g.own b' }

theorem VRel.relabel {g : Gh} {w : World} {dom : Nat → Prop} {b : Nat} {o o' : Owner} (hb : g.own b = some o) {ow : Option Owner} (hne : ow ≠ some o) {v : Value} {x : AV} (r : VRel g w dom ow v x) :
    VRel (g.relabel b o') w dom ow v x :=
  VRel.keep (g := g) (g' := g.relabel b o') (w := w) (w' := w) (fun _ _ _ h => h) (fun l hl => ⟨hl, rfl⟩) (fun l cs E _ h => ⟨cs, E, h, rfl⟩) (fun o1 b1 e1 h1 => by
    have : b1 ≠ b := fun e => by subst e; rw [hb] at h1; cases h1; exact hne e1
    exact ⟨by simp [Gh.relabel, this, h1], rfl, rfl⟩) r

theorem Ext.relabel {g : Gh} {w : World} {b : Nat} {o o' : Owner} (hb : g.own b = some o) : Ext g w (g.relabel b o') w :=
  ⟨Nat.le_refl _, rfl, rfl, fun _ _ _ h => h, fun b1 _ ho => ⟨rfl, rfl, by
    have : b1 ≠ b := fun e => by subst e; rw [hb] at ho; cases ho
    simp [Gh.relabel, this, ho]⟩, trivial, fun _ _ => rfl, fun _ _ => rfl, fun b cs E hb => ⟨cs, E, hb, rfl⟩⟩

theorem HRel.relabel {g : Gh} {w : World} {h : Heap} (r : HRel g w h) {b t : Nat} {o' : Owner} (hb : g.own b = some (.slot t)) : HRel (g.relabel b o') w h := by
  have hne : ∀ l x, hget h l = some x → x.solid = true → g.ρ l ≠ b := fun l x hx hq e => by have := r.own l x hx hq; rw [e, hb] at this; cases this
  refine ⟨fun l x hx => ?_, fun l x hx hq => ?_, fun l x hx hq => r.pre l x hx hq⟩
  · cases r.obj l x hx with
    | cells cs vs E hb' hl hx' h1 => exact .cells cs vs E hb' hl (fun j v c a b => (hx' j v c a b).relabel hb (by simp)) h1
    | arr xs vs E hb' hl hx' h1 => exact .arr xs vs E hb' hl hx' h1
    | map kd xs es clock hb' hx' hc => exact .map kd xs es clock hb' hx' hc
    | gr st sz xs hg => exact .gr st sz xs hg
    | dead => exact .dead
    | glob gb gvs hgl => exact ORel.globM hgl (fun h1 _ _ => ⟨rfl, by have hne : gb ≠ b := (fun e => by subst e; rw [hb] at h1; cases h1); simp [Gh.relabel, hne, h1]⟩)
    | bld T E bs hbl => exact ORel.bldM hbl rfl rfl (fun bb hbb => ⟨by have hne : bb ≠ b := (fun e => by subst e; rw [hb] at hbb; cases hbb); simp [Gh.relabel, hne, hbb], rfl, rfl⟩)
  · have := r.own l x hx hq
    show (g.relabel b o').own (g.ρ l) = _
    simp [Gh.relabel, hne l x hx hq, this]

end Go.AM
