/-
  DERIVED. Part of an abstract machine over plain values, sound against the model. No conditions.
-/
import Derived.Test.YtcgaadhbnckjbaaAMSnd3
namespace Go.AM
section
variable {P : Program} {ty : Nat → Option TI} {n : Nat} {o : Oper} {e : Env} {h : Heap} {K : AK}

theorem run_loadAt (hty : TyOK P ty) {t : Nat} {i : TI} (hi : ty t = some i) {a : Addr} (hs : a.spot = none) {w : World} (vs : List Value) (hl : vs.length = i.size)
    (hc : ∀ (j : Nat) (v : Value), vs[j]? = some v → w.cell? ⟨a.block, a.off + j, none⟩ = some v) :
    (isAggD i.desc = true → (Instr.loadAt t (.pointer (some a))).run P w = .ok (.agg vs.toArray) w) := by
  intro hag
  have := run_loadCells_list (P := P) w a vs (fun j v hj => by rw [Addr.add_of_spot hs]; exact hc j v hj)
  rw [hl] at this
  simp only [Instr.loadAt, Instr.sureAddr, Sem.run_bind, Sem.run_pure, Result.andThen_ok, loadVar, run_isAgg_ty hty hi, hag, if_true, run_sizeOf_ty hty hi, this]
theorem run_loadAt1 (hty : TyOK P ty) {t : Nat} {i : TI} (hi : ty t = some i) {a : Addr} (hs : a.spot = none) {w : World} {v : Value} (hag : isAggD i.desc = false)
    (hc : w.cell? ⟨a.block, a.off, none⟩ = some v) : (Instr.loadAt t (.pointer (some a))).run P w = .ok v w := by
  have ha : a = ⟨a.block, a.off, none⟩ := by cases a; simp only at hs; subst hs; rfl
  rw [ha]
  simp [Instr.loadAt, Instr.sureAddr, loadVar, run_isAgg_ty hty hi, hag, hc]

theorem cell?_of {w : World} {b : Nat} {vs : Array Value} {E : TypeId} {fr : Nat × Nat} (hb : w.heap[b]? = some (.cells vs E fr)) (i : Nat) : w.cell? ⟨b, i, none⟩ = vs[i]? := by
  simp [World.cell?, hb]

theorem VRel.setRow {g : Gh} {w : World} {dom dom' : Nat → Prop} {l : Nat} {old vs : Array Value} {E : TypeId} (hown : g.own (g.ρ l) = some (.obj l)) (hpre : g.pre (g.ρ l) = 0)
    (hb : w.heap[g.ρ l]? = some (.cells old E (0, 0))) (hs : vs.size = old.size) (hd : ∀ k, dom k → dom' k) {ow : Option Owner} (hne : ow ≠ some (.obj l)) {v : Value} {x : AV} (r : VRel g w dom ow v x) :
    VRel g (w.setRow (g.ρ l) vs) dom' ow v x := by
  refine VRel.keep (g := g) (g' := g) (w := w) (w' := w.setRow (g.ρ l) vs) (fun b i u hu => ?_) (fun k hk => ⟨hd k hk, rfl⟩) (fun k cs F hk hc => ?_) (fun o1 b e1 h1 => ?_) r
  · by_cases hbl : b = g.ρ l
    · subst hbl; unfold imm at hu; rw [hpre] at hu; simp at hu
    · unfold imm at hu ⊢; rw [cell_setRow_other _ _ _ _ hbl]; exact hu
  · by_cases hkl : g.ρ k = g.ρ l
    · rw [hkl] at hc ⊢
      rw [hb] at hc; cases hc
      exact ⟨vs, E, setRow_heap _ _ _ _ _ _ hb, hs⟩
    · exact ⟨cs, F, by rw [setRow_other _ _ _ _ hkl]; exact hc, rfl⟩
  · have hbl : b ≠ g.ρ l := fun eq => by subst eq; rw [hown] at h1; cases h1; exact hne e1
    exact ⟨h1, rfl, setRow_other _ _ _ _ hbl⟩

theorem imm_setRow {g : Gh} {w : World} {l : Nat} {vs : Array Value} (hpre : g.pre (g.ρ l) = 0) {b k : Nat} {v : Value} (h : imm g w b k = some v) : imm g (w.setRow (g.ρ l) vs) b k = some v := by
  have hb : b ≠ g.ρ l := fun e => by subst e; unfold imm at h; rw [hpre, if_neg (Nat.not_lt_zero _)] at h; cases h
  unfold imm at h ⊢
  simp only [World.cell?, setRow_other _ _ _ _ hb] at h ⊢
  exact h
theorem PRel.setRow {g : Gh} {w : World} {l : Nat} {vs : Array Value} (hpre : g.pre (g.ρ l) = 0) {v : Value} {x : PV} (r : PRel (imm g w) v x) : PRel (imm g (w.setRow (g.ρ l) vs)) v x := by
  refine r.mono fun b i u hu => ?_
  by_cases hbl : b = g.ρ l
  · subst hbl; unfold imm at hu; rw [hpre] at hu; simp at hu
  · unfold imm at hu ⊢; rw [cell_setRow_other _ _ _ _ hbl]; exact hu

theorem frozen_setRow {w : World} {b : Nat} {old vs : Array Value} {E : TypeId} {fr : Nat × Nat} (hb : w.heap[b]? = some (.cells old E fr)) (a : Addr) : (w.setRow b vs).frozen? a = w.frozen? a := by
  by_cases h : a.block = b
  · subst h; simp [World.frozen?, hb, setRow_heap _ _ _ vs _ _ hb]
  · simp [World.frozen?, setRow_other _ _ _ _ h]

theorem Ext.setRow {g : Gh} {w : World} {l : Nat} {old vs : Array Value} {E : TypeId} (hown : g.own (g.ρ l) = some (.obj l)) (hpre : g.pre (g.ρ l) = 0) (hb : w.heap[g.ρ l]? = some (.cells old E (0, 0))) (hs : vs.size = old.size) :
    Ext g w g (w.setRow (g.ρ l) vs) := by
  refine ⟨by rw [setRow_size]; exact Nat.le_refl _, rfl, rfl, fun b i u hu => ?_, fun b hbb ho => ⟨?_, rfl, ho⟩, trivial, fun a _ => frozen_setRow hb a, fun _ _ => rfl, fun b cs E' hb' => ?_⟩
  · by_cases hbl : b = g.ρ l
    · subst hbl; unfold Go.AM.imm at hu; rw [hpre] at hu; simp at hu
    · unfold Go.AM.imm at hu ⊢; rw [cell_setRow_other _ _ _ _ hbl]; exact hu
  · have hbl : b ≠ g.ρ l := fun eq => by subst eq; rw [hown] at ho; cases ho
    exact setRow_other _ _ _ _ hbl
  · by_cases hbl : b = g.ρ l
    · subst hbl; rw [hb] at hb'; cases hb'; exact ⟨vs, E, setRow_heap _ _ _ _ _ _ hb, hs⟩
    · exact ⟨cs, E', by rw [setRow_other _ _ _ _ hbl]; exact hb', rfl⟩

theorem domOf_set {h : Heap} {l : Nat} {x y : AObj} (hl : hget h l = some y) (k : Nat) : domOf ((l, x) :: h) k ↔ domOf h k := by
  unfold domOf
  by_cases e : l = k
  · subst e; simp [hget_self, hl]
  · rw [hget_ne e]

/-- an object's cells written -/
theorem Sim.setObj {g : Gh} {w : World} {n : Nat} {a : Act} {e : Env} {h : Heap} (s : Sim g w n a e h) {l : Nat} {y x : AObj} (hl : hget h l = some y) {old vs : Array Value} {E : TypeId}
    (hb : w.heap[g.ρ l]? = some (.cells old E (0, 0))) (hs : vs.size = old.size) (hx : ORel g (w.setRow (g.ρ l) vs) (domOf ((l, x) :: h)) l x) (hsy : y.solid = true := by rfl) : Sim g (w.setRow (g.ρ l) vs) n a e ((l, x) :: h) := by
  have hown := s.heap.own l y hl hsy
  have hpre := s.heap.pre l y hl hsy
  have hdom : ∀ k, domOf h k → domOf ((l, x) :: h) k := fun k hk => (domOf_set hl k).2 hk
  refine ⟨s.defers, s.size, fun i => (s.env i).setRow hown hpre hb hs hdom (by simp), ⟨fun k z hz => ?_, fun k z hz hq => ?_, fun k z hz hq => ?_⟩, fun b o' ho' => by rw [setRow_size]; exact s.bnd b o' ho'⟩
  · by_cases ek : l = k
    · subst ek; rw [hget_self] at hz; cases hz; exact hx
    · rw [hget_ne ek] at hz
      have hkl : z.solid = true → g.ρ k ≠ g.ρ l := fun hq eq => by have := s.heap.own k z hz hq; rw [eq, hown] at this; cases this; exact ek rfl
      have eo : z.solid = true → (w.setRow (g.ρ l) vs).heap[g.ρ k]? = w.heap[g.ρ k]? := fun hq => setRow_other _ _ _ _ (hkl hq)
      cases s.heap.obj k z hz with
      | cells cs vs' E' hb' hl' hx' h1 => exact .cells cs vs' E' ((eo rfl).trans hb') hl' (fun j v c q1 q2 => (hx' j v c q1 q2).setRow hown hpre hb hs hdom (by simp)) h1
      | arr xs vs' E' hb' hl' hx' h1 => exact .arr xs vs' E' ((eo rfl).trans hb') hl' (fun j v c q1 q2 => (hx' j v c q1 q2).setRow hpre) h1
      | map kd xs es clock hb' hx' hc => exact .map kd xs es clock ((eo rfl).trans hb') ⟨hx'.1, fun j q1 q2 q3 q4 => ⟨(hx'.2 j q1 q2 q3 q4).1.setRow hpre, (hx'.2 j q1 q2 q3 q4).2.setRow hpre⟩⟩ hc
      | gr st sz xs hg => exact .gr st sz xs fun q => (hg q).mono (fun _ _ _ hv => imm_setRow hpre hv) (fun _ _ hv => (eo (gr_solid q)).trans hv)
      | dead => exact .dead
      | glob gb gvs hgl => exact ORel.globM hgl (fun h1 _ _ => ⟨setRow_other _ _ _ _ (fun e => by subst e; rw [hown] at h1; cases h1), h1⟩)
      | bld T E2 bs hbl => exact ORel.bldM hbl rfl (eo rfl) (fun bb hbb => ⟨hbb, setRow_other _ _ _ _ (fun e => by subst e; rw [hown] at hbb; cases hbb), rfl⟩)
  · by_cases ek : l = k
    · subst ek; exact hown
    · rw [hget_ne ek] at hz; exact s.heap.own k z hz hq
  · by_cases ek : l = k
    · subst ek; exact hpre
    · rw [hget_ne ek] at hz; exact s.heap.pre k z hz hq

theorem run_storeAt (hty : TyOK P ty) {t : Nat} {i : TI} (hi : ty t = some i) {b off : Nat} {w : World} {cur : Array Value} {E : TypeId} (hb : w.heap[b]? = some (.cells cur E (0, 0))) {v : Value}
    (hsz : v.cells.toList.length = i.size) (hlen : off + v.cells.toList.length ≤ cur.size) (h1 : ∀ u ∈ v.cells.toList, u.oneCell' = true) :
    (Instr.storeAt t (.pointer (some ⟨b, off, none⟩)) v).run P w = .ok () (w.setRow b (cur.toList.take off ++ v.cells.toList ++ cur.toList.drop (off + v.cells.toList.length)).toArray) := by
  have := run_storeCells_at (P := P) b off E v.cells.toList 0 cur w hb (by simpa using hlen) h1
  have hne : ¬ v.cells.size ≠ i.size := by simpa using hsz
  simp only [Instr.storeAt, Instr.sureAddr, Sem.run_bind, Sem.run_pure, Result.andThen_ok, storeVar, run_sizeOf_ty hty hi, if_neg hne]
  simpa using this

/-- the cells behind a store -/
theorem splice_get {α : Type} (l ys : List α) (off : Nat) (h : off + ys.length ≤ l.length) (j : Nat) : (l.take off ++ ys ++ l.drop (off + ys.length))[j]? = if off ≤ j ∧ j < off + ys.length then ys[j - off]? else l[j]? := by
  have ht : (l.take off).length = off := by simp; omega
  by_cases h1 : j < off
  · rw [List.append_assoc, List.getElem?_append_left (by omega), if_neg (by omega), List.getElem?_take, if_pos h1]
  · by_cases h2 : j < off + ys.length
    · rw [if_pos ⟨by omega, h2⟩, List.append_assoc, List.getElem?_append_right (by omega), ht, List.getElem?_append_left (by omega)]
    · rw [if_neg (by omega), List.getElem?_append_right (by simp; omega), List.getElem?_drop]
      congr 1; simp; omega
theorem splice_length {α : Type} (l ys : List α) (off : Nat) (h : off + ys.length ≤ l.length) : (l.take off ++ ys ++ l.drop (off + ys.length)).length = l.length := by
  simp; omega

end
end Go.AM
