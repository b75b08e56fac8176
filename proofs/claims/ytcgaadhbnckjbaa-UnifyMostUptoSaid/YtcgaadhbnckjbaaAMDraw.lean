/-
  DERIVED. Part of an abstract machine over plain values, sound against the model. No conditions.
-/
import Derived.Test.YtcgaadhbnckjbaaAMSeq
namespace Go.AM
section
variable {P : Program} {ty : Nat → Option TI} {n : Nat}

theorem VRel.domEq {g : Gh} {w : World} {h h' : Heap} (hh : ∀ l, hget h' l = hget h l) {ow : Option Owner} {v : Value} {x : AV} (r : VRel g w (domOf h) ow v x) : VRel g w (domOf h') ow v x :=
  r.domUp fun k hk => by unfold domOf at *; rw [hh k]; exact hk

/-- the guard's word -/
def guardA (all : List Oper) (o : Oper) (e : Env) : Option Bool := match o.guard with
  | none => some true
  | some (j, want) => match all[j]? with
    | some og => match og.dst with
      | some d => match eget e d with
        | .p (.b g) => some (g == want)
        | .tup [] => some false
        | _ => none
      | none => none
    | none => none

def StepOK (P : Program) (n : Nat) (all : List Oper) (o : Oper) (e : Env) (h : Heap) : Option Eff → Prop
  | some f => guardA all o e = some true ∧ OpOK P n o e h f
  | none => guardA all o e = some false

theorem guardA_congr {all : List Oper} {o : Oper} {e e' : Env} (h : ∀ i ∈ guardSlot all o, eget e' i = eget e i) : guardA all o e' = guardA all o e := by
  unfold guardA
  unfold guardSlot at h
  cases hg : o.guard with
  | none => rfl
  | some x =>
    obtain ⟨j, want⟩ := x
    simp only [hg] at h ⊢
    cases ha : all[j]? with
    | none => rfl
    | some og =>
      simp only [ha] at h ⊢
      cases hd : og.dst with
      | none => rfl
      | some d => simp only [hd] at h ⊢; rw [h d (by simp)]

theorem StepOK.congr {all : List Oper} {o : Oper} {e e' : Env} {h h' : Heap} {f : Option Eff} (hs : StepOK P n all o e h f) (he : ∀ i ∈ slotsOf o ++ guardSlot all o, eget e' i = eget e i) (hh : ∀ l ∈ rdH f, hget h' l = hget h l) : StepOK P n all o e' h' f := by
  have hg : guardA all o e' = guardA all o e := guardA_congr (fun i hi => he i (List.mem_append_right _ hi))
  cases f with
  | none => simp only [StepOK] at *; rw [hg]; exact hs
  | some f =>
    simp only [StepOK] at *
    refine ⟨by rw [hg]; exact hs.1, fun e2 h2 he2 hh2 => hs.2 e2 h2 (fun t ht => (he2 t ht).trans (he t (by simp [ht]))) (fun l hl => (hh2 l hl).trans (hh l hl))⟩

inductive Path (P : Program) (n : Nat) (all : List Oper) : List Oper → Env → Heap → List (Option Eff) → Prop
  | nil (e : Env) (h : Heap) : Path P n all [] e h []
  | cons (o : Oper) (r : List Oper) (e : Env) (h : Heap) (f : Option Eff) (fs : List (Option Eff)) (h0 : StepOK P n all o e h f) (h1 : Path P n all r ((wrE o f).reverse ++ e) ((wrH f).reverse ++ h) fs) : Path P n all (o :: r) e h (f :: fs)

def ewS (l : List Oper) (fs : List (Option Eff)) : List Env := List.zipWith wrE l fs
def hwS (fs : List (Option Eff)) : List Heap := fs.map wrH

theorem eget_append_congr (W : Env) {e e' : Env} (h : ∀ i, eget e i = eget e' i) (i : Nat) : eget (W ++ e) i = eget (W ++ e') i := by
  induction W with
  | nil => exact h i
  | cons x r ih =>
    obtain ⟨d, v⟩ := x
    by_cases q : d = i
    · subst q; rw [List.cons_append, List.cons_append, eget_self, eget_self]
    · rw [List.cons_append, List.cons_append, eget_ne q, eget_ne q]; exact ih
theorem hget_append_congr (W : Heap) {e e' : Heap} (h : ∀ i, hget e i = hget e' i) (i : Nat) : hget (W ++ e) i = hget (W ++ e') i := by
  induction W with
  | nil => exact h i
  | cons x r ih =>
    obtain ⟨d, v⟩ := x
    by_cases q : d = i
    · subst q; rw [List.cons_append, List.cons_append, hget_self, hget_self]
    · rw [List.cons_append, List.cons_append, hget_ne q, hget_ne q]; exact ih

theorem guard_path {all : List Oper} {o : Oper} {e : Env} {S X : Env → Prop} (hg : guardOf all o e S X) :
    (guardA all o e = some true ∧ ∃ e1, X e1 ∧ ∀ i, eget e1 i = eget e i) ∨ (guardA all o e = some false ∧ ∃ e1, S e1 ∧ ∀ i, eget e1 i = eget e i) := by
  unfold guardOf at hg
  split at hg
  · rename_i hn; exact .inl ⟨by simp [guardA, hn], e, hg, fun _ => rfl⟩
  · rename_i j want hn
    split at hg
    · rename_i og hog
      split at hg
      · rename_i d hd
        split at hg
        · rename_i b hb
          have hsame : ∀ i, eget ((d, AV.p (.b b)) :: e) i = eget e i := fun i => by
            by_cases q : d = i
            · subst q; rw [eget_self, hb]
            · rw [eget_ne q]
          have hw : guardA all o e = some (b == want) := by simp [guardA, hn, hog, hd, hb]
          cases b <;> cases want <;> simp only [ASplit] at hg
          · exact .inl ⟨by rw [hw]; rfl, _, hg, hsame⟩
          · exact .inr ⟨by rw [hw]; rfl, _, hg, hsame⟩
          · exact .inr ⟨by rw [hw]; rfl, _, hg, hsame⟩
          · exact .inl ⟨by rw [hw]; rfl, _, hg, hsame⟩
        · rename_i hb; exact .inr ⟨by simp [guardA, hn, hog, hd, hb], e, hg, fun _ => rfl⟩
        · exact hg.elim
      · exact hg.elim
    · exact hg.elim

theorem aopsR_path (hty : TyOK P ty) {all : List Oper} {K : Env → Heap → List (Option Eff) → Prop} : ∀ (l : List Oper) (e : Env) (h : Heap) (rs : List (Option Eff)) (e2 : Env) (h2 : Heap), (∀ o ∈ l, okOp n o = true) →
    aopsR ty (pcall P) all l e h rs K → (∀ i, eget e2 i = eget e i) → (∀ i, hget h2 i = hget h i) →
    ∃ fs e' h', Path P n all l e2 h2 fs ∧ fs.length = l.length ∧ K e' h' (fs.reverse ++ rs) ∧ (∀ i, eget e' i = eget (envL (ewS l fs) (fun _ => true) 0 e2) i) ∧ (∀ i, hget h' i = hget (heapL (hwS fs) (fun _ => true) 0 h2) i)
  | [], e, h, rs, e2, h2, _, hk, he, hh => ⟨[], e, h, .nil e2 h2, rfl, hk, fun i => (he i).symm, fun i => (hh i).symm⟩
  | o :: r, e, h, rs, e2, h2, hok, hk, he, hh => by
    have envShift : ∀ (ws : List Env) (k k' : Nat) (e : Env), envL ws (fun _ => true) k e = envL ws (fun _ => true) k' e := by
      intro ws
      induction ws with
      | nil => intros; rfl
      | cons W r ih => intro k k' e; rw [envL, envL]; exact ih _ _ _
    have heapShift : ∀ (ws : List Heap) (k k' : Nat) (e : Heap), heapL ws (fun _ => true) k e = heapL ws (fun _ => true) k' e := by
      intro ws
      induction ws with
      | nil => intros; rfl
      | cons W r ih => intro k k' e; rw [heapL, heapL]; exact ih _ _ _
    have hoko := hok o (by simp)
    rw [aopsR_cons] at hk
    rcases guard_path hk with ⟨hg, e1, hk, hee⟩ | ⟨hg, e1, hk, hee⟩
    · obtain ⟨f, hk, hop⟩ := aop_sound hty (okOp_dst hoko) (okOp_store hoko) (okOp_map hoko) hk
      simp only [pushE_iff, pushH_iff] at hk
      have he12 : ∀ i, eget e2 i = eget e1 i := fun i => (he i).trans (hee i).symm
      obtain ⟨fs, e', h', q1, q2, q3, q4, q5⟩ := aopsR_path hty r _ _ _ (f.ew.reverse ++ e2) (f.hw.reverse ++ h2) (fun o' ho' => hok o' (by simp [ho'])) hk (eget_append_congr _ he12) (hget_append_congr _ hh)
      have hst : StepOK P n all o e2 h2 (some f) := StepOK.congr (e := e1) (h := h) (f := some f) ⟨by rw [guardA_congr (fun i _ => hee i)]; exact hg, hop⟩ (fun i _ => he12 i) (fun i _ => hh i)
      refine ⟨some f :: fs, e', h', .cons o r e2 h2 (some f) fs hst q1, by simp [q2], by simpa using q3, fun i => ?_, fun i => ?_⟩
      · rw [q4 i]; simp only [ewS, List.zipWith_cons_cons, envL, if_true, wrE]; rw [envShift]
      · rw [q5 i]; simp only [hwS, List.map_cons, heapL, if_true, wrH]; rw [heapShift]
    · have key : aopsR ty (pcall P) all r ((wrE o none).reverse ++ e1) h (none :: rs) K := by
        unfold putT at hk
        simp only [wrE]
        split at hk
        · rename_i d hd; simpa using hk
        · rename_i hd; simpa using hk
      have he12 : ∀ i, eget e2 i = eget e1 i := fun i => (he i).trans (hee i).symm
      obtain ⟨fs, e', h', q1, q2, q3, q4, q5⟩ := aopsR_path hty r _ _ _ ((wrE o none).reverse ++ e2) h2 (fun o' ho' => hok o' (by simp [ho'])) key (eget_append_congr _ he12) hh
      have hst : StepOK P n all o e2 h2 none := StepOK.congr (e := e1) (h := h) (f := none) (by simp only [StepOK]; rw [guardA_congr (fun i _ => hee i)]; exact hg) (fun i _ => he12 i) (fun i _ => hh i)
      refine ⟨none :: fs, e', h', .cons o r e2 h2 none fs hst q1, by simp [q2], by simpa using q3, fun i => ?_, fun i => ?_⟩
      · rw [q4 i]; simp only [ewS, List.zipWith_cons_cons, envL, if_true]; rw [envShift]
      · rw [q5 i]; simp only [hwS, List.map_cons, heapL, if_true, wrH, List.reverse_nil, List.nil_append]; rw [heapShift]

/-- the state ahead of the j-th operation of the text -/
theorem Path.at {all : List Oper} : ∀ {l : List Oper} {e : Env} {h : Heap} {fs : List (Option Eff)}, Path P n all l e h fs → ∀ (k j : Nat) (o : Oper) (f : Option Eff), l[j]? = some o → fs[j]? = some f →
    StepOK P n all o (envL (ewS l fs) (fun i => decide (i < k + j)) k e) (heapL (hwS fs) (fun i => decide (i < k + j)) k h) f := by
  intro l e h fs hp
  have stopE : ∀ (ws : List Env) (k m : Nat) (e : Env), m ≤ k → envL ws (fun i => decide (i < m)) k e = e := by
    intro ws
    induction ws with
    | nil => intros; rfl
    | cons W r ih => intro k m e hm; rw [envL]; simp only [show ¬ k < m by omega, decide_false, Bool.false_eq_true, if_false]; exact ih _ _ _ (by omega)
  have stopH : ∀ (ws : List Heap) (k m : Nat) (e : Heap), m ≤ k → heapL ws (fun i => decide (i < m)) k e = e := by
    intro ws
    induction ws with
    | nil => intros; rfl
    | cons W r ih => intro k m e hm; rw [heapL]; simp only [show ¬ k < m by omega, decide_false, Bool.false_eq_true, if_false]; exact ih _ _ _ (by omega)
  induction hp with
  | nil => intro k j o f ho; simp at ho
  | cons o r e h f fs h0 h1 ih =>
    intro k j o' f' ho hf
    cases j with
    | zero =>
      simp at ho hf
      subst ho; subst hf
      rw [stopE _ k (k + 0) _ (Nat.le_refl k), stopH _ k (k + 0) _ (Nat.le_refl k)]
      exact h0
    | succ j =>
      simp at ho hf
      have := ih (k + 1) j o' f' ho hf
      simp only [ewS, hwS, List.zipWith_cons_cons, List.map_cons, envL, heapL]
      simp only [show k < k + (j + 1) by omega, decide_true, if_true]
      rw [show k + (j + 1) = k + 1 + j by omega]
      exact this

end
end Go.AM
