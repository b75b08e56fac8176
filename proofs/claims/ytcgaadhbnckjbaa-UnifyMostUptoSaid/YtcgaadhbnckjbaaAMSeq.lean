/-
  DERIVED. Part of an abstract machine over plain values, sound against the model. No conditions.
-/
import Derived.Test.YtcgaadhbnckjbaaAMReg
namespace Go.AM
section
variable {P : Program} {ty : Nat → Option TI} {n : Nat}

theorem Oper.wp_monoQ {o : Oper} {a : Act} {w : World} {K : Act → World → Prop} {Q : Exit → Act → World → Prop} (hh : o.wp P a w K (fun _ _ _ => False)) : o.wp P a w K Q := by
  unfold Oper.wp at *
  generalize (execOp a.eval o).run P w = r at *
  cases r with
  | ok m w' =>
    cases m <;> simp only [Oper.upon] at hh ⊢ <;>
      first
        | exact hh
        | exact Calls.mono hh (fun e w'' he => by
            cases e with
            | returned v => exact he
            | panicked c => exact he.elim
            | outgrown => obtain ⟨_, _, q⟩ := he; exact q.elim)
  | halt x w' => cases x <;> simp only [Oper.upon] at hh ⊢ <;> exact hh.elim

/-- which operations an array of code holds: where results go -/
def okOp (n : Nat) (o : Oper) : Bool := (match o.dst with | some d => Nat.blt d n | none => true) && (match o.op, o.dst with | .store .., some _ => false | .mapUpdate .., some _ => false | .insert .., some _ => false | _, _ => true)
theorem okOp_dst {n : Nat} {o : Oper} (h : okOp n o = true) : ∀ d, o.dst = some d → d < n := by
  intro d hd
  simp only [okOp, hd, Bool.and_eq_true] at h
  exact Nat.blt_eq ▸ h.1 |> fun q => by simpa using q
theorem okOp_store {n : Nat} {o : Oper} (h : okOp n o = true) : ∀ t x y, o.op = .store t x y → o.dst = none := by
  intro t x y ho
  cases hd : o.dst with
  | none => rfl
  | some d => simp [okOp, ho, hd] at h

theorem okOp_map {n : Nat} {o : Oper} (h : okOp n o = true) : ∀ t m k v, o.op = .mapUpdate t m k v ∨ o.op = .insert t m k v → o.dst = none := by
  intro t m k v ho
  simp only [okOp, Bool.and_eq_true] at h
  cases hd : o.dst with
  | none => rfl
  | some d => rcases ho with ho | ho <;> (rw [ho, hd] at h; simp at h)

theorem pushE_iff : ∀ (r e : Env) (K : Env → Prop), pushE r e K = K (r.reverse ++ e)
  | [], e, K => rfl
  | (d, v) :: r, e, K => by rw [pushE, pushE_iff r]; simp
theorem pushH_iff : ∀ (r e : Heap) (K : Heap → Prop), pushH r e K = K (r.reverse ++ e)
  | [], e, K => rfl
  | (d, v) :: r, e, K => by rw [pushH, pushH_iff r]; simp

theorem yielded_of {ops : Array Oper} {j d : Nat} {og : Oper} {a : Act} {b : Bool} (ho : ops[j]? = some og) (hd : og.dst = some d) (hv : a.tmps.getD d undef = .bool b) : yielded ops a.tmps j = some b := by
  have hin : a.tmps[d]? = some (.bool b) := by
    rw [Array.getD_eq_getD_getElem?] at hv
    cases hq : a.tmps[d]? with
    | none => rw [hq] at hv; simp [undef] at hv
    | some v => rw [hq] at hv; simp at hv; rw [hv]
  simp [yielded, ho, hd, hin]

theorem VRel.und0 {g : Gh} {w : World} {dom : Nat → Prop} {ow : Option Owner} : VRel g w dom ow undef (.tup []) := .tup _ [] [] rfl (by simp)
theorem VRel.isUndef {g : Gh} {w : World} {dom : Nat → Prop} {ow : Option Owner} {v : Value} (r : VRel g w dom ow v (.tup [])) : v = undef := by
  cases r with
  | tup _ vs _ hl _ => have : vs = [] := List.eq_nil_of_length_eq_zero (by simpa using hl); subst this; rfl
theorem yielded_none {ops : Array Oper} {j d : Nat} {og : Oper} {a : Act} (ho : ops[j]? = some og) (hd : og.dst = some d) (hv : a.tmps.getD d undef = undef) : yielded ops a.tmps j = none := by
  cases hq : a.tmps[d]? with
  | none => simp [yielded, ho, hd, hq]
  | some v =>
    rw [Array.getD_eq_getD_getElem?, hq] at hv
    simp at hv
    subst hv
    simp [yielded, ho, hd, hq, undef]

theorem guard_sound {ops : Array Oper} {o : Oper} {e : Env} {S X : Env → Prop} (hg : guardOf ops.toList o e S X) {g : Gh} {w : World} {a : Act} {h : Heap} (s : Sim g w n a e h) :
    (Region.wanted o (yielded ops a.tmps) = true ∧ ∃ e1, X e1 ∧ ∀ i, eget e1 i = eget e i) ∨ (Region.wanted o (yielded ops a.tmps) = false ∧ ∃ e1, S e1 ∧ ∀ i, eget e1 i = eget e i) := by
  unfold guardOf at hg
  split at hg
  · rename_i hn; exact .inl ⟨by simp [Region.wanted, hn], e, hg, fun _ => rfl⟩
  · rename_i j want hn
    split at hg
    · rename_i og hog
      split at hg
      · rename_i d hd
        split at hg
        · rename_i b hb
          have hv := s.env d
          rw [hb] at hv
          have hy := yielded_of (by simpa using hog) hd hv.bool
          have hsame : ∀ i, eget ((d, AV.p (.b b)) :: e) i = eget e i := fun i => by
            by_cases q : d = i
            · subst q; rw [eget_self, hb]
            · rw [eget_ne q]
          have hw : Region.wanted o (yielded ops a.tmps) = (some b == some want) := by simp [Region.wanted, hn, hy]
          cases b <;> cases want <;> simp only [ASplit] at hg
          · exact .inl ⟨by rw [hw]; rfl, _, hg, hsame⟩
          · exact .inr ⟨by rw [hw]; rfl, _, hg, hsame⟩
          · exact .inr ⟨by rw [hw]; rfl, _, hg, hsame⟩
          · exact .inl ⟨by rw [hw]; rfl, _, hg, hsame⟩
        · rename_i hb
          have hv := s.env d
          rw [hb] at hv
          have hy := yielded_none (by simpa using hog) hd hv.isUndef
          exact .inr ⟨by simp [Region.wanted, hn, hy], e, hg, fun _ => rfl⟩
        · exact hg.elim
      · exact hg.elim
    · exact hg.elim

/-- what holds at an exit -/
def QOf (n : Nat) (K : Exit → Env → Heap → Prop) (g0 : Gh) (w0 : World) : Exit → Act → World → Prop := fun x a w => ∃ g e h, K x e h ∧ Sim g w n a e h ∧ Ext g0 w0 g w

theorem aops_sound (hty : TyOK P ty) {ops : Array Oper} (hok : ops.toList.all (okOp n) = true) {K : Exit → Env → Heap → Prop} {g0 : Gh} {w0 : World} : ∀ (l : List Oper) (k : Nat) (e : Env) (h : Heap) (g : Gh) (w : World) (a : Act),
    (∀ j, l[j]? = ops[k + j]?) → aops ty (pcall P) ops.toList l e h (fun e h => K .normal e h) → Sim g w n a e h → Ext g0 w0 g w → wpOps P ops (QOf n K g0 w0) (List.range' k l.length) a w
  | [], k, e, h, g, w, a, _, hk, s, hE => ⟨g, e, h, hk, s, hE⟩
  | o :: r, k, e, h, g, w, a, hl, hk, s, hE => by
    have ho : ops[k]? = some o := by have := hl 0; simpa using this.symm
    have hmem : o ∈ ops.toList := by rw [← Array.getElem?_toList] at ho; exact List.mem_of_getElem? ho
    have hoko : okOp n o = true := List.all_eq_true.1 hok o hmem
    have hrest : ∀ j, r[j]? = ops[k + 1 + j]? := fun j => by have := hl (j + 1); rw [show k + 1 + j = k + (j + 1) by omega, ← this]; simp
    simp only [List.length_cons, List.range'_succ]
    rw [wpOps_cons]
    simp only [wpOp, ho]
    rw [aops_cons] at hk
    rcases guard_sound hk s with ⟨hw, e1, hk, hee⟩ | ⟨hw, e1, hk, hee⟩
    · rw [if_pos hw]
      left
      obtain ⟨f, hk, hop⟩ := aop_sound hty (okOp_dst hoko) (okOp_store hoko) (okOp_map hoko) hk
      simp only [pushE_iff, pushH_iff] at hk
      have s1 := s.envEq hee
      refine Oper.wp_monoQ (Oper.wp_mono ?_ (hop e1 h (fun _ _ => rfl) (fun _ _ => rfl) g w a s1))
      rintro a' w' ⟨g', s', hE'⟩
      exact aops_sound hty hok r (k + 1) _ _ g' w' a' hrest hk s' (hE.trans hE')
    · rw [if_neg (by rw [hw]; simp)]
      have s1 := s.envEq hee
      unfold putT at hk
      split at hk
      · rename_i d hd
        rw [hd]
        exact aops_sound hty hok r (k + 1) _ _ g w _ hrest hk (s1.put (okOp_dst hoko d hd) VRel.und0) hE
      · rename_i hd
        rw [hd]
        exact aops_sound hty hok r (k + 1) _ _ g w _ hrest hk s1 hE

/-- the writes of the operations of a set, in the order of the text -/
def envL : List Env → (Nat → Bool) → Nat → Env → Env
  | [], _, _, e => e
  | W :: r, L, k, e => envL r L (k + 1) (if L k then W.reverse ++ e else e)
def heapL : List Heap → (Nat → Bool) → Nat → Heap → Heap
  | [], _, _, e => e
  | W :: r, L, k, e => heapL r L (k + 1) (if L k then W.reverse ++ e else e)

theorem eget_append_none (W e : Env) (i : Nat) (h : ∀ x ∈ W, x.1 ≠ i) : eget (W ++ e) i = eget e i := by
  induction W with
  | nil => rfl
  | cons x r ih =>
    obtain ⟨d, v⟩ := x
    rw [List.cons_append, eget_ne (h (d, v) (by simp))]
    exact ih (fun y hy => h y (by simp [hy]))
theorem hget_append_none (W e : Heap) (i : Nat) (h : ∀ x ∈ W, x.1 ≠ i) : hget (W ++ e) i = hget e i := by
  induction W with
  | nil => rfl
  | cons x r ih =>
    obtain ⟨d, v⟩ := x
    rw [List.cons_append, hget_ne (h (d, v) (by simp))]
    exact ih (fun y hy => h y (by simp [hy]))
theorem eget_append_some (W e e' : Env) (i : Nat) (h : ∃ x ∈ W, x.1 = i) : eget (W ++ e) i = eget (W ++ e') i := by
  induction W with
  | nil => obtain ⟨x, hx, _⟩ := h; cases hx
  | cons x r ih =>
    obtain ⟨d, v⟩ := x
    by_cases q : d = i
    · subst q; rw [List.cons_append, List.cons_append, eget_self, eget_self]
    · rw [List.cons_append, List.cons_append, eget_ne q, eget_ne q]
      obtain ⟨y, hy, hyi⟩ := h
      rcases List.mem_cons.1 hy with rfl | hy
      · exact absurd hyi q
      · exact ih ⟨y, hy, hyi⟩
theorem hget_append_some (W e e' : Heap) (i : Nat) (h : ∃ x ∈ W, x.1 = i) : hget (W ++ e) i = hget (W ++ e') i := by
  induction W with
  | nil => obtain ⟨x, hx, _⟩ := h; cases hx
  | cons x r ih =>
    obtain ⟨d, v⟩ := x
    by_cases q : d = i
    · subst q; rw [List.cons_append, List.cons_append, hget_self, hget_self]
    · rw [List.cons_append, List.cons_append, hget_ne q, hget_ne q]
      obtain ⟨y, hy, hyi⟩ := h
      rcases List.mem_cons.1 hy with rfl | hy
      · exact absurd hyi q
      · exact ih ⟨y, hy, hyi⟩

def hasKey (W : List Nat) (i : Nat) : Prop := i ∈ W
/-- two sets that agree on the writers of a slot give it one value -/
theorem envL_congr (i : Nat) : ∀ (ws : List Env) (L L' : Nat → Bool) (k : Nat) (e e' : Env), eget e i = eget e' i → (∀ j W, ws[j]? = some W → (∃ x ∈ W, x.1 = i) → L (k + j) = L' (k + j)) → eget (envL ws L k e) i = eget (envL ws L' k e') i
  | [], L, L', k, e, e', h, _ => h
  | W :: r, L, L', k, e, e', h, hw => by
    rw [envL, envL]
    refine envL_congr i r L L' (k + 1) _ _ ?_ (fun j W' hj hx => by have := hw (j + 1) W' (by simpa using hj) hx; rw [show k + 1 + j = k + (j + 1) by omega]; exact this)
    by_cases hx : ∃ x ∈ W, x.1 = i
    · have h0 := hw 0 W rfl hx
      simp only [Nat.add_zero] at h0
      rw [h0]
      split
      · obtain ⟨x, hx1, hx2⟩ := hx
        exact eget_append_some _ _ _ _ ⟨x, by simpa using hx1, hx2⟩
      · exact h
    · have hn : ∀ x ∈ W.reverse, x.1 ≠ i := fun x hx1 q => hx ⟨x, by simpa using hx1, q⟩
      split <;> split
      · rw [eget_append_none _ _ _ hn, eget_append_none _ _ _ hn]; exact h
      · rw [eget_append_none _ _ _ hn]; exact h
      · rw [eget_append_none _ _ _ hn]; exact h
      · exact h
theorem heapL_congr (i : Nat) : ∀ (ws : List Heap) (L L' : Nat → Bool) (k : Nat) (e e' : Heap), hget e i = hget e' i → (∀ j W, ws[j]? = some W → (∃ x ∈ W, x.1 = i) → L (k + j) = L' (k + j)) → hget (heapL ws L k e) i = hget (heapL ws L' k e') i
  | [], L, L', k, e, e', h, _ => h
  | W :: r, L, L', k, e, e', h, hw => by
    rw [heapL, heapL]
    refine heapL_congr i r L L' (k + 1) _ _ ?_ (fun j W' hj hx => by have := hw (j + 1) W' (by simpa using hj) hx; rw [show k + 1 + j = k + (j + 1) by omega]; exact this)
    by_cases hx : ∃ x ∈ W, x.1 = i
    · have h0 := hw 0 W rfl hx
      simp only [Nat.add_zero] at h0
      rw [h0]
      split
      · obtain ⟨x, hx1, hx2⟩ := hx
        exact hget_append_some _ _ _ _ ⟨x, by simpa using hx1, hx2⟩
      · exact h
    · have hn : ∀ x ∈ W.reverse, x.1 ≠ i := fun x hx1 q => hx ⟨x, by simpa using hx1, q⟩
      split <;> split
      · rw [hget_append_none _ _ _ hn, hget_append_none _ _ _ hn]; exact h
      · rw [hget_append_none _ _ _ hn]; exact h
      · rw [hget_append_none _ _ _ hn]; exact h
      · exact h

/-- the last writer's value stands -/
theorem envL_last (i m : Nat) : ∀ (ws : List Env) (L : Nat → Bool) (k : Nat) (e : Env) (W : Env) (X : Env), ws[m]? = some W → (∃ x ∈ W, x.1 = i) → L (k + m) = true → (∀ j W', m < j → ws[j]? = some W' → (∃ x ∈ W', x.1 = i) → L (k + j) = false) →
    eget (envL ws L k e) i = eget (W.reverse ++ X) i := by
  induction m with
  | zero =>
    intro ws L k e W X hm hx hL hafter
    cases ws with
    | nil => simp at hm
    | cons W0 r =>
      simp at hm
      subst hm
      rw [envL]
      simp only [Nat.add_zero] at hL
      rw [if_pos hL]
      rw [envL_congr i r L (fun _ => false) (k + 1) _ (W0.reverse ++ X) (by obtain ⟨x, hx1, hx2⟩ := hx; exact eget_append_some _ _ _ _ ⟨x, by simpa using hx1, hx2⟩) (fun j W' hj hx' => by
        have := hafter (j + 1) W' (by omega) (by simpa using hj) hx'
        rw [show k + 1 + j = k + (j + 1) by omega]; exact this)]
      generalize W0.reverse ++ X = Y
      clear hafter hL hx
      generalize k + 1 = k'
      induction r generalizing k' with
      | nil => rfl
      | cons W1 r ih => rw [envL]; simp only [Bool.false_eq_true, if_false]; exact ih (k' + 1)
  | succ m ih =>
    intro ws L k e W X hm hx hL hafter
    cases ws with
    | nil => simp at hm
    | cons W0 r =>
      simp at hm
      rw [envL]
      exact ih r L (k + 1) _ W X hm hx (by rw [show k + 1 + m = k + (m + 1) by omega]; exact hL) (fun j W' hj hjw hx' => by
        have := hafter (j + 1) W' (by omega) (by simpa using hjw) hx'
        rw [show k + 1 + j = k + (j + 1) by omega]; exact this)
theorem heapL_last (i m : Nat) : ∀ (ws : List Heap) (L : Nat → Bool) (k : Nat) (e : Heap) (W : Heap) (X : Heap), ws[m]? = some W → (∃ x ∈ W, x.1 = i) → L (k + m) = true → (∀ j W', m < j → ws[j]? = some W' → (∃ x ∈ W', x.1 = i) → L (k + j) = false) →
    hget (heapL ws L k e) i = hget (W.reverse ++ X) i := by
  induction m with
  | zero =>
    intro ws L k e W X hm hx hL hafter
    cases ws with
    | nil => simp at hm
    | cons W0 r =>
      simp at hm
      subst hm
      rw [heapL]
      simp only [Nat.add_zero] at hL
      rw [if_pos hL]
      rw [heapL_congr i r L (fun _ => false) (k + 1) _ (W0.reverse ++ X) (by obtain ⟨x, hx1, hx2⟩ := hx; exact hget_append_some _ _ _ _ ⟨x, by simpa using hx1, hx2⟩) (fun j W' hj hx' => by
        have := hafter (j + 1) W' (by omega) (by simpa using hj) hx'
        rw [show k + 1 + j = k + (j + 1) by omega]; exact this)]
      generalize W0.reverse ++ X = Y
      clear hafter hL hx
      generalize k + 1 = k'
      induction r generalizing k' with
      | nil => rfl
      | cons W1 r ih => rw [heapL]; simp only [Bool.false_eq_true, if_false]; exact ih (k' + 1)
  | succ m ih =>
    intro ws L k e W X hm hx hL hafter
    cases ws with
    | nil => simp at hm
    | cons W0 r =>
      simp at hm
      rw [heapL]
      exact ih r L (k + 1) _ W X hm hx (by rw [show k + 1 + m = k + (m + 1) by omega]; exact hL) (fun j W' hj hjw hx' => by
        have := hafter (j + 1) W' (by omega) (by simpa using hjw) hx'
        rw [show k + 1 + j = k + (j + 1) by omega]; exact this)

end
end Go.AM
