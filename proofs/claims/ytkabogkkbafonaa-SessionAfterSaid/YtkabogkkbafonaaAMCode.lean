/-
  DERIVED. Part of an abstract machine over plain values, proved sound against the model: no statement about a program. No conditions.
-/
import Derived.Test.YtkabogkkbafonaaAMAny
namespace Go.AM

def codeOK (n : Nat) : Code → Bool
  | .region _ ops _ => ops.toList.all (okOp n)
  | .seq a b => codeOK n a && codeOK n b
  | .cond _ a b => codeOK n a && codeOK n b
  | .block _ c => codeOK n c
  | .loop c => codeOK n c
  | _ => true

/-- a code's weakest precondition over values -/
def AWp (P : Program) (n : Nat) (c : Code) (K : Exit → Env → Heap → Prop) (e : Env) (h : Heap) : Prop :=
  ∀ g0 w0 g w a, Sim g w n a e h → Ext g0 w0 g w → c.wp P (QOf n K g0 w0) a w

def lpOf (P : Program) (n : Nat) (c : Code) (K : Exit → Env → Heap → Prop) (e : Env) (h : Heap) : Prop := AWp P n (.loop c) K e h

section
variable {P : Program} {ty : Nat → Option TI} {n : Nat}

theorem awp_sound (hty : TyOK P ty) (hmix : P.follows .mixedOrders = true) : ∀ (c : Code) (K : Exit → Env → Heap → Prop) (e : Env) (h : Heap), codeOK n c = true → awp ty (pcall P) (lpOf P n) c K e h → AWp P n c K e h
  | .skip, K, e, h, _, hk => fun g0 w0 g w a s hE => wp_skip ⟨g, e, h, hk, s, hE⟩
  | .region id ops false, K, e, h, hok, hk => fun g0 w0 g w a s hE => by
    refine wp_region ?_
    rw [List.range_eq_range']
    have := aops_sound hty (by simpa [codeOK] using hok) ops.toList 0 e h g w a (fun j => by simp) hk s hE
    simpa using this
  | .region id ops true, K, e, h, hok, hk => fun g0 w0 g w a s hE => by
    refine wp_region_any hmix ?_
    have hok' : ops.toList.all (okOp n) = true := by simpa [codeOK] using hok
    obtain ⟨fs, e', h', q1, q2, ⟨q3, q3'⟩, q4, q5⟩ := aopsR_path (n := n) hty ops.toList e h [] e h (fun o ho => List.all_eq_true.1 hok' o ho) hk (fun _ => rfl) (fun _ => rfl)
    simp only [List.append_nil] at q3
    have hz : ∀ i, (Array.replicate ops.size false).getD i false = false := fun i => by simp [Array.getD_eq_getD_getElem?, Array.getElem?_replicate]; split <;> rfl
    have hnoneE : ∀ (ws : List Env) (k : Nat) (e : Env), envL ws (fun _ => false) k e = e := by
      intro ws; induction ws with
      | nil => intros; rfl
      | cons W r ih => intro k e; rw [envL]; simp only [Bool.false_eq_true, if_false]; exact ih _ _
    have hnoneH : ∀ (ws : List Heap) (k : Nat) (e : Heap), heapL ws (fun _ => false) k e = e := by
      intro ws; induction ws with
      | nil => intros; rfl
      | cons W r ih => intro k e; rw [heapL]; simp only [Bool.false_eq_true, if_false]; exact ih _ _
    refine region_any hok' q1 q2 q3 (g0 := g0) (w0 := w0) (K := K) (fun e2 h2 r1 r2 => ⟨e', h', q3', fun i => (q4 i).trans (r1 i).symm, fun i => (q5 i).trans (r2 i).symm⟩) ops.size _ a _ (by simp) ?_ ?_ ⟨g, ?_, hE.trans Ext.drew⟩
    · unfold unl; simpa using List.length_filter_le (fun i => !(Array.replicate ops.size false).getD i false) (List.range ops.size)
    · intro j o ho hj; simp only [hz] at hj; cases hj
    · simp only [hz, hnoneE, hnoneH]; exact s.drew
  | .seq x y, K, e, h, hok, hk => fun g0 w0 g w a s hE => by
    have hok : codeOK n x = true ∧ codeOK n y = true := by simpa [codeOK] using hok
    refine wp_seq (wp_mono (awp_sound hty hmix x _ e h hok.1 hk g0 w0 g w a s hE) ?_)
    rintro ex a' w' ⟨g', e', h', hk', s', hE'⟩
    cases ex with
    | normal => exact awp_sound hty hmix y K e' h' hok.2 hk' g0 w0 g' w' a' s' hE'
    | _ => exact ⟨g', e', h', hk', s', hE'⟩
  | .cond c x y, K, e, h, hok, hk => fun g0 w0 g w a s hE => by
    have hok : codeOK n x = true ∧ codeOK n y = true := by simpa [codeOK] using hok
    have hk : (match Go.AM.ev e c with | .p (.b g) => ASplit g (awp ty (pcall P) (lpOf P n) x K e h) (awp ty (pcall P) (lpOf P n) y K e h) | _ => AStuck "cond") := hk
    split at hk
    · rename_i b hb
      obtain ⟨_, r⟩ := s.ev c
      rw [hb] at r
      refine wp_cond r.bool ?_
      cases b with
      | true => exact awp_sound hty hmix x K e h hok.1 hk g0 w0 g w a s hE
      | false => exact awp_sound hty hmix y K e h hok.2 hk g0 w0 g w a s hE
    · exact hk.elim
  | .block id c, K, e, h, hok, hk => fun g0 w0 g w a s hE => by
    refine wp_block (wp_mono (awp_sound hty hmix c _ e h (by simpa [codeOK] using hok) hk g0 w0 g w a s hE) ?_)
    rintro ex a' w' ⟨g', e', h', hk', s', hE'⟩
    cases ex with
    | exit i =>
      simp only [Exit.inBlock]
      by_cases q : i = id
      · subst q
        rw [if_pos rfl]
        simp only [beq_self] at hk'
        exact ⟨g', e', h', hk', s', hE'⟩
      · rw [if_neg q]
        simp only [beq_false q] at hk'
        exact ⟨g', e', h', hk', s', hE'⟩
    | _ => exact ⟨g', e', h', hk', s', hE'⟩
  | .exit id, K, e, h, _, hk => fun g0 w0 g w a s hE => wp_exit ⟨g, e, h, hk, s, hE⟩
  | .ret, K, e, h, _, hk => fun g0 w0 g w a s hE => wp_ret ⟨g, e, h, hk, s, hE⟩
  | .loop c, K, e, h, _, hk => hk
  | .rangeFunc .., K, e, h, _, hk => hk.elim
  | .scope _, K, e, h, _, hk => hk.elim
  | .label _, K, e, h, _, hk => hk.elim
  | .goto _, K, e, h, _, hk => hk.elim
  | .refuse _, K, e, h, _, hk => hk.elim

theorem least_of (p : Nat → Prop) (h : ∃ m, p m) : ∃ m, p m ∧ ∀ k, p k → m ≤ k := by
  obtain ⟨m, hm⟩ := h
  induction m using Nat.strongRecOn with
  | _ m ih =>
    by_cases hx : ∃ k, k < m ∧ p k
    · obtain ⟨k, hk, hpk⟩ := hx; exact ih k hk hpk
    · refine ⟨m, hm, fun k hk => ?_⟩
      rcases Nat.lt_or_ge k m with q | q
      · exact absurd ⟨k, q, hk⟩ hx
      · exact q

theorem AWp.loop {c : Code} {K : Exit → Env → Heap → Prop} (Inv : Nat → Env → Heap → Prop) {m : Nat} {e : Env} {h : Heap} (h0 : Inv m e h)
    (round : ∀ m e h, Inv m e h → AWp P n c (fun x e' h' => match x with | .normal => ∃ m', m' < m ∧ Inv m' e' h' | x => K x e' h') e h) : AWp P n (.loop c) K e h := by
  intro g0 w0 g w a s hE
  let p : Act → World → Nat → Prop := fun a w m => ∃ g e h, Inv m e h ∧ Sim g w n a e h ∧ Ext g0 w0 g w
  have mu : ∃ μ : Act → World → Nat, ∀ a w, (∃ m, p a w m) → p a w (μ a w) ∧ ∀ k, p a w k → μ a w ≤ k := by
    exact ⟨fun a w => Classical.epsilon (fun m => p a w m ∧ ∀ k, p a w k → m ≤ k), fun a w hx => Classical.epsilon_spec (least_of _ hx)⟩
  obtain ⟨μ, hμ⟩ := mu
  refine wp_loop (fun a w => ∃ m, p a w m) μ ⟨m, g, e, h, h0, s, hE⟩ (fun a w hx => ?_)
  obtain ⟨⟨g1, e1, h1, hi, s1, hE1⟩, _⟩ := hμ a w hx
  refine wp_mono (round _ e1 h1 hi g0 w0 g1 w a s1 hE1) ?_
  rintro ex a' w' ⟨g', e', h', hk', s', hE'⟩
  cases ex with
  | normal =>
    obtain ⟨m', hlt, hi'⟩ := hk'
    have hp : p a' w' m' := ⟨g', e', h', hi', s', hE'⟩
    exact ⟨⟨m', hp⟩, Nat.lt_of_le_of_lt ((hμ a' w' ⟨m', hp⟩).2 m' hp) hlt⟩
  | _ => exact ⟨g', e', h', hk', s', hE'⟩

end

mutual
/-- every object that a value leads to is in the set -/
def AV.within (d : Nat → Bool) : AV → Bool
  | .agg cs => AV.withins d cs
  | .tup cs => AV.withins d cs
  | .fn _ a b => AV.withins d a && AV.withins d b
  | .ptr l _ => d l
  | .mp l => d l
  | .ar l => d l
  | .ap l _ => d l
  | _ => true
def AV.withins (d : Nat → Bool) : List AV → Bool
  | [] => true
  | v :: r => AV.within d v && AV.withins d r
end

theorem withins_get (d : Nat → Bool) : ∀ (xs : List AV), AV.withins d xs = true → ∀ (j : Nat) (x : AV), xs[j]? = some x → x.within d = true
  | [], _, j, x, hx => by simp at hx
  | y :: r, h, j, x, hx => by
    simp only [AV.withins, Bool.and_eq_true] at h
    cases j with
    | zero => simp at hx; subst hx; exact h.1
    | succ j => simp at hx; exact withins_get d r h.2 j x hx

theorem VRel.within {g : Gh} {w : World} {dom dom' : Nat → Prop} {d : Nat → Bool} (hd : ∀ l, d l = true → dom' l) {ow : Option Owner} {v : Value} {x : AV} (r : VRel g w dom ow v x) (hx : x.within d = true) : VRel g w dom' ow v x := by
  induction r with
  | top => exact .top _ _
  | p _ _ _ h => exact .p _ _ _ h
  | c _ _ h1 => exact .c _ _ h1
  | nilS => exact .nilS _
  | es _ a cap sz hs => exact .es _ a cap sz hs
  | full _ a sz xs hz h => exact .full _ a sz xs hz h
  | own o a cap sz xs cs E hz h ho hp hb hs => exact .own o a cap sz xs cs E hz h ho hp hb hs
  | ptr _ l off h => exact .ptr _ l off (hd l (by simpa [AV.within] using hx))
  | vp _ a cs f hs hm hxx => exact .vp _ a cs f hs hm hxx
  | agg _ vs cs hl h1 _ ih => exact .agg _ vs cs hl h1 (fun j v c q1 q2 => ih j v c q1 q2 (withins_get d cs (by simpa [AV.within] using hx) j c q2))
  | tup _ vs cs hl _ ih => exact .tup _ vs cs hl (fun j v c q1 q2 => ih j v c q1 q2 (withins_get d cs (by simpa [AV.within] using hx) j c q2))
  | mp _ l h => exact .mp _ l (hd l (by simpa [AV.within] using hx))
  | ar _ l m h hn => exact .ar _ l m (hd l (by simpa [AV.within] using hx)) hn
  | ap _ l i h => exact .ap _ l i (hd l (by simpa [AV.within] using hx))
  | fn _ f fs cs first caps h1 h2 _ _ ih1 ih2 =>
    have hx : AV.withins d first = true ∧ AV.withins d caps = true := by simpa [AV.within] using hx
    exact .fn _ f fs cs first caps h1 h2 (fun j v c q1 q2 => ih1 j v c q1 q2 (withins_get d first hx.1 j c q2)) (fun j v c q1 q2 => ih2 j v c q1 q2 (withins_get d caps hx.2 j c q2))

def AObj.within (d : Nat → Bool) : AObj → Bool
  | .cells cs => AV.withins d cs
  | _ => true

def memB (l : List Nat) (i : Nat) : Bool := match l with
  | [] => false
  | x :: r => match Nat.beq x i with | true => true | false => memB r i

def withinObjs (d : Nat → Bool) : List AObj → Bool
  | [] => true
  | o :: r => o.within d && withinObjs d r

/-- the state at a loop's head: what the live slots and objects hold -/
def At (lv ll : List Nat) (J : List AV → List AObj → Prop) (e : Env) (h : Heap) : Prop :=
  ∃ objs, ll.map (hget h) = objs.map some ∧ AV.withins (memB ll) (lv.map (eget e)) = true ∧ withinObjs (memB ll) objs = true ∧ J (lv.map (eget e)) objs

theorem memB_mem : ∀ (l : List Nat) (i : Nat), memB l i = true → i ∈ l
  | [], i, h => by simp [memB] at h
  | x :: r, i, h => by
    simp only [memB] at h
    split at h
    · rename_i q; have := Nat.eq_of_beq_eq_true q; simp [this]
    · exact List.mem_cons_of_mem _ (memB_mem r i h)

theorem eget_zip : ∀ (lv : List Nat) (f : Nat → AV) (i : Nat), eget (lv.zip (lv.map f)) i = f i ∨ eget (lv.zip (lv.map f)) i = .top
  | [], f, i => .inr rfl
  | x :: r, f, i => by
    simp only [List.map_cons, List.zip_cons_cons]
    by_cases q : x = i
    · subst q; rw [eget_self]; exact .inl rfl
    · rw [eget_ne q]; exact eget_zip r f i
theorem eget_zip_mem : ∀ (lv : List Nat) (vals : List AV) (i : Nat), eget (lv.zip vals) i = .top ∨ ∃ j : Nat, vals[j]? = some (eget (lv.zip vals) i)
  | [], vals, i => .inl rfl
  | x :: r, [], i => .inl rfl
  | x :: r, v :: vals, i => by
    simp only [List.zip_cons_cons]
    by_cases q : x = i
    · subst q; rw [eget_self]; exact .inr ⟨0, rfl⟩
    · rw [eget_ne q]
      rcases eget_zip_mem r vals i with h | ⟨j, hj⟩
      · exact .inl h
      · exact .inr ⟨j + 1, by simpa using hj⟩
theorem hget_zip : ∀ (ll : List Nat) (h : Heap) (objs : List AObj), ll.map (hget h) = objs.map some → (∀ l o, hget (ll.zip objs) l = some o → hget h l = some o ∧ ∃ j : Nat, objs[j]? = some o) ∧ ∀ l, l ∈ ll → (hget (ll.zip objs) l).isSome = true
  | [], h, [], _ => ⟨fun l o q => by simp [hget] at q, fun l hl => by cases hl⟩
  | [], h, _ :: _, hh => by simp at hh
  | x :: r, h, [], hh => by simp at hh
  | x :: r, h, o :: objs, hh => by
    simp only [List.map_cons, List.cons.injEq] at hh
    obtain ⟨k1, k2⟩ := hget_zip r h objs hh.2
    simp only [List.zip_cons_cons]
    refine ⟨fun l o' q => ?_, fun l hl => ?_⟩
    · by_cases e1 : x = l
      · subst e1; rw [hget_self] at q; cases q; exact ⟨hh.1, 0, rfl⟩
      · rw [hget_ne e1] at q
        obtain ⟨q1, j, q2⟩ := k1 l o' q
        exact ⟨q1, j + 1, by simpa using q2⟩
    · by_cases e1 : x = l
      · subst e1; rw [hget_self]; rfl
      · rw [hget_ne e1]
        rcases List.mem_cons.1 hl with rfl | hl
        · exact absurd rfl e1
        · exact k2 l hl

theorem withinObjs_get (d : Nat → Bool) : ∀ (xs : List AObj), withinObjs d xs = true → ∀ (j : Nat) (x : AObj), xs[j]? = some x → x.within d = true
  | [], _, j, x, hx => by simp at hx
  | y :: r, h, j, x, hx => by
    simp only [withinObjs, Bool.and_eq_true] at h
    cases j with
    | zero => simp at hx; subst hx; exact h.1
    | succ j => simp at hx; exact withinObjs_get d r h.2 j x hx

section
variable {P : Program} {ty : Nat → Option TI} {n : Nat}

theorem Sim.mask {g : Gh} {w : World} {a : Act} {e : Env} {h : Heap} (s : Sim g w n a e h) {lv ll : List Nat} {objs : List AObj} (ho : ll.map (hget h) = objs.map some) (h1 : AV.withins (memB ll) (lv.map (eget e)) = true) (h2 : withinObjs (memB ll) objs = true) :
    Sim g w n a (lv.zip (lv.map (eget e))) (ll.zip objs) := by
  obtain ⟨k1, k2⟩ := hget_zip ll h objs ho
  have hd : ∀ l, memB ll l = true → domOf (ll.zip objs) l := fun l hl => k2 l (memB_mem ll l hl)
  refine ⟨s.defers, s.size, fun i => ?_, ⟨fun l o hl => ?_, fun l o hl => s.heap.own l o (k1 l o hl).1, fun l o hl => s.heap.pre l o (k1 l o hl).1⟩, s.bnd⟩
  · rcases eget_zip lv (eget e) i with q | q
    · rcases eget_zip_mem lv (lv.map (eget e)) i with q' | ⟨j, hj⟩
      · rw [q']; exact .top _ _
      · rw [q] at hj ⊢
        exact (s.env i).within hd (withins_get _ _ h1 j _ hj)
    · rw [q]; exact .top _ _
  · obtain ⟨q1, j, q2⟩ := k1 l o hl
    have hw := withinObjs_get _ _ h2 j o q2
    cases s.heap.obj l o q1 with
    | cells cs vs E hb hlen hx' h1' => exact .cells cs vs E hb hlen (fun j v c r1 r2 => (hx' j v c r1 r2).within hd (withins_get _ cs (by simpa [AObj.within] using hw) j c r2)) h1'
    | arr xs vs E hb hlen hx' h1' => exact .arr xs vs E hb hlen hx' h1'
    | map xs es clock hb hx' hc hu => exact .map xs es clock hb hx' hc hu

/-- THE RULE OF A LOOP: lv: the live slots; ll: the live objects; I m: what they hold, with the measure m -/
theorem loopM (hty : TyOK P ty) (hmix : P.follows .mixedOrders = true) {c : Code} (hok : codeOK n c = true) {K : Exit → Env → Heap → Prop} (lv ll : List Nat) (I : Nat → List AV → List AObj → Prop) {e : Env} {h : Heap} (m : Nat) (h0 : At lv ll (I m) e h)
    (round : ∀ m vals objs, I m vals objs → awp ty (pcall P) (lpOf P n) c (fun x e' h' => match x with | .normal => ∃ m', m' < m ∧ At lv ll (I m') e' h' | x => K x e' h') (lv.zip vals) (ll.zip objs)) : lpOf P n c K e h := by
  intro g0 w0 g w a s hE
  obtain ⟨objs, q1, q2, q3, q4⟩ := h0
  refine AWp.loop (K := K) (fun m e h => ∃ e0 h0, At lv ll (I m) e0 h0 ∧ (∀ g w a, Sim g w n a e h → ∃ objs, ll.map (hget h0) = objs.map some ∧ I m (lv.map (eget e0)) objs ∧ Sim g w n a (lv.zip (lv.map (eget e0))) (ll.zip objs))) (m := m) (e := e) (h := h)
    ⟨e, h, ⟨objs, q1, q2, q3, q4⟩, fun g w a s => ⟨objs, q1, q4, s.mask q1 q2 q3⟩⟩ ?_ g0 w0 g w a s hE
  rintro m e h ⟨e0, h0, hAt, hsim⟩ g0 w0 g w a s hE
  obtain ⟨objs, r1, r2, s'⟩ := hsim g w a s
  refine wp_mono (awp_sound hty hmix c _ _ _ hok (round m _ objs r2) g0 w0 g w a s' hE) ?_
  rintro ex a' w' ⟨g', e', h', hk', s'', hE'⟩
  refine ⟨g', e', h', ?_, s'', hE'⟩
  cases ex with
  | normal =>
    obtain ⟨m', hlt, hAt'⟩ := hk'
    refine ⟨m', hlt, e', h', hAt', fun g w a s => ?_⟩
    obtain ⟨objs', t1, t2, t3, t4⟩ := hAt'
    exact ⟨objs', t1, t4, s.mask t1 t2 t3⟩
  | _ => exact hk'

/-- a function's result -/
def resTup (ty : Nat → Option TI) (e : Env) : List ResultVar → List Nat → Option (List AV)
  | [], _ => some []
  | .tmp t :: r, ts => match resTup ty e r ts.tail with
    | some l => some ((match eget e t with
      | .nilS => .p (.sl (elemSz ty (headD ts)) [])
      | .so sz xs => .p (.sl sz xs)
      | v => v) :: l)
    | none => none
  | _, _ => none

def resOf (ty : Nat → Option TI) (rs : List ResultVar) (ts : List Nat) (e : Env) : Option AV := match rs with
  | [.tmp t] => match eget e t with
    | .nilS => match elemSz ty (headD ts) with
      | 0 => none
      | k + 1 => some (.so (k + 1) [])
    | v => some v
  | rs => match resTup ty e rs ts with | some l => some (.tup l) | none => none

def okRes : AV → Bool
  | .so _ _ => true
  | v => v.free

def RetOK (v r : AV) : Prop := v = r ∨ v.copy = r

/-- what must hold at a function's end -/
def retK (ty : Nat → Option TI) (rs : List ResultVar) (ts : List Nat) (r : AV) : Exit → Env → Heap → Prop := fun x e _ => match x with
  | .ret => (match resOf ty rs ts e with | some v => RetOK v r | none => False)
  | .normal => (match resOf ty rs ts e with | some v => RetOK v r | none => False)
  | _ => False

def argEnv : Nat → List AV → Env
  | _, [] => []
  | k, v :: r => (k, v) :: argEnv (k + 1) r

theorem VRel.fromNone {g : Gh} {w : World} {dom : Nat → Prop} {ow : Option Owner} {v : Value} {x : AV} (r : VRel g w dom none v x) : VRel g w dom ow v x := by
  cases x with
  | so sz xs => cases r with
    | full _ a _ _ hz h => exact .full _ a sz xs hz h
  | _ => exact r.anyOwner (fun _ _ q => by cases q)

theorem argEnv_get : ∀ (k : Nat) (args : List AV) (i : Nat), (i < k ∧ eget (argEnv k args) i = .top) ∨ (k ≤ i ∧ eget (argEnv k args) i = (args[i - k]?).getD .top)
  | k, [], i => by
    rcases Nat.lt_or_ge i k with h | h
    · exact .inl ⟨h, rfl⟩
    · exact .inr ⟨h, by simp [argEnv, eget]⟩
  | k, v :: r, i => by
    rw [argEnv]
    by_cases q : k = i
    · subst q; right; exact ⟨Nat.le_refl _, by rw [eget_self]; simp⟩
    · rw [eget_ne q]
      rcases argEnv_get (k + 1) r i with ⟨h1, h2⟩ | ⟨h1, h2⟩
      · exact .inl ⟨by omega, h2⟩
      · exact .inr ⟨by omega, by rw [h2, show i - k = (i - (k + 1)) + 1 by omega]; simp⟩

/-- one result variable's value -/
def resSem (tmps : Array Value) : ResultVar → Sem Value
  | .tmp t => pure (tmps.getD t undef)
  | .cell a t => do loadVar t (← asAddr (tmps.getD a undef))

theorem resTup_rel {g : Gh} {w : World} {a : Act} {e : Env} {h : Heap} (s : Sim g w n a e h) : ∀ (rs : List ResultVar) (ts : List Nat) (l : List AV), resTup ty e rs ts = some l →
    ∃ vs : List Value, (∀ w, (rs.mapM (resSem a.tmps)).run P w = .ok vs w) ∧ vs.length = l.length ∧ ∀ (j : Nat) (v : Value) (c : AV), vs[j]? = some v → l[j]? = some c → VRel g w (domOf h) none v c
  | [], ts, l, hl => by
    simp [resTup] at hl; subst hl
    exact ⟨[], fun w => by simp, rfl, by simp⟩
  | .tmp t :: r, ts, l, hl => by
    simp only [resTup] at hl
    split at hl
    · rename_i l1 hl1
      cases hl
      obtain ⟨vs, h1, h2, h3⟩ := resTup_rel s r ts.tail l1 hl1
      refine ⟨a.tmps.getD t undef :: vs, fun w => by simp only [List.mapM_cons, Sem.run_bind, resSem, Sem.run_pure, Result.andThen_ok, h1 w], by simp [h2], fun j v c hv hc => ?_⟩
      cases j with
      | zero =>
        simp only [List.getElem?_cons_zero, Option.some.injEq] at hv hc
        subst hv; subst hc
        have := s.env t
        split
        · rename_i hq
          rw [hq] at this
          generalize a.tmps.getD t undef = v at this
          cases this with
          | nilS => exact .p _ _ _ (.nil _)
        · rename_i sz xs hq; rw [hq] at this; exact this.copy
        · rename_i hq1 hq2; exact this.anyOwner (fun sz xs q => hq2 sz xs q)
      | succ j => simp only [List.getElem?_cons_succ] at hv hc; exact h3 j v c hv hc
    · cases hl
  | .cell b t :: r, ts, l, hl => by simp [resTup] at hl

theorem okRes_rel {g g1 : Gh} {w w1 : World} {h1 : Heap} {t : Nat} {v : Value} {r : AV} (hno : ∀ b, g.own b = none) (hE : Ext g w g1 w1) (hr : okRes r = true) (hv : VRel g1 w1 (domOf h1) (some (.slot t)) v r) :
    ∃ g', VRel g' w1 (fun _ => False) (some .ret) v r ∧ Ext g w g' w1 := by
  have ext : ∀ own' : Nat → Option Owner, (∀ b, b < w.heap.size → own' b = none) → Ext g w { g1 with own := own' } w1 := fun own' ho =>
    ⟨hE.size, hE.os, hE.out, hE.imm, fun b hb hn => ⟨(hE.kept b hb hn).1, (hE.kept b hb hn).2.1, ho b hb⟩, hE.frz, hE.frz'⟩
  cases r with
  | so sz xs =>
    cases hv with
    | full _ a _ _ hz hp => exact ⟨{ g1 with own := fun _ => none }, .full _ a sz xs hz hp, ext _ (fun _ _ => rfl)⟩
    | own _ a cap _ _ cs E hz hp ho hpre hb hs =>
      have hge : ¬ a.block < w.heap.size := fun hlt => by rw [(hE.kept _ hlt (hno _)).2.2] at ho; cases ho
      refine ⟨{ g1 with own := fun b => if b = a.block then some .ret else none }, .own .ret a cap sz xs cs E hz hp (by simp) hpre hb hs, ext _ (fun b hb => ?_)⟩
      have : b ≠ a.block := fun q => hge (by omega)
      simp [this]
  | _ => exact ⟨{ g1 with own := fun _ => none }, hv.toFree (by simpa [okRes] using hr) _ _, ext _ (fun _ _ => rfl)⟩

/-- THE RULE OF A FUNCTION -/
theorem APure.intro (hty : TyOK P ty) (hmix : P.follows .mixedOrders = true) {f : Nat} {fn : Func} {c : Code} {args : List AV} {r : AV} (hf : P.funcs[f]? = some fn) (hb : fn.body = some c) (hname : (fn.name == "runtime.NumGoroutine") = false)
    (hok : codeOK fn.ntmps c = true) (hlen : args.length ≤ fn.ntmps) (hr : okRes r = true)
    (hk : awp ty (pcall P) (lpOf P fn.ntmps) c (retK ty fn.results.toList fn.resultTypes.toList r) (argEnv 0 args) []) : APure P f args r := by
  refine ⟨⟨fn, c, hf, hb, hname⟩, fun g w vs hno hl hrel => ?_⟩
  have s0 : Sim g w fn.ntmps { tmps := vs.toArray ++ Array.replicate (fn.ntmps - vs.toArray.size) undef, defers := [] } (argEnv 0 args) [] := by
    refine ⟨rfl, by simp; omega, fun i => ?_, ⟨fun l o q => by simp [hget] at q, fun l o q => by simp [hget] at q, fun l o q => by simp [hget] at q⟩, fun b o q => by rw [hno b] at q; cases q⟩
    rcases argEnv_get 0 args i with ⟨h1, _⟩ | ⟨_, h2⟩
    · omega
    · rw [h2, Nat.sub_zero]
      by_cases hi : i < args.length
      · have hvi : vs[i]? = some vs[i] := List.getElem?_eq_getElem (by omega)
        have hai : args[i]? = some args[i] := List.getElem?_eq_getElem hi
        have hg : (vs.toArray ++ Array.replicate (fn.ntmps - vs.toArray.size) undef).getD i undef = vs[i] := by
          rw [Array.getD_eq_getD_getElem?, Array.getElem?_append_left (by simp; omega), List.getElem?_toArray, hvi]; rfl
        rw [hai, hg]
        exact ((hrel i _ _ hvi hai).domUp (fun _ q => q.elim)).fromNone
      · rw [List.getElem?_eq_none (by omega)]; exact .top _ _
  refine calls_of_wp hf hb (wp_mono (awp_sound hty hmix c _ _ _ hok hk g w g w _ s0 (Ext.refl _ _)) ?_)
  rintro ex a' w' ⟨g1, e1, h1, hk1, s1, hE1⟩
  have fin : (match resOf ty fn.results.toList fn.resultTypes.toList e1 with | some v => RetOK v r | none => False) → a'.defers = [] ∧ ∃ v, (results fn a'.tmps).run P w' = .ok v w' ∧ (∃ v1 g', Ending.returned v = .returned v1 ∧ VRel g' w' (fun _ => False) (some .ret) v1 r ∧ Ext g w g' w') := by
    intro hq
    refine ⟨s1.defers, ?_⟩
    have conc : ∀ (t : Nat) (v : Value) (x : AV), VRel g1 w' (domOf h1) (some (.slot t)) v x → RetOK x r → ∃ g', VRel g' w' (fun _ => False) (some .ret) v r ∧ Ext g w g' w' := by
      intro t v x hv hx
      rcases hx with rfl | rfl
      · exact okRes_rel hno hE1 hr hv
      · exact okRes_rel hno hE1 hr (t := t) hv.copy
    unfold resOf at hq
    split at hq
    · rename_i v hv
      split at hv
      · -- one result
        rename_i t hrs
        have hres : fn.results = #[.tmp t] := by apply Array.ext'; rw [hrs]
        have hrun : (results fn a'.tmps).run P w' = .ok (a'.tmps.getD t undef) w' := by simp [results, hres]
        have he := s1.env t
        refine ⟨_, hrun, ?_⟩
        split at hv
        · rename_i hn
          rw [hn] at he
          split at hv
          · cases hv
          · rename_i k hk
            cases hv
            generalize a'.tmps.getD t undef = u at he
            cases he with
            | nilS =>
              obtain ⟨g', q1, q2⟩ := conc t _ _ (VRel.full (some (.slot t)) none (k + 1) [] (by omega) (.nil _)) hq
              exact ⟨_, g', rfl, q1, q2⟩
        · cases hv
          obtain ⟨g', q1, q2⟩ := conc t _ _ he hq
          exact ⟨_, g', rfl, q1, q2⟩
      · rename_i hne
        split at hv
        · rename_i l hl
          cases hv
          obtain ⟨us, k1, k2, k3⟩ := resTup_rel (P := P) s1 _ _ _ hl
          have hlen1 : us.length ≠ 1 := by
            intro q
            have : l.length = fn.results.toList.length := by
              clear hq k1 k2 k3 hne
              generalize fn.resultTypes.toList = ts at hl
              generalize fn.results.toList = rs at hl
              induction rs generalizing ts l with
              | nil => simp [resTup] at hl; subst hl; rfl
              | cons x r ih =>
                cases x with
                | tmp t =>
                  simp only [resTup] at hl
                  split at hl
                  · rename_i l1 hl1; cases hl; simp [ih l1 _ hl1]
                  · cases hl
                | cell b t => simp [resTup] at hl
            have h1 : fn.results.toList.length = 1 := by omega
            match hrs : fn.results.toList, h1 with
            | [.tmp t], _ => exact hne t hrs
            | [.cell b t], _ => rw [hrs] at hl; simp [resTup] at hl
          have hrun : (results fn a'.tmps).run P w' = .ok (.tuple us.toArray) w' := by
            have e1 : results fn a'.tmps = (do let vs ← fn.results.mapM (resSem a'.tmps); pure (if h : vs.size = 1 then vs[0] else .tuple vs)) := by
              unfold results
              congr 2
            rw [e1, Sem.run_bind, Array.mapM_eq_mapM_toList, Sem.run_map, k1 w']
            simp [hlen1]
          obtain ⟨g', q1, q2⟩ := conc 0 _ _ (VRel.tup (some (.slot 0)) us l k2 k3) hq
          exact ⟨_, hrun, _, g', rfl, q1, q2⟩
        · cases hv
    · exact hq.elim
  cases ex with
  | normal => exact fin hk1
  | ret => exact fin hk1
  | _ => exact hk1.elim

end
end Go.AM
