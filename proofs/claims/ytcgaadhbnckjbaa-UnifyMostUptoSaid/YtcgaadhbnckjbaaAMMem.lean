/-
  DERIVED. Part of an abstract machine over plain values, sound against the model. No conditions.
-/
import Derived.Test.YtcgaadhbnckjbaaAMCall
namespace Go.AM
section
variable {P : Program} {ty : Nat → Option TI} {n : Nat} {o : Oper} {e : Env} {h : Heap} {K : AK}

/-! the names of objects, turned -/
mutual
def AV.ren (σ : Nat → Nat) : AV → AV
  | .agg cs => .agg (AV.rens σ cs)
  | .tup cs => .tup (AV.rens σ cs)
  | .fn f a b => .fn f (AV.rens σ a) (AV.rens σ b)
  | .ptr l off => .ptr (σ l) off
  | .mp l => .mp (σ l)
  | .ar l => .ar (σ l)
  | .ap l i => .ap (σ l) i
  | .al st l sz m => .al st (σ l) sz m
  | .ep l sz i k => .ep (σ l) sz i k
  | .tl l sz i k => .tl (σ l) sz i k
  | v => v
def AV.rens (σ : Nat → Nat) : List AV → List AV
  | [] => []
  | v :: r => AV.ren σ v :: AV.rens σ r
end

theorem rens_get (σ : Nat → Nat) : ∀ (xs : List AV) (j : Nat), (AV.rens σ xs)[j]? = (xs[j]?).map (AV.ren σ)
  | [], j => by simp [AV.rens]
  | x :: r, 0 => by simp [AV.rens]
  | x :: r, j + 1 => by simp [AV.rens, rens_get σ r j]
theorem rens_length (σ : Nat → Nat) (xs : List AV) : (AV.rens σ xs).length = xs.length := by
  induction xs with
  | nil => rfl
  | cons x r ih => simp [AV.rens, ih]

def AObj.ren (σ : Nat → Nat) : AObj → AObj
  | .cells cs => .cells (AV.rens σ cs)
  | x => x

theorem AObj.solid_ren (σ : Nat → Nat) (x : AObj) : (x.ren σ).solid = x.solid := by cases x <;> rfl

theorem VRel.ren {g g2 : Gh} {w : World} {dom dom2 : Nat → Prop} (σ : Nat → Nat) (d : Nat → Bool) (hi : ∀ b o v, imm g w b o = some v → imm g2 w b o = some v)
    (hd : ∀ l, dom l → d l = true → dom2 (σ l) ∧ g2.ρ (σ l) = g.ρ l) {ow ow2 : Option Owner} (ho : ∀ o b, ow = some o → g.own b = some o → ∃ o2, ow2 = some o2 ∧ g2.own b = some o2 ∧ g2.pre b = g.pre b)
    {v : Value} {x : AV} (r : VRel g w dom ow v x) (hx : x.within d = true) : VRel g2 w dom2 ow2 v (x.ren σ) := by
  induction r generalizing ow2 with
  | top ow v => exact .top _ _
  | p ow v x h => exact .p _ _ _ (h.mono hi)
  | c ow v h1 => exact .c _ _ h1
  | nilS ow => exact .nilS _
  | es ow a cap sz hs => exact .es _ a cap sz hs
  | full ow a sz xs hz h => exact .full _ a sz xs hz (h.mono hi)
  | own o a cap sz xs cs E hz h hw hp hb hs =>
    obtain ⟨o2, rfl, h2, h3⟩ := ho o a.block rfl hw
    exact .own o2 a cap sz xs cs E hz (h.mono hi) h2 (h3.trans hp) hb hs
  | ptr ow l off h =>
    obtain ⟨h1, h2⟩ := hd l h (by simpa [AV.within] using hx)
    rw [← h2]; exact .ptr _ _ off h1
  | vp ow a cs f hs hm hxx => exact .vp _ a cs f hs (fun i y h => ⟨hi _ _ _ (hm i y h).1, (hm i y h).2⟩) (fun i y h => (hxx i y h).mono hi)
  | agg ow vs cs hl h1 _ ih =>
    refine .agg _ vs _ (by rw [rens_length]; exact hl) h1 (fun j v c q1 q2 => ?_)
    rw [rens_get] at q2
    cases hq : cs[j]? with
    | none => simp [hq] at q2
    | some c0 =>
      simp only [hq, Option.map_some, Option.some.injEq] at q2
      subst q2
      exact ih j v c0 q1 hq (fun _ _ h => by cases h) (withins_get d cs (by simpa [AV.within] using hx) j c0 hq)
  | tup ow vs cs hl _ ih =>
    refine .tup _ vs _ (by rw [rens_length]; exact hl) (fun j v c q1 q2 => ?_)
    rw [rens_get] at q2
    cases hq : cs[j]? with
    | none => simp [hq] at q2
    | some c0 =>
      simp only [hq, Option.map_some, Option.some.injEq] at q2
      subst q2
      exact ih j v c0 q1 hq (fun _ _ h => by cases h) (withins_get d cs (by simpa [AV.within] using hx) j c0 hq)
  | mp ow l h => obtain ⟨h1, h2⟩ := hd l h (by simpa [AV.within] using hx); rw [← h2]; exact .mp _ _ h1
  | ar ow l m h hn =>
    obtain ⟨h1, h2⟩ := hd l h (by simpa [AV.within] using hx)
    rw [← h2] at hn ⊢
    exact .ar _ _ m h1 hn
  | ap ow l i h => obtain ⟨h1, h2⟩ := hd l h (by simpa [AV.within] using hx); rw [← h2]; exact .ap _ _ i h1
  | ifc ow b v h => exact .ifc _ b v h
  | al0 ow l sz h => exact .al0 _ _ sz (hd l h (by simpa [AV.within] using hx)).1
  | al ow st l sz m cap h h0 hc hn =>
    obtain ⟨h1, h2⟩ := hd l h (by simpa [AV.within] using hx)
    rw [← h2] at hn ⊢
    exact .al _ _ _ sz m cap h1 h0 hc hn
  | ep ow l sz i c h => obtain ⟨h1, h2⟩ := hd l h (by simpa [AV.within] using hx); rw [← h2]; exact .ep _ _ sz i c h1
  | tl ow a l sz i m cap h ha hn =>
    obtain ⟨h1, h2⟩ := hd l h (by simpa [AV.within] using hx)
    rw [← h2] at hn ha
    exact .tl _ a _ sz i m cap h1 ha hn
  | fn ow f fs cs first caps h1 h2 _ _ ih1 ih2 =>
    have hx : AV.withins d first = true ∧ AV.withins d caps = true := by simpa [AV.within] using hx
    refine .fn _ f fs cs _ _ (by rw [rens_length]; exact h1) (by rw [rens_length]; exact h2) (fun j v c q1 q2 => ?_) (fun j v c q1 q2 => ?_)
    · rw [rens_get] at q2
      cases hq : first[j]? with
      | none => simp [hq] at q2
      | some c0 =>
        simp only [hq, Option.map_some, Option.some.injEq] at q2
        subst q2
        exact ih1 j v c0 q1 hq (fun _ _ h => by cases h) (withins_get d first hx.1 j c0 hq)
    · rw [rens_get] at q2
      cases hq : caps[j]? with
      | none => simp [hq] at q2
      | some c0 =>
        simp only [hq, Option.map_some, Option.some.injEq] at q2
        subst q2
        exact ih2 j v c0 q1 hq (fun _ _ h => by cases h) (withins_get d caps hx.2 j c0 hq)

mutual
theorem within_all (d : Nat → Bool) (hd : ∀ l, d l = true) : ∀ (x : AV), x.within d = true
  | .agg cs => by simp only [AV.within]; exact withins_all d hd cs
  | .tup cs => by simp only [AV.within]; exact withins_all d hd cs
  | .fn f a b => by simp only [AV.within, Bool.and_eq_true]; exact ⟨withins_all d hd a, withins_all d hd b⟩
  | .ptr l off => by simp [AV.within, hd]
  | .mp l => by simp [AV.within, hd]
  | .ar l => by simp [AV.within, hd]
  | .ap l i => by simp [AV.within, hd]
  | .al _ l _ _ => by simp [AV.within, hd]
  | .ep l _ _ _ => by simp [AV.within, hd]
  | .tl l _ _ _ => by simp [AV.within, hd]
  | .ifc _ => rfl
  | .top => rfl
  | .p _ => rfl
  | .c _ => rfl
  | .nilS => rfl
  | .es _ => rfl
  | .so _ _ => rfl
  | .vp _ => rfl
theorem withins_all (d : Nat → Bool) (hd : ∀ l, d l = true) : ∀ (xs : List AV), AV.withins d xs = true
  | [] => rfl
  | x :: r => by simp only [AV.withins, Bool.and_eq_true]; exact ⟨within_all d hd x, withins_all d hd r⟩
end

/-- the k-th of R gets the name bigId + k -/
def toBig : List Nat → Nat → Nat → Nat
  | [], _, l => l
  | x :: r, k, l => match Nat.beq x l with | true => bigId + k | false => toBig r (k + 1) l
/-- and back; a new object gets a name from B on -/
def ofBig (R : List Nat) (B : Nat) (l : Nat) : Nat := match Nat.ble bigId l with | true => R.getD (l - bigId) 0 | false => B + l

def subH (h : Heap) (σ : Nat → Nat) (d : Nat → Bool) : List Nat → Nat → Option Heap
  | [], _ => some []
  | x :: r, k => match hget h x with
    | some ob => match ob.within d, subH h σ d r (k + 1) with
      | true, some hh => some ((bigId + k, ob.ren σ) :: hh)
      | _, _ => none
    | none => none

def nodupB : List Nat → Bool
  | [] => true
  | x :: r => !(memB r x) && nodupB r

def keysOf : Heap → List Nat
  | [] => []
  | (l, _) :: r => l :: keysOf r

def newCk (h : Heap) (B m : Nat) : List Nat → Bool
  | [] => true
  | l :: r => (match Nat.ble bigId l with | true => Nat.blt (l - bigId) m | false => freshId h (B + l)) && newCk h B m r

def allKeys (ks : List Nat) : Nat → Bool
  | 0 => true
  | k + 1 => memB ks (bigId + k) && allKeys ks k

def backH (R : List Nat) (B : Nat) : Heap → Heap
  | [] => []
  | (l, x) :: r => (ofBig R B l, x.ren (ofBig R B)) :: backH R B r

/-- the package variables' blocks that are told at the end were told at the start -/
def globB (hs : Heap) : Heap → Bool
  | [] => true
  | (l, ob) :: r => (match ob with
    | .glob b _ => (match hget hs l with | some (.glob b' _) => Nat.beq b b' | _ => false)
    | _ => true) && globB hs r
theorem globB_get {hs : Heap} : ∀ {h' : Heap}, globB hs h' = true → ∀ {l b : Nat} {vs : List Value}, hget h' l = some (.glob b vs) → ∃ vs', hget hs l = some (.glob b vs')
  | [], _, l, b, vs, hl => by simp [hget] at hl
  | (k, ob) :: r, hg, l, b, vs, hl => by
    simp only [globB, Bool.and_eq_true] at hg
    by_cases e1 : k = l
    · subst e1
      rw [hget_self] at hl; cases hl
      have h1 := hg.1
      simp only at h1
      split at h1
      · rename_i b' vs' hq
        have := Nat.eq_of_beq_eq_true h1
        subst this
        exact ⟨vs', hq⟩
      · cases h1
    · rw [hget_ne e1] at hl
      exact globB_get hg.2 hl
/-- 'called with these values and objects, the function returns this value, and the objects are these; of all else that was there nothing turns' -/
def AMem (P : Program) (f : Nat) (args : List AV) (hs : Heap) (r : AV) (h' : Heap) : Prop :=
  (hasBody P f ∧ globB hs h' = true) ∧ ∀ (g : Gh) (w : World) (vs : List Value), HRel g w hs → (∀ b ow, g.own b = some ow → b < w.heap.size) → vs.length = args.length → (∀ (j : Nat) (v : Value) (x : AV), vs[j]? = some v → args[j]? = some x → VRel g w (domOf hs) none v x) →
    Calls P f vs.toArray w fun en w' => ∃ v g', en = .returned v ∧ VRel g' w' (domOf h') (some .ret) v r ∧ HRel g' w' h' ∧ (∀ b ow, g'.own b = some ow → b < w'.heap.size) ∧ Ext g w g' w'

/-- a value lent: what can be read behind it, as it is now -/
def borPV (R : List Nat) (h : Heap) : AV → Option PV
  | .p x => some x
  | .so sz xs => some (.sl sz xs)
  | .es sz => some (.sl sz [])
  | .ar l => match memB R l, hget h l with | true, some (.arr xs) => some (.sl 1 xs) | _, _ => none
  | .al _ l sz _ => match memB R l, hget h l with | true, some (.gr _ sz' xs) => (match Nat.beq sz sz' with | true => some (.sl sz xs) | false => none) | _, _ => none
  | _ => none
def borCells (R : List Nat) (h : Heap) : List AV → Option (List PV)
  | [] => some []
  | v :: r => match borPV R h v, borCells R h r with | some x, some l => some (x :: l) | _, _ => none
def AV.ifFree (v : AV) : Option AV := match v.free with | true => some v | false => none
mutual
def AV.bor (R : List Nat) (h : Heap) : AV → Option AV
  | .ptr l off => match memB R l, hget h l with
    | true, some (.cells cs) => match borCells R h cs with | some ps => some (.vp (ps.drop off)) | none => none
    | _, _ => none
  | .ar l => match memB R l, hget h l with | true, some (.arr xs) => some (.p (.sl 1 xs)) | _, _ => none
  | .al _ l sz _ => match memB R l, hget h l with | true, some (.gr _ sz' xs) => (match Nat.beq sz sz' with | true => some (.p (.sl sz xs)) | false => none) | _, _ => none
  | .fn f a b => match AV.bors R h a, AV.bors R h b with | some a', some b' => some (.fn f a' b') | _, _ => none
  | .tup cs => match AV.bors R h cs with | some l => some (.tup l) | none => none
  | .agg cs => match borCells R h cs with | some l => some (.p (.agg l)) | none => (AV.agg cs).ifFree
  | v => v.ifFree
def AV.bors (R : List Nat) (h : Heap) : List AV → Option (List AV)
  | [] => some []
  | v :: r => match AV.bor R h v, AV.bors R h r with | some x, some l => some (x :: l) | _, _ => none
end

/-- the lengths that must agree -/
def borEqP (R : List Nat) (h : Heap) : AV → List (Nat × Nat)
  | .al _ l _ m => match memB R l, hget h l with | true, some (.gr _ _ xs) => [(m, xs.length)] | _, _ => []
  | _ => []
def borEqC (R : List Nat) (h : Heap) : List AV → List (Nat × Nat)
  | [] => []
  | v :: r => borEqP R h v ++ borEqC R h r
mutual
def AV.borEq (R : List Nat) (h : Heap) : AV → List (Nat × Nat)
  | .ptr l _ => match memB R l, hget h l with
    | true, some (.cells cs) => borEqC R h cs
    | _, _ => []
  | .al st l sz m => borEqP R h (.al st l sz m)
  | .fn _ a b => AV.borEqs R h a ++ AV.borEqs R h b
  | .tup cs => AV.borEqs R h cs
  | .agg cs => borEqC R h cs
  | _ => []
def AV.borEqs (R : List Nat) (h : Heap) : List AV → List (Nat × Nat)
  | [] => []
  | v :: r => AV.borEq R h v ++ AV.borEqs R h r
end
def eqsOK : List (Nat × Nat) → Prop
  | [] => True
  | (a, b) :: r => a = b ∧ eqsOK r
theorem eqsOK_app : ∀ {a b : List (Nat × Nat)}, eqsOK (a ++ b) ↔ eqsOK a ∧ eqsOK b
  | [], b => by simp [eqsOK]
  | (x, y) :: r, b => by simp [eqsOK, eqsOK_app (a := r) (b := b), and_assoc]
theorem eqsOK_C {R : List Nat} {h : Heap} : ∀ {cs : List AV}, eqsOK (borEqC R h cs) → ∀ (j : Nat) (c : AV), cs[j]? = some c → eqsOK (borEqP R h c)
  | [], _, j, c, hc => by simp at hc
  | v :: r, hh, 0, c, hc => by simp at hc; subst hc; exact (eqsOK_app.1 hh).1
  | v :: r, hh, j + 1, c, hc => eqsOK_C (eqsOK_app.1 hh).2 j c (by simpa using hc)
theorem eqsOK_V {R : List Nat} {h : Heap} : ∀ {cs : List AV}, eqsOK (AV.borEqs R h cs) → ∀ (j : Nat) (c : AV), cs[j]? = some c → eqsOK (AV.borEq R h c)
  | [], _, j, c, hc => by simp at hc
  | v :: r, hh, 0, c, hc => by simp at hc; subst hc; rw [AV.borEqs] at hh; exact (eqsOK_app.1 hh).1
  | v :: r, hh, j + 1, c, hc => by rw [AV.borEqs] at hh; exact eqsOK_V (eqsOK_app.1 hh).2 j c (by simpa using hc)

/-- a value without memory -/
def flatP : PV → Bool
  | .b _ => true
  | .i _ _ => true
  | .s _ => true
  | _ => false
def flatV : AV → Bool
  | .p x => flatP x
  | .tup vs => vs.all fun v => match v with | .p x => flatP x | _ => false
  | _ => false

/-- objects that are as they were -/
def roOK (R : List Nat) (h : Heap) : Heap → Prop
  | [] => True
  | (l, x) :: r => memB R l = true ∧ hget h l = some x ∧ roOK R h r
theorem roOK_mem {R : List Nat} {h : Heap} : ∀ {L : Heap}, roOK R h L → ∀ p ∈ L, memB R p.1 = true ∧ hget h p.1 = some p.2
  | [], _, p, hp => by cases hp
  | (l, x) :: r, hh, p, hp => by
    rcases List.mem_cons.1 hp with rfl | hp
    · exact ⟨hh.1, hh.2.1⟩
    · exact roOK_mem hh.2.2 p hp
/-- the call, as the machine has it -/
inductive pcall (P : Program) (f : Nat) (args : List AV) (h : Heap) (K : List Nat → Heap → AV → Prop) : Prop
  | pure (r : AV) (hf : AV.frees args = true) (s : APure P f args r) (hk : K [] [] r)
  | bor (R : List Nat) (bargs : List AV) (r : AV) (hb : AV.bors R h args = some bargs) (s : APure P f bargs r) (hf : flatV r = true) (hk : K R [] r) (hq : eqsOK (AV.borEqs R h args))
  | mem (R : List Nat) (B : Nat) (hs : Heap) (r : AV) (h' : Heap) (h1 : (AV.withins (memB R) args && nodupB R) = true) (h2 : subH h (toBig R 0) (memB R) R 0 = some hs) (s : AMem P f (AV.rens (toBig R 0) args) hs r h')
    (h3 : (nodupB (keysOf h') && newCk h B R.length (keysOf h') && allKeys (keysOf h') R.length) = true) (hk : K R (backH R B h') (r.ren (ofBig R B)))
  | ro (R : List Nat) (B : Nat) (hs : Heap) (r : AV) (h' : Heap) (h1 : (AV.withins (memB R) args && nodupB R) = true) (h2 : subH h (toBig R 0) (memB R) R 0 = some hs) (s : AMem P f (AV.rens (toBig R 0) args) hs r h')
    (h3 : (nodupB (keysOf h') && newCk h B R.length (keysOf h') && allKeys (keysOf h') R.length) = true) (hro : roOK R h (backH R B h')) (hk : K R [] (r.ren (ofBig R B)))

end
end Go.AM
