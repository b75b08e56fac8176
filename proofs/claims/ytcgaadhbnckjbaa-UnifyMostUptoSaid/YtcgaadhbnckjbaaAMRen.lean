/-
  DERIVED. Part of an abstract machine over plain values, sound against the model. No conditions.
-/
import Derived.Test.YtcgaadhbnckjbaaAMStr
namespace Go.AM
/-! loops that give an object another name -/
def sw (x y l : Nat) : Nat := match Nat.beq l x with | true => y | false => match Nat.beq l y with | true => x | false => l
theorem sw_x (x y : Nat) : sw x y x = y := by simp [sw]
theorem sw_y (x y : Nat) : sw x y y = x := by
  by_cases h : y = x
  · subst h; simp [sw]
  · have : Nat.beq y x = false := by cases hq : Nat.beq y x with | false => rfl | true => exact absurd (Nat.eq_of_beq_eq_true hq) h
    simp [sw, this]
theorem sw_o {x y l : Nat} (h1 : l ≠ x) (h2 : l ≠ y) : sw x y l = l := by
  have e1 : Nat.beq l x = false := by cases hq : Nat.beq l x with | false => rfl | true => exact absurd (Nat.eq_of_beq_eq_true hq) h1
  have e2 : Nat.beq l y = false := by cases hq : Nat.beq l y with | false => rfl | true => exact absurd (Nat.eq_of_beq_eq_true hq) h2
  simp [sw, e1, e2]
theorem sw_sw (x y l : Nat) : sw x y (sw x y l) = l := by
  by_cases h1 : l = x
  · subst h1; rw [sw_x, sw_y]
  · by_cases h2 : l = y
    · subst h2; rw [sw_y, sw_x]
    · rw [sw_o h1 h2, sw_o h1 h2]
def Owner.ren (σ : Nat → Nat) : Owner → Owner
  | .obj l => .obj (σ l)
  | .cell l j => .cell (σ l) j
  | o => o
def Gh.sw (g : Gh) (x y : Nat) : Gh := ⟨g.pre, fun b => (g.own b).map (Owner.ren (AM.sw x y)), fun l => g.ρ (AM.sw x y l)⟩
mutual
theorem within_ren (σ : Nat → Nat) (d : Nat → Bool) : ∀ (x : AV), (x.ren σ).within d = x.within (fun l => d (σ l))
  | .agg cs => by simp only [AV.ren, AV.within]; exact withins_ren σ d cs
  | .tup cs => by simp only [AV.ren, AV.within]; exact withins_ren σ d cs
  | .fn f a b => by simp only [AV.ren, AV.within, withins_ren σ d a, withins_ren σ d b]
  | .ptr l off => by simp [AV.ren, AV.within]
  | .mp l => by simp [AV.ren, AV.within]
  | .ar l => by simp [AV.ren, AV.within]
  | .ap l i => by simp [AV.ren, AV.within]
  | .al _ l _ _ => by simp [AV.ren, AV.within]
  | .ep l _ _ _ => by simp [AV.ren, AV.within]
  | .tl l _ _ _ => by simp [AV.ren, AV.within]
  | .ifc _ => rfl
  | .top => rfl
  | .p _ => rfl
  | .c _ => rfl
  | .nilS => rfl
  | .es _ => rfl
  | .so _ _ => rfl
  | .vp _ => rfl
theorem withins_ren (σ : Nat → Nat) (d : Nat → Bool) : ∀ (xs : List AV), AV.withins d (AV.rens σ xs) = AV.withins (fun l => d (σ l)) xs
  | [] => rfl
  | x :: r => by simp only [AV.rens, AV.withins, within_ren σ d x, withins_ren σ d r]
end
theorem hget_zipF : ∀ (ll : List Nat) (f : Nat → Option AObj) (objs : List AObj), ll.map f = objs.map some → (∀ l o, hget (ll.zip objs) l = some o → f l = some o ∧ ∃ j : Nat, objs[j]? = some o) ∧ ∀ l, l ∈ ll → (hget (ll.zip objs) l).isSome = true
  | [], h, [], _ => ⟨fun l o q => by simp [hget] at q, fun l hl => by cases hl⟩
  | [], h, _ :: _, hh => by simp at hh
  | x :: r, h, [], hh => by simp at hh
  | x :: r, h, o :: objs, hh => by
    simp only [List.map_cons, List.cons.injEq] at hh
    obtain ⟨k1, k2⟩ := hget_zipF r h objs hh.2
    simp only [List.zip_cons_cons]
    refine ⟨fun l o' q => ?_, fun l hl => ?_⟩
    · by_cases e1 : x = l
      · subst e1; rw [hget_self] at q; cases q; exact ⟨hh.1, 0, rfl⟩
      · rw [hget_ne e1] at q
        obtain ⟨q1, j, q2⟩ := k1 l o' q
        exact ⟨q1, j + 1, by simpa using q2⟩
    · by_cases e1 : x = l
      · subst e1; rw [hget_self]; rfl
      · rw [hget_ne e1]
        rcases List.mem_cons.1 hl with rfl | hl
        · exact absurd rfl e1
        · exact k2 l hl
def renO (σ : Nat → Nat) : Option AObj → Option AObj
  | some o => some (o.ren σ)
  | none => none
/-- the state at a loop's head, told with the names x and y exchanged -/
def AtvR (x y : Nat) (lv ll : List Nat) (vals : List AV) (objs : List AObj) (e : Env) (h : Heap) : Prop :=
  ll.map (fun l => renO (sw x y) (hget h (sw x y l))) = objs.map some ∧ lv.map (fun i => (eget e i).ren (sw x y)) = vals ∧ AV.withins (memB ll) vals = true ∧ withinObjs (memB ll) objs = true ∧ (Nat.blt x bigId && Nat.blt y bigId) = true
theorem Sim.swap {g : Gh} {w : World} {n : Nat} {a : Act} {e : Env} {h : Heap} (s : Sim g w n a e h) {x y : Nat} {lv ll : List Nat} {vals : List AV} {objs : List AObj} (ht : AtvR x y lv ll vals objs e h) :
    Sim (g.sw x y) w n a (lv.zip vals) (ll.zip objs) ∧ Ext g w (g.sw x y) w := by
  obtain ⟨ho, hv, h1, h2, hb⟩ := ht
  subst hv
  simp only [Bool.and_eq_true] at hb
  have hx : x < bigId := by have := hb.1; simp [Nat.blt] at this; omega
  have hy : y < bigId := by have := hb.2; simp [Nat.blt] at this; omega
  obtain ⟨k1, k2⟩ := hget_zipF ll (fun l => renO (sw x y) (hget h (sw x y l))) objs ho
  have hd : ∀ l, memB ll l = true → domOf (ll.zip objs) l := fun l hl => k2 l (memB_mem ll l hl)
  have turn : ∀ {ow ow2 : Option Owner} {v : Value} {z : AV}, (∀ o, ow = some o → ow2 = some (o.ren (sw x y))) → VRel g w (domOf h) ow v z → (z.ren (sw x y)).within (memB ll) = true → VRel (g.sw x y) w (domOf (ll.zip objs)) ow2 v (z.ren (sw x y)) := by
    intro ow ow2 v z how r hz
    rw [within_ren] at hz
    refine VRel.ren (g := g) (g2 := g.sw x y) (sw x y) (fun l => memB ll (sw x y l)) (fun _ _ _ q => q) (fun l _ hl => ⟨hd _ hl, ?_⟩) (fun o b e1 e2 => ⟨_, how o e1, ?_, rfl⟩) r hz
    · show g.ρ (sw x y (sw x y l)) = g.ρ l
      rw [sw_sw]
    · show (g.own b).map _ = _
      rw [e2]; rfl
  refine ⟨⟨s.defers, s.size, fun i => ?_, ⟨fun l o hl => ?_, fun l o hl hsl => ?_, fun l o hl hsl => ?_⟩, fun b o hbo => ?_⟩, ?_⟩
  · rcases eget_zip lv (fun i => (eget e i).ren (sw x y)) i with q | q
    · rcases eget_zip_mem lv (lv.map (fun i => (eget e i).ren (sw x y))) i with q' | ⟨j, hj⟩
      · rw [q']; exact .top _ _
      · rw [q] at hj ⊢
        exact turn (fun o ho => by cases ho; rfl) (s.env i) (withins_get _ _ h1 j _ hj)
    · rw [q]; exact .top _ _
  · obtain ⟨q1, j, q2⟩ := k1 l o hl
    have hw := withinObjs_get _ _ h2 j o q2
    cases hg : hget h (sw x y l) with
    | none => simp [hg, renO] at q1
    | some ob =>
      simp only [hg, renO, Option.some.injEq] at q1
      subst q1
      cases s.heap.obj _ ob hg with
      | cells cs vs E hb hlen hx' h1' =>
        refine .cells _ vs E hb (by rw [rens_length]; exact hlen) (fun j v c r1 r2 => ?_) h1'
        rw [rens_get] at r2
        cases hq : cs[j]? with
        | none => simp [hq] at r2
        | some c0 =>
          simp only [hq, Option.map_some, Option.some.injEq] at r2
          subst r2
          refine turn (fun o ho => by cases ho; simp [Owner.ren, sw_sw]) (hx' j v c0 r1 hq) (withins_get _ _ (show AV.withins (memB ll) (AV.rens (sw x y) cs) = true from hw) j _ (by rw [rens_get, hq]; rfl))
      | arr xs vs E hb hlen hx' h1' => exact .arr xs vs E hb hlen hx' h1'
      | map kd xs es clock hb hx' hc => exact .map kd xs es clock hb hx' hc
      | gr st sz xs hgr => exact .gr st sz xs fun q => (hgr q).mono (fun _ _ _ hv => hv) (fun _ _ hv => hv)
      | dead => exact .dead
      | bld T E2 bs2 hbl => exact ORel.bldM hbl rfl rfl (fun bb hb2 => ⟨by show (g.own bb).map _ = _; rw [hb2]; simp [Owner.ren, sw_sw], rfl, rfl⟩)
      | glob gb gvs hgl => exact ORel.globM hgl (fun h1 _ _ => ⟨rfl, by show (g.own gb).map _ = none; rw [h1]; rfl⟩)
  · obtain ⟨q1, j, q2⟩ := k1 l o hl
    cases hg : hget h (sw x y l) with
    | none => simp [hg, renO] at q1
    | some ob =>
      simp only [hg, renO, Option.some.injEq] at q1
      subst q1
      show (g.own (g.ρ (sw x y l))).map _ = _
      rw [s.heap.own _ ob hg (by rw [AObj.solid_ren] at hsl; exact hsl)]
      simp [Owner.ren, sw_sw]
  · obtain ⟨q1, j, q2⟩ := k1 l o hl
    cases hg : hget h (sw x y l) with
    | none => simp [hg, renO] at q1
    | some ob =>
      simp only [hg, renO, Option.some.injEq] at q1
      subst q1
      exact s.heap.pre _ ob hg (by rw [AObj.solid_ren] at hsl; exact hsl)
  · have hbo : (g.own b).map (Owner.ren (sw x y)) = some o := hbo
    cases hq : g.own b with
    | none => simp [hq] at hbo
    | some o' => exact s.bnd b o' hq
  · refine ⟨Nat.le_refl _, rfl, rfl, fun _ _ _ q => q, fun b _ hn => ⟨rfl, rfl, ?_⟩, trivial, fun _ _ => rfl, fun l hl => ?_, fun b cs E hb => ⟨cs, E, hb, rfl⟩⟩
    · show (g.own b).map _ = none
      rw [hn]; rfl
    · show g.ρ (sw x y l) = g.ρ l
      rw [sw_o (by omega) (by omega)]
/-- loopS, with two names of objects exchanged at the end of a round -/
theorem loopR {P : Program} {ty : Nat → Option TI} {nt : Nat} (hty : TyOK P ty) (hmix : P.follows .mixedOrders = true) {c : Code} (hok : codeOK nt c = true) {K : Exit → Env → Heap → Prop} {σ : Type} (x y n : Nat) (lv ll : List Nat) (V : Nat → σ → List AV) (O : Nat → σ → List AObj) (Q : Nat → σ → Prop)
    {e : Env} {h : Heap} (s0 : σ) (h0 : Atv lv ll (V 0 s0) (O 0 s0) e h) (hQ : Q 0 s0)
    (round : ∀ k s, k ≤ n → Q k s → awp ty (pcall P) (lpOf P nt) c (fun ex e' h' => match ex with | .normal => k < n ∧ ∃ s', AtvR x y lv ll (V (k + 1) s') (O (k + 1) s') e' h' ∧ Q (k + 1) s' | ex => K ex e' h') (lv.zip (V k s)) (ll.zip (O k s))) : lpOf P nt c K e h := by
  have mask : ∀ {k s e h}, Atv lv ll (V k s) (O k s) e h → ∀ g w a, Sim g w nt a e h → ∃ g2, Sim g2 w nt a (lv.zip (V k s)) (ll.zip (O k s)) ∧ Ext g w g2 w := by
    intro k s e h ha g w a hs
    have := hs.mask (lv := lv) (ll := ll) ha.1 (by rw [ha.2.1]; exact ha.2.2.1) ha.2.2.2
    rw [ha.2.1] at this; exact ⟨g, this, Ext.refl g w⟩
  refine AWp.loop (K := K) (fun m e h => ∃ k s, m + k = n ∧ Q k s ∧ ∀ g w a, Sim g w nt a e h → ∃ g2, Sim g2 w nt a (lv.zip (V k s)) (ll.zip (O k s)) ∧ Ext g w g2 w) (m := n) ⟨0, s0, rfl, hQ, mask h0⟩ ?_
  rintro m e h ⟨k, s, hk, hq, hsim⟩ g0 w0 g w a hs hE
  obtain ⟨g2, hs2, hE2⟩ := hsim g w a hs
  refine wp_mono (awp_sound hty hmix c _ _ _ hok (round k s (by omega) hq) g0 w0 g2 w a hs2 (hE.trans hE2)) ?_
  rintro ex a' w' ⟨g', e', h', hk', s'', hE'⟩
  refine ⟨g', e', h', ?_, s'', hE'⟩
  cases ex with
  | normal =>
    obtain ⟨hlt, s', ha, hq'⟩ := hk'
    exact ⟨m - 1, by omega, k + 1, s', by omega, hq', fun g w a hs => ⟨_, hs.swap ha⟩⟩
  | _ => exact hk'
end Go.AM
