/-
  DERIVED. Part of an abstract machine over plain values, sound against the model. No conditions.
-/
import Derived.Test.YtcgaadhbnckjbaaAMRen
namespace Go.AM
/-! objects that move to another name; objects that stand for nil -/
def mvS (L d l : Nat) : Nat := match Nat.beq l L with | true => d | false => l
def mvF (L d l : Nat) : Nat := match Nat.beq l d with | true => L | false => l
theorem beq_ff {a b : Nat} (h : a ≠ b) : Nat.beq a b = false := by cases hq : Nat.beq a b with | false => rfl | true => exact absurd (Nat.eq_of_beq_eq_true hq) h
theorem mvS_L (L d : Nat) : mvS L d L = d := by simp [mvS]
theorem mvS_o {L d l : Nat} (h : l ≠ L) : mvS L d l = l := by simp [mvS, beq_ff h]
theorem mvF_d (L d : Nat) : mvF L d d = L := by simp [mvF]
theorem mvF_o {L d l : Nat} (h : l ≠ d) : mvF L d l = l := by simp [mvF, beq_ff h]
def Gh.mv (g : Gh) (L d : Nat) : Gh := ⟨g.pre, fun b => (g.own b).map (Owner.ren (mvS L d)), fun l => g.ρ (mvF L d l)⟩
def mvO (L d : Nat) (h : Heap) (l : Nat) : Option AObj := match Nat.beq l L with | true => some .dead | false => renO (mvS L d) (hget h (mvF L d l))
/-- the state at a loop's head, told with the object L under the name d -/
def AtvM (L d : Nat) (lv ll : List Nat) (vals : List AV) (objs : List AObj) (e : Env) (h : Heap) : Prop :=
  ll.map (mvO L d h) = objs.map some ∧ lv.map (fun i => (eget e i).ren (mvS L d)) = vals ∧ AV.withins (memB ll) vals = true ∧ withinObjs (memB ll) objs = true ∧ Nat.blt d bigId = true ∧ hget h d = none ∧ Nat.beq L d = false
theorem Sim.mv {g : Gh} {w : World} {n : Nat} {a : Act} {e : Env} {h : Heap} (s : Sim g w n a e h) {L d : Nat} {lv ll : List Nat} {vals : List AV} {objs : List AObj} (ht : AtvM L d lv ll vals objs e h) :
    Sim (g.mv L d) w n a (lv.zip vals) (ll.zip objs) ∧ Ext g w (g.mv L d) w := by
  obtain ⟨ho, hv, h1, h2, hb, hd0, hLd⟩ := ht
  subst hv
  have hd : d < bigId := by simp [Nat.blt] at hb; omega
  have hne : L ≠ d := fun q => by subst q; simp at hLd
  obtain ⟨k1, k2⟩ := hget_zipF ll (mvO L d h) objs ho
  have hdm : ∀ l, memB ll l = true → domOf (ll.zip objs) l := fun l hl => k2 l (memB_mem ll l hl)
  have hdom : ∀ l, domOf h l → l ≠ d := fun l hl q => by subst q; unfold domOf at hl; rw [hd0] at hl; cases hl
  have old : ∀ {l : Nat} {o : AObj}, hget (ll.zip objs) l = some o → o = .dead ∨ (l ≠ L ∧ ∃ ob, hget h (mvF L d l) = some ob ∧ o = ob.ren (mvS L d)) := by
    intro l o hl
    obtain ⟨q1, _⟩ := k1 l o hl
    unfold mvO at q1
    by_cases e1 : l = L
    · subst e1; simp at q1; exact .inl q1.symm
    · rw [beq_ff e1] at q1
      cases hg : hget h (mvF L d l) with
      | none => simp [hg, renO] at q1
      | some ob => simp [hg, renO] at q1; exact .inr ⟨e1, ob, rfl, q1.symm⟩
  have back : ∀ {l : Nat}, l ≠ L → mvS L d (mvF L d l) = l := by
    intro l hl
    by_cases e1 : l = d
    · subst e1; rw [mvF_d, mvS_L]
    · rw [mvF_o e1, mvS_o hl]
  have turn : ∀ {ow ow2 : Option Owner} {v : Value} {z : AV}, (∀ o, ow = some o → ow2 = some (o.ren (mvS L d))) → VRel g w (domOf h) ow v z → (z.ren (mvS L d)).within (memB ll) = true → VRel (g.mv L d) w (domOf (ll.zip objs)) ow2 v (z.ren (mvS L d)) := by
    intro ow ow2 v z how r hz
    rw [within_ren] at hz
    refine VRel.ren (g := g) (g2 := g.mv L d) (mvS L d) (fun l => memB ll (mvS L d l)) (fun _ _ _ q => q) (fun l hl hm => ⟨hdm _ hm, ?_⟩) (fun o b e1 e2 => ⟨_, how o e1, ?_, rfl⟩) r hz
    · show g.ρ (mvF L d (mvS L d l)) = g.ρ l
      by_cases e1 : l = L
      · subst e1; rw [mvS_L, mvF_d]
      · rw [mvS_o e1, mvF_o (hdom l hl)]
    · show (g.own b).map _ = _
      rw [e2]; rfl
  refine ⟨⟨s.defers, s.size, fun i => ?_, ⟨fun l o hl => ?_, fun l o hl hsl => ?_, fun l o hl hsl => ?_⟩, fun b o hbo => ?_⟩, ?_⟩
  · rcases eget_zip lv (fun i => (eget e i).ren (mvS L d)) i with q | q
    · rcases eget_zip_mem lv (lv.map (fun i => (eget e i).ren (mvS L d))) i with q' | ⟨j, hj⟩
      · rw [q']; exact .top _ _
      · rw [q] at hj ⊢
        exact turn (fun o ho => by cases ho; rfl) (s.env i) (withins_get _ _ h1 j _ hj)
    · rw [q]; exact .top _ _
  · rcases old hl with rfl | ⟨hlL, ob, hg, rfl⟩
    · exact .dead
    · obtain ⟨_, j, q2⟩ := k1 l _ hl
      have hw := withinObjs_get _ _ h2 j _ q2
      cases s.heap.obj _ ob hg with
      | cells cs vs E hb hlen hx' h1' =>
        refine .cells _ vs E hb (by rw [rens_length]; exact hlen) (fun j v c r1 r2 => ?_) h1'
        rw [rens_get] at r2
        cases hq : cs[j]? with
        | none => simp [hq] at r2
        | some c0 =>
          simp only [hq, Option.map_some, Option.some.injEq] at r2
          subst r2
          refine turn (fun o ho => by cases ho; simp [Owner.ren, back hlL]) (hx' j v c0 r1 hq) (withins_get _ _ (show AV.withins (memB ll) (AV.rens (mvS L d) cs) = true from hw) j _ (by rw [rens_get, hq]; rfl))
      | arr xs vs E hb hlen hx' h1' => exact .arr xs vs E hb hlen hx' h1'
      | map kd xs es clock hb hx' hc => exact .map kd xs es clock hb hx' hc
      | gr st sz xs hgr => exact .gr st sz xs fun q => (hgr q).mono (fun _ _ _ hv => hv) (fun _ _ hv => hv)
      | dead => exact .dead
      | bld T E2 bs2 hbl => exact ORel.bldM hbl rfl rfl (fun bb hb2 => ⟨by show (g.own bb).map _ = _; rw [hb2]; simp [Owner.ren, back hlL], rfl, rfl⟩)
      | glob gb gvs hgl => exact ORel.globM hgl (fun h1 _ _ => ⟨rfl, by show (g.own gb).map _ = none; rw [h1]; rfl⟩)
  · rcases old hl with rfl | ⟨hlL, ob, hg, rfl⟩
    · cases hsl
    · show (g.own (g.ρ (mvF L d l))).map _ = _
      rw [s.heap.own _ ob hg (by rw [AObj.solid_ren] at hsl; exact hsl)]
      simp [Owner.ren, back hlL]
  · rcases old hl with rfl | ⟨hlL, ob, hg, rfl⟩
    · cases hsl
    · exact s.heap.pre _ ob hg (by rw [AObj.solid_ren] at hsl; exact hsl)
  · have hbo : (g.own b).map (Owner.ren (mvS L d)) = some o := hbo
    cases hq : g.own b with
    | none => simp [hq] at hbo
    | some o' => exact s.bnd b o' hq
  · refine ⟨Nat.le_refl _, rfl, rfl, fun _ _ _ q => q, fun b _ hn => ⟨rfl, rfl, ?_⟩, trivial, fun _ _ => rfl, fun l hl => ?_, fun b cs E hb => ⟨cs, E, hb, rfl⟩⟩
    · show (g.own b).map _ = none
      rw [hn]; rfl
    · show g.ρ (mvF L d l) = g.ρ l
      rw [mvF_o (by omega)]
/-- at a loop's head: the object L goes by the name d -/
theorem lp_mv {P : Program} {n : Nat} {c : Code} {K : Exit → Env → Heap → Prop} {e : Env} {h : Heap} (L d : Nat) (lv ll : List Nat) (vals : List AV) (objs : List AObj) (ht : AtvM L d lv ll vals objs e h) (hk : lpOf P n c K (lv.zip vals) (ll.zip objs)) : lpOf P n c K e h := by
  intro g0 w0 g w a s hE
  obtain ⟨s', hE'⟩ := s.mv ht
  exact hk g0 w0 _ w a s' (hE.trans hE')
/-- the rule of a function, from another telling of its first state -/
theorem AMem.intro0 {P : Program} {ty : Nat → Option TI} (hty : TyOK P ty) (hmix : P.follows .mixedOrders = true) {f : Nat} {fn : Func} {c : Code} {args : List AV} {hs : Heap} {r : AV} {h' : Heap} {e0 : Env} {h0 : Heap} (hf : P.funcs[f]? = some fn) (hb : fn.body = some c) (hname : (fn.name == "runtime.NumGoroutine") = false)
    (hok : codeOK fn.ntmps c = true) (hlen : args.length ≤ fn.ntmps) (hr : (r.within (memB (keysOf h')) && objsIn (memB (keysOf h')) h' && globB hs h') = true)
    (hsim : ∀ g w a, Sim g w fn.ntmps a (argEnv 0 args) hs → Sim g w fn.ntmps a e0 h0)
    (hk : awp ty (pcall P) (lpOf P fn.ntmps) c (retKM ty fn.results.toList fn.resultTypes.toList r h') e0 h0) : AMem P f args hs r h' := by
  simp only [Bool.and_eq_true] at hr
  obtain ⟨⟨hr1, hr2⟩, hr3⟩ := hr
  refine ⟨⟨⟨fn, c, hf, hb, hname⟩, hr3⟩, fun g w vs hH hbn hl hrel => ?_⟩
  have s0 := hsim g w _ (Sim.start (fn := fn) hlen hH hbn hl hrel)
  refine calls_of_wp hf hb (wp_mono (awp_sound hty hmix c _ _ _ hok hk g w g w _ s0 (Ext.refl _ _)) ?_)
  rintro ex a' w' ⟨g1, e1, h1, hk1, s1, hE1⟩
  have fin : (match resOf ty fn.results.toList fn.resultTypes.toList e1 h1 with | some v => RetOK v r ∧ heapOK h1 h' | none => False) → a'.defers = [] ∧ ∃ v, (results fn a'.tmps).run P w' = .ok v w' ∧
      (∃ v1 g', Ending.returned v = .returned v1 ∧ VRel g' w' (domOf h') (some .ret) v1 r ∧ HRel g' w' h' ∧ (∀ b ow, g'.own b = some ow → b < w'.heap.size) ∧ Ext g w g' w') := by
    intro hq
    refine ⟨s1.defers, ?_⟩
    split at hq
    · rename_i x hx
      obtain ⟨hq, hheap⟩ := hq
      obtain ⟨v, hrun, t, hv⟩ := resOf_rel (P := P) hty s1 hx
      have hv : VRel g1 w' (domOf h1) (some (.slot t)) v r := by
        rcases hq with rfl | rfl
        · exact hv
        · exact hv.copy
      have hdom : ∀ l, memB (keysOf h') l = true → domOf h' l := fun l hl => by
        obtain ⟨ob, hob⟩ := hget_of_key h' l (memB_mem _ _ hl)
        unfold domOf; rw [hob]; rfl
      let g' : Gh := { pre := g1.pre, own := fun b => retOwn h' t (g1.own b), ρ := g1.ρ }
      have conv : ∀ {ow : Option Owner} {u : Value} {y : AV}, (∀ q, ow = some q → retOwn h' t (some q) = some q) → VRel g1 w' (domOf h1) ow u y → y.within (memB (keysOf h')) = true → VRel g' w' (domOf h') ow u y := by
        intro ow u y hq r0 hin
        have r1 := r0.within (dom' := domOf h') hdom hin
        exact VRel.keep (g := g1) (g' := g') (w := w') (w' := w') (fun _ _ _ hv => hv) (fun l hl => ⟨hl, rfl⟩) (fun l cs E _ hb => ⟨cs, E, hb, rfl⟩) (fun q b e1 ho => ⟨by show retOwn h' t (g1.own b) = some q; rw [ho]; exact hq q e1, rfl, rfl⟩) r1
      refine ⟨v, hrun, v, g', rfl, ?_, ⟨fun l ob hl => ?_, fun l ob hl hsl => ?_, fun l ob hl hsl => ?_⟩, fun b q hq => ?_, ?_⟩
      · cases r with
        | so sz xs =>
          cases hv with
          | full _ a _ _ hz hp => exact .full _ a sz xs hz hp
          | own _ a cap _ _ cs E hz hp ho hpre hb' hs' => exact .own .ret a cap sz xs cs E hz hp (by show retOwn h' t (g1.own a.block) = _; rw [ho]; simp [retOwn]) hpre hb' hs'
        | _ => exact (conv (ow := none) (fun _ q => by cases q) (hv.anyOwner (fun _ _ q => by cases q)) hr1).anyOwner (fun _ _ q => by cases q)
      · obtain ⟨ob0, q1, q2⟩ := heapOK_get h' hheap l ob hl
        have hin := objsIn_get h' hr2 l ob hl
        have hkl := hget_key _ _ _ hl
        cases (s1.heap.obj l ob0 q1).le q2 with
        | cells cs vs' E hb' hlen' hxx h1' => exact .cells cs vs' E hb' hlen' (fun j u c q3 q4 => conv (fun q e1 => by cases e1; simp [retOwn, hkl]) (hxx j u c q3 q4) (withins_get _ cs (by simpa [AObj.within] using hin) j c q4)) h1'
        | arr xs vs' E hb' hlen' hxx h1' => exact .arr xs vs' E hb' hlen' hxx h1'
        | map kd xs es clock hb' hxx hc => exact .map kd xs es clock hb' hxx hc
        | gr st sz xs hg => exact .gr st sz xs hg
        | dead => exact .dead
        | bld T E2 bs2 hbl => exact ORel.bldM hbl rfl rfl (fun bb hb2 => ⟨by show retOwn h' t (g1.own bb) = _; rw [hb2]; simp [retOwn, hkl], rfl, rfl⟩)
        | glob gb gvs hgl => exact ORel.globM hgl (fun h1 _ _ => ⟨rfl, by show retOwn h' t (g1.own gb) = none; rw [h1]; rfl⟩)
      · obtain ⟨ob0, q1, q2⟩ := heapOK_get h' hheap l ob hl
        show retOwn h' t (g1.own (g1.ρ l)) = _
        rw [s1.heap.own l ob0 q1 (q2.solid hsl)]
        simp [retOwn, hget_key _ _ _ hl]
      · obtain ⟨ob0, q1, q2⟩ := heapOK_get h' hheap l ob hl
        exact s1.heap.pre l ob0 q1 (q2.solid hsl)
      · have hq : retOwn h' t (g1.own b) = some q := hq
        cases hg : g1.own b with
        | none => rw [hg] at hq; simp [retOwn] at hq
        | some q' => exact s1.bnd b q' hg
      · exact ⟨hE1.size, hE1.os, hE1.out, hE1.imm, fun b hb hn => ⟨(hE1.kept b hb hn).1, (hE1.kept b hb hn).2.1, by show retOwn h' t (g1.own b) = none; rw [(hE1.kept b hb hn).2.2]; rfl⟩, hE1.frz, hE1.frz', hE1.ρk, hE1.siz⟩
    · exact hq.elim
  cases ex with
  | normal => exact fin hk1
  | ret => exact fin hk1
  | _ => exact hk1.elim

/-- nil cells that stand for empty objects -/
def AVLeN (ks : List Nat) (x y : AV) : Prop := x = y ∨ (x = .nilS ∧ ∃ l sz, y = .al false l sz 0 ∧ memB ks l = true)
def CLeN (ks : List Nat) : List AV → List AV → Prop
  | [], [] => True
  | x :: r, y :: r' => AVLeN ks x y ∧ CLeN ks r r'
  | _, _ => False
def ObLeN (ks : List Nat) : AObj → AObj → Prop
  | .cells cs, .cells cs' => CLeN ks cs cs'
  | x, y => x = y
theorem CLeN.get {ks : List Nat} : ∀ (cs cs' : List AV), CLeN ks cs cs' → cs.length = cs'.length ∧ ∀ (j : Nat) (y : AV), cs'[j]? = some y → ∃ x, cs[j]? = some x ∧ AVLeN ks x y
  | [], [], _ => ⟨rfl, by simp⟩
  | x :: r, y :: r', h => by
    obtain ⟨k1, k2⟩ := CLeN.get r r' h.2
    refine ⟨by simp [k1], fun j z hz => ?_⟩
    cases j with
    | zero => simp at hz; subst hz; exact ⟨x, rfl, h.1⟩
    | succ j => simp at hz; obtain ⟨x', q1, q2⟩ := k2 j z hz; exact ⟨x', by simpa using q1, q2⟩
  | [], _ :: _, h => h.elim
  | _ :: _, [], h => h.elim
def heapLeN (ks : List Nat) : Heap → Heap → Prop
  | [], [] => True
  | (l, a) :: r, (l', b) :: r' => l = l' ∧ ObLeN ks a b ∧ heapLeN ks r r'
  | _, _ => False
theorem heapLeN_get {ks : List Nat} : ∀ (h h' : Heap), heapLeN ks h h' → ∀ l, (∀ ob, hget h' l = some ob → ∃ ob0, hget h l = some ob0 ∧ ObLeN ks ob0 ob) ∧ (domOf h l ↔ domOf h' l)
  | [], [], _, l => ⟨fun ob q => by simp [hget] at q, Iff.rfl⟩
  | (k, a) :: r, (k', b) :: r', hh, l => by
    obtain ⟨rfl, h2, h3⟩ := hh
    by_cases e1 : k = l
    · subst e1
      refine ⟨fun ob q => ?_, ?_⟩
      · rw [hget_self] at q; cases q; exact ⟨a, hget_self _ _ _, h2⟩
      · unfold domOf; rw [hget_self, hget_self]; exact Iff.rfl
    · obtain ⟨k1, k2⟩ := heapLeN_get r r' h3 l
      refine ⟨fun ob q => ?_, ?_⟩
      · rw [hget_ne e1] at q ⊢; exact k1 ob q
      · unfold domOf at k2 ⊢; rw [hget_ne e1, hget_ne e1]; exact k2
  | [], _ :: _, hh, _ => hh.elim
  | _ :: _, [], hh, _ => hh.elim
theorem AMem.leN {P : Program} {f : Nat} {args : List AV} {hs hs' : Heap} {r : AV} {h' : Heap} (h : AMem P f args hs' r h') (hl : heapLeN (keysOf hs') hs hs') : AMem P f args hs r h' := by
  have hdom : ∀ l, memB (keysOf hs') l = true → domOf hs' l := fun l hl => by
    obtain ⟨ob, hob⟩ := hget_of_key hs' l (memB_mem _ _ hl)
    unfold domOf; rw [hob]; rfl
  refine ⟨⟨h.1.1, globB_le (fun l b vs hq => by obtain ⟨ob0, k1, k2⟩ := (heapLeN_get hs hs' hl l).1 _ hq; cases ob0 <;> first | (cases k2; exact ⟨_, k1⟩) | (cases k2; done)) h' h.1.2⟩, fun g w vs hH hbn hlen hrel => h.2 g w vs ⟨fun l ob hq => ?_, fun l ob hq hsl => ?_, fun l ob hq hsl => ?_⟩ hbn hlen (fun j v x q1 q2 => (hrel j v x q1 q2).domUp (fun k hk => ((heapLeN_get hs hs' hl k).2).1 hk))⟩
  · obtain ⟨ob0, q1, q2⟩ := (heapLeN_get hs hs' hl l).1 ob hq
    have up : ∀ k, domOf hs k → domOf hs' k := fun k hk => ((heapLeN_get hs hs' hl k).2).1 hk
    cases hH.obj l ob0 q1 with
    | cells cs vs' E hb' hlen' hxx h1' =>
      cases ob with
      | cells cs' =>
        obtain ⟨k1, k2⟩ := CLeN.get cs cs' q2
        refine .cells cs' vs' E hb' (by omega) (fun j u c q3 q4 => ?_) h1'
        obtain ⟨x', q5, q6⟩ := k2 j c q4
        rcases q6 with rfl | ⟨rfl, k, sz, rfl, hk⟩
        · exact (hxx j u x' q3 q5).domUp up
        · have := hxx j u _ q3 q5
          cases this
          exact .al0 _ k sz (hdom k hk)
      | _ => cases q2
    | arr xs vs' E hb' hlen' hxx h1' => cases q2; exact .arr xs vs' E hb' hlen' hxx h1'
    | map kd xs es clock hb' hxx hc => cases q2; exact .map kd xs es clock hb' hxx hc
    | gr st sz xs hg => cases q2; exact .gr st sz xs hg
    | dead => cases q2; exact .dead
    | bld T E2 bs2 hbl => cases q2; exact .bld T E2 bs2 hbl
    | glob gb gvs hgl => cases q2; exact .glob gb gvs hgl
  · obtain ⟨ob0, q1, q2⟩ := (heapLeN_get hs hs' hl l).1 ob hq
    refine hH.own l ob0 q1 ?_
    cases ob0 <;> cases ob <;> first | rfl | (cases q2; done) | (cases q2; exact hsl) | cases hsl
  · obtain ⟨ob0, q1, q2⟩ := (heapLeN_get hs hs' hl l).1 ob hq
    refine hH.pre l ob0 q1 ?_
    cases ob0 <;> cases ob <;> first | rfl | (cases q2; done) | (cases q2; exact hsl) | cases hsl
theorem amcN {P : Program} {f : Nat} {args : List AV} {h hs0 hs h' : Heap} {r : AV} {K : List Nat → Heap → AV → Prop} (R : List Nat) (B : Nat) (s : AMem P f (AV.rens (toBig R 0) args) hs r h') (hk : K R (backH R B h') (r.ren (ofBig R B))) (hl : heapLeN (keysOf hs) hs0 hs)
    (h2 : subH h (toBig R 0) (memB R) R 0 = some hs0 := by rfl) (h1 : (AV.withins (memB R) args && nodupB R) = true := by rfl) (h3 : (nodupB (keysOf h') && newCk h B R.length (keysOf h') && allKeys (keysOf h') R.length) = true := by rfl) : pcall P f args h K :=
  .mem R B hs0 r h' h1 h2 (s.leN hl) h3 hk
/-- a slice that is not empty is never nil -/
theorem Sim.flag {g : Gh} {w : World} {n : Nat} {a : Act} {e : Env} {h : Heap} (s : Sim g w n a e h) {i l sz k : Nat} {x : PV} {xs : List PV} (hl : hget h l = some (.gr false sz (x :: xs))) (hi : eget e i = .al false l sz (k + 1)) :
    Sim g w n a ((i, .al true l sz (k + 1)) :: e) ((l, .gr true sz (x :: xs)) :: h) := by
  refine ⟨s.defers, s.size, fun j => ?_, ⟨fun m y hy => ?_, fun m y hy hq => ?_, fun m y hy hq => ?_⟩, s.bnd⟩
  · by_cases q : i = j
    · subst q
      rw [eget_self]
      have := s.env i
      rw [hi] at this
      generalize a.tmps.getD i undef = v at this
      cases this with
      | al _ _ _ _ _ cap hd h0 hc hn => exact .al _ true l sz (k + 1) cap ((domOf_set hl _).2 hd) (.inl rfl) hc hn
    · rw [eget_ne q]; exact (s.env j).domUp (fun k hk => (domOf_set hl k).2 hk)
  · by_cases q : l = m
    · subst q
      rw [hget_self] at hy; cases hy
      cases s.heap.obj l _ hl with
      | gr _ _ _ hg => exact .gr true sz (x :: xs) (fun _ => hg (.inr (by simp)))
    · rw [hget_ne q] at hy
      cases s.heap.obj m y hy with
      | cells cs vs' E hb' hlen' hxx h1' => exact .cells cs vs' E hb' hlen' (fun j u c q3 q4 => (hxx j u c q3 q4).domUp (fun k hk => (domOf_set hl k).2 hk)) h1'
      | arr xs vs' E hb' hlen' hxx h1' => exact .arr xs vs' E hb' hlen' hxx h1'
      | map kd xs es clock hb' hxx hc => exact .map kd xs es clock hb' hxx hc
      | gr st sz xs hg => exact .gr st sz xs hg
      | dead => exact .dead
      | bld T E2 bs2 hbl => exact .bld T E2 bs2 hbl
      | glob gb gvs hgl => exact .glob gb gvs hgl
  · by_cases q : l = m
    · subst q; rw [hget_self] at hy; cases hy; exact s.heap.own l _ hl rfl
    · rw [hget_ne q] at hy; exact s.heap.own m y hy hq
  · by_cases q : l = m
    · subst q; rw [hget_self] at hy; cases hy; exact s.heap.pre l _ hl rfl
    · rw [hget_ne q] at hy; exact s.heap.pre m y hy hq
end Go.AM
