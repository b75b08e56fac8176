/-
  DERIVED. Part of an abstract machine over plain values, sound against the model. No conditions.
-/
import Derived.Test.YtcgaadhbnckjbaaAMRng
namespace Go.AM
/-! contracts that tell a result up to a property -/
def AMemR (P : Program) (f : Nat) (args : List AV) (hs : Heap) {σ : Type} (Q : σ → Prop) (r : σ → AV) (h' : σ → Heap) : Prop :=
  hasBody P f ∧ (∀ s, Q s → globB hs (h' s) = true) ∧ ∀ (g : Gh) (w : World) (vs : List Value), HRel g w hs → (∀ b ow, g.own b = some ow → b < w.heap.size) → vs.length = args.length → (∀ (j : Nat) (v : Value) (x : AV), vs[j]? = some v → args[j]? = some x → VRel g w (domOf hs) none v x) →
    Calls P f vs.toArray w fun en w' => ∃ s v g', Q s ∧ en = .returned v ∧ VRel g' w' (domOf (h' s)) (some .ret) v (r s) ∧ HRel g' w' (h' s) ∧ (∀ b ow, g'.own b = some ow → b < w'.heap.size) ∧ Ext g w g' w'
section
variable {P : Program} {ty : Nat → Option TI} {n : Nat} {o : Oper} {e : Env} {h : Heap}
theorem AMemR.introS (hty : TyOK P ty) {f : Nat} {fn : Func} {c : Code} {args : List AV} {hs : Heap} {σ : Type} {Q : σ → Prop} {r : σ → AV} {h' : σ → Heap} (hf : P.funcs[f]? = some fn) (hb : fn.body = some c) (hname : (fn.name == "runtime.NumGoroutine") = false)
    (hlen : args.length ≤ fn.ntmps) (hr : ∀ s, Q s → ((r s).within (memB (keysOf (h' s))) && objsIn (memB (keysOf (h' s))) (h' s) && globB hs (h' s)) = true)
    (hk : AWp P fn.ntmps c (fun x e h => ∃ s, Q s ∧ retKM ty fn.results.toList fn.resultTypes.toList (r s) (h' s) x e h) (argEnv 0 args) hs) : AMemR P f args hs Q r h' := by
  refine ⟨⟨fn, c, hf, hb, hname⟩, fun s hqs => by have := hr s hqs; simp only [Bool.and_eq_true] at this; exact this.2, fun g w vs hH hbn hl hrel => ?_⟩
  have s0 := Sim.start (fn := fn) hlen hH hbn hl hrel
  refine calls_of_wp hf hb (wp_mono (hk g w g w _ s0 (Ext.refl _ _)) ?_)
  rintro ex a' w' ⟨g1, e1, h1, ⟨s, hqs, hk1⟩, s1, hE1⟩
  have hr := hr s hqs
  simp only [Bool.and_eq_true] at hr
  obtain ⟨⟨hr1, hr2⟩, hr3⟩ := hr
  have fin : ∀ (r : AV) (h' : Heap), r.within (memB (keysOf h')) = true → objsIn (memB (keysOf h')) h' = true → (match resOf ty fn.results.toList fn.resultTypes.toList e1 h1 with | some v => RetOK v r ∧ heapOK h1 h' | none => False) → a'.defers = [] ∧ ∃ v, (results fn a'.tmps).run P w' = .ok v w' ∧
      (∃ v1 g', Ending.returned v = .returned v1 ∧ VRel g' w' (domOf h') (some .ret) v1 r ∧ HRel g' w' h' ∧ (∀ b ow, g'.own b = some ow → b < w'.heap.size) ∧ Ext g w g' w') := by
    intro r h' hr1 hr2 hq
    refine ⟨s1.defers, ?_⟩
    split at hq
    · rename_i x hx
      obtain ⟨hq, hheap⟩ := hq
      obtain ⟨v, hrun, t, hv⟩ := resOf_rel (P := P) hty s1 hx
      have hv : VRel g1 w' (domOf h1) (some (.slot t)) v r := by
        rcases hq with rfl | rfl
        · exact hv
        · exact hv.copy
      have hdom : ∀ l, memB (keysOf h') l = true → domOf h' l := fun l hl => by
        obtain ⟨ob, hob⟩ := hget_of_key h' l (memB_mem _ _ hl)
        unfold domOf; rw [hob]; rfl
      let g' : Gh := { pre := g1.pre, own := fun b => retOwn h' t (g1.own b), ρ := g1.ρ }
      have conv : ∀ {ow : Option Owner} {u : Value} {y : AV}, (∀ q, ow = some q → retOwn h' t (some q) = some q) → VRel g1 w' (domOf h1) ow u y → y.within (memB (keysOf h')) = true → VRel g' w' (domOf h') ow u y := by
        intro ow u y hq r0 hin
        have r1 := r0.within (dom' := domOf h') hdom hin
        exact VRel.keep (g := g1) (g' := g') (w := w') (w' := w') (fun _ _ _ hv => hv) (fun l hl => ⟨hl, rfl⟩) (fun l cs E _ hb => ⟨cs, E, hb, rfl⟩) (fun q b e1 ho => ⟨by show retOwn h' t (g1.own b) = some q; rw [ho]; exact hq q e1, rfl, rfl⟩) r1
      refine ⟨v, hrun, v, g', rfl, ?_, ⟨fun l ob hl => ?_, fun l ob hl hsl => ?_, fun l ob hl hsl => ?_⟩, fun b q hq => ?_, ?_⟩
      · cases r with
        | so sz xs =>
          cases hv with
          | full _ a _ _ hz hp => exact .full _ a sz xs hz hp
          | own _ a cap _ _ cs E hz hp ho hpre hb' hs' => exact .own .ret a cap sz xs cs E hz hp (by show retOwn h' t (g1.own a.block) = _; rw [ho]; simp [retOwn]) hpre hb' hs'
        | _ => exact (conv (ow := none) (fun _ q => by cases q) (hv.anyOwner (fun _ _ q => by cases q)) hr1).anyOwner (fun _ _ q => by cases q)
      · obtain ⟨ob0, q1, q2⟩ := heapOK_get h' hheap l ob hl
        have hin := objsIn_get h' hr2 l ob hl
        have hkl := hget_key _ _ _ hl
        cases (s1.heap.obj l ob0 q1).le q2 with
        | cells cs vs' E hb' hlen' hxx h1' => exact .cells cs vs' E hb' hlen' (fun j u c q3 q4 => conv (fun q e1 => by cases e1; simp [retOwn, hkl]) (hxx j u c q3 q4) (withins_get _ cs (by simpa [AObj.within] using hin) j c q4)) h1'
        | arr xs vs' E hb' hlen' hxx h1' => exact .arr xs vs' E hb' hlen' hxx h1'
        | map kd xs es clock hb' hxx hc => exact .map kd xs es clock hb' hxx hc
        | gr st sz xs hg => exact .gr st sz xs hg
        | dead => exact .dead
        | bld T E2 bs2 hbl => exact ORel.bldM hbl rfl rfl (fun bb hb2 => ⟨by show retOwn h' t (g1.own bb) = _; rw [hb2]; simp [retOwn, hkl], rfl, rfl⟩)
        | glob gb gvs hgl => exact ORel.globM hgl (fun h1 _ _ => ⟨rfl, by show retOwn h' t (g1.own gb) = none; rw [h1]; rfl⟩)
      · obtain ⟨ob0, q1, q2⟩ := heapOK_get h' hheap l ob hl
        show retOwn h' t (g1.own (g1.ρ l)) = _
        rw [s1.heap.own l ob0 q1 (q2.solid hsl)]
        simp [retOwn, hget_key _ _ _ hl]
      · obtain ⟨ob0, q1, q2⟩ := heapOK_get h' hheap l ob hl
        exact s1.heap.pre l ob0 q1 (q2.solid hsl)
      · have hq : retOwn h' t (g1.own b) = some q := hq
        cases hg : g1.own b with
        | none => rw [hg] at hq; simp [retOwn] at hq
        | some q' => exact s1.bnd b q' hg
      · exact ⟨hE1.size, hE1.os, hE1.out, hE1.imm, fun b hb hn => ⟨(hE1.kept b hb hn).1, (hE1.kept b hb hn).2.1, by show retOwn h' t (g1.own b) = none; rw [(hE1.kept b hb hn).2.2]; rfl⟩, hE1.frz, hE1.frz', hE1.ρk, hE1.siz⟩
    · exact hq.elim
  have last : (match resOf ty fn.results.toList fn.resultTypes.toList e1 h1 with | some v => RetOK v (r s) ∧ heapOK h1 (h' s) | none => False) → a'.defers = [] ∧ ∃ v, (results fn a'.tmps).run P w' = .ok v w' ∧
      (∃ s v1 g', Q s ∧ Ending.returned v = .returned v1 ∧ VRel g' w' (domOf (h' s)) (some .ret) v1 (r s) ∧ HRel g' w' (h' s) ∧ (∀ b ow, g'.own b = some ow → b < w'.heap.size) ∧ Ext g w g' w') := fun hq => by
    obtain ⟨q1, v, q2, v1, g', q3⟩ := fin (r s) (h' s) hr1 hr2 hq
    exact ⟨q1, v, q2, s, v1, g', hqs, q3⟩
  cases ex with
  | normal => exact last hk1
  | ret => exact last hk1
  | _ => exact hk1.elim

/-- a call by such a contract -/
theorem opR (hd : ∀ d, o.dst = some d → d < n) {x : Operand} {as : List Operand} {ts : List Nat} (ho : o.op = .call { callee := .value x, args := ⟨as⟩, argTypes := ⟨ts⟩ }) {f : Nat} {first caps : List AV} (hx : ev e x = .fn f first caps)
    {R : List Nat} {B : Nat} {hs : Heap} {σ : Type} {Q : σ → Prop} {r : σ → AV} {hr2 : σ → Heap} (ck1 : (AV.withins (memB R) (first ++ argOf ty e as ts ++ caps) && nodupB R) = true) (hsub : subH h (toBig R 0) (memB R) R 0 = some hs)
    (hcall0 : AMemR P f (AV.rens (toBig R 0) (first ++ argOf ty e as ts ++ caps)) hs Q r hr2) (ck2 : ∀ s, Q s → (nodupB (keysOf (hr2 s)) && newCk h B R.length (keysOf (hr2 s)) && allKeys (keysOf (hr2 s)) R.length) = true)
    {g : Gh} {w : World} {a : Act} (s : Sim g w n a e h) : o.wp P a w (fun a' w' => ∃ s g', Q s ∧ Sim g' w' n a' ((match o.dst with | some d => [(d, (r s).ren (ofBig R B))] | none => []) ++ e) ((backH R B (hr2 s)).reverse ++ h) ∧ Ext g w g' w') (fun _ _ _ => False) := by
  obtain ⟨hb, hglob, hcall⟩ := hcall0
  have m1 : x ∈ o.op.operands := by simp [ho, Op.operands, Call.operands]
  have m2 : ∀ y ∈ as, y ∈ o.op.operands := fun y hy => by simp [ho, Op.operands, Call.operands, hy]
  simp only [Bool.and_eq_true] at ck1
  obtain ⟨ckw, ckn⟩ := ck1
  have hn := nodupB_spec ckn
  obtain ⟨_, r1⟩ := s.evo (fun _ _ => rfl) m1 hx
  generalize hv : a.eval x = v at r1
  cases r1 with
  | fn _ _ fs cs _ _ h1 h2' hf hc =>
    obtain ⟨k1, k2⟩ := call_args (ty := ty) (x := x) (ts := ts) s (fun _ _ => rfl) m2 h1 h2' hf hc
    have hargs := hcall (g.lend R) w (fs ++ as.map a.eval ++ cs) (s.heap.lend hn hsub) (fun b q hq => by
      have hq : lendOwn R (g.own b) = some q := hq
      cases hg : g.own b with
      | none => rw [hg] at hq; simp [lendOwn] at hq
      | some q' => exact s.bnd b q' hg) (by rw [k1, rens_length]) (fun j v y q1 q2 => by
      rw [rens_get] at q2
      cases hq : (first ++ argOf ty e as ts ++ caps)[j]? with
      | none => rw [hq] at q2; cases q2
      | some c0 =>
        rw [hq, Option.map_some, Option.some.injEq] at q2
        subst q2
        have hr0 := k2 j v c0 q1 hq
        exact VRel.lend hn hsub (fun q e1 => by cases e1) hr0 (withins_get _ _ ckw j c0 hq))
    have hrun := run_call_value (P := P) ho (a := a) (w := w) hv hb
    simp only [Oper.wp, hrun, Oper.upon]
    refine hargs.mono ?_
    rintro en w' ⟨st, v, g', hqs, rfl, hr, hH, hbn, hE⟩
    have ck := ck2 st hqs
    simp only [Bool.and_eq_true] at ck
    obtain ⟨⟨ck3, ck4⟩, ck5⟩ := ck
    cases hdst : o.dst with
    | none =>
      obtain ⟨G, q1, q2, _⟩ := s.calledM 0 hn hsub hE hH hbn (nodupB_spec ck3) ck4 ck5 (hglob st hqs)
      exact ⟨st, G, hqs, q1, q2⟩
    | some d =>
      obtain ⟨G, q1, q2, q3⟩ := s.calledM d hn hsub hE hH hbn (nodupB_spec ck3) ck4 ck5 (hglob st hqs)
      exact ⟨st, G, hqs, q1.put (hd d hdst) (q3 v _ hr), q2⟩
/-- .. as the last operation of a region -/
theorem AWp.callR (hty : TyOK P ty) {id0 : Nat} {ops : Array Oper} {Z : Code} {K : Exit → Env → Heap → Prop} {x : Operand} {as : List Operand} {ts : List Nat} {σ : Type} (k : Nat) (R : List Nat) (B : Nat) (Q : σ → Prop) (r : σ → AV) (hr2 : σ → Heap)
    (hk : ops[k]? = some o ∧ ops.size = k + 1 ∧ o.guard = none ∧ o.op = .call { callee := .value x, args := ⟨as⟩, argTypes := ⟨ts⟩ }) (hok : ops.toList.all (okOp n) = true)
    (hpre : aops ty (pcall P) ops.toList (ops.toList.take k) e h (fun e h => ∃ f first caps hs, ev e x = .fn f first caps ∧ (AV.withins (memB R) (first ++ argOf ty e as ts ++ caps) && nodupB R) = true ∧ subH h (toBig R 0) (memB R) R 0 = some hs ∧
      AMemR P f (AV.rens (toBig R 0) (first ++ argOf ty e as ts ++ caps)) hs Q r hr2 ∧ (∀ s, Q s → (nodupB (keysOf (hr2 s)) && newCk h B R.length (keysOf (hr2 s)) && allKeys (keysOf (hr2 s)) R.length) = true) ∧
      ∀ s, Q s → AWp P n Z K ((match o.dst with | some d => [(d, (r s).ren (ofBig R B))] | none => []) ++ e) ((backH R B (hr2 s)).reverse ++ h))) : AWp P n (.seq (.region id0 ops false) Z) K e h := by
  intro g0 w0 g w a s hE
  obtain ⟨hr1, hsz, hg, ho⟩ := hk
  refine wp_seq (wp_region ?_)
  have htk : (ops.toList.take k).length = k := by simp [hsz]
  have hrange : List.range ops.size = List.range' 0 (ops.toList.take k).length ++ [k] := by rw [htk, hsz, List.range_succ, List.range_eq_range']
  rw [hrange]
  refine aops_pre hty hok (T := _) (g0 := g0) (w0 := w0) ?_ _ 0 e h g w a (fun j hj => by rw [List.getElem?_take_of_lt (by rw [htk] at hj; exact hj)]; simp) hpre s hE
  rintro e1 h1 g1 w1 a1 ⟨f, first, caps, hs, hx, c1, c2, c3, c4, c5⟩ s1 hE1
  have hmem : o ∈ ops.toList := by rw [← Array.getElem?_toList] at hr1; exact List.mem_of_getElem? hr1
  rw [wpOps_cons]
  simp only [wpOp, hr1]
  rw [if_pos (by simp [Region.wanted, hg])]
  left
  refine Oper.wp_monoQ (Oper.wp_mono ?_ (opR (okOp_dst (List.all_eq_true.1 hok o hmem)) ho hx c1 c2 c3 c4 s1))
  rintro a' w' ⟨st, g', hqs, s', hE'⟩
  exact c5 st hqs g0 w0 g' w' a' s' (hE1.trans hE')
/-- .. with more operations behind it -/
theorem AWp.callRS (hty : TyOK P ty) {id0 : Nat} {ops : Array Oper} {Z : Code} {K : Exit → Env → Heap → Prop} {x : Operand} {as : List Operand} {ts : List Nat} {σ : Type} (k : Nat) (R : List Nat) (B : Nat) (Q : σ → Prop) (r : σ → AV) (hr2 : σ → Heap)
    (hk : ops[k]? = some o ∧ o.guard = none ∧ o.op = .call { callee := .value x, args := ⟨as⟩, argTypes := ⟨ts⟩ }) (hok : ops.toList.all (okOp n) = true)
    (hpre : aops ty (pcall P) ops.toList (ops.toList.take k) e h (fun e h => ∃ f first caps hs, ev e x = .fn f first caps ∧ (AV.withins (memB R) (first ++ argOf ty e as ts ++ caps) && nodupB R) = true ∧ subH h (toBig R 0) (memB R) R 0 = some hs ∧
      AMemR P f (AV.rens (toBig R 0) (first ++ argOf ty e as ts ++ caps)) hs Q r hr2 ∧ (∀ s, Q s → (nodupB (keysOf (hr2 s)) && newCk h B R.length (keysOf (hr2 s)) && allKeys (keysOf (hr2 s)) R.length) = true) ∧
      ∀ s, Q s → aops ty (pcall P) ops.toList (ops.toList.drop (k + 1)) ((match o.dst with | some d => [(d, (r s).ren (ofBig R B))] | none => []) ++ e) ((backH R B (hr2 s)).reverse ++ h) (fun e h => AWp P n Z K e h))) : AWp P n (.seq (.region id0 ops false) Z) K e h := by
  intro g0 w0 g w a s hE
  obtain ⟨hr1, hg, ho⟩ := hk
  have hsz : k < ops.size := (Array.getElem?_eq_some_iff.1 hr1).1
  refine wp_seq (wp_region ?_)
  have htk : (ops.toList.take k).length = k := by simp; omega
  have hdk : (ops.toList.drop (k + 1)).length = ops.size - (k + 1) := by simp
  have hrange : List.range ops.size = List.range' 0 (ops.toList.take k).length ++ (k :: List.range' (k + 1) (ops.toList.drop (k + 1)).length) := by
    rw [htk, hdk, List.range_eq_range', show k :: List.range' (k + 1) (ops.size - (k + 1)) = List.range' k (ops.size - (k + 1) + 1) from List.range'_succ.symm]
    have e1 := @List.range'_append_1 0 k (ops.size - (k + 1) + 1)
    rw [Nat.zero_add] at e1
    rw [e1]; congr 1; omega
  rw [hrange]
  refine aops_pre hty hok (T := _) (g0 := g0) (w0 := w0) ?_ _ 0 e h g w a (fun j hj => by rw [List.getElem?_take_of_lt (by rw [htk] at hj; exact hj)]; simp) hpre s hE
  rintro e1 h1 g1 w1 a1 ⟨f, first, caps, hs, hx, c1, c2, c3, c4, c5⟩ s1 hE1
  have hmem : o ∈ ops.toList := by rw [← Array.getElem?_toList] at hr1; exact List.mem_of_getElem? hr1
  rw [wpOps_cons]
  simp only [wpOp, hr1]
  rw [if_pos (by simp [Region.wanted, hg])]
  left
  refine Oper.wp_monoQ (Oper.wp_mono ?_ (opR (okOp_dst (List.all_eq_true.1 hok o hmem)) ho hx c1 c2 c3 c4 s1))
  rintro a' w' ⟨st, g', hqs, s', hE'⟩
  rw [← List.append_nil (List.range' (k + 1) (ops.toList.drop (k + 1)).length)]
  refine aops_pre hty hok (T := fun e h => AWp P n Z K e h) (g0 := g0) (w0 := w0) (fun e h g w a hz s hE => ?_) (ops.toList.drop (k + 1)) (k + 1) _ _ g' w' a' (fun j _ => by rw [List.getElem?_drop]; simp) (c5 st hqs) s' (hE1.trans hE')
  exact hz g0 w0 g w a s hE
/-- a nil slice in a cell, as an empty object -/
theorem AWp.nilObj {c : Code} {K : Exit → Env → Heap → Prop} (l j L sz : Nat) {cs : List AV} (hl : hget h l = some (.cells cs)) (hj : cs[j]? = some .nilS) (hL : hget h L = none) (hk : AWp P n c K e ((l, .cells (cs.set j (.al false L sz 0))) :: (L, .gr false sz []) :: h)) : AWp P n c K e h := by
  intro g0 w0 g w a s hE
  have hlL : l ≠ L := fun q => by subst q; rw [hL] at hl; cases hl
  have hd : ∀ k, domOf h k → domOf ((l, AObj.cells (cs.set j (.al false L sz 0))) :: (L, .gr false sz []) :: h) k := fun k hk => by
    unfold domOf at *
    by_cases q1 : l = k
    · subst q1; rw [hget_self]; rfl
    · rw [hget_ne q1]
      by_cases q2 : L = k
      · subst q2; rw [hget_self]; rfl
      · rw [hget_ne q2]; exact hk
  have hdL : domOf ((l, AObj.cells (cs.set j (.al false L sz 0))) :: (L, .gr false sz []) :: h) L := by unfold domOf; rw [hget_ne hlL, hget_self]; rfl
  refine hk g0 w0 g w a ⟨s.defers, s.size, fun i => (s.env i).domUp hd, ⟨fun k x hx => ?_, fun k x hx hq => ?_, fun k x hx hq => ?_⟩, s.bnd⟩ hE
  · by_cases q1 : l = k
    · subst q1
      rw [hget_self] at hx; cases hx
      cases s.heap.obj l _ hl with
      | cells _ vs E hb hlen hxx h1 =>
        refine .cells _ vs E hb (by rw [List.length_set]; exact hlen) (fun i v c q3 q4 => ?_) h1
        rw [List.getElem?_set] at q4
        split at q4
        · rename_i hij
          subst hij
          split at q4
          · cases q4
            have := hxx j v .nilS q3 hj
            cases this
            exact .al0 _ _ _ hdL
          · cases q4
        · exact (hxx i v c q3 q4).domUp hd
    · rw [hget_ne q1] at hx
      by_cases q2 : L = k
      · subst q2; rw [hget_self] at hx; cases hx; exact .gr _ _ _ (fun q => by rcases q with q | q; cases q; exact absurd rfl q)
      · rw [hget_ne q2] at hx
        cases s.heap.obj k x hx with
        | cells cs vs E hb hlen hxx h1 => exact .cells cs vs E hb hlen (fun i v c q3 q4 => (hxx i v c q3 q4).domUp hd) h1
        | arr xs vs' E hb' hlen' hxx h1' => exact .arr xs vs' E hb' hlen' hxx h1'
        | map kd xs es clock hb' hxx hc => exact .map kd xs es clock hb' hxx hc
        | gr st sz xs hg => exact .gr st sz xs hg
        | dead => exact .dead
        | bld T E2 bs2 hbl => exact .bld T E2 bs2 hbl
        | glob gb gvs hgl => exact .glob gb gvs hgl
  · by_cases q1 : l = k
    · subst q1; rw [hget_self] at hx; cases hx; exact s.heap.own l _ hl rfl
    · rw [hget_ne q1] at hx
      by_cases q2 : L = k
      · subst q2; rw [hget_self] at hx; cases hx; cases hq
      · rw [hget_ne q2] at hx; exact s.heap.own k x hx hq
  · by_cases q1 : l = k
    · subst q1; rw [hget_self] at hx; cases hx; exact s.heap.pre l _ hl rfl
    · rw [hget_ne q1] at hx
      by_cases q2 : L = k
      · subst q2; rw [hget_self] at hx; cases hx; cases hq
      · rw [hget_ne q2] at hx; exact s.heap.pre k x hx hq
end
end Go.AM
