/-
  DERIVED. Part of an abstract machine over plain values, sound against the model. No conditions.
-/
import Derived.Test.YtcgaadhbnckjbaaAMSnd4
namespace Go.AM
section
variable {P : Program} {ty : Nat → Option TI} {n : Nat} {o : Oper} {e : Env} {h : Heap} {K : AK}

theorem relabel_cells {g : Gh} {w : World} {h : Heap} (r : HRel g w h) {b l : Nat} {j0 : Nat} {o' : Owner} (hb : g.own b = some (.cell l j0)) {cs cs' : List AV} (hl : hget h l = some (.cells cs))
    (hcs : cs'.length = cs.length) (hj : ∀ j, j ≠ j0 → cs'[j]? = cs[j]?) (h0 : ∀ v ow c, cs[j0]? = some c → VRel g w (domOf h) ow v c → ∀ c', cs'[j0]? = some c' → VRel (g.relabel b o') w (domOf ((l, AObj.cells cs') :: h)) (some (.cell l j0)) v c') :
    HRel (g.relabel b o') w ((l, .cells cs') :: h) := by
  have hne : ∀ k x, hget h k = some x → x.solid = true → g.ρ k ≠ b := fun k x hx hq e => by have := r.own k x hx hq; rw [e, hb] at this; cases this
  have up : ∀ {ow v c}, ow ≠ some (.cell l j0) → VRel g w (domOf h) ow v c → VRel (g.relabel b o') w (domOf ((l, AObj.cells cs') :: h)) ow v c := by
    intro ow v c hw hr
    have := hr.relabel (o' := o') hb hw
    exact VRel.keep (g := g.relabel b o') (g' := g.relabel b o') (w := w) (w' := w) (fun _ _ _ q => q) (fun k hk => ⟨(domOf_set hl k).2 hk, rfl⟩) (fun k ds F _ q => ⟨ds, F, q, rfl⟩) (fun _ _ _ q => ⟨q, rfl, rfl⟩) this
  refine ⟨fun k x hx => ?_, fun k x hx hq => ?_, fun k x hx hq => ?_⟩
  · by_cases ek : l = k
    · subst ek
      rw [hget_self] at hx
      cases hx
      cases r.obj l _ hl with
      | cells _ vs E hb' hlen hx' h1 =>
        refine .cells cs' vs E hb' (hlen.trans hcs.symm) (fun j v c q1 q2 => ?_) h1
        by_cases ej : j = j0
        · subst ej
          have hlt : j < cs.length := by have := (Array.getElem?_eq_some_iff.1 q1).1; omega
          exact h0 v _ cs[j] (by simp [hlt]) (hx' j v cs[j] q1 (by simp [hlt])) c q2
        · rw [hj j ej] at q2
          exact up (by simp; exact ej) (hx' j v c q1 q2)
    · rw [hget_ne ek] at hx
      cases r.obj k x hx with
      | cells ds vs E hb' hlen hx' h1 => exact .cells ds vs E hb' hlen (fun j v c q1 q2 => up (by simp; intro e1; exact absurd e1.symm ek) (hx' j v c q1 q2)) h1
      | arr xs vs E hb' hlen hx' h1 => exact .arr xs vs E hb' hlen hx' h1
      | map kd xs es clock hb' hx' hc => exact .map kd xs es clock hb' hx' hc
      | gr st sz xs hg => exact .gr st sz xs hg
      | dead => exact .dead
      | glob gb gvs hgl => exact ORel.globM hgl (fun h1 _ _ => ⟨rfl, by have hne : gb ≠ b := (fun e => by subst e; rw [hb] at h1; cases h1); simp [Gh.relabel, hne, h1]⟩)
      | bld T E bs hbl => exact ORel.bldM hbl rfl rfl (fun bb hbb => ⟨by have hne : bb ≠ b := (fun e => by subst e; rw [hb] at hbb; cases hbb; exact ek rfl); simp [Gh.relabel, hne, hbb], rfl, rfl⟩)
  · have : ∃ y, hget h k = some y ∧ y.solid = true := by
      by_cases ek : l = k
      · subst ek; exact ⟨_, hl, rfl⟩
      · rw [hget_ne ek] at hx; exact ⟨x, hx, hq⟩
    obtain ⟨y, hy, hq⟩ := this
    show (g.relabel b o').own (g.ρ k) = _
    simp [Gh.relabel, hne k y hy hq, r.own k y hy hq]
  · have : ∃ y, hget h k = some y ∧ y.solid = true := by
      by_cases ek : l = k
      · subst ek; exact ⟨_, hl, rfl⟩
      · rw [hget_ne ek] at hx; exact ⟨x, hx, hq⟩
    obtain ⟨y, hy, hq⟩ := this
    exact r.pre k y hy hq

theorem aLoad_sound (hty : TyOK P ty) (hd : ∀ d, o.dst = some d → d < n) {x : Operand} {t : Nat} (ho : o.op = .load t x) {mv : Nat → Bool} (hk : aLoad ty o h t (ev e x) mv K) : ∃ f, K f ∧ OpOK P n o e h f := by
  have m1 : x ∈ o.op.operands := by simp [ho, Op.operands]
  have hrun : ∀ (a : Act) (w : World) (v u : Value), a.eval x = v → (Instr.loadAt t v).run P w = .ok u w → (execOp a.eval o).run P w = .ok (.value u) w := by
    intro a w v u hv hr
    simp only [execOp, ho, hv, Sem.run_bind, hr, Result.andThen_ok, Sem.run_pure]
  unfold aLoad at hk
  split at hk
  · rename_i i hi
    split at hk
    · -- a pointer to an object
      rename_i l off hx
      split at hk
      · rename_i cs hh
        -- the cells there
        have cells : ∀ {e' : Env} {h' : Heap} {g : Gh} {w : World} {a : Act}, (∀ t ∈ slotsOf o, eget e' t = eget e t) → hget h' l = hget h l → Sim g w n a e' h' →
            a.eval x = .pointer (some ⟨g.ρ l, off, none⟩) ∧ ∃ (vs : Array Value) (E : TypeId), w.heap[g.ρ l]? = some (.cells vs E (0, 0)) ∧ vs.size = cs.length ∧
              (∀ (j : Nat) (v : Value) (c : AV), vs[j]? = some v → cs[j]? = some c → VRel g w (domOf h') (some (.cell l j)) v c) ∧ ∀ v ∈ vs.toList, v.oneCell' = true := by
          intro e' h' g w a he hl s
          obtain ⟨_, r1⟩ := s.evo he m1 hx
          rw [hh] at hl
          refine ⟨?_, ?_⟩
          · generalize hv : a.eval x = v at r1
            cases r1 with
            | ptr _ _ _ hdm => rfl
          · cases s.heap.obj l _ hl with
            | cells _ vs E hb hlen hx' h1 => exact ⟨vs, E, hb, hlen, hx', h1⟩
        split at hk
        · rename_i hag
          split at hk
          · rename_i l1 hl1
            obtain ⟨k1, k2⟩ := getAt_spec _ _ _ _ hl1
            refine retR_sound hd hk fun e' h' he hl g w a s => ?_
            obtain ⟨hv, vs, E, hb, hlen, hx', h1⟩ := cells he hl s
            have hle : i.size = 0 ∨ off + i.size ≤ vs.size := by
              rcases Nat.eq_zero_or_pos i.size with h0 | h0
              · exact .inl h0
              · right
                have := k2 (i.size - 1) (by omega)
                have hlt : off + (i.size - 1) < cs.length := by
                  rcases Nat.lt_or_ge (off + (i.size - 1)) cs.length with h2 | h2
                  · exact h2
                  · rw [List.getElem?_eq_none h2, List.getElem?_eq_none_iff] at this; omega
                omega
            have hll : ((vs.toList.drop off).take i.size).length = i.size := by simp; omega
            have hget : ∀ (j : Nat) (v : Value), ((vs.toList.drop off).take i.size)[j]? = some v → j < i.size ∧ vs[off + j]? = some v := by
              intro j v hj
              have hji : j < i.size := by have := (List.getElem?_eq_some_iff.1 hj).1; omega
              rw [List.getElem?_take, if_pos hji, List.getElem?_drop] at hj
              exact ⟨hji, by simpa using hj⟩
            refine ⟨.agg ((vs.toList.drop off).take i.size).toArray, hrun a w _ _ hv ?_, fun d _ => mkAgg_rel _ _ _ (hll.trans k1.symm) (fun v hv => h1 v (List.mem_of_mem_drop (List.mem_of_mem_take hv))) fun j v c hj hc => ?_⟩
            · exact run_loadAt hty hi rfl _ hll (fun j v hj => by rw [cell?_of hb]; exact (hget j v hj).2) hag
            · obtain ⟨hji, hj'⟩ := hget j v hj
              rw [k2 j hji] at hc
              exact ⟨_, hx' _ _ _ hj' hc⟩
          · exact hk.elim
        · rename_i hag
          split at hk
          · -- a slice with the right to append
            rename_i sz xs hc
            split at hk
            · rename_i d hdd
              split at hk
              · split at hk
                · rename_i cs' hcs'
                  obtain ⟨q1, q2, q3⟩ := setAt_spec _ _ _ _ hcs'
                  have q2 := q2 (by simp)
                  refine ⟨_, hk, fun e' h' he hl g w a s => ?_⟩
                  have hl0 : hget h' l = hget h l := hl l (by simp)
                  obtain ⟨hv, vs, E, hb, hlen, hx', h1⟩ := cells he hl0 s
                  have hlt : off < vs.size := by have := (List.getElem?_eq_some_iff.1 hc).1; omega
                  have hcell : vs[off]? = some vs[off] := by simp [hlt]
                  have hr := hx' off _ _ hcell hc
                  refine Oper.wp_value (hrun a w _ vs[off] hv (run_loadAt1 hty hi rfl hag (by rw [cell?_of hb]; exact hcell))) ?_
                  rw [hh] at hl0
                  simp only [hdd, List.reverse_cons, List.reverse_nil, List.nil_append, List.cons_append]
                  have hj3 : ∀ j, j ≠ off → cs'[j]? = cs[j]? := fun j hj => by rw [q3 j, if_neg (by simp; omega)]
                  have h03 : cs'[off]? = some (.p (.sl sz xs)) := by rw [q3 off, if_pos (by simp)]; simp
                  generalize hval : vs[off] = v at hr
                  cases hr with
                  | full _ ad _ _ hz hp =>
                    refine ⟨g, ?_, Ext.refl _ _⟩
                    have hdm : ∀ k, domOf h' k → domOf ((l, AObj.cells cs') :: h') k := fun k hk => (domOf_set hl0 k).2 hk
                    have up : ∀ {ow v c}, VRel g w (domOf h') ow v c → VRel g w (domOf ((l, AObj.cells cs') :: h')) ow v c := fun r =>
                      VRel.keep (g := g) (g' := g) (w := w) (w' := w) (fun _ _ _ q => q) (fun k hk => ⟨hdm k hk, rfl⟩) (fun k ds F _ q => ⟨ds, F, q, rfl⟩) (fun _ _ _ q => ⟨q, rfl, rfl⟩) r
                    have s' : Sim g w n a e' ((l, .cells cs') :: h') := by
                      refine ⟨s.defers, s.size, fun i => up (s.env i), ⟨fun k z hz => ?_, fun k z hz hq => ?_, fun k z hz hq => ?_⟩, s.bnd⟩
                      · by_cases ek : l = k
                        · subst ek; rw [hget_self] at hz; cases hz
                          refine .cells cs' vs E hb (hlen.trans q1.symm) (fun j u c w1 w2 => ?_) h1
                          by_cases ej : j = off
                          · subst ej; rw [h03] at w2; cases w2
                            rw [hcell] at w1; cases w1; rw [hval]; exact .p _ _ _ hp
                          · rw [hj3 j ej] at w2; exact up (hx' j u c w1 w2)
                        · rw [hget_ne ek] at hz
                          cases s.heap.obj k z hz with
                          | cells ds vs2 E2 hb2 hlen2 hx2 h12 => exact .cells ds vs2 E2 hb2 hlen2 (fun j v c w1 w2 => up (hx2 j v c w1 w2)) h12
                          | arr xs vs2 E2 hb2 hlen2 hx2 h12 => exact .arr xs vs2 E2 hb2 hlen2 hx2 h12
                          | map kd xs es clock hb2 hx2 hc2 => exact .map kd xs es clock hb2 hx2 hc2
                          | gr st sz xs hg => exact .gr st sz xs hg
                          | dead => exact .dead
                          | glob gb gvs hgl => exact .glob gb gvs hgl
                          | bld T E bs hbl => exact .bld T E bs hbl
                      · by_cases ek : l = k
                        · subst ek; exact s.heap.own l _ hl0 rfl
                        · rw [hget_ne ek] at hz; exact s.heap.own k z hz hq
                      · by_cases ek : l = k
                        · subst ek; exact s.heap.pre l _ hl0 rfl
                        · rw [hget_ne ek] at hz; exact s.heap.pre k z hz hq
                    exact s'.put (hd d hdd) (.full _ ad sz xs hz (hp))
                  | own _ ad cap _ _ bs E' hz hp hw hpre hbb hsz =>
                    refine ⟨g.relabel ad.block (.slot d), ?_, Ext.relabel hw⟩
                    have hH := relabel_cells (o' := .slot d) s.heap hw hl0 q1 hj3 (fun v ow c w1 w2 c' w3 => by
                      rw [h03] at w3; cases w3
                      rw [hc] at w1; cases w1
                      have := (w2.copy (ow' := none)).relabel (o' := .slot d) hw (by simp)
                      cases this with
                      | p _ _ _ hp' => exact .p _ _ _ hp')
                    have hdm : ∀ k, domOf h' k → domOf ((l, AObj.cells cs') :: h') k := fun k hk => (domOf_set hl0 k).2 hk
                    have s' : Sim (g.relabel ad.block (.slot d)) w n a e' ((l, .cells cs') :: h') := by
                      refine ⟨s.defers, s.size, fun i => ?_, hH, fun b o2 hb2 => ?_⟩
                      · have := (s.env i).relabel (o' := .slot d) hw (by simp)
                        exact VRel.keep (g := g.relabel ad.block (.slot d)) (g' := g.relabel ad.block (.slot d)) (w := w) (w' := w) (fun _ _ _ q => q) (fun k hk => ⟨hdm k hk, rfl⟩) (fun k ds F _ q => ⟨ds, F, q, rfl⟩) (fun _ _ _ q => ⟨q, rfl, rfl⟩) this
                      · by_cases hbe : b = ad.block
                        · subst hbe; exact s.bnd _ _ hw
                        · simp only [Gh.relabel, if_neg hbe] at hb2; exact s.bnd _ _ hb2
                    exact s'.put (hd d hdd) (.own (.slot d) ad cap sz xs bs E' hz hp (by simp [Gh.relabel]) hpre hbb hsz)
                · exact hk.elim
              · refine ⟨_, hk, fun e' h' he hl g w a s => ?_⟩
                obtain ⟨hv, vs, E, hb, hlen, hx', h1⟩ := cells he (hl l (by simp)) s
                have hlt : off < vs.size := by have := (List.getElem?_eq_some_iff.1 hc).1; omega
                have hcell : vs[off]? = some vs[off] := by simp [hlt]
                refine Oper.wp_value (hrun a w _ vs[off] hv (run_loadAt1 hty hi rfl hag (by rw [cell?_of hb]; exact hcell))) ⟨g, ?_, Ext.refl _ _⟩
                rw [hdd]
                exact s.put (hd d hdd) (hx' off _ _ hcell hc).copy
            · exact hk.elim
          · rename_i c hns hc
            refine retR_sound hd hk fun e' h' he hl g w a s => ?_
            obtain ⟨hv, vs, E, hb, hlen, hx', h1⟩ := cells he hl s
            have hlt : off < vs.size := by have := (List.getElem?_eq_some_iff.1 hc).1; omega
            have hcell : vs[off]? = some vs[off] := by simp [hlt]
            exact ⟨vs[off], hrun a w _ _ hv (run_loadAt1 hty hi rfl hag (by rw [cell?_of hb]; exact hcell)), fun d _ => (hx' off _ _ hcell hc).anyOwner (fun sz xs e => hns sz xs e)⟩
          · exact hk.elim
      · exact hk.elim
    · -- a pointer to what is never written
      rename_i cs hx
      split at hk
      · rename_i hag
        split at hk
        · rename_i l1 hl1
          obtain ⟨k1, k2⟩ := getAt_spec _ _ _ _ hl1
          refine ret_sound hd hk fun e' h' he g w a s => ?_
          obtain ⟨_, r1⟩ := s.evo he m1 hx
          generalize hv : a.eval x = v at r1
          cases r1 with
          | vp _ ad _ f hs hm hxx =>
            have hlen : ∀ j, j < i.size → ∃ y, cs[j]? = some y ∧ l1[j]? = some y := by
              intro j hj
              have := k2 j hj
              rw [Nat.zero_add] at this
              have hlt : j < l1.length := by omega
              exact ⟨l1[j], by rw [← this]; simp [hlt], by simp [hlt]⟩
            refine ⟨.agg ((List.range i.size).map f).toArray, hrun a w _ _ hv ?_, fun d _ => .p _ _ _ (.agg _ _ (by simp [k1]) (fun v hv => ?_) fun j v y hj hy => ?_)⟩
            · refine run_loadAt hty hi hs _ (by simp) (fun j v hj => ?_) hag
              simp only [List.getElem?_map, List.getElem?_range] at hj
              have hji : j < i.size := by
                rcases Nat.lt_or_ge j i.size with h2 | h2
                · exact h2
                · rw [List.getElem?_eq_none (by simpa using h2)] at hj; simp at hj
              rw [List.getElem?_range hji] at hj
              simp at hj
              subst hj
              obtain ⟨y, hy, _⟩ := hlen j hji
              exact imm_cell (hm j y hy).1
            · obtain ⟨j, hj, rfl⟩ := List.mem_map.1 hv
              obtain ⟨y, hy, _⟩ := hlen j (by simpa using hj)
              exact (hm j y hy).2
            · have hji : j < i.size := by have := (List.getElem?_eq_some_iff.1 hy).1; omega
              rw [List.getElem?_map, List.getElem?_range hji] at hj
              simp at hj
              subst hj
              obtain ⟨y', hy1, hy2⟩ := hlen j hji
              rw [hy2] at hy; cases hy
              exact hxx j _ hy1
        · exact hk.elim
      · rename_i hag
        split at hk
        · rename_i y r
          refine ret_sound hd hk fun e' h' he g w a s => ?_
          obtain ⟨_, r1⟩ := s.evo he m1 hx
          generalize hv : a.eval x = v at r1
          cases r1 with
          | vp _ ad _ f hs hm hxx =>
            have h0 := hm 0 y (by simp)
            exact ⟨f 0, hrun a w _ _ hv (run_loadAt1 hty hi hs hag (by simpa using imm_cell h0.1)), fun d _ => .p _ _ _ (hxx 0 y (by simp))⟩
        · exact hk.elim
    · -- an element of an array of one's own
      rename_i l m hx
      split at hk
      · rename_i xs hh
        split at hk
        · exact hk.elim
        · rename_i hag
          obtain ⟨y, _, hy, hk⟩ := hk
          refine retR_sound hd hk fun e' h' he hl g w a s => ?_
          obtain ⟨_, r1⟩ := s.evo he m1 hx
          generalize hv : a.eval x = v at r1
          cases r1 with
          | ap _ _ _ hdm =>
            rw [hh] at hl
            cases s.heap.obj l _ hl with
            | arr _ vs E hb hlen hx' h1 =>
              have hy : xs[m]? = some y := by simpa using hy
              have hlt : m < vs.size := by have := (List.getElem?_eq_some_iff.1 hy).1; omega
              have hcell : vs[m]? = some vs[m] := by simp [hlt]
              exact ⟨vs[m], hrun a w _ _ hv (run_loadAt1 hty hi rfl hag (by rw [cell?_of hb]; exact hcell)), fun d _ => .p _ _ _ (hx' m _ _ hcell hy)⟩
      · exact hk.elim
    · -- an element of a growing slice
      rename_i l sz m c hx
      split at hk
      · rename_i sz' xs hh
        have cells : ∀ {e' : Env} {h' : Heap} {g : Gh} {w : World} {a : Act} {y : PV}, (∀ t ∈ slotsOf o, eget e' t = eget e t) → hget h' l = hget h l → Sim g w n a e' h' → sz = sz' → xs[m]? = some y →
            a.eval x = .pointer (some ⟨g.ρ l, m * sz + c, none⟩) ∧ ∃ (vs : Array Value) (E : TypeId), w.heap[g.ρ l]? = some (.cells vs E (0, 0)) ∧
              ∀ (i : Nat) (z : PV), y.cells[c + i]? = some z → ∃ v, vs[m * sz + c + i]? = some v ∧ v.oneCell' = true ∧ PRel (imm g w) v z := by
          intro e' h' g w a y he hl s hz hy
          subst hz
          obtain ⟨_, r1⟩ := s.evo he m1 hx
          rw [hh] at hl
          refine ⟨?_, ?_⟩
          · generalize hv : a.eval x = v at r1
            cases r1 with
            | ep _ _ _ _ _ hdm => rfl
          · cases s.heap.obj l _ hl with
            | gr _ _ _ hg =>
              obtain ⟨vs, E, hb, h0, hlen, hzz, hxx⟩ := hg (.inr fun e => by rw [e] at hy; simp at hy)
              refine ⟨vs, E, hb, fun i z hz => ?_⟩
              have := hxx m y hy (c + i) z hz
              rwa [← Nat.add_assoc] at this
        split at hk
        · rename_i hz hag
          have hz : sz = sz' := Nat.eq_of_beq_eq_true hz
          obtain ⟨y, _, hy, hk⟩ := hk
          have hy : xs[m]? = some y := by simpa using hy
          split at hk
          · rename_i l1 hl1
            obtain ⟨k1, k2⟩ := getAt_spec _ _ _ _ hl1
            refine retR_sound hd hk fun e' h' he hl g w a s => ?_
            obtain ⟨hv, vs, E, hb, hxx⟩ := cells he hl s hz hy
            have hlen : ∀ j, j < i.size → ∃ z, y.cells[c + j]? = some z ∧ l1[j]? = some z := by
              intro j hj
              have := k2 j hj
              have hlt : j < l1.length := by omega
              exact ⟨l1[j], by rw [← this]; simp [hlt], by simp [hlt]⟩
            have hle : i.size = 0 ∨ m * sz + c + i.size ≤ vs.size := by
              rcases Nat.eq_zero_or_pos i.size with h0 | h0
              · exact .inl h0
              · right
                obtain ⟨z, hz1, _⟩ := hlen (i.size - 1) (by omega)
                obtain ⟨v, hv1, _, _⟩ := hxx _ _ hz1
                have := (Array.getElem?_eq_some_iff.1 hv1).1; omega
            have hll : ((vs.toList.drop (m * sz + c)).take i.size).length = i.size := by simp; omega
            have hget : ∀ (j : Nat) (v : Value), ((vs.toList.drop (m * sz + c)).take i.size)[j]? = some v → j < i.size ∧ vs[m * sz + c + j]? = some v := by
              intro j v hj
              have hji : j < i.size := by have := (List.getElem?_eq_some_iff.1 hj).1; omega
              rw [List.getElem?_take, if_pos hji, List.getElem?_drop] at hj
              exact ⟨hji, by simpa using hj⟩
            refine ⟨.agg ((vs.toList.drop (m * sz + c)).take i.size).toArray, hrun a w _ _ hv ?_, fun d _ => .p _ _ _ (.agg _ _ (hll.trans k1.symm) (fun v hv => ?_) fun j v z hj hz2 => ?_)⟩
            rotate_left
            · obtain ⟨j, hj⟩ := List.getElem?_of_mem hv
              obtain ⟨hji, hj'⟩ := hget j v hj
              obtain ⟨z', q1, q2⟩ := hlen j hji
              obtain ⟨v', p1, p2, _⟩ := hxx j _ q1
              rw [hj'] at p1; cases p1
              exact p2
            rotate_left
            · exact run_loadAt hty hi rfl _ hll (fun j v hj => by rw [cell?_of hb]; exact (hget j v hj).2) hag
            · obtain ⟨hji, hj'⟩ := hget j v hj
              obtain ⟨z', q1, q2⟩ := hlen j hji
              rw [q2] at hz2; cases hz2
              obtain ⟨v', p1, _, p2⟩ := hxx j _ q1
              rw [hj'] at p1; cases p1
              exact p2
          · exact hk.elim
        · rename_i hz hag
          have hz : sz = sz' := Nat.eq_of_beq_eq_true hz
          obtain ⟨y, _, hy, hk⟩ := hk
          have hy : xs[m]? = some y := by simpa using hy
          split at hk
          · rename_i z hz1
            refine retR_sound hd hk fun e' h' he hl g w a s => ?_
            obtain ⟨hv, vs, E, hb, hxx⟩ := cells he hl s hz hy
            obtain ⟨v', p1, _, p2⟩ := hxx 0 z (by simpa using hz1)
            exact ⟨v', hrun a w _ _ hv (run_loadAt1 hty hi rfl hag (by rw [cell?_of hb]; simpa using p1)), fun d _ => .p _ _ _ p2⟩
          · exact hk.elim
        · exact hk.elim
      · exact hk.elim
    · exact hk.elim
  · exact hk.elim

end
end Go.AM
