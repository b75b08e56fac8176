/-
  DERIVED. Contracts of functions that the law reaches, and the law, for every input. No conditions.
-/
import Derived.Test.YtcgaadhbnckjbaaUX7
import Derived.Shelf.SlSortCmp.NoneTotal
open Go Go.AM Go.Proofs Go.Shelf Go.RowKit Go.Lib Go.Sort
set_option maxRecDepth 100000
namespace KK
/-! slices.SortFunc's contract -/
def RelE (M : Nat → Nat → Option Value) (e : El) (x : ByteArray × Ty) : Prop := ∀ (i : Nat) (y : PV), (eB x).cells[i]? = some y → ∃ v : Value, (enE e)[i]? = some v ∧ PRel M v y
theorem enE_one (e : El) : ∀ v ∈ enE e, v.oneCell' = true := by
  intro v hv
  simp [enE] at hv
  rcases hv with rfl | rfl | rfl | rfl <;> rfl
theorem eB_cells (x : ByteArray × Ty) : ∃ k m l, (eB x).cells = [.s x.1, .i .i64 k, .s m, .sl 3 l] := by
  obtain ⟨n, k, m, l⟩ := x
  exact ⟨k, m, eTs l, rfl⟩
theorem el_of {M : Nat → Nat → Option Value} {vs : Array Value} {j : Nat} {x : ByteArray × Ty} (h : ∀ (i : Nat) (y : PV), (eB x).cells[i]? = some y → ∃ v : Value, vs[j * 4 + i]? = some v ∧ v.oneCell' = true ∧ PRel M v y) :
    ∃ e : El, (∀ i, i < 4 → vs[j * 4 + i]? = some ((enE e)[i]!)) ∧ RelE M e x := by
  obtain ⟨k, m, l, hc⟩ := eB_cells x
  unfold RelE
  rw [hc]
  rw [hc] at h
  obtain ⟨v0, a0, _, b0⟩ := h 0 _ rfl
  obtain ⟨v1, a1, _, b1⟩ := h 1 _ rfl
  obtain ⟨v2, a2, _, b2⟩ := h 2 _ rfl
  obtain ⟨v3, a3, _, b3⟩ := h 3 _ rfl
  have b0' := b0; have b1' := b1; have b2' := b2; have b3' := b3
  cases b0; cases b1; cases b2
  have hv3 : ∃ a n c, v3 = .slice a n c := by cases b3 <;> exact ⟨_, _, _, rfl⟩
  obtain ⟨a, n, c, rfl⟩ := hv3
  refine ⟨(x.1, k, m, a, n, c), fun i hi => ?_, fun i y hy => ?_⟩
  · match i, hi with
    | 0, _ => exact a0
    | 1, _ => exact a1
    | 2, _ => exact a2
    | 3, _ => exact a3
  · match i, hy with
    | 0, hy => cases hy; exact ⟨_, rfl, b0'⟩
    | 1, hy => cases hy; exact ⟨_, rfl, b1'⟩
    | 2, hy => cases hy; exact ⟨_, rfl, b2'⟩
    | 3, hy => cases hy; exact ⟨_, rfl, b3'⟩
    | _ + 4, hy => cases hy
theorem list_choose {α β : Type} {Q : Nat → β → α → Prop} : ∀ (xs : List α) (k0 : Nat), (∀ j x, xs[j]? = some x → ∃ e, Q (k0 + j) e x) → ∃ d : List β, d.length = xs.length ∧ ∀ j x, xs[j]? = some x → ∃ e, d[j]? = some e ∧ Q (k0 + j) e x
  | [], _, _ => ⟨[], rfl, fun j x h => by cases h⟩
  | x :: r, k0, h => by
    obtain ⟨e, he⟩ := h 0 x rfl
    obtain ⟨d, h1, h2⟩ := list_choose (Q := Q) r (k0 + 1) fun j y hy => by
      obtain ⟨e, he⟩ := h (j + 1) y hy
      exact ⟨e, by rw [Nat.add_assoc, Nat.add_comm 1 j]; exact he⟩
    refine ⟨e :: d, by simp [h1], fun j y hy => ?_⟩
    cases j with
    | zero => cases hy; exact ⟨e, rfl, he⟩
    | succ j =>
      obtain ⟨e', h3, h4⟩ := h2 j y hy
      exact ⟨e', h3, by rw [Nat.add_assoc, Nat.add_comm 1 j] at h4; exact h4⟩
theorem perm_lift {α β : Type} {f : α → β} {l1 l2 : List β} (h : l1.Perm l2) : ∀ (z : List α), z.map f = l2 → ∃ z' : List α, z'.map f = l1 ∧ z'.Perm z := by
  induction h with
  | nil => intro z hz; exact ⟨z, hz, .refl z⟩
  | cons x _ ih =>
    intro z hz
    match z, hz with
    | a :: z, hz =>
      simp only [List.map_cons, List.cons.injEq] at hz
      obtain ⟨z', h1, h2⟩ := ih z hz.2
      exact ⟨a :: z', by simp [h1, hz.1], .cons a h2⟩
  | swap x y l =>
    intro z hz
    match z, hz with
    | a :: b :: z, hz =>
      simp only [List.map_cons, List.cons.injEq] at hz
      exact ⟨b :: a :: z, by simp [hz.1, hz.2.1, hz.2.2], .swap a b z⟩
    | [_], hz => simp at hz
  | trans _ _ ih1 ih2 =>
    intro z hz
    obtain ⟨z2, h1, h2⟩ := ih2 z hz
    obtain ⟨z1, h3, h4⟩ := ih1 z2 h1
    exact ⟨z1, h3, h4.trans h2⟩
/-- what the sort does to the world -/
theorem sorted_heap {w : World} {blk : Nat} {vs : Array Value} {E : TypeId} (hb : w.heap[blk]? = some (.cells vs E (0, 0))) (d' : Array El) (n : Nat) (os : Array Obj) :
    (∀ b, b < w.heap.size → b ≠ blk → (sortWorldK enE 4 w blk 0 n d' os).heap[b]? = w.heap[b]?) ∧ (sortWorldK enE 4 w blk 0 n d' os).heap[blk]? = some (.cells (putCells id 0 (flatK enE 4 d') vs) E (0, 0)) ∧
    w.heap.size ≤ (sortWorldK enE 4 w blk 0 n d' os).heap.size ∧ (sortWorldK enE 4 w blk 0 n d' os).os = w.os ∧ (sortWorldK enE 4 w blk 0 n d' os).output = w.output := by
  have hlt : blk < w.heap.size := (Array.getElem?_eq_some_iff.1 hb).1
  have e : (sortWorldK enE 4 w blk 0 n d' os).heap = (w.heap.modify blk (onCells (putCells id 0 (flatK enE 4 d')))) ++ os := rfl
  refine ⟨fun b h1 h2 => ?_, ?_, ?_, rfl, rfl⟩
  · rw [e, Array.getElem?_append_left (by simpa using h1), Array.getElem?_modify, if_neg (Ne.symm h2)]
  · rw [e, Array.getElem?_append_left (by simpa using hlt), Array.getElem?_modify, if_pos rfl, hb]; rfl
  · rw [e]; simp
theorem frozen_same {w w' : World} {a : Addr} (h : w'.heap[a.block]? = w.heap[a.block]?) : w'.frozen? a = w.frozen? a := by simp only [World.frozen?, h]
set_option maxHeartbeats 1000000 in
theorem sort_spec (xs : TM) (hl : xs.length ≤ 1000000000) : AMemR Try.prog 32 [.al false 1000000000 4 (xs.map eB).length, .fn 33 [] []] [(1000000000, .gr false 4 (xs.map eB))]
    (fun ys : TM => ys.Perm xs) (fun _ => .tup []) (fun ys => [(1000000000, .gr false 4 (ys.map eB))]) := by
  refine ⟨⟨_, _, Try.func32, rfl, by rfl⟩, fun _ _ => rfl, fun g w us hH hbn hlen hrel => ?_⟩
  match us, hlen with
  | [u1, u2], _ =>
  have r1 := hrel 0 u1 _ rfl rfl
  have r2 := hrel 1 u2 _ rfl rfl
  have hu2 : u2 = .func (.func 33) #[] #[] := by
    cases r2 with
    | fn _ _ fs cs _ _ h1 h2 _ _ =>
      have : fs = [] := List.eq_nil_of_length_eq_zero (by simpa using h1)
      have : cs = [] := List.eq_nil_of_length_eq_zero (by simpa using h2)
      subst_vars; rfl
  subst hu2
  rw [List.length_map] at r1
  generalize hn : xs.length = n at r1
  cases r1 with
  | al0 _ _ _ _ =>
    have hxs : xs = [] := List.eq_nil_of_length_eq_zero hn
    subst hxs
    have := AnyF.slices_SortFunc_none sortL none 0 (.func (.func 33) #[] #[]) w
    refine Calls.mono (show Calls Try.prog 32 _ w _ from this) ?_
    rintro e w' ⟨rfl, rfl⟩
    exact ⟨[], .tuple #[], g, .nil, rfl, .tup _ [] [] rfl (fun _ _ _ h => by cases h), hH, hbn, Ext.refl _ _⟩
  | al _ _ _ _ _ cap hd h0 hc hcs =>
    have hn0 : 0 < n := by rcases h0 with h | h; cases h; exact h
    have hsol : (AObj.gr false 4 (xs.map eB)).solid = true := gr_solid (.inr fun e => by have := congrArg List.length e; simp at this; subst this; simp at hn; omega)
    have hown := hH.own 1000000000 _ rfl hsol
    have hpre := hH.pre 1000000000 _ rfl hsol
    have hG : GRow g w 1000000000 4 (xs.map eB) := by
      cases hH.obj 1000000000 _ rfl with
      | gr _ _ _ hg => exact hg (.inr fun e => by have := congrArg List.length e; simp at this; subst this; simp at hn; omega)
    obtain ⟨vs, E, hb, _, hsz, h4, hcell⟩ := hG
    rw [List.length_map] at hsz
    generalize hblk : g.ρ 1000000000 = blk at *
    have hlt : blk < w.heap.size := (Array.getElem?_eq_some_iff.1 hb).1
    obtain ⟨d, hd1, hd2⟩ := list_choose (β := El) (Q := fun j e x => (∀ i, i < 4 → vs[j * 4 + i]? = some ((enE e)[i]!)) ∧ RelE (imm g w) e x) xs 0 fun j x hx => by
      rw [Nat.zero_add]
      exact el_of fun i y hy => hcell j (eB x) (by rw [List.getElem?_map, hx]; rfl) i y hy
    simp only [Nat.zero_add] at hd2
    have hfl : ∀ t, t < d.toArray.size * 4 → vs[t]? = some ((flatK enE 4 d.toArray)[t]!) := fun t ht => by
      rw [get_flatK _ _ _ t ht]
      have ht' : t / 4 < xs.length := by
        have : d.toArray.size = xs.length := by simp [hd1]
        omega
      obtain ⟨e, q1, q2, _⟩ := hd2 (t / 4) xs[t / 4] (List.getElem?_eq_getElem ht')
      have e1 : d.toArray[t / 4]! = e := by
        rw [getElem!_def, List.getElem?_toArray, q1]
      have := q2 (t % 4) (Nat.mod_lt _ (by decide))
      rw [show t / 4 * 4 + t % 4 = t from Nat.div_add_mod' t 4] at this
      rw [this, e1]
    have hH4 : HoldsK enE 4 w blk 0 d.toArray := fun t ht => by
      rw [size_flatK] at ht
      rw [Nat.zero_add]
      refine ⟨?_, ?_⟩
      · show (match w.heap[blk]? with | some (.cells c _ _) => if (none : Option Nat).isSome then none else c[t]? | _ => none) = _
        rw [hb]
        exact hfl t ht
      · show (match w.heap[blk]? with | some (.cells _ _ (lo, hi)) => decide (lo ≤ t) && decide (t < hi) | _ => false) = _
        rw [hb]
        simp
    have hcon := AnyQ.slices_SortFunc sortL 4 (show ∀ w, (isAgg (37 : TypeId)).run Try.prog w = .ok true w from Try.isAgg37) (show ∀ w, (Go.sizeOf (37 : TypeId)).run Try.prog w = .ok 4 w from Try.sizeOf37) enE (fun _ => rfl) enE_one cmE swoE 33 #[] blk 0 cap d.toArray w
      (enters_of Try.func33 (by kernel_rfl) rfl) (fun m os dk _ x y => cmp_closure x y _) hH4 hlt (by simp [hd1]; omega)
    rw [show d.toArray.size = n by simp [hd1, hn]] at hcon
    refine Calls.mono (show Calls Try.prog 32 _ w _ from hcon) ?_
    rintro e w' ⟨rfl, d', m, os, ⟨p1, _, p3⟩, _, rfl⟩
    obtain ⟨s1, s2, s3, s4, s5⟩ := sorted_heap hb d' m os
    generalize sortWorldK enE 4 w blk 0 m d' os = w' at s1 s2 s3 s4 s5 ⊢
    have hds : d.toArray.size = n := by simp [hd1, hn]
    have p4 : d'.toList.Perm d := by
      have e1 : d'.extract 0 n = d' := by rw [← hds, ← p1]; simp
      have e2 : d.toArray.extract 0 n = d.toArray := by rw [← hds]; simp
      rw [e1, e2] at p3
      simpa using p3
    have hzl : d.length = xs.length := hd1
    have hzf : (d.zip xs).map Prod.fst = d := by rw [List.map_fst_zip]; omega
    have hzs : (d.zip xs).map Prod.snd = xs := by rw [List.map_snd_zip]; omega
    obtain ⟨z, z1, z2⟩ := perm_lift p4 (d.zip xs) hzf
    have hzr : ∀ q ∈ z, RelE (imm g w) q.1 q.2 := fun q hq => by
      obtain ⟨j, hj⟩ := List.getElem?_of_mem ((z2.mem_iff).1 hq)
      rw [List.getElem?_zip_eq_some] at hj
      obtain ⟨e, q1, _, q2⟩ := hd2 j q.2 hj.2
      rw [hj.1] at q1
      cases q1
      exact q2
    have hlen' : z.length = n := by rw [z2.length_eq]; simp; omega
    have hperm : (z.map Prod.snd).Perm xs := by have := z2.map Prod.snd; rw [hzs] at this; exact this
    have himm : ∀ b o v, imm g w b o = some v → imm g w' b o = some v := fun b o v hv => by
      unfold imm at hv ⊢
      by_cases hbb : b = blk
      · subst hbb
        rw [hpre, if_neg (by omega)] at hv; cases hv
      · by_cases ho : o < g.pre b
        · rw [if_pos ho] at hv ⊢
          have hb2 : b < w.heap.size := by
            unfold World.cell? at hv
            cases hq : w.heap[b]? with
            | none => rw [hq] at hv; cases hv
            | some x => exact (Array.getElem?_eq_some_iff.1 hq).1
          unfold World.cell? at hv ⊢
          rw [s1 b hb2 hbb]; exact hv
        · rw [if_neg ho] at hv; cases hv
    have hsize : (putCells id 0 (flatK enE 4 d') vs).size = vs.size := by simp [putCells]
    have hd's : d'.size = n := by rw [p1, hds]
    have honly : ∀ (l : Nat) (ob : AObj), hget [(1000000000, AObj.gr false 4 ((z.map Prod.snd).map eB))] l = some ob → l = 1000000000 ∧ ob = .gr false 4 ((z.map Prod.snd).map eB) := fun l ob hl2 => by
      by_cases q : (1000000000 : Nat) = l
      · subst q; rw [hget_self] at hl2; cases hl2; exact ⟨rfl, rfl⟩
      · rw [hget_ne q] at hl2; cases hl2
    refine ⟨z.map Prod.snd, .tuple #[], g, hperm, rfl, .tup _ [] [] rfl (fun _ _ _ h => by cases h), ⟨fun l ob hl2 => ?_, fun l ob hl2 hs2 => ?_, fun l ob hl2 hs2 => ?_⟩, fun b ow ho => Nat.lt_of_lt_of_le (hbn b ow ho) s3, ?_⟩
    · obtain ⟨rfl, rfl⟩ := honly l ob hl2
      refine .gr _ _ _ fun _ => ⟨_, E, by rw [hblk]; exact s2, by decide, by rw [hsize]; simp [hlen']; omega, fun x hx => ?_, fun j x hx i y hy => ?_⟩
      · obtain ⟨q, _, rfl⟩ := List.mem_map.1 hx
        obtain ⟨k, m2, l2, hc2⟩ := eB_cells q
        rw [hc2]; rfl
      · rw [List.map_map, List.getElem?_map] at hx
        cases hq : z[j]? with
        | none => rw [hq] at hx; cases hx
        | some q =>
          rw [hq] at hx
          cases hx
          obtain ⟨v, v1, v2⟩ := hzr q (List.mem_of_getElem? hq) i y hy
          have hj : j < n := by have := (List.getElem?_eq_some_iff.1 hq).1; omega
          have hi : i < 4 := by
            have := (List.getElem?_eq_some_iff.1 v1).1
            simpa [enE] using this
          have hdj : d'[j]! = q.1 := by
            have : d'.toList[j]? = some q.1 := by rw [← z1, List.getElem?_map, hq]; rfl
            rw [getElem!_def, ← Array.getElem?_toList, this]
          refine ⟨v, ?_, enE_one q.1 v (List.mem_of_getElem? v1), v2.mono himm⟩
          have hlt2 : j * 4 + i < vs.size := by omega
          have hlt3 : j * 4 + i < d'.size * 4 := by rw [hd's]; omega
          show (putCells id 0 (flatK enE 4 d') vs)[j * 4 + i]? = _
          unfold putCells
          rw [Array.getElem?_mapIdx, Array.getElem?_eq_getElem hlt2]
          simp only [Option.map_some, size_flatK, id]
          rw [if_pos ⟨Nat.zero_le _, by omega⟩, Nat.sub_zero, get_flatK _ _ _ _ hlt3, show (j * 4 + i) / 4 = j by omega, show (j * 4 + i) % 4 = i by omega, hdj, getElem!_def, v1]
    · obtain ⟨rfl, rfl⟩ := honly l ob hl2
      rw [hblk]; exact hown
    · obtain ⟨rfl, rfl⟩ := honly l ob hl2
      rw [hblk]; exact hpre
    · refine ⟨s3, s4, s5, himm, fun b hb1 hb2 => ⟨s1 b hb1 (fun e => by subst e; rw [hown] at hb2; cases hb2), rfl, hb2⟩, trivial, fun a ha => ?_, fun _ _ => rfl, fun b cs E' hb1 => ?_⟩
      · by_cases hbb : a.block = blk
        · simp only [World.frozen?, hbb, s2, hb]
        · exact frozen_same (s1 a.block ha hbb)
      · by_cases hbb : b = blk
        · subst hbb
          rw [hb] at hb1
          cases hb1
          exact ⟨_, E, s2, hsize⟩
        · exact ⟨cs, E', by rw [s1 b (Array.getElem?_eq_some_iff.1 hb1).1 hbb]; exact hb1, rfl⟩
end KK
