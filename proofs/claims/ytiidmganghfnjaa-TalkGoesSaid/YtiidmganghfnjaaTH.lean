/-
  DERIVED. Contracts of the functions that the law reaches, and the law itself, for every input. No conditions.
-/
import Derived.Test.YtiidmganghfnjaaTG
open Go Go.AM Go.Proofs
namespace TK
theorem nodup_le : ∀ (N : Nat) (l : List Nat), l.Nodup → (∀ x ∈ l, x < N) → l.length ≤ N := by
  intro N
  induction N with
  | zero => intro l _ h; cases l with | nil => simp | cons x r => exact absurd (h x (by simp)) (by omega)
  | succ N ih =>
    intro l hn hh
    have h1 := ih (l.filter (· ≠ N)) (hn.filter _) (fun x hx => by
      have := hh x (List.mem_filter.1 hx).1
      have h3 : x ≠ N := by simpa using (List.mem_filter.1 hx).2
      omega)
    have h2 : l.length ≤ (l.filter (· ≠ N)).length + 1 := by
      clear ih h1 hh
      induction l with
      | nil => simp
      | cons a r ihr =>
        rw [List.nodup_cons] at hn
        by_cases e : a = N
        · subst e
          have : r.filter (· ≠ a) = r := List.filter_eq_self.2 fun x hx => by simp; intro q; subst q; exact hn.1 hx
          rw [List.filter_cons, if_neg (by simp), this]; simp
        · rw [List.filter_cons, if_pos (by simpa using e)]
          have := ihr hn.2
          simp only [List.length_cons]; omega
    omega
theorem eqDd_get : ∀ {a b : List Dd}, eqDd a b = true → a.length = b.length ∧ ∀ (k : Nat) (x y : Dd), a[k]? = some x → b[k]? = some y → meetF x y = true
  | [], [], _ => ⟨rfl, by simp⟩
  | [], _ :: _, h => by simp [eqDd] at h
  | _ :: _, [], h => by simp [eqDd] at h
  | c :: r, e :: r', h => by
    simp only [eqDd, Bool.and_eq_true] at h
    obtain ⟨h1, h2⟩ := eqDd_get h.2
    refine ⟨by simp [h1], fun k x y hx hy => ?_⟩
    cases k with
    | zero => simp at hx hy; subst hx; subst hy; exact h.1
    | succ k => exact h2 k x y (by simpa using hx) (by simpa using hy)
theorem dl_all (n : Net) : ∀ (ls : List Ln) (k : Nat), dlF n ls k < 0 → ∀ (j : Nat) (l : Ln), ls[j]? = some l → dlB n ((k + j : Nat) : Int) l = true
  | [], k, _, j, l, hl => by simp at hl
  | c :: r, k, h, j, l, hl => by
    rw [dlF] at h
    cases hc : dlB n k c with
    | false => rw [hc, cond_false] at h; omega
    | true =>
      rw [hc, cond_true] at h
      cases j with
      | zero => simp at hl; subst hl; simpa using hc
      | succ j => have := dl_all n r (k + 1) h j l (by simpa using hl); rwa [show k + 1 + j = k + (j + 1) by omega] at this
def cur (n : Net) (d : List Int) (w : Int) : Dd := dAt (wAt n.who w) (dn d w)
def NotDone (n : Net) (d : List Int) (w : Int) : Prop := (0 ≤ w ∧ w < n.who.length) ∧ dn d w ≠ (wAt n.who w).length
theorem cur_at {n : Net} {d : List Int} (hd : DOK n d) {w : Int} (h : NotDone n d w) {i : Int} (hi : (cur n d w).line = i) : (onF (wAt n.who w) i)[cnt n d i w]? = some (cur n d w) := by
  obtain ⟨⟨h0, h1⟩, hne⟩ := h
  have hs := cnt_succ hd h0 h1 hne (i := i)
  unfold cur at hi ⊢
  rw [show ((dAt (wAt n.who w) (dn d w)).line == i) = true by simpa using hi, cond_true] at hs
  have e : onF (wAt n.who w) i = onF ((wAt n.who w).take ((dn d w).toNat + 1)) i ++ onF ((wAt n.who w).drop ((dn d w).toNat + 1)) i := by rw [← onF_app, List.take_append_drop]
  rw [e, hs]
  unfold cnt
  rw [List.append_assoc, List.getElem?_append_right (Nat.le_refl _), Nat.sub_self]; rfl
theorem done_cnt {n : Net} {d : List Int} {w i : Int} (h : dn d w = (wAt n.who w).length) : cnt n d i w = (onF (wAt n.who w) i).length := by
  unfold cnt; rw [h]; simp
def nxt (n : Net) (d : List Int) (w : Int) : Int := oth (lnAt n.lines (cur n d w).line) w
/-- the line of one who is not done -/
theorem cur_line {n : Net} (hv : Valid n) {d : List Int} (hd : DOK n d) {w : Int} (h : NotDone n d w) : 0 ≤ (cur n d w).line ∧ (cur n d w).line < n.lines.length ∧ ((lnAt n.lines (cur n d w).line).a = w ∨ (lnAt n.lines (cur n d w).line).b = w) := by
  obtain ⟨⟨h0, h1⟩, hne⟩ := h
  obtain ⟨q1, q2⟩ := dn_ok hd h0 h1
  obtain ⟨v, hw⟩ : ∃ x, n.who[w.toNat]? = some x := ⟨_, List.getElem?_eq_getElem (by omega)⟩
  have hwv : wAt n.who w = v := by simp [wAt, hw]
  unfold cur
  rw [hwv] at hne q2 ⊢
  obtain ⟨x, hx⟩ : ∃ x, v[(dn d w).toNat]? = some x := ⟨_, List.getElem?_eq_getElem (by omega)⟩
  have hda : dAt v (dn d w) = x := by simp [dAt, hx]
  rw [hda]
  have := (hv.ds _ v hw).2 x (List.mem_of_getElem? hx)
  rwa [show ((w.toNat : Nat) : Int) = w by omega] at this
theorem partner {n : Net} (hv : Valid n) {d : List Int} (hd : DOK n d) (he : Ends n d) (ev : Even n d) (hdl : ∀ (j : Nat) (l : Ln), n.lines[j]? = some l → dlB n (j : Int) l = true) {w : Int} (h : NotDone n d w) :
    NotDone n d (nxt n d w) ∧ (cur n d (nxt n d w)).line ≠ (cur n d w).line := by
  obtain ⟨c1, c2, c3⟩ := cur_line hv hd h
  have hca := fun i hi => cur_at hd h (i := i) hi
  have hca := hca _ rfl
  unfold nxt
  generalize hi : (cur n d w).line = i at c1 c2 c3 hca
  obtain ⟨l, hl⟩ : ∃ l, n.lines[i.toNat]? = some l := ⟨_, List.getElem?_eq_getElem (by omega)⟩
  have hat : lnAt n.lines i = l := by simp [lnAt, hl]
  rw [hat] at c3 ⊢
  obtain ⟨v1, v2, v3, v4, v5⟩ := hv.ln l (List.mem_of_getElem? hl)
  have hii : ((i.toNat : Nat) : Int) = i := by omega
  have hev := ev _ l hl
  have hdb := hdl _ l hl
  have hr := he _ l hl
  rw [hii] at hev hdb hr
  obtain ⟨g1, g2⟩ := eqDd_get hdb
  have hlt := (List.getElem?_eq_some_iff.1 hca).1
  rcases c3 with e | e
  · subst e
    have ho : oth l l.a = l.b := by simp only [oth]; omega
    rw [ho]
    have hnd : NotDone n d l.b := ⟨⟨v2, v4⟩, fun q => by have := done_cnt (i := i) q; omega⟩
    refine ⟨hnd, fun q => ?_⟩
    have hcb := cur_at hd hnd q
    rw [← hev] at hcb
    have hm := g2 _ _ _ hca hcb
    have : rdyB n d i l = true := by
      unfold rdyB
      simp only [Bool.and_eq_true, Bool.not_eq_true', beq_eq_false_iff_ne, beq_iff_eq]
      exact ⟨h.2, hnd.2, hi, q, hm⟩
    rw [this] at hr; cases hr
  · subst e
    have ho : oth l l.b = l.a := by simp only [oth]; omega
    rw [ho]
    have hnd : NotDone n d l.a := ⟨⟨v1, v3⟩, fun q => by have := done_cnt (i := i) q; omega⟩
    refine ⟨hnd, fun q => ?_⟩
    have hcb := cur_at hd hnd q
    rw [hev] at hcb
    have hm := g2 _ _ _ hcb hca
    have : rdyB n d i l = true := by
      unfold rdyB
      simp only [Bool.and_eq_true, Bool.not_eq_true', beq_eq_false_iff_ne, beq_iff_eq]
      exact ⟨hnd.2, h.2, q, hi, hm⟩
    rw [this] at hr; cases hr
end TK
