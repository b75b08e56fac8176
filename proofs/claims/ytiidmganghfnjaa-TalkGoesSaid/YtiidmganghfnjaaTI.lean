/-
  DERIVED. Contracts of the functions that the law reaches, and the law itself, for every input. No conditions.
-/
import Derived.Test.YtiidmganghfnjaaTH
open Go Go.AM Go.Proofs
namespace TK
def it (n : Net) (d : List Int) (w : Int) : Nat → Int
  | 0 => w
  | t + 1 => nxt n d (it n d w t)
theorem it_add (n : Net) (d : List Int) (w : Int) (s : Nat) : ∀ t, it n d w (s + t) = it n d (it n d w s) t
  | 0 => rfl
  | t + 1 => by rw [← Nat.add_assoc, it, it, it_add n d w s t]
section
variable {n : Net} (hv : Valid n) {d : List Int} (hd : DOK n d) (he : Ends n d) (ev : Even n d) (hdl : ∀ (j : Nat) (l : Ln), n.lines[j]? = some l → dlB n (j : Int) l = true)
  (hrg : ∀ (j : Nat) (l : Ln), n.lines[j]? = some l → (pathF n l.b l.a (j : Int)).2 = false)
include hv hd he ev hdl
theorem it_nd {w : Int} (h : NotDone n d w) : ∀ t, NotDone n d (it n d w t)
  | 0 => h
  | t + 1 => (partner hv hd he ev hdl (it_nd h t)).1
include hrg
theorem no_return {w : Int} (h : NotDone n d w) : ∀ t, it n d w (t + 1) ≠ w := by
  obtain ⟨c1, c2, c3⟩ := cur_line hv hd h
  obtain ⟨p1, p2⟩ := partner hv hd he ev hdl h
  generalize hi : (cur n d w).line = i at c1 c2 c3 p2
  obtain ⟨l, hl⟩ : ∃ l, n.lines[i.toNat]? = some l := ⟨_, List.getElem?_eq_getElem (by omega)⟩
  have hat : lnAt n.lines i = l := by simp [lnAt, hl]
  have hii : ((i.toNat : Nat) : Int) = i := by omega
  obtain ⟨K, k1, k2, k3⟩ := path_none n l.b l.a _ (hrg _ l hl)
  rw [hii] at k3
  have hn : nxt n d w = oth l w := by rw [nxt, hi, hat]
  rw [hat] at c3
  rw [hn] at p1 p2
  -- the two ends lie on different sides
  have hside : ¬ (w ∈ K ↔ oth l w ∈ K) := by
    rcases c3 with e | e
    · rw [← e, show oth l l.a = l.b by simp only [oth]; omega]
      exact fun q => k2 (q.2 k1)
    · rw [← e, show oth l l.b = l.a by simp only [oth]; omega]
      exact fun q => k2 (q.1 k1)
  have stay : ∀ t, it n d w (t + 1) ∈ K ↔ oth l w ∈ K := by
    intro t
    induction t with
    | zero => rw [it, it, hn]
    | succ t ih =>
      have hx := it_nd hv hd he ev hdl h (t + 1)
      rw [it]
      generalize it n d w (t + 1) = x at ih hx
      obtain ⟨x1, x2, x3⟩ := cur_line hv hd hx
      rw [← ih, nxt]
      generalize hci : (cur n d x).line = c at x1 x2 x3
      obtain ⟨l', hl'⟩ : ∃ l', n.lines[c.toNat]? = some l' := ⟨_, List.getElem?_eq_getElem (by omega)⟩
      have hat' : lnAt n.lines c = l' := by simp [lnAt, hl']
      rw [hat'] at x3 ⊢
      by_cases hc : c = i
      · exfalso
        subst hc
        rw [hl] at hl'; cases hl'
        have hxw : x = w ∨ x = oth l w := by
          simp only [oth]; omega
        rcases hxw with e | e
        · subst e; exact hside ih
        · rw [e] at hci; exact p2 hci
      · have hcj : ((c.toNat : Nat) : Int) = c := by omega
        have o1 : oth l' (oth l' x) = x := by simp only [oth]; omega
        constructor
        · intro q
          have := k3 _ q c.toNat l' hl' (by rw [hcj]; exact hc) (by simp only [oth]; omega)
          rwa [o1] at this
        · intro q
          exact k3 _ q c.toNat l' hl' (by rw [hcj]; exact hc) x3
  intro t q
  have := stay t
  rw [q] at this
  exact hside this
theorem all_done (w : Int) (h0 : 0 ≤ w) (h1 : w < n.who.length) : dn d w = (wAt n.who w).length := by
  apply Classical.byContradiction
  intro hne
  have h : NotDone n d w := ⟨⟨h0, h1⟩, hne⟩
  have hnd := fun t => it_nd hv hd he ev hdl h t
  have hinj : ∀ s t, s < t → it n d w s ≠ it n d w t := by
    intro s t hst q
    obtain ⟨r, rfl⟩ : ∃ r, t = s + (r + 1) := ⟨t - s - 1, by omega⟩
    rw [it_add] at q
    exact no_return hv hd he ev hdl hrg (hnd s) r q.symm
  have hl : ((List.range 9).map fun t => (it n d w t).toNat).Nodup := by
    rw [List.nodup_iff_pairwise_ne, List.pairwise_map]
    refine List.Pairwise.imp ?_ List.pairwise_lt_range
    intro s t hst q
    have a := (hnd s).1
    have b := (hnd t).1
    exact hinj s t hst (by omega)
  have := nodup_le n.who.length _ hl (fun x hx => by
    obtain ⟨t, _, rfl⟩ := List.mem_map.1 hx
    have := (hnd t).1; omega)
  have := hv.w8
  simp at *
  omega
end
end TK
