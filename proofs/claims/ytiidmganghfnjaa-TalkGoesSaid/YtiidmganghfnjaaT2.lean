/-
  DERIVED. Contracts of the functions that the law reaches, and the law itself, for every input. No conditions.
-/
import Derived.Test.YtiidmganghfnjaaT1
open Go Go.AM Go.Proofs
namespace TK
/-! what Check tells -/
structure Valid (n : Net) : Prop where
  w8 : n.who.length ≤ 8
  l12 : n.lines.length ≤ 12
  ln : ∀ l ∈ n.lines, 0 ≤ l.a ∧ 0 ≤ l.b ∧ l.a < n.who.length ∧ l.b < n.who.length ∧ l.a ≠ l.b
  ds : ∀ (w : Nat) (ds : List Dd), n.who[w]? = some ds → ds.length ≤ 40 ∧ ∀ d ∈ ds, 0 ≤ d.line ∧ d.line < n.lines.length ∧ ((lnAt n.lines d.line).a = w ∨ (lnAt n.lines d.line).b = w)

theorem dds_ok {lines : List Ln} {w : Int} : ∀ {ds : List Dd}, ddsF lines w ds = 0 → ∀ d ∈ ds, 0 ≤ d.line ∧ d.line < lines.length ∧ ((lnAt lines d.line).a = w ∨ (lnAt lines d.line).b = w)
  | [], _, d, hd => by cases hd
  | c :: r, h, d, hd => by
    rw [ddsF] at h
    cases h1 : ddBad lines.length c with
    | true => rw [h1] at h; simp at h
    | false =>
      rw [h1, cond_false] at h
      cases h2 : notOn lines w c with
      | true => rw [h2] at h; simp at h
      | false =>
        rw [h2, cond_false] at h
        rcases List.mem_cons.1 hd with rfl | hd
        · simp only [ddBad, Bool.or_eq_false_iff, decide_eq_false_iff_not] at h1
          simp only [notOn, Bool.and_eq_false_iff, bne_eq_false_iff_eq] at h2
          exact ⟨by omega, by omega, h2⟩
        · exact dds_ok h d hd
theorem who_ok {lines : List Ln} : ∀ {who : List (List Dd)} {k : Nat}, whoF lines who k = 0 → ∀ (w : Nat) (ds : List Dd), who[w]? = some ds → ds.length ≤ 40 ∧ ddsF lines ((k + w : Nat) : Int) ds = 0
  | [], k, _, w, ds, hw => by simp at hw
  | c :: r, k, h, w, ds, hw => by
    rw [whoF] at h
    cases h1 : decide ((c.length : Int) > 40) with
    | true => rw [h1] at h; simp at h
    | false =>
      rw [h1, cond_false] at h
      cases h2 : ddsF lines k c != 0 with
      | true => rw [h2, cond_true] at h; simp [h] at h2
      | false =>
        rw [h2, cond_false] at h
        cases w with
        | zero => simp at hw; subst hw; exact ⟨by have := of_decide_eq_false h1; omega, by simpa using h2⟩
        | succ w => simp at hw; have := who_ok h w ds hw; rwa [show k + 1 + w = k + (w + 1) by omega] at this
theorem lns_ok {n : Net} : ∀ {ls : List Ln}, lnsF n ls = 0 → (∀ l ∈ ls, lnBad n.who.length l = false) ∧ whoF n.lines n.who 0 = 0
  | [], h => ⟨by simp, h⟩
  | l :: r, h => by
    rw [lnsF] at h
    cases h1 : lnBad n.who.length l with
    | true => rw [h1] at h; simp at h
    | false =>
      rw [h1, cond_false] at h
      obtain ⟨q1, q2⟩ := lns_ok h
      exact ⟨fun x hx => by rcases List.mem_cons.1 hx with rfl | hx; exact h1; exact q1 x hx, q2⟩
theorem chk_ok {n : Net} (h : chkF n = 0) : Valid n := by
  unfold chkF at h
  cases h1 : (decide ((n.who.length : Int) > 8) || decide ((n.lines.length : Int) > 12)) with
  | true => rw [h1] at h; simp at h
  | false =>
    rw [h1, cond_false] at h
    simp only [Bool.or_eq_false_iff, decide_eq_false_iff_not] at h1
    obtain ⟨q1, q2⟩ := lns_ok h
    refine ⟨by omega, by omega, fun l hl => ?_, fun w ds hw => ?_⟩
    · have := q1 l hl
      simp only [lnBad, Bool.or_eq_false_iff, decide_eq_false_iff_not, beq_eq_false_iff_ne] at this
      exact ⟨by omega, by omega, by omega, by omega, by omega⟩
    · obtain ⟨k1, k2⟩ := who_ok q2 w ds hw
      rw [Nat.zero_add] at k2
      exact ⟨k1, dds_ok k2⟩

/-! the contracts -/
def meetF (a b : Dd) : Bool := (a.msg == b.msg) && !(a.send == b.send)
theorem meet_spec (a b : Dd) : APure Try.prog 17 [.p (eDd a), .p (eDd b)] (.p (.b (meetF a b))) := by
  obtain ⟨al, as', am⟩ := a
  obtain ⟨bl, bs, bm⟩ := b
  refine APure.intro (tyOf_ok Try.prog) hmix Try.func17 rfl (by rfl) (by kernel_rfl) (by show 2 ≤ _; decide) rfl ?_
  conv => whnf
  refine asplit ?_ ?_ <;> intro h1 <;> conv => whnf
  · exact .inl (pb (by dsimp only at h1; simp only [meetF, h1, Bool.true_and]))
  · exact .inl (pb (by dsimp only at h1; simp only [meetF, h1, Bool.false_and]))

/-- slices.Equal of numbers -/
def eqIs : List Int → List Int → Bool
  | [], [] => true
  | x :: r, y :: r' => (x == y) && eqIs r r'
  | _, _ => false
theorem eqIs_iff : ∀ (a b : List Int), eqIs a b = true ↔ a = b
  | [], [] => by simp [eqIs]
  | [], _ :: _ => by simp [eqIs]
  | _ :: _, [] => by simp [eqIs]
  | x :: r, y :: r' => by simp [eqIs, eqIs_iff r r']
theorem eqIs_len : ∀ (a b : List Int), a.length ≠ b.length → eqIs a b = false := by
  intro a b h
  cases hq : eqIs a b with
  | false => rfl
  | true => rw [(eqIs_iff a b).1 hq] at h; exact absurd rfl h
theorem equalI_spec (a b : List Int) (ha : a.length < 9223372036854775807) : APure Try.prog 9 [.p (.sl 1 (a.map vI)), .p (.sl 1 (b.map vI))] (.p (.b (eqIs a b))) := by
  refine APure.intro (tyOf_ok Try.prog) hmix Try.func9 rfl (by rfl) (by kernel_rfl) (by show 2 ≤ _; decide) rfl ?_
  conv => whnf
  refine asplit ?_ ?_ <;> intro h1 <;> conv => whnf
  · exact .inl (pb (eqIs_len a b (by simp at h1; omega)).symm)
  have hl : a.length = b.length := by simp at h1; omega
  refine loopS (tyOf_ok _) hmix (by kernel_rfl) a.length [0, 1, 11, 12, 13] [] (fun k _ => [.p (.sl 1 (a.map vI)), .p (.sl 1 (b.map vI)), .p (.sl 1 (a.map vI)), .p (.i .i64 (a.map vI).length), .p (.i .i64 (ix k))])
    (fun _ _ => []) (fun k _ => eqIs a b = eqIs (a.drop k) (b.drop k)) () ⟨rfl, rfl, rfl, rfl⟩ rfl ?_
  intro k _ hk hs
  conv => whnf
  refine asplit ?_ ?_ <;> intro g1 <;> conv => whnf
  · have hk1 := ix_tt g1 (by simp) hk ha
    obtain ⟨x, hx⟩ : ∃ x, a[k]? = some x := ⟨a[k], by simp [hk1]⟩
    obtain ⟨y, hy⟩ : ∃ x, b[k]? = some x := ⟨b[k], by simp [← hl, hk1]⟩
    rw [drop_cons hx, drop_cons hy, eqIs] at hs
    refine aidxk (x := vI x) (by simp [hx]) (by omega) ?_
    conv => whnf
    refine aidxk (x := vI y) (by simp [hy]) (by omega) ?_
    conv => whnf
    refine aneed (by kernel_rfl) ?_
    conv => whnf
    refine asplit ?_ ?_ <;> intro g2 <;> conv => whnf
    · exact .inl (pb (by rw [hs]; have : (x == y) = false := by simpa using g2
                         rw [this]; rfl))
    · exact ⟨hk1, (), ⟨rfl, rfl, rfl, rfl⟩, by rw [hs]; have : (x == y) = true := by simpa using g2
                                               rw [this]; rfl⟩
  · have hk1 := ix_ff g1 (by simp) hk ha
    rw [List.drop_eq_nil_of_le (by omega), List.drop_eq_nil_of_le (by omega)] at hs
    exact .inl (pb (by rw [hs]; rfl))

def wAt (who : List (List Dd)) (i : Int) : List Dd := (who[i.toNat]?).getD []
def dAt (ds : List Dd) (k : Int) : Dd := (ds[k.toNat]?).getD ⟨0, false, 0⟩
def dn (done : List Int) (i : Int) : Int := (done[i.toNat]?).getD 0
def rdyB (n : Net) (done : List Int) (i : Int) (l : Ln) : Bool :=
  !(dn done l.a == ((wAt n.who l.a).length : Int)) && (!(dn done l.b == ((wAt n.who l.b).length : Int)) &&
    (((dAt (wAt n.who l.a) (dn done l.a)).line == i) && (((dAt (wAt n.who l.b) (dn done l.b)).line == i) && meetF (dAt (wAt n.who l.a) (dn done l.a)) (dAt (wAt n.who l.b) (dn done l.b)))))
def rdyF (n : Net) (done : List Int) : List Ln → Nat → List Int
  | [], _ => []
  | l :: r, k => bif rdyB n done k l then (k : Int) :: rdyF n done r (k + 1) else rdyF n done r (k + 1)
theorem rdyF_len (n : Net) (done : List Int) : ∀ (ls : List Ln) (k : Nat), (rdyF n done ls k).length ≤ ls.length
  | [], k => by simp [rdyF]
  | l :: r, k => by
    rw [rdyF]
    have := rdyF_len n done r (k + 1)
    cases rdyB n done k l <;> simp <;> omega
/-- a state of a run: how much each has done -/
structure DOK (n : Net) (done : List Int) : Prop where
  len : done.length = n.who.length
  bd : ∀ (i : Nat) (d : Int) (w : List Dd), done[i]? = some d → n.who[i]? = some w → 0 ≤ d ∧ d ≤ w.length

theorem ready_spec (n : Net) (hv : Valid n) (done : List Int) (hd : DOK n done) :
    AMem Try.prog 14 [.p (eN n), .ar 1000000000] [(1000000000, .arr (done.map vI))] (.so 1 ((rdyF n done n.lines 0).map vI)) [(1000000000, .arr (done.map vI))] := by
  obtain ⟨hv1, hv2, hv3, hv4⟩ := hv
  obtain ⟨hd1, hd2⟩ := hd
  obtain ⟨lines, who⟩ := n
  simp only at hv1 hv2 hv3 hv4 hd1 hd2
  refine AMem.intro (tyOf_ok Try.prog) hmix Try.func14 rfl (by rfl) (by kernel_rfl) (by show 2 ≤ _; decide) rfl ?_
  conv => whnf
  refine lp_nil 5 0 rfl ?_
  refine loopS (tyOf_ok _) hmix (by kernel_rfl) lines.length [1, 2, 5, 11, 12, 13] [2, 1000000000] (fun k s => [.ar 1000000000, .ptr 2 0, .so 1 s, .p (.sl 2 (lines.map eL)), .p (.i .i64 (lines.map eL).length), .p (.i .i64 (ix k))])
    (fun _ _ => [.cells [.p (.sl 2 (lines.map eL)), .p (.sl 1 (who.map eW))], .arr (done.map vI)]) (fun k s => s.length ≤ k ∧ (rdyF ⟨lines, who⟩ done lines 0).map vI = s ++ (rdyF ⟨lines, who⟩ done (lines.drop k) k).map vI) [] ⟨rfl, rfl, rfl, rfl⟩ ⟨Nat.le_refl _, rfl⟩ ?_
  rintro k s hk ⟨hsl, hs⟩
  conv => whnf
  refine asplit ?_ ?_ <;> intro g1 <;> conv => whnf
  · have hk1 := ix_tt g1 (by simp) hk (by omega)
    obtain ⟨b, hb1⟩ : ∃ b, lines[k]? = some b := ⟨lines[k], by simp [hk1]⟩
    obtain ⟨v1, v2, v3, v4, v5⟩ := hv3 b (List.mem_of_getElem? hb1)
    refine aidxk (x := eL b) (by simp [hb1]) (by omega) ?_
    rw [drop_cons hb1, rdyF] at hs
    obtain ⟨la, lb⟩ := b
    simp only at v1 v2 v3 v4 v5
    obtain ⟨wa, hwa⟩ : ∃ w, who[la.toNat]? = some w := ⟨_, List.getElem?_eq_getElem (by omega)⟩
    obtain ⟨wb, hwb⟩ : ∃ w, who[lb.toNat]? = some w := ⟨_, List.getElem?_eq_getElem (by omega)⟩
    obtain ⟨da, hda⟩ : ∃ w, done[la.toNat]? = some w := ⟨_, List.getElem?_eq_getElem (by omega)⟩
    obtain ⟨db, hdb⟩ : ∃ w, done[lb.toNat]? = some w := ⟨_, List.getElem?_eq_getElem (by omega)⟩
    have ba := hd2 _ _ _ hda hwa
    have bb := hd2 _ _ _ hdb hwb
    have ra : wAt who la = wa := by simp [wAt, hwa]
    have rb : wAt who lb = wb := by simp [wAt, hwb]
    have rda : dn done la = da := by simp [dn, hda]
    have rdb : dn done lb = db := by simp [dn, hdb]
    rw [rdyB, ra, rb, rda, rdb] at hs
    conv => whnf
    refine aneed ⟨v1, by simp; omega⟩ ?_
    conv => whnf
    refine aidxn (x := vI da) (by simp [hda]) ?_
    conv => whnf
    refine aidxi (x := eW wa) v1 (by simp [hwa]) ?_
    conv => whnf
    refine asplit ?_ ?_ <;> intro g2 <;> conv => whnf
    · refine aneed (by kernel_rfl) ?_
      conv => whnf
      simp only [List.length_map] at g2
      rw [g2] at hs
      exact ⟨hk1, _, ⟨rfl, rfl, rfl, rfl⟩, by omega, hs⟩
    simp only [List.length_map] at g2
    rw [g2] at hs
    have g2' : da ≠ wa.length := by simpa using g2
    refine aneed ⟨v2, by simp; omega⟩ ?_
    conv => whnf
    refine aidxn (x := vI db) (by simp [hdb]) ?_
    conv => whnf
    refine aidxi (x := eW wb) v2 (by simp [hwb]) ?_
    conv => whnf
    refine aneed (by kernel_rfl) ?_
    conv => whnf
    refine asplit ?_ ?_ <;> intro g3 <;> conv => whnf
    · simp only [List.length_map] at g3
      rw [g3] at hs
      exact ⟨hk1, _, ⟨rfl, rfl, rfl, rfl⟩, by omega, hs⟩
    simp only [List.length_map] at g3
    rw [g3] at hs
    have g3' : db ≠ wb.length := by simpa using g3
    obtain ⟨x, hx⟩ : ∃ x, wa[da.toNat]? = some x := ⟨_, List.getElem?_eq_getElem (by omega)⟩
    obtain ⟨y, hy⟩ : ∃ x, wb[db.toNat]? = some x := ⟨_, List.getElem?_eq_getElem (by omega)⟩
    have rx : dAt wa da = x := by simp [dAt, hx]
    have ry : dAt wb db = y := by simp [dAt, hy]
    rw [rx, ry] at hs
    have hm := meet_spec x y
    generalize meetF x y = mt at hm hs
    refine aidxi (x := eW wa) v1 (by simp [hwa]) ?_
    conv => whnf
    refine aneed ⟨v1, by simp; omega⟩ ?_
    conv => whnf
    refine aidxn (x := vI da) (by simp [hda]) ?_
    conv => whnf
    refine aidxi (x := eDd x) ba.1 (by simp [hx]) ?_
    obtain ⟨xl, xs, xm⟩ := x
    conv => whnf
    refine aidxi (x := eW wb) v2 (by simp [hwb]) ?_
    conv => whnf
    refine aneed ⟨v2, by simp; omega⟩ ?_
    conv => whnf
    refine aidxn (x := vI db) (by simp [hdb]) ?_
    conv => whnf
    refine aidxi (x := eDd y) bb.1 (by simp [hy]) ?_
    obtain ⟨yl, ys, ym⟩ := y
    conv => whnf
    refine aneed (by kernel_rfl) ?_
    conv => whnf
    have hik : ix k = k := ix_eq (by omega)
    refine asplit ?_ ?_ <;> intro g4 <;> conv => whnf
    · refine asplit ?_ ?_ <;> intro g5 <;> conv => whnf
      · refine apc hm ?_
        conv => whnf
        refine asplit ?_ ?_ <;> intro g6 <;> conv => whnf
        · refine aneed (show (s.length + 1) * 8 ≤ 140737488355328 by omega) ?_
          conv => whnf
          refine ⟨hk1, _, ⟨rfl, rfl, rfl, rfl⟩, by simp; omega, ?_⟩
          dsimp only at g4 g5
          rw [hik] at g4 g5 ⊢
          rw [hs, g4, g5, g6]
          simp [vI]
        · dsimp only at g4 g5
          rw [hik] at g4 g5
          exact ⟨hk1, _, ⟨rfl, rfl, rfl, rfl⟩, by omega, by rw [hs, g4, g5, g6]; rfl⟩
      · dsimp only at g4 g5
        rw [hik] at g4 g5
        exact ⟨hk1, _, ⟨rfl, rfl, rfl, rfl⟩, by omega, by rw [hs, g4, g5]; rfl⟩
    · dsimp only at g4
      rw [hik] at g4
      exact ⟨hk1, _, ⟨rfl, rfl, rfl, rfl⟩, by omega, by rw [hs, g4]; rfl⟩
  · have hk1 := ix_ff g1 (by simp) hk (by omega)
    rw [List.drop_eq_nil_of_le (by omega)] at hs
    simp only [rdyF, List.map_nil, List.append_nil] at hs
    have : s = (rdyF ⟨lines, who⟩ done lines 0).map vI := hs.symm
    subst this
    exact ⟨.inl rfl, rfl, trivial⟩
end TK
