/-
  DERIVED. Contracts of the functions that the law reaches, and the law itself, for every input. No conditions.
-/
import Derived.Test.YtiidmganghfnjaaT2
open Go Go.AM Go.Proofs
namespace TK
def pkF (p : Int) (m : Int) : Int := IntKind.i64.wrap ((IntKind.u64.wrap p).tmod (IntKind.u64.wrap m))
def stepK (picks l : List Int) : Int := match picks with | [] => 0 | p :: _ => pkF p l.length
def fireF (done : List Int) (l : Ln) : List Int := (done.set l.a.toNat (dn done l.a + 1)).set l.b.toNat (dn done l.b + 1)
def runG : Nat → Net → List Int → List Int → List Int → List Int × List Int
  | 0, _, _, chosen, done => (chosen, done)
  | f + 1, n, picks, chosen, done => if (rdyF n done n.lines 0).isEmpty then (chosen, done) else
      runG f n picks.tail (chosen ++ [((rdyF n done n.lines 0)[(stepK picks (rdyF n done n.lines 0)).toNat]?).getD 0]) (fireF done (lnAt n.lines (((rdyF n done n.lines 0)[(stepK picks (rdyF n done n.lines 0)).toNat]?).getD 0)))
def total (n : Net) : Nat := (n.who.map List.length).sum

theorem u64_wrap (x : Int) : 0 ≤ IntKind.u64.wrap x ∧ IntKind.u64.wrap x < 18446744073709551616 := by
  unfold IntKind.wrap; simp [IntKind.bits, IntKind.signed]; omega
theorem u64_small {x : Int} (h0 : 0 ≤ x) (h1 : x ≤ 9223372036854775807) : IntKind.u64.wrap x = x := by
  unfold IntKind.wrap; simp [IntKind.bits, IntKind.signed]; omega
theorem pk_range (p : Int) {m : Nat} (h0 : 0 < m) (h1 : m ≤ 12) : 0 ≤ pkF p m ∧ pkF p m < m := by
  unfold pkF
  have hm : IntKind.u64.wrap (m : Int) = m := u64_small (by omega) (by omega)
  rw [hm]
  have h2 := u64_wrap p
  generalize IntKind.u64.wrap p = q at h2
  have h3 : 0 ≤ q.tmod (m : Int) := Int.tmod_nonneg _ h2.1
  have h4 : q.tmod (m : Int) < m := Int.tmod_lt_of_pos _ (by omega)
  rw [wrap64 (by omega) (by omega)]; exact ⟨h3, h4⟩

theorem rdyF_mem (n : Net) (done : List Int) : ∀ (ls : List Ln) (k : Nat) (i : Int), i ∈ rdyF n done ls k → ∃ (j : Nat) (l : Ln), i = ((k + j : Nat) : Int) ∧ ls[j]? = some l ∧ rdyB n done ((k + j : Nat) : Int) l = true
  | [], k, i, h => by simp [rdyF] at h
  | l :: r, k, i, h => by
    rw [rdyF] at h
    cases hq : rdyB n done k l with
    | true =>
      rw [hq, cond_true] at h
      rcases List.mem_cons.1 h with rfl | h
      · exact ⟨0, l, rfl, rfl, hq⟩
      · obtain ⟨j, l', h1, h2, h3⟩ := rdyF_mem n done r (k + 1) i h
        exact ⟨j + 1, l', by rw [h1]; congr 1; omega, by simpa using h2, by rw [show k + (j + 1) = k + 1 + j by omega]; exact h3⟩
    | false =>
      rw [hq, cond_false] at h
      obtain ⟨j, l', h1, h2, h3⟩ := rdyF_mem n done r (k + 1) i h
      exact ⟨j + 1, l', by rw [h1]; congr 1; omega, by simpa using h2, by rw [show k + (j + 1) = k + 1 + j by omega]; exact h3⟩

theorem sum_set : ∀ (l : List Int) (i : Nat) (v x : Int), l[i]? = some x → (l.set i v).sum = l.sum - x + v
  | [], i, v, x, h => by simp at h
  | a :: r, 0, v, x, h => by simp at h; subst h; simp; omega
  | a :: r, i + 1, v, x, h => by simp at h; simp [sum_set r i v x h]; omega

theorem sum_le : ∀ (done : List Int) (who : List (List Dd)), done.length = who.length → (∀ (i : Nat) (d : Int) (w : List Dd), done[i]? = some d → who[i]? = some w → d ≤ w.length) → done.sum ≤ ((who.map List.length).sum : Nat)
  | [], [], _, _ => by simp
  | [], _ :: _, h, _ => by simp at h
  | _ :: _, [], h, _ => by simp at h
  | d :: r, w :: ws, h, hb => by
    have h1 := hb 0 d w rfl rfl
    have h2 := sum_le r ws (by simpa using h) (fun i d' w' a b => hb (i + 1) d' w' (by simpa using a) (by simpa using b))
    simp; omega

/-- what a ready line tells -/
theorem fire_bd (n : Net) (hv : Valid n) (done : List Int) (hd : DOK n done) (j : Nat) (l : Ln) (hl : n.lines[j]? = some l) (hr : rdyB n done j l = true) (da db : Int) (hda : done[l.a.toNat]? = some da) (hdb : done[l.b.toNat]? = some db) :
    0 ≤ da ∧ 0 ≤ db ∧ da < (wAt n.who l.a).length ∧ db < (wAt n.who l.b).length ∧ da ≤ 40 ∧ db ≤ 40 := by
  obtain ⟨v1, v2, v3, v4, v5⟩ := hv.ln l (List.mem_of_getElem? hl)
  have hwa : n.who[l.a.toNat]? = some (wAt n.who l.a) := by rw [wAt, List.getElem?_eq_getElem (by omega)]; rfl
  have hwb : n.who[l.b.toNat]? = some (wAt n.who l.b) := by rw [wAt, List.getElem?_eq_getElem (by omega)]; rfl
  have b1 := hd.bd _ _ _ hda hwa
  have b2 := hd.bd _ _ _ hdb hwb
  have c1 := (hv.ds _ _ hwa).1
  have c2 := (hv.ds _ _ hwb).1
  simp only [rdyB, Bool.and_eq_true, Bool.not_eq_true', beq_eq_false_iff_ne] at hr
  have e1 : dn done l.a = da := by simp [dn, hda]
  have e2 : dn done l.b = db := by simp [dn, hdb]
  rw [e1, e2] at hr
  obtain ⟨r1, r2, _⟩ := hr
  omega

theorem fire_ok (n : Net) (hv : Valid n) (done : List Int) (hd : DOK n done) (j : Nat) (l : Ln) (hl : n.lines[j]? = some l) (hr : rdyB n done j l = true) : DOK n (fireF done l) ∧ (fireF done l).sum = done.sum + 2 := by
  obtain ⟨v1, v2, v3, v4, v5⟩ := hv.ln l (List.mem_of_getElem? hl)
  have hlen := hd.len
  obtain ⟨da, hda⟩ : ∃ w, done[l.a.toNat]? = some w := ⟨_, List.getElem?_eq_getElem (by omega)⟩
  obtain ⟨db, hdb⟩ : ∃ w, done[l.b.toNat]? = some w := ⟨_, List.getElem?_eq_getElem (by omega)⟩
  have bnd := fire_bd n hv done hd j l hl hr da db hda hdb
  have e1 : dn done l.a = da := by simp [dn, hda]
  have e2 : dn done l.b = db := by simp [dn, hdb]
  unfold fireF
  rw [e1, e2]
  refine ⟨⟨by simpa using hlen, fun i d w h1 h2 => ?_⟩, ?_⟩
  · rw [List.getElem?_set] at h1
    split at h1
    · rename_i q
      subst q
      split at h1
      · have e3 : wAt n.who l.b = w := by simp [wAt, h2]
        rw [e3] at bnd
        simp at h1; omega
      · cases h1
    · rw [List.getElem?_set] at h1
      split at h1
      · rename_i q
        subst q
        split at h1
        · have e3 : wAt n.who l.a = w := by simp [wAt, h2]
          rw [e3] at bnd
          simp at h1; omega
        · cases h1
      · exact hd.bd i d w h1 h2
  · rw [sum_set _ _ _ db (by rw [List.getElem?_set, if_neg (by omega)]; exact hdb), sum_set _ _ _ da hda]; omega

def runF (n : Net) (picks : List Int) : List Int × List Int × Int := bif chkF n != 0 then ([], [], chkF n) else
  ((runG (n.lines.length + total n + 1) n picks [] (List.replicate n.who.length 0)).1, (runG (n.lines.length + total n + 1) n picks [] (List.replicate n.who.length 0)).2, 0)

theorem runG_stop {n : Net} {done : List Int} (h : rdyF n done n.lines 0 = []) : ∀ (f : Nat) (picks chosen : List Int), runG f n picks chosen done = (chosen, done)
  | 0, _, _ => rfl
  | f + 1, picks, chosen => by rw [runG, h]; rfl

theorem run_spec (n : Net) (hn : okN n) (picks : List Int) (hp : picks.length < 9223372036854775807) : APure Try.prog 8 [.p (eN n), .p (.sl 1 (picks.map vI))] (.tup [.p (.sl 1 ((runF n picks).1.map vI)), .p (.sl 1 ((runF n picks).2.1.map vI)), .p (.i .i64 (runF n picks).2.2)]) := by
  have hck := check_spec n hn
  have hrf : runF n picks = bif chkF n != 0 then ([], [], chkF n) else ((runG (n.lines.length + total n + 1) n picks [] (List.replicate n.who.length 0)).1, (runG (n.lines.length + total n + 1) n picks [] (List.replicate n.who.length 0)).2, 0) := rfl
  have hv0 : chkF n = 0 → Valid n := chk_ok
  generalize chkF n = ck at hck hrf hv0
  obtain ⟨lines, who⟩ := n
  refine APure.intro (tyOf_ok Try.prog) hmix Try.func8 rfl (by rfl) (by kernel_rfl) (by show 2 ≤ _; decide) rfl ?_
  conv => whnf
  refine apc hck ?_
  conv => whnf
  refine asplit ?_ ?_ <;> intro h1 <;> conv => whnf
  · rw [hrf, h1]; exact .inl rfl
  have hv := hv0 (by simpa using h1)
  rw [hrf, h1, cond_false]
  obtain ⟨hv8, hv12, _, _⟩ := id hv
  simp only at hv8 hv12
  have hd0 : DOK ⟨lines, who⟩ (List.replicate who.length 0) := by
    refine ⟨by simp, fun i d w h1 h2 => ?_⟩
    rw [List.getElem?_replicate] at h1
    split at h1
    · cases h1; omega
    · cases h1
  have hrd0 := ready_spec ⟨lines, who⟩ hv (List.replicate who.length 0) hd0
  have harr : List.replicate ((who.map eW).length : Int).toNat (PV.i .i64 0) = (List.replicate who.length (0 : Int)).map vI := by simp [vI]
  have htot : total ⟨lines, who⟩ ≤ 320 := by
    have : ∀ (l : List (List Dd)), (∀ w ∈ l, w.length ≤ 40) → (l.map List.length).sum ≤ 40 * l.length := by
      intro l
      induction l with
      | nil => intro _; simp
      | cons w r ih => intro h; have h1 := h w (by simp); have h2 := ih (fun x hx => h x (by simp [hx])); simp; omega
    have h2 := this who (fun w hw => by obtain ⟨i, hi⟩ := List.getElem?_of_mem hw; exact (hv.ds i w hi).1)
    unfold total; simp only; omega
  refine aneed (show _ ∧ _ ∧ ((who.map eW).length : Int) * 8 ≤ 140737488355328 from ⟨rfl, by simp, by simp; omega⟩) ?_
  rw [harr]
  conv => whnf
  refine amc [21] 0 hrd0 ?_
  conv => whnf
  refine lp_nil 9 0 rfl ?_
  refine loopS (tyOf_ok _) hmix (by kernel_rfl) (lines.length + total ⟨lines, who⟩ + 1) [1, 2, 8, 9, 10] [2, 21] (fun _ (s : List PV × List PV × List PV × List PV) => [.p (.sl 1 s.1), .ptr 2 0, .ar 21, .so 1 s.2.1, .so 1 s.2.2.2])
    (fun _ s => [.cells [.p (.sl 2 (lines.map eL)), .p (.sl 1 (who.map eW))], .arr s.2.2.1]) (fun k s => ∃ picks' chosen done l, s = (picks'.map vI, chosen.map vI, done.map vI, l.map vI) ∧ l = rdyF ⟨lines, who⟩ done lines 0 ∧ DOK ⟨lines, who⟩ done ∧ done.sum = 2 * k ∧ (chosen.length = k ∧ picks'.length ≤ picks.length) ∧
      runG (lines.length + total ⟨lines, who⟩ + 1) ⟨lines, who⟩ picks [] (List.replicate who.length 0) = runG (lines.length + total ⟨lines, who⟩ + 1 - k) ⟨lines, who⟩ picks' chosen done)
    (picks.map vI, [], (List.replicate who.length (0 : Int)).map vI, (rdyF ⟨lines, who⟩ (List.replicate who.length 0) lines 0).map vI) ⟨rfl, rfl, rfl, rfl⟩ ⟨picks, [], _, _, rfl, rfl, hd0, by simp, ⟨rfl, Nat.le_refl _⟩, rfl⟩ ?_
  rintro k s hk ⟨picks', chosen, done, l, rfl, hl, hd, hsum, ⟨hcl, hpl⟩, hrun⟩
  have hsl := sum_le done who hd.len (fun i d w a b => (hd.bd i d w a b).2)
  have hll : l.length ≤ 12 := by rw [hl]; have := rdyF_len ⟨lines, who⟩ done lines 0; omega
  have hk2 : 2 * (k : Int) ≤ total ⟨lines, who⟩ := by
    have e : total ⟨lines, who⟩ = (who.map List.length).sum := rfl
    omega
  conv => whnf
  refine asplit ?_ ?_ <;> intro g1 <;> conv => whnf
  · have hl0 : 0 < l.length := by simp at g1; exact g1
    have hne : l.isEmpty = false := by cases l with | nil => simp at hl0 | cons => rfl
    refine asplit ?_ ?_ <;> intro g2 <;> conv => whnf
    · cases picks' with
      | nil => simp at g2
      | cons p ps =>
        refine aidxi (x := vI p) (by omega) rfl ?_
        conv => whnf
        refine aneed ⟨rfl, by rw [List.length_map, u64_small (by omega) (by omega)]; omega⟩ ?_
        conv => whnf
        refine aneed ⟨by omega, by simp only [List.length_map, List.length_cons]; omega, by omega⟩ ?_
        have hsli : (((p :: ps).map vI).take (((p :: ps).map vI).length : Int).toNat).drop (1 : Int).toNat = ps.map vI := by
          rw [Int.toNat_natCast, List.take_length]; rfl
        rw [hsli]
        have hpk : IntKind.i64.wrap ((IntKind.u64.wrap p).tmod (IntKind.u64.wrap ((l.map vI).length : Int))) = pkF p l.length := by rw [List.length_map]; rfl
        rw [hpk]
        conv => whnf
        have hkk : 0 ≤ (pkF p l.length) ∧ (pkF p l.length) < (l.length : Int) := pk_range p hl0 hll
        have hstep : stepK (p :: ps) l = (pkF p l.length) := rfl
        obtain ⟨i, hi⟩ : ∃ i, l[(pkF p l.length).toNat]? = some i := ⟨_, List.getElem?_eq_getElem (by omega)⟩
        obtain ⟨j, ln, rfl, hlj, hrb⟩ := rdyF_mem ⟨lines, who⟩ done lines 0 i (hl ▸ List.mem_of_getElem? hi)
        rw [Nat.zero_add] at hi hrb
        obtain ⟨v1, v2, v3, v4, v5⟩ := hv.ln ln (List.mem_of_getElem? hlj)
        have hlt : j < lines.length := (List.getElem?_eq_some_iff.1 hlj).1
        have hat : lnAt lines (j : Int) = ln := by simp [lnAt, hlj]
        obtain ⟨hd', hsum'⟩ := fire_ok ⟨lines, who⟩ hv done hd j ln hlj hrb
        have hrun' : runG (lines.length + total ⟨lines, who⟩ + 1 - k) ⟨lines, who⟩ (p :: ps) chosen done = runG (lines.length + total ⟨lines, who⟩ + 1 - (k + 1)) ⟨lines, who⟩ (p :: ps).tail (chosen ++ [(j : Int)]) (fireF done ln) := by
          rw [show lines.length + total ⟨lines, who⟩ + 1 - k = (lines.length + total ⟨lines, who⟩ + 1 - (k + 1)) + 1 by omega, runG, ← hl, hstep]
          simp only [hne, Bool.false_eq_true, if_false, hi, Option.getD_some, hat]
        have hrd := ready_spec ⟨lines, who⟩ hv (fireF done ln) hd'
        obtain ⟨la, lb⟩ := ln
        simp only at v1 v2 v3 v4 v5
        obtain ⟨da, hda⟩ : ∃ w, done[la.toNat]? = some w := ⟨_, List.getElem?_eq_getElem (by have := hd.len; simp only at this; omega)⟩
        obtain ⟨db, hdb⟩ : ∃ w, done[lb.toNat]? = some w := ⟨_, List.getElem?_eq_getElem (by have := hd.len; simp only at this; omega)⟩
        have bnd := fire_bd ⟨lines, who⟩ hv done hd j ⟨la, lb⟩ hlj hrb da db hda hdb
        have hla : la.toNat < done.length := (List.getElem?_eq_some_iff.1 hda).1
        have hlb : lb.toNat < done.length := (List.getElem?_eq_some_iff.1 hdb).1
        have hfire : fireF done ⟨la, lb⟩ = (done.set la.toNat (da + 1)).set lb.toNat (db + 1) := by simp [fireF, dn, hda, hdb]
        have w1 : IntKind.i64.wrap (da + 1) = da + 1 := wrap64 (by omega) (by omega)
        have w2 : IntKind.i64.wrap (db + 1) = db + 1 := wrap64 (by omega) (by omega)
        have a1 : ((done.map vI).set la.toNat (PV.i .i64 (da + 1))) = (done.set la.toNat (da + 1)).map vI := by rw [List.map_set]; rfl
        have a2 : (((done.set la.toNat (da + 1)).map vI).set lb.toNat (PV.i .i64 (db + 1))) = (fireF done ⟨la, lb⟩).map vI := by rw [hfire, List.map_set (l := done.set la.toNat (da + 1))]; rfl
        have hdb2 : ((done.set la.toNat (da + 1)).map vI)[lb.toNat]? = some (vI db) := by rw [List.getElem?_map, List.getElem?_set, if_neg (by omega), hdb]; rfl
        refine aidxi (x := vI j) hkk.1 (by rw [List.getElem?_map, hi]; rfl) ?_
        conv => whnf
        refine aidxn (x := eL ⟨la, lb⟩) (by simp [hlj]) ?_
        conv => whnf
        refine aneed (by kernel_rfl) ?_
        conv => whnf
        refine aneed ⟨v1, by simpa using hla⟩ ?_
        conv => whnf
        refine aidxn (x := vI da) (by simp [hda]) ?_
        conv => whnf
        refine aneed ⟨v1, by simpa using hla⟩ ?_
        conv => whnf
        refine aneed (by simpa using hla) ?_
        rw [w1, a1]
        conv => whnf
        refine aneed ⟨v2, by simpa using hlb⟩ ?_
        conv => whnf
        refine aidxn (x := vI db) hdb2 ?_
        conv => whnf
        refine aneed ⟨v2, by simpa using hlb⟩ ?_
        conv => whnf
        refine aneed (by simpa using hlb) ?_
        rw [w2, a2]
        conv => whnf
        refine aidxi (x := vI j) hkk.1 (by rw [List.getElem?_map, hi]; rfl) ?_
        conv => whnf
        refine aneed (show ((chosen.map vI).length + 1) * 8 ≤ 140737488355328 by simp; omega) ?_
        conv => whnf
        refine amc [21] 0 hrd ?_
        conv => whnf
        refine ⟨by omega, ((p :: ps).tail.map vI, chosen.map vI ++ [vI (j : Int)], (fireF done ⟨la, lb⟩).map vI, (rdyF ⟨lines, who⟩ (fireF done ⟨la, lb⟩) lines 0).map vI), ⟨rfl, rfl, rfl, rfl⟩, (p :: ps).tail, chosen ++ [(j : Int)], fireF done ⟨la, lb⟩, _, ?_, rfl, hd', ?_, ?_, ?_⟩
        · rw [List.map_append]; rfl
        · rw [hsum', hsum]; omega
        · exact ⟨by simp [hcl], by first | (simp at hpl ⊢; omega) | simp⟩
        · rw [hrun, hrun']
    · cases picks' with
      | cons p ps => simp at g2
      | nil =>
        have hkk : 0 ≤ (0 : Int) ∧ (0 : Int) < (l.length : Int) := ⟨by omega, by omega⟩
        have hstep : stepK ([] : List Int) l = (0 : Int) := rfl
        obtain ⟨i, hi⟩ : ∃ i, l[(0 : Int).toNat]? = some i := ⟨_, List.getElem?_eq_getElem (by omega)⟩
        obtain ⟨j, ln, rfl, hlj, hrb⟩ := rdyF_mem ⟨lines, who⟩ done lines 0 i (hl ▸ List.mem_of_getElem? hi)
        rw [Nat.zero_add] at hi hrb
        obtain ⟨v1, v2, v3, v4, v5⟩ := hv.ln ln (List.mem_of_getElem? hlj)
        have hlt : j < lines.length := (List.getElem?_eq_some_iff.1 hlj).1
        have hat : lnAt lines (j : Int) = ln := by simp [lnAt, hlj]
        obtain ⟨hd', hsum'⟩ := fire_ok ⟨lines, who⟩ hv done hd j ln hlj hrb
        have hrun' : runG (lines.length + total ⟨lines, who⟩ + 1 - k) ⟨lines, who⟩ ([] : List Int) chosen done = runG (lines.length + total ⟨lines, who⟩ + 1 - (k + 1)) ⟨lines, who⟩ ([] : List Int).tail (chosen ++ [(j : Int)]) (fireF done ln) := by
          rw [show lines.length + total ⟨lines, who⟩ + 1 - k = (lines.length + total ⟨lines, who⟩ + 1 - (k + 1)) + 1 by omega, runG, ← hl, hstep]
          simp only [hne, Bool.false_eq_true, if_false, hi, Option.getD_some, hat]
        have hrd := ready_spec ⟨lines, who⟩ hv (fireF done ln) hd'
        obtain ⟨la, lb⟩ := ln
        simp only at v1 v2 v3 v4 v5
        obtain ⟨da, hda⟩ : ∃ w, done[la.toNat]? = some w := ⟨_, List.getElem?_eq_getElem (by have := hd.len; simp only at this; omega)⟩
        obtain ⟨db, hdb⟩ : ∃ w, done[lb.toNat]? = some w := ⟨_, List.getElem?_eq_getElem (by have := hd.len; simp only at this; omega)⟩
        have bnd := fire_bd ⟨lines, who⟩ hv done hd j ⟨la, lb⟩ hlj hrb da db hda hdb
        have hla : la.toNat < done.length := (List.getElem?_eq_some_iff.1 hda).1
        have hlb : lb.toNat < done.length := (List.getElem?_eq_some_iff.1 hdb).1
        have hfire : fireF done ⟨la, lb⟩ = (done.set la.toNat (da + 1)).set lb.toNat (db + 1) := by simp [fireF, dn, hda, hdb]
        have w1 : IntKind.i64.wrap (da + 1) = da + 1 := wrap64 (by omega) (by omega)
        have w2 : IntKind.i64.wrap (db + 1) = db + 1 := wrap64 (by omega) (by omega)
        have a1 : ((done.map vI).set la.toNat (PV.i .i64 (da + 1))) = (done.set la.toNat (da + 1)).map vI := by rw [List.map_set]; rfl
        have a2 : (((done.set la.toNat (da + 1)).map vI).set lb.toNat (PV.i .i64 (db + 1))) = (fireF done ⟨la, lb⟩).map vI := by rw [hfire, List.map_set (l := done.set la.toNat (da + 1))]; rfl
        have hdb2 : ((done.set la.toNat (da + 1)).map vI)[lb.toNat]? = some (vI db) := by rw [List.getElem?_map, List.getElem?_set, if_neg (by omega), hdb]; rfl
        refine aidxi (x := vI j) hkk.1 (by rw [List.getElem?_map, hi]; rfl) ?_
        conv => whnf
        refine aidxn (x := eL ⟨la, lb⟩) (by simp [hlj]) ?_
        conv => whnf
        refine aneed (by kernel_rfl) ?_
        conv => whnf
        refine aneed ⟨v1, by simpa using hla⟩ ?_
        conv => whnf
        refine aidxn (x := vI da) (by simp [hda]) ?_
        conv => whnf
        refine aneed ⟨v1, by simpa using hla⟩ ?_
        conv => whnf
        refine aneed (by simpa using hla) ?_
        rw [w1, a1]
        conv => whnf
        refine aneed ⟨v2, by simpa using hlb⟩ ?_
        conv => whnf
        refine aidxn (x := vI db) hdb2 ?_
        conv => whnf
        refine aneed ⟨v2, by simpa using hlb⟩ ?_
        conv => whnf
        refine aneed (by simpa using hlb) ?_
        rw [w2, a2]
        conv => whnf
        refine aidxi (x := vI j) hkk.1 (by rw [List.getElem?_map, hi]; rfl) ?_
        conv => whnf
        refine aneed (show ((chosen.map vI).length + 1) * 8 ≤ 140737488355328 by simp; omega) ?_
        conv => whnf
        refine amc [21] 0 hrd ?_
        conv => whnf
        refine ⟨by omega, (([] : List Int).tail.map vI, chosen.map vI ++ [vI (j : Int)], (fireF done ⟨la, lb⟩).map vI, (rdyF ⟨lines, who⟩ (fireF done ⟨la, lb⟩) lines 0).map vI), ⟨rfl, rfl, rfl, rfl⟩, ([] : List Int).tail, chosen ++ [(j : Int)], fireF done ⟨la, lb⟩, _, ?_, rfl, hd', ?_, ?_, ?_⟩
        · rw [List.map_append]; rfl
        · rw [hsum', hsum]; omega
        · exact ⟨by simp [hcl], by first | (simp at hpl ⊢; omega) | simp⟩
        · rw [hrun, hrun']
  · have hl0 : l = [] := by cases l with | nil => rfl | cons a r => simp at g1
    rw [hl0] at hl
    have : runG (lines.length + total ⟨lines, who⟩ + 1) ⟨lines, who⟩ picks [] (List.replicate who.length 0) = (chosen, done) := by rw [hrun, runG_stop hl.symm]
    simp only [this]
    exact .inr (.inr ⟨rfl, trivial⟩)
end TK
