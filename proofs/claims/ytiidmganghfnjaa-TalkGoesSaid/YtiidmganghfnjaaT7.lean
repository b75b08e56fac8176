/-
  DERIVED. Contracts of the functions that the law reaches, and the law itself, for every input. No conditions.
-/
import Derived.Test.YtiidmganghfnjaaT4
open Go Go.AM Go.Proofs
namespace TK
/-- whom a process waits for -/
def waitF (n : Net) (w : Nat) (k : Int) : Int := bif k == ((wAt n.who w).length : Int) then -1 else
  (lnAt n.lines (dAt (wAt n.who w) k).line).a + (lnAt n.lines (dAt (wAt n.who w) k).line).b - w
def waitsF (n : Net) : List Int → Nat → List Int
  | [], _ => []
  | k :: r, w => waitF n w k :: waitsF n r (w + 1)
theorem waitsF_get (n : Net) : ∀ (l : List Int) (w i : Nat), (waitsF n l w)[i]? = (l[i]?).map (waitF n (w + i))
  | [], w, i => by simp [waitsF]
  | k :: r, w, 0 => by simp [waitsF]
  | k :: r, w, i + 1 => by simp [waitsF, waitsF_get n r (w + 1) i, show w + 1 + i = w + (i + 1) by omega]
theorem waitsF_len (n : Net) : ∀ (l : List Int) (w : Nat), (waitsF n l w).length = l.length
  | [], w => rfl
  | k :: r, w => by simp [waitsF, waitsF_len n r (w + 1)]

theorem waits_spec (n : Net) (hn : okN n) (hc : chkF n = 0) (d : List Int) (hd : DOK n d) : APure Try.prog 10 [.p (eN n), .p (.sl 1 (d.map vI))] (.tup [.p (.sl 1 ((waitsF n d 0).map vI)), .p (.i .i64 0)]) := by
  have hck := check_spec n hn
  rw [hc] at hck
  have hv := chk_ok hc
  obtain ⟨lines, who⟩ := n
  obtain ⟨hd1, hd2⟩ := id hd
  obtain ⟨hv8, hv12, hv3, hv4⟩ := id hv
  simp only at hd1 hd2 hv8 hv12 hv3 hv4
  refine APure.intro (tyOf_ok Try.prog) hmix Try.func10 rfl (by rfl) (by kernel_rfl) (by show 2 ≤ _; decide) rfl ?_
  conv => whnf
  refine apc hck ?_
  conv => whnf
  refine asf (by simp [hd1]) ?_
  conv => whnf
  refine lp_nil 7 0 rfl ?_
  refine loopS (tyOf_ok _) hmix (by kernel_rfl) d.length [2, 7, 22, 23, 24] [2] (fun k s => [.ptr 2 0, .so 1 s, .p (.sl 1 (d.map vI)), .p (.i .i64 (d.map vI).length), .p (.i .i64 (ix k))])
    (fun _ _ => [.cells [.p (.sl 2 (lines.map eL)), .p (.sl 1 (who.map eW))]]) (fun k s => s.length = k ∧ (waitsF ⟨lines, who⟩ d 0).map vI = s ++ (waitsF ⟨lines, who⟩ (d.drop k) k).map vI) [] ⟨rfl, rfl, rfl, rfl⟩ ⟨rfl, rfl⟩ ?_
  rintro k s hk ⟨hsl, hs⟩
  conv => whnf
  refine asplit ?_ ?_ <;> intro g1 <;> conv => whnf
  · have hk1 := ix_tt g1 (by simp) hk (by omega)
    obtain ⟨x, hx⟩ : ∃ x, d[k]? = some x := ⟨d[k], by simp [hk1]⟩
    obtain ⟨w, hw⟩ : ∃ w, who[k]? = some w := ⟨_, List.getElem?_eq_getElem (by omega)⟩
    have bx := hd2 k x w hx hw
    have hwk : wAt who k = w := by simp [wAt, hw]
    rw [drop_cons hx, waitsF] at hs
    have hwf : waitF ⟨lines, who⟩ k x = bif x == (w.length : Int) then -1 else (lnAt lines (dAt w x).line).a + (lnAt lines (dAt w x).line).b - k := by unfold waitF; simp only [hwk]
    have hik : ix k = k := ix_eq (by omega)
    refine aidxk (x := vI x) (by simp [hx]) (by omega) ?_
    conv => whnf
    refine asf (by simp; omega) ?_
    conv => whnf
    refine aidxk (x := eW w) (by simp [hw]) (by omega) ?_
    conv => whnf
    refine asf (by simp; omega) ?_
    conv => whnf
    refine aidxk (x := eW w) (by simp [hw]) (by omega) ?_
    conv => whnf
    refine asplit ?_ ?_ <;> intro g2 <;> conv => whnf
    · refine aneed (show (s.length + 1) * 8 ≤ 140737488355328 by omega) ?_
      conv => whnf
      refine ⟨hk1, _, ⟨rfl, rfl, rfl, rfl⟩, by simp; omega, ?_⟩
      simp only [List.length_map] at g2
      rw [g2] at hwf
      rw [hs, hwf]; simp [vI]
    · simp only [List.length_map] at g2
      rw [g2] at hwf
      have g2' : x ≠ w.length := by simpa using g2
      obtain ⟨dd, hdd⟩ : ∃ dd, w[x.toNat]? = some dd := ⟨_, List.getElem?_eq_getElem (by omega)⟩
      obtain ⟨e1, e2, e3⟩ := (hv4 k w hw).2 dd (List.mem_of_getElem? hdd)
      have hda : dAt w x = dd := by simp [dAt, hdd]
      rw [hda] at hwf
      obtain ⟨ln, hln⟩ : ∃ ln, lines[dd.line.toNat]? = some ln := ⟨_, List.getElem?_eq_getElem (by omega)⟩
      have hlat : lnAt lines dd.line = ln := by simp [lnAt, hln]
      obtain ⟨u1, u2, u3, u4, u5⟩ := hv3 ln (List.mem_of_getElem? hln)
      rw [hlat] at hwf
      refine aidxk (x := eW w) (by simp [hw]) (by omega) ?_
      conv => whnf
      refine aidxi (x := eDd dd) bx.1 (by simp [hdd]) ?_
      obtain ⟨dl, dsd, dm⟩ := dd
      conv => whnf
      refine aidxi (x := eL ln) e1 (by simp only at hln; simp [hln]) ?_
      obtain ⟨la, lb⟩ := ln
      conv => whnf
      refine aneed (by kernel_rfl) ?_
      conv => whnf
      refine aneed (show (s.length + 1) * 8 ≤ 140737488355328 by omega) ?_
      conv => whnf
      refine ⟨hk1, _, ⟨rfl, rfl, rfl, rfl⟩, by simp; omega, ?_⟩
      simp only at u1 u2 u3 u4 u5
      have w1 : IntKind.i64.wrap (la + lb) = la + lb := wrap64 (by omega) (by omega)
      have w2 : IntKind.i64.wrap (la + lb - (k : Int)) = la + lb - k := wrap64 (by omega) (by omega)
      rw [hs, hwf, hik, w1, w2]
      simp [vI]
  · have hk1 := ix_ff g1 (by simp) hk (by omega)
    rw [List.drop_eq_nil_of_le (by omega)] at hs
    simp only [waitsF, List.map_nil, List.append_nil] at hs
    have : s = (waitsF ⟨lines, who⟩ d 0).map vI := hs.symm
    subst this
    exact .inl rfl

/-- THE PLAIN LAW -/
theorem waits_law (n : Net) (hv : Valid n) (d : List Int) (hd : DOK n d) (he : Ends n d) (i : Nat) (x : Int) (w : List Dd) (hx : d[i]? = some x) (hw : n.who[i]? = some w) :
    (x = w.length → waitF n i x = -1) ∧ (x ≠ w.length → 0 ≤ waitF n i x ∧ waitF n i x < n.who.length ∧
      ∀ (y : Int) (v : List Dd), d[(waitF n i x).toNat]? = some y → n.who[(waitF n i x).toNat]? = some v → y ≠ v.length → ((dAt w x).line == (dAt v y).line && ((dAt w x).msg == (dAt v y).msg && !((dAt w x).send == (dAt v y).send))) = false) := by
  have bx := hd.bd i x w hx hw
  have hwk : wAt n.who i = w := by simp [wAt, hw]
  refine ⟨fun q => ?_, fun q => ?_⟩
  · unfold waitF; rw [hwk, q]; simp
  · have hwf : waitF n i x = (lnAt n.lines (dAt w x).line).a + (lnAt n.lines (dAt w x).line).b - i := by
      unfold waitF; rw [hwk]; have : (x == (w.length : Int)) = false := by simpa using q
      rw [this]; rfl
    obtain ⟨dd, hdd⟩ : ∃ dd, w[x.toNat]? = some dd := ⟨_, List.getElem?_eq_getElem (by omega)⟩
    obtain ⟨e1, e2, e3⟩ := (hv.ds i w hw).2 dd (List.mem_of_getElem? hdd)
    have hda : dAt w x = dd := by simp [dAt, hdd]
    obtain ⟨ln, hln⟩ : ∃ ln, n.lines[dd.line.toNat]? = some ln := ⟨_, List.getElem?_eq_getElem (by omega)⟩
    have hlat : lnAt n.lines dd.line = ln := by simp [lnAt, hln]
    obtain ⟨u1, u2, u3, u4, u5⟩ := hv.ln ln (List.mem_of_getElem? hln)
    rw [hda, hlat] at hwf
    rw [hlat] at e3
    refine ⟨by omega, by omega, fun y v hy hv' hyl => ?_⟩
    rw [hda]
    cases hq : (dd.line == (dAt v y).line && (dd.msg == (dAt v y).msg && !(dd.send == (dAt v y).send))) with
    | false => rfl
    | true =>
      exfalso
      simp only [Bool.and_eq_true, beq_iff_eq, Bool.not_eq_true'] at hq
      obtain ⟨q1, q2, q3⟩ := hq
      have hr := he dd.line.toNat ln hln
      have hj : ((dd.line.toNat : Nat) : Int) = dd.line := by omega
      rw [hj] at hr
      have xi : dn d (i : Int) = x := by simp [dn, hx]
      have key : ∀ (z : Int), z = waitF n i x → dn d z = y ∧ wAt n.who z = v := by
        intro z hz
        subst hz
        exact ⟨by simp [dn, hy], by simp [wAt, hv']⟩
      rcases e3 with e3 | e3
      · obtain ⟨k1, k2⟩ := key ln.b (by omega)
        have : rdyB n d dd.line ln = true := by
          unfold rdyB
          rw [e3, hwk, xi, k1, k2, hda]
          simp only [meetF, beq_self_eq_true, ← q1, q2, q3, Bool.true_and, Bool.not_false, Bool.and_true, Bool.and_eq_true, Bool.not_eq_true', beq_eq_false_iff_ne]
          exact ⟨q, hyl⟩
        rw [this] at hr; cases hr
      · obtain ⟨k1, k2⟩ := key ln.a (by omega)
        have q3' : ((dAt v y).send == dd.send) = false := by rw [Bool.beq_comm]; exact q3
        have : rdyB n d dd.line ln = true := by
          unfold rdyB
          rw [e3, hwk, xi, k1, k2, hda]
          simp only [meetF, beq_self_eq_true, ← q1, q2, q3', Bool.true_and, Bool.not_false, Bool.and_true, Bool.and_eq_true, Bool.not_eq_true', beq_eq_false_iff_ne]
          exact ⟨hyl, q⟩
        rw [this] at hr; cases hr

theorem run_facts (n : Net) (picks : List Int) : ((runF n picks).2.2 ≠ 0 → (runF n picks).2.1 = []) ∧ ((runF n picks).2.2 = 0 → chkF n = 0 ∧ DOK n (runF n picks).2.1 ∧ Ends n (runF n picks).2.1) := by
  unfold runF
  cases h : chkF n != 0 with
  | true => exact ⟨fun _ => rfl, fun (q : chkF n = 0) => by simp [q] at h⟩
  | false =>
    have h0 : chkF n = 0 := by simpa using h
    have hv := chk_ok h0
    obtain ⟨s1, s2⟩ := start_ok n
    obtain ⟨_, q2, q3⟩ := runG_ends n hv (n.lines.length + total n + 1) picks [] _ s1 (by omega)
    simp only [cond_false]
    exact ⟨fun q => absurd rfl q, fun _ => ⟨h0, q3, q2⟩⟩

theorem talkWaits_spec (n : Net) (hn : okN n) (p : List Int) (hp : p.length < 9223372036854775807) :
    APure Try.prog 4 [.p (eN n), .p (.sl 1 (p.map vI))] (.p (.b true)) := by
  have h1 := run_spec n hn p hp
  obtain ⟨f1, f2⟩ := run_facts n p
  generalize (runF n p).1 = c1 at h1
  generalize (runF n p).2.1 = d at h1 f1 f2
  generalize (runF n p).2.2 = e1 at h1 f1 f2
  have h2 : e1 = 0 → APure Try.prog 10 [.p (eN n), .p (.sl 1 (d.map vI))] (.tup [.p (.sl 1 ((waitsF n d 0).map vI)), .p (.i .i64 0)]) := fun q => waits_spec n hn (f2 q).1 d (f2 q).2.1
  have law : e1 = 0 → ∀ (i : Nat) (x : Int) (w : List Dd), d[i]? = some x → n.who[i]? = some w → _ := fun q => waits_law n (chk_ok (f2 q).1) d (f2 q).2.1 (f2 q).2.2
  have hvv : e1 = 0 → Valid n := fun q => chk_ok (f2 q).1
  obtain ⟨lines, who⟩ := n
  refine APure.intro (tyOf_ok Try.prog) hmix Try.func4 rfl (by rfl) (by kernel_rfl) (by show 2 ≤ _; decide) rfl ?_
  conv => whnf
  refine apc talks_spec ?_
  conv => whnf
  refine apc h1 ?_
  conv => whnf
  refine asplit ?_ ?_ <;> intro g1 <;> conv => whnf
  · rw [f1 (by simpa using g1)]; exact .inl rfl
  have e0 : e1 = 0 := by simpa using g1
  have hd := (f2 e0).2.1
  obtain ⟨hd1, hd2⟩ := id hd
  obtain ⟨hv8, hv12, hv3, hv4⟩ := hvv e0
  have law := law e0
  simp only at hd1 hd2 hv8 hv12 hv3 hv4
  refine apc (h2 e0) ?_
  conv => whnf
  refine asf (by simp [waitsF_len, hd1]) ?_
  conv => whnf
  refine asf (by simp [hd1]) ?_
  conv => whnf
  refine loopS (tyOf_ok _) hmix (by kernel_rfl) d.length [2, 6, 52, 53, 54] [2] (fun k _ => [.ptr 2 0, .p (.sl 1 (d.map vI)), .p (.sl 1 ((waitsF ⟨lines, who⟩ d 0).map vI)), .p (.i .i64 ((waitsF ⟨lines, who⟩ d 0).map vI).length), .p (.i .i64 (ix k))])
    (fun _ _ => [.cells [.p (.sl 2 (lines.map eL)), .p (.sl 1 (who.map eW))]]) (fun _ _ => True) () ⟨rfl, rfl, rfl, rfl⟩ trivial ?_
  intro i _ hi _
  conv => whnf
  refine asplit ?_ ?_ <;> intro g2 <;> conv => whnf
  · have hi1 := ix_tt g2 (by simp [waitsF_len]) hi (by omega)
    obtain ⟨x, hx⟩ : ∃ x, d[i]? = some x := ⟨d[i], by simp [hi1]⟩
    obtain ⟨w, hw⟩ : ∃ w, who[i]? = some w := ⟨_, List.getElem?_eq_getElem (by omega)⟩
    have bx := hd2 i x w hx hw
    obtain ⟨l1, l2⟩ := law i x w hx hw
    have hwi : (waitsF ⟨lines, who⟩ d 0)[i]? = some (waitF ⟨lines, who⟩ i x) := by rw [waitsF_get, hx]; simp
    generalize waitF ⟨lines, who⟩ i x = kk at l1 l2 hwi
    simp only at l1 l2
    refine aidxk (x := vI kk) (by simp [hwi]) (by omega) ?_
    conv => whnf
    refine aidxk (x := vI x) (by simp [hx]) (by omega) ?_
    conv => whnf
    refine asf (by simp; omega) ?_
    conv => whnf
    refine aidxk (x := vI x) (by simp [hx]) (by omega) ?_
    conv => whnf
    refine aidxk (x := eW w) (by simp [hw]) (by omega) ?_
    conv => whnf
    refine asf (by simp; omega) ?_
    conv => whnf
    refine aidxk (x := vI x) (by simp [hx]) (by omega) ?_
    conv => whnf
    refine aidxk (x := eW w) (by simp [hw]) (by omega) ?_
    conv => whnf
    have hkneg : (!(decide (kk < 0) == (x == ((w.map eDd).length : Int)))) = false := by
      rw [List.length_map]
      by_cases q : x = w.length
      · rw [l1 q, q]; simp
      · have := l2 q
        have e1 : decide (kk < 0) = false := by simp; omega
        have e2 : (x == (w.length : Int)) = false := by simpa using q
        rw [e1, e2]; rfl
    refine asf hkneg ?_
    conv => whnf
    refine aneed (by kernel_rfl) ?_
    conv => whnf
    have hkW : decide (kk ≥ ((who.map eW).length : Int)) = false := by
      rw [List.length_map]
      by_cases q : x = w.length
      · rw [l1 q]; simp; omega
      · have := l2 q; simp; omega
    refine asf hkW ?_
    conv => whnf
    refine asplit ?_ ?_ <;> intro g3 <;> conv => whnf
    · refine aneed (by kernel_rfl) ?_
      conv => whnf
      exact ⟨hi1, (), ⟨rfl, rfl, rfl, rfl⟩, trivial⟩
    have g3' : ¬ kk < 0 := by simpa using g3
    have hxl : x ≠ w.length := fun q => by have := l1 q; omega
    obtain ⟨m1, m2, m3⟩ := l2 hxl
    obtain ⟨y, hy⟩ : ∃ y, d[kk.toNat]? = some y := ⟨_, List.getElem?_eq_getElem (by omega)⟩
    obtain ⟨v, hv'⟩ : ∃ v, who[kk.toNat]? = some v := ⟨_, List.getElem?_eq_getElem (by omega)⟩
    have by' := hd2 _ y v hy hv'
    refine aidxi (x := vI y) m1 (by simp [hy]) ?_
    conv => whnf
    refine aidxi (x := eW v) m1 (by simp [hv']) ?_
    conv => whnf
    refine aneed (by kernel_rfl) ?_
    conv => whnf
    refine asplit ?_ ?_ <;> intro g4 <;> conv => whnf
    · exact ⟨hi1, (), ⟨rfl, rfl, rfl, rfl⟩, trivial⟩
    have g4' : y ≠ v.length := by simp only [List.length_map] at g4; simpa using g4
    obtain ⟨a, ha⟩ : ∃ a, w[x.toNat]? = some a := ⟨_, List.getElem?_eq_getElem (by omega)⟩
    obtain ⟨b, hb⟩ : ∃ b, v[y.toNat]? = some b := ⟨_, List.getElem?_eq_getElem (by omega)⟩
    have ea : dAt w x = a := by simp [dAt, ha]
    have eb : dAt v y = b := by simp [dAt, hb]
    have hno := m3 y v hy hv' g4'
    rw [ea, eb] at hno
    refine aidxk (x := eW w) (by simp [hw]) (by omega) ?_
    conv => whnf
    refine aidxk (x := vI x) (by simp [hx]) (by omega) ?_
    conv => whnf
    refine aidxi (x := eDd a) bx.1 (by simp [ha]) ?_
    obtain ⟨al, asd, am⟩ := a
    conv => whnf
    refine aidxi (x := eW v) m1 (by simp [hv']) ?_
    conv => whnf
    refine aidxi (x := vI y) m1 (by simp [hy]) ?_
    conv => whnf
    refine aidxi (x := eDd b) by'.1 (by simp [hb]) ?_
    obtain ⟨bl, bsd, bm⟩ := b
    conv => whnf
    refine aneed (by kernel_rfl) ?_
    conv => whnf
    simp only at hno
    refine asplit ?_ ?_ <;> intro g5 <;> conv => whnf
    · refine asplit ?_ ?_ <;> intro g6 <;> conv => whnf
      · simp only at g5 g6
        rw [g5, g6, Bool.true_and, Bool.true_and] at hno
        refine asf hno ?_
        conv => whnf
        exact ⟨hi1, (), ⟨rfl, rfl, rfl, rfl⟩, trivial⟩
      · exact ⟨hi1, (), ⟨rfl, rfl, rfl, rfl⟩, trivial⟩
    · exact ⟨hi1, (), ⟨rfl, rfl, rfl, rfl⟩, trivial⟩
  · exact .inl rfl
end TK
