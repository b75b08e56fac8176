/-
  DERIVED. Contracts of the functions that the law reaches, and the law itself, for every input. No conditions.
-/
import Derived.Test.YtiidmganghfnjaaTC
open Go Go.AM Go.Proofs
namespace TK
theorem path_spec (n : Net) (hv : Valid n) (fr to wo : Int) (hfr : 0 ≤ fr ∧ fr < n.who.length) (hto : 0 ≤ to ∧ to < n.who.length) :
    APure Try.prog 18 [.p (eN n), .p (.i .i64 fr), .p (.i .i64 to), .p (.i .i64 wo)] (.tup [.p (.sl 1 ((pathF n fr to wo).1.map vI)), .p (.b (pathF n fr to wo).2)]) := by
  have hv0 := hv
  obtain ⟨hv1, hv2, hv3, hv4⟩ := hv
  obtain ⟨lines, who⟩ := n
  simp only at hv1 hv2 hv3 hv4 hfr hto
  refine APure.intro (tyOf_ok Try.prog) hmix Try.func18 rfl (by rfl) (by kernel_rfl) (by show 4 ≤ _; decide) rfl ?_
  conv => whnf
  refine loopS (tyOf_ok _) hmix (by kernel_rfl) 8 [1, 2, 3, 4, 10, 11] [4, 21] (fun k (s : List (PV × PV) × List PV) => [.p (.i .i64 fr), .p (.i .i64 to), .p (.i .i64 wo), .ptr 4 0, .mp 21, .so 1 s.2])
    (fun k s => [.cells [.p (.sl 2 (lines.map eL)), .p (.sl 1 (who.map eW))], .map (.ki .i64) s.1])
    (fun k s => ∃ (m : List (Int × Int)) (q : List Int), s = (eMI m, q.map vI) ∧ BOK ⟨lines, who⟩ fr m ∧ q = (m.map Prod.fst).drop k ∧ k ≤ m.length ∧ bfsF lines to wo 9 [(fr, -1)] [fr] = bfsF lines to wo (9 - k) m q)
    ([(.i .i64 fr, .i .i64 (-1))], [.i .i64 fr]) ⟨rfl, rfl, rfl, rfl⟩ ⟨[(fr, -1)], [fr], rfl, ⟨rfl, by simp, by simpa using hfr, fun i p hi hp => by cases i with | zero => omega | succ i => simp at hp⟩, rfl, by simp, rfl⟩ ?_
  rintro k _ hk ⟨m, q, rfl, hm, hq, hkm, hbf⟩
  have hml := hm.len
  simp only at hml
  conv => whnf
  refine asplit ?_ ?_ <;> intro g1 <;> conv => whnf
  · cases q with
    | nil => simp at g1
    | cons w q =>
      refine aidxi (x := vI w) (by decide) rfl ?_
      conv => whnf
      have hk8 : k < m.length := by
        have : ((m.map Prod.fst).drop k).length = (w :: q).length := by rw [← hq]
        simp at this; omega
      have hwm : w ∈ m.map Prod.fst := List.mem_of_mem_drop (i := k) (by rw [← hq]; simp)
      have hwr : 0 ≤ w ∧ w < who.length := by
        obtain ⟨y, hy, rfl⟩ := List.mem_map.1 hwm
        exact hm.rng y hy
      have hq2 : q = (m.map Prod.fst).drop (k + 1) := by
        have := congrArg List.tail hq
        simpa using this
      refine asplit ?_ ?_ <;> intro g2 <;> conv => whnf
      · have g2 : (w != to) = true := g2
        refine aidxi (x := vI w) (by decide) rfl ?_
        conv => whnf
        refine aneed (show (0 : Int) ≤ 1 ∧ (1 : Int) ≤ ((w :: q).map vI).length from ⟨by decide, by simp; omega⟩) ?_
        conv => whnf
        have hbf2 : bfsF lines to wo 9 [(fr, -1)] [fr] = bfsF lines to wo (9 - (k + 1)) (inL wo w lines 0 m q).1 (inL wo w lines 0 m q).2 := by
          rw [hbf, show 9 - k = (9 - (k + 1)) + 1 by omega, bfsF, show (w == to) = false by simpa using g2]; rfl
        refine loopS (tyOf_ok _) hmix (by kernel_rfl) lines.length [1, 2, 3, 4, 10, 11, 12, 42, 43, 44] [4, 21] (fun j (s : List (PV × PV) × List PV) => [.p (.i .i64 fr), .p (.i .i64 to), .p (.i .i64 wo), .ptr 4 0, .mp 21, .so 1 s.2, .p (.i .i64 w), .p (.sl 2 (lines.map eL)), .p (.i .i64 (lines.map eL).length), .p (.i .i64 (ix j))])
          (fun j s => [.cells [.p (.sl 2 (lines.map eL)), .p (.sl 1 (who.map eW))], .map (.ki .i64) s.1])
          (fun j s => ∃ (m' : List (Int × Int)) (q' : List Int), s = (eMI m', q'.map vI) ∧ BOK ⟨lines, who⟩ fr m' ∧ w ∈ m'.map Prod.fst ∧ q' = (m'.map Prod.fst).drop (k + 1) ∧ k + 1 ≤ m'.length ∧ inL wo w lines 0 m q = inL wo w (lines.drop j) j m' q')
          (eMI m, q.map vI) ⟨rfl, rfl, rfl, rfl⟩ ⟨m, q, rfl, hm, hwm, hq2, by omega, rfl⟩ ?_
        rintro j _ hj ⟨m', q', rfl, hm', hwm', hq', hkm', hin⟩
        have hml' := hm'.len
        simp only at hml'
        conv => whnf
        refine asplit ?_ ?_ <;> intro g3 <;> conv => whnf
        · have hj1 := ix_tt g3 (by simp) hj (by omega)
          obtain ⟨l, hl⟩ : ∃ b, lines[j]? = some b := ⟨lines[j], by simp [hj1]⟩
          obtain ⟨v1, v2, v3, v4, v5⟩ := hv3 l (List.mem_of_getElem? hl)
          rw [drop_cons hl, inL, skipL] at hin
          have hadd := fun hon hnew => hm'.add hv0 (k := j) (l := l) (w := w) hl hwm' hon hnew
          obtain ⟨la, lb⟩ := l
          simp only at v1 v2 v3 v4 v5 hin hadd
          refine aidxk (x := eL ⟨la, lb⟩) (by simp [hl]) (by omega) ?_
          conv => whnf
          have hixj := ix_eq (k := j) (by omega)
          -- a line that leads on
          have hin2 : ((((j : Int) == wo) || ((la != w) && (lb != w))) = true) → inL wo w lines 0 m q = inL wo w (lines.drop (j + 1)) (j + 1) m' q' := fun e => by rw [e, cond_true] at hin; exact hin
          refine asplit ?_ ?_ <;> intro g4 <;> conv => whnf
          · have g4 : (ix j == wo) = true := g4
            rw [hixj] at g4
            exact ⟨hj1, (eMI m', q'.map vI), ⟨rfl, rfl, rfl, rfl⟩, m', q', rfl, hm', hwm', hq', hkm', hin2 (by rw [g4]; rfl)⟩
          · have g4 : (ix j == wo) = false := g4
            rw [hixj] at g4
            have hoth : IntKind.i64.wrap (IntKind.i64.wrap (la + lb) - w) = oth ⟨la, lb⟩ w := by
              rw [wrap64 (x := la + lb) (by omega) (by omega), wrap64 (by omega) (by omega)]; rfl
            have hlast : ∀ (hon : la = w ∨ lb = w) (m2 : List (Int × Int)) (q2 : List Int),
                ((ilook (oth ⟨la, lb⟩ w) m' = none ∧ m2 = m' ++ [(oth ⟨la, lb⟩ w, (j : Int))] ∧ q2 = q' ++ [oth ⟨la, lb⟩ w]) ∨ ((ilook (oth ⟨la, lb⟩ w) m').isSome = true ∧ m2 = m' ∧ q2 = q')) →
                BOK ⟨lines, who⟩ fr m2 ∧ w ∈ m2.map Prod.fst ∧ q2 = (m2.map Prod.fst).drop (k + 1) ∧ k + 1 ≤ m2.length ∧ inL wo w lines 0 m q = inL wo w (lines.drop (j + 1)) (j + 1) m2 q2 := by
              intro hon m2 q2 hh
              have hsk : (((j : Int) == wo) || ((la != w) && (lb != w))) = false := by
                rw [g4, Bool.false_or]
                rcases hon with h | h
                · rw [show (la != w) = false by simpa using h]; rfl
                · rw [show (lb != w) = false by simpa using h, Bool.and_false]
              rw [hsk, cond_false] at hin
              rcases hh with ⟨h1, rfl, rfl⟩ | ⟨h1, rfl, rfl⟩
              · refine ⟨hadd hon h1, by simp only [List.map_append, List.mem_append]; exact .inl hwm', ?_, by simp; omega, ?_⟩
                · rw [hq', List.map_append, List.drop_append_of_le_length (by simpa using hkm')]; rfl
                · rw [h1] at hin; simp only at hin; rw [hin, iput_new h1]
              · obtain ⟨u, hu⟩ := Option.isSome_iff_exists.1 h1
                rw [hu] at hin
                exact ⟨hm', hwm', hq', hkm', hin⟩
            refine asplit ?_ ?_ <;> intro g5 <;> conv => whnf
            · have g5 : (la != w) = true := g5
              refine asplit ?_ ?_ <;> intro g6 <;> conv => whnf
              · have g6 : (lb != w) = true := g6
                exact ⟨hj1, (eMI m', q'.map vI), ⟨rfl, rfl, rfl, rfl⟩, m', q', rfl, hm', hwm', hq', hkm', hin2 (by rw [g4, g5, g6]; rfl)⟩
              · have g6 : lb = w := by simpa using g6
                have hlk := mlook_eMI (oth ⟨la, lb⟩ w) m'
                rw [← hoth] at hlk
                refine alook hlk ?_
                conv => whnf
                cases hlo : ilook (oth ⟨la, lb⟩ w) m' with
                | none =>
                  refine ast (by rw [hoth, hlo]; rfl) ?_
                  conv => whnf
                  refine aneed (show ((q'.map vI).length + 1) * 8 ≤ 140737488355328 by rw [hq']; simp; omega) ?_
                  conv => whnf
                  obtain ⟨p1, p2, p3, p4, p5⟩ := hlast (.inr g6) _ _ (.inl ⟨hlo, rfl, rfl⟩)
                  refine ⟨hj1, (mput (.i .i64 (IntKind.i64.wrap (IntKind.i64.wrap (la + lb) - w))) (.i .i64 (ix j)) (eMI m'), q'.map vI ++ [.i .i64 (IntKind.i64.wrap (IntKind.i64.wrap (la + lb) - w))]), ⟨rfl, rfl, rfl, rfl⟩, _, _, ?_, p1, p2, p3, p4, p5⟩
                  rw [hoth, hixj]
                  have := mput_eMI (oth ⟨la, lb⟩ w) j m'
                  rw [iput_new hlo] at this
                  simp only [vI] at this
                  rw [this]; simp [vI]
                | some u =>
                  refine asf (by rw [hoth, hlo]; rfl) ?_
                  conv => whnf
                  obtain ⟨p1, p2, p3, p4, p5⟩ := hlast (.inr g6) m' q' (.inr ⟨by rw [hlo]; rfl, rfl, rfl⟩)
                  exact ⟨hj1, (eMI m', q'.map vI), ⟨rfl, rfl, rfl, rfl⟩, m', q', rfl, p1, p2, p3, p4, p5⟩
            · have g5 : la = w := by simpa using g5
              have hlk := mlook_eMI (oth ⟨la, lb⟩ w) m'
              rw [← hoth] at hlk
              refine alook hlk ?_
              conv => whnf
              cases hlo : ilook (oth ⟨la, lb⟩ w) m' with
              | none =>
                refine ast (by rw [hoth, hlo]; rfl) ?_
                conv => whnf
                refine aneed (show ((q'.map vI).length + 1) * 8 ≤ 140737488355328 by rw [hq']; simp; omega) ?_
                conv => whnf
                obtain ⟨p1, p2, p3, p4, p5⟩ := hlast (.inl g5) _ _ (.inl ⟨hlo, rfl, rfl⟩)
                refine ⟨hj1, (mput (.i .i64 (IntKind.i64.wrap (IntKind.i64.wrap (la + lb) - w))) (.i .i64 (ix j)) (eMI m'), q'.map vI ++ [.i .i64 (IntKind.i64.wrap (IntKind.i64.wrap (la + lb) - w))]), ⟨rfl, rfl, rfl, rfl⟩, _, _, ?_, p1, p2, p3, p4, p5⟩
                rw [hoth, hixj]
                have := mput_eMI (oth ⟨la, lb⟩ w) j m'
                rw [iput_new hlo] at this
                simp only [vI] at this
                rw [this]; simp [vI]
              | some u =>
                refine asf (by rw [hoth, hlo]; rfl) ?_
                conv => whnf
                obtain ⟨p1, p2, p3, p4, p5⟩ := hlast (.inl g5) m' q' (.inr ⟨by rw [hlo]; rfl, rfl, rfl⟩)
                exact ⟨hj1, (eMI m', q'.map vI), ⟨rfl, rfl, rfl, rfl⟩, m', q', rfl, p1, p2, p3, p4, p5⟩
        · have hj1 := ix_ff g3 (by simp) hj (by omega)
          rw [List.drop_eq_nil_of_le (by omega), inL] at hin
          rw [hin] at hbf2
          exact ⟨by omega, (eMI m', q'.map vI), ⟨rfl, rfl, rfl, rfl⟩, m', q', rfl, hm', hq', hkm', hbf2⟩
      · have g2 : w = to := by simpa using g2
        subst g2
        have hres : bfsF lines w wo 9 [(fr, -1)] [fr] = (m, w :: q) := by
          rw [hbf, show 9 - k = (8 - k) + 1 by omega, bfsF, show (w == w) = true by simp]; rfl
        have hpath : pathF ⟨lines, who⟩ fr w wo = (revF (backF lines m fr 9 w), true) := by unfold pathF; simp only; rw [hres]
        rw [hpath]
        refine lp_gr 18 500 1 rfl ?_
        refine loopR (tyOf_ok _) hmix (by kernel_rfl) 500 100 9 [1, 4, 10, 18, 19] [4, 21, 500] (fun k' (s : Nat × List PV × Int) => [.p (.i .i64 fr), .ptr 4 0, .mp 21, .al 500 1 s.1, .p (.i .i64 s.2.2)])
          (fun k' s => [.cells [.p (.sl 2 (lines.map eL)), .p (.sl 1 (who.map eW))], .map (.ki .i64) (eMI m), .gr 1 s.2.1])
          (fun k' s => ∃ (o : List Int) (x : Int), s = (o.length, o.map vI, x) ∧ o.length = k' ∧ backF lines m fr 9 w = o ++ backF lines m fr (9 - k') x ∧ ∃ (p : Nat) (y : Int × Int), m[p]? = some y ∧ y.1 = x ∧ p + k' < m.length)
          (0, [], w) ⟨rfl, rfl, rfl, rfl⟩ ⟨[], w, rfl, rfl, rfl, by
            obtain ⟨y, hy, hyw⟩ := List.mem_map.1 hwm
            obtain ⟨p, hp⟩ := List.mem_iff_getElem?.1 hy
            exact ⟨p, y, hp, hyw, by have := (List.getElem?_eq_some_iff.1 hp).1; omega⟩⟩ ?_
        rintro k' _ hk' ⟨o, x, rfl, hol, hback, p, y, hp, hyx, hpk⟩
        conv => whnf
        refine asplit ?_ ?_ <;> intro g3 <;> conv => whnf
        · have g3 : (x != fr) = true := g3
          have hxf : x ≠ fr := by simpa using g3
          have hp0 : 0 < p := by
            rcases Nat.eq_zero_or_pos p with h | h
            · subst h; rw [hm.hd] at hp; cases hp; exact absurd hyx.symm hxf
            · exact h
          obtain ⟨t1, t2, j', y', t3, t4, t5⟩ := hm.tr p y hp0 hp
          simp only at t2 t5
          have hil : ilook x m = some y.2 := by rw [← hyx]; exact ilook_at hm.nd (List.mem_of_getElem? hp)
          obtain ⟨l, hl⟩ : ∃ l, lines[y.2.toNat]? = some l := ⟨_, List.getElem?_eq_getElem (by omega)⟩
          have hat : lnAt lines y.2 = l := by simp [lnAt, hl]
          obtain ⟨v1, v2, v3, v4, v5⟩ := hv3 l (List.mem_of_getElem? hl)
          have hyr := hm.rng y (List.mem_of_getElem? hp)
          simp only at hyr
          rw [hat] at t5
          obtain ⟨la, lb⟩ := l
          simp only [oth] at v1 v2 v3 v4 v5 t5
          have hlk := mlook_eMI x m
          rw [hil] at hlk
          refine alook hlk ?_
          conv => whnf
          refine aneed (show o.length = (o.map vI).length ∧ ((o.map vI).length + 1) * 8 ≤ 140737488355328 from ⟨by simp, by simp; omega⟩) ?_
          conv => whnf
          refine aidxi (x := eL ⟨la, lb⟩) t1 (by rw [List.getElem?_map, show ((some y.2).getD 0) = y.2 from rfl, hl]; rfl) ?_
          conv => whnf
          refine aidxi (x := eL ⟨la, lb⟩) t1 (by rw [List.getElem?_map, show ((some y.2).getD 0) = y.2 from rfl, hl]; rfl) ?_
          conv => whnf
          refine aneed (by kernel_rfl) ?_
          conv => whnf
          have hw : IntKind.i64.wrap (IntKind.i64.wrap (la + lb) - x) = la + lb - x := by
            rw [wrap64 (x := la + lb) (by omega) (by omega), wrap64 (by omega) (by omega)]
          refine ⟨by omega, (o.length + 1, o.map vI ++ [.i .i64 y.2], IntKind.i64.wrap (IntKind.i64.wrap (la + lb) - x)), ⟨rfl, rfl, rfl, rfl, rfl⟩, o ++ [y.2], la + lb - x, ?_, by simp [hol], ?_, j', y', t4, by rw [t5, hyx], by omega⟩
          · rw [hw]; simp [vI]
          · rw [hback, show 9 - k' = (9 - (k' + 1)) + 1 by omega, backF, show (x == fr) = false by simpa using hxf, hil]
            simp [hat, oth]
        · have g3 : x = fr := by simpa using g3
          have hb2 : backF lines m fr 9 w = o := by
            rw [hback, show 9 - k' = (8 - k') + 1 by omega, backF, show (x == fr) = true by simpa using g3]; simp
          rw [hb2]
          have hrev := rev_spec o (by omega)
          refine amc [500] 600 hrev ?_
          conv => whnf
          exact .inr (.inr ⟨rfl, by simp [revF, revG_len], trivial⟩)
  · have hq0 : q = [] := by cases q with | nil => rfl | cons a b => simp at g1
    subst hq0
    have hres : bfsF lines to wo 9 [(fr, -1)] [fr] = (m, []) := by
      rw [hbf, show 9 - k = (8 - k) + 1 by omega]; rfl
    have hpath : pathF ⟨lines, who⟩ fr to wo = ([], false) := by unfold pathF; simp only; rw [hres]
    rw [hpath]
    exact .inl rfl
end TK
