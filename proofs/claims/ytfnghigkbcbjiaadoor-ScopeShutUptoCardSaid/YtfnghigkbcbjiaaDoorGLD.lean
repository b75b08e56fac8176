/-
  DERIVED. Contracts of the functions that the law reaches, and the law itself, for every input. No conditions.
-/
import Derived.Test.YtfnghigkbcbjiaaDoorGL6
import Derived.Test.YtfnghigkbcbjiaaDoorTR7
open Go Go.AM Go.Proofs Go.RowKit TR
set_option maxRecDepth 100000
namespace GL
def idxF (x : ByteArray) : List ByteArray → Nat → Int
  | [], _ => -1
  | a :: r, k => bif x == a then (k : Int) else idxF x r (k + 1)
theorem idx_mem (x : ByteArray) : ∀ (l : List ByteArray) (k : Nat), decide (idxF x l k ≥ 0) = true ↔ x ∈ l
  | [], k => by simp [idxF]
  | a :: r, k => by
    have ih := idx_mem x r (k + 1)
    rw [idxF]
    cases h : x == a with
    | true => simp [(beq_bytes x a).1 h]
    | false =>
      have hne : x ≠ a := fun q => by rw [(beq_bytes x a).2 q] at h; cases h
      simp only [cond_false, List.mem_cons, hne, false_or]; exact ih
theorem indexS_spec (l : List ByteArray) (x : ByteArray) (hl : l.length ≤ 4194304) : APure Tryd.prog 27 [.p (.sl 1 (l.map eStr)), .p (.s x)] (.p (.i .i64 (idxF x l 0))) := by
  generalize hR : idxF x l 0 = R
  refine APure.intro (tyOf_ok Tryd.prog) hmix Tryd.func27 rfl (by rfl) (by kernel_rfl) (by show 2 ≤ _; decide) rfl ?_
  conv => whnf
  refine loopS (tyOf_ok _) hmix (by kernel_rfl) l.length [0, 1, 7, 8] [] (fun k (_ : Unit) => [.p (.sl 1 (l.map eStr)), .p (.s x), .p (.i .i64 (l.map eStr).length), .p (.i .i64 (ix k))]) (fun _ _ => []) (fun k _ => idxF x (l.drop k) k = R) () ⟨rfl, rfl, rfl, rfl⟩ hR ?_
  intro k _ hk hs
  conv => whnf
  refine asplit ?_ ?_ <;> intro h1 <;> conv => whnf
  · have hk1 := ix_tt h1 (by simp) hk (by omega)
    obtain ⟨b, hb1⟩ : ∃ b, l[k]? = some b := ⟨_, List.getElem?_eq_getElem hk1⟩
    refine aidxk (x := eStr b) (by simp [hb1]) (by omega) ?_
    rw [drop_cons hb1, idxF] at hs
    conv => whnf
    refine asplit ?_ ?_ <;> intro h2 <;> conv => whnf
    · replace h2 : (x.toList == b.toList) = true := h2
      rw [bl_iff] at h2
      rw [h2, cond_true] at hs
      exact .inl (pi (by rw [ix_eq (by omega)]; exact hs))
    · replace h2 : (x.toList == b.toList) = false := h2
      rw [bl_iff] at h2
      rw [h2, cond_false] at hs
      exact ⟨hk1, (), ⟨rfl, rfl, rfl, rfl⟩, hs⟩
  · have hk1 := ix_ff h1 (by simp) hk (by omega)
    rw [hk1, List.drop_length, idxF] at hs
    exact .inl (pi hs)
theorem containsS_spec (l : List ByteArray) (x : ByteArray) (hl : l.length ≤ 4194304) : APure Tryd.prog 7 [.p (.sl 1 (l.map eStr)), .p (.s x)] (.p (.b (decide (idxF x l 0 ≥ 0)))) := by
  have h := indexS_spec l x hl
  refine APure.intro (tyOf_ok Tryd.prog) hmix Tryd.func7 rfl (by rfl) (by kernel_rfl) (by show 2 ≤ _; decide) rfl ?_
  conv => whnf
  refine apc h ?_
  conv => whnf
  exact .inl rfl
theorem cont_iff (x : ByteArray) : ∀ (l : List ByteArray), l.contains x = true ↔ x ∈ l
  | [] => by simp
  | a :: r => by rw [List.contains_cons, Bool.or_eq_true, beq_bytes, cont_iff x r, List.mem_cons]
theorem contS_spec (l : List ByteArray) (x : ByteArray) (hl : l.length ≤ 4194304) : APure Tryd.prog 7 [.p (.sl 1 (l.map eStr)), .p (.s x)] (.p (.b (l.contains x))) := by
  have h := containsS_spec l x hl
  rwa [show decide (idxF x l 0 ≥ 0) = l.contains x from Bool.eq_iff_iff.2 ((idx_mem x l 0).trans (cont_iff x l).symm)] at h
theorem namesOf_spec (p : Pt) : wP p ≤ 1048640 → APure Tryd.prog 44 [.p (eP p)] (.p (.sl 1 ((boundF p).map eStr))) := by
  induction p using Pt.ind with
  | h k0 n0 t0 as0 ih =>
  intro hw
  have hl := wP_lens k0 n0 t0 as0
  have hbl := bounds_le as0
  have hwm := wP_mk k0 n0 t0 as0
  rw [boundF]
  refine APure.intro (tyOf_ok Tryd.prog) hmix Tryd.func44 rfl (by rfl) (by kernel_rfl) (by show 1 ≤ _; decide) rfl ?_
  conv => whnf
  refine asplit ?_ ?_ <;> intro h1 <;> conv => whnf
  · have h1 : (k0 == 2) = true := h1
    rw [h1]
    exact .inr (.inl rfl)
  have h1 : (k0 == 2) = false := h1
  rw [h1]
  refine asplit ?_ ?_ <;> intro h2 <;> conv => whnf
  · have h2 : (k0 == 6) = true := h2
    rw [h2]
    refine lp_nil 3 0 rfl ?_
    refine loopS (tyOf_ok _) hmix (by kernel_rfl) as0.length [3, 16, 17, 18] [] (fun k (s : List ByteArray) => [.so 1 (s.map eStr), .p (.sl 4 (ePs as0)), .p (.i .i64 (ePs as0).length), .p (.i .i64 (ix k))]) (fun _ _ => []) (fun k s => s = boundFs (as0.take k)) [] ⟨rfl, rfl, rfl, rfl⟩ (by simp [boundFs]) ?_
    intro k s hk hs
    conv => whnf
    refine asplit ?_ ?_ <;> intro h3 <;> conv => whnf
    · have hk1 := ix_tt h3 (by rw [ePs_len]) hk (by omega)
      obtain ⟨b, hb1⟩ : ∃ b, as0[k]? = some b := ⟨as0[k], by simp [hk1]⟩
      refine aidxk (ePs_get hb1) (by omega) ?_
      have hbw := wP_args (k := k0) (n := n0) (t := t0) (List.mem_of_getElem? hb1)
      have hc := ih b (List.mem_of_getElem? hb1) (by omega)
      have hts : boundFs (as0.take (k + 1)) = boundFs (as0.take k) ++ boundF b := by rw [take_snoc hb1, boundFs_snoc]
      have htl := boundFs_take as0 (k + 1)
      rw [hts, ← hs, List.length_append] at htl
      generalize boundF b = sb at hc hts htl
      obtain ⟨b1, b2, b3, b4⟩ := b
      conv => whnf
      refine apc hc ?_
      conv => whnf
      refine aneed (show ((s.map eStr).length + (sb.map eStr).length) * 16 ≤ 140737488355328 by simp; omega) ?_
      conv => whnf
      refine ⟨hk1, s ++ sb, ⟨rfl, ?_, rfl, rfl⟩, by rw [hs, hts]⟩
      rw [List.map_append]; rfl
    · have hk1 := ix_ff h3 (by rw [ePs_len]) hk (by omega)
      have hs2 : s = boundFs as0 := by rw [hs, hk1, List.take_length]
      subst hs2
      exact .inr (.inl rfl)
  · have h2 : (k0 == 6) = false := h2
    rw [h2]
    exact .inr (.inl rfl)

end GL
open Go Go.AM Go.Proofs Go.RowKit TR
set_option maxRecDepth 100000
namespace GL
/-! the parts that count -/
abbrev Sc := Ex × List ByteArray
def eSc (x : Sc) : PV := .agg ((eE x.1).cells ++ [.sl 1 (x.2.map eStr)])
def nmsOf (k : Int) (t : ByteArray) (ns : List ByteArray) (i : Nat) : List ByteArray := bif k == 10 then ns else bif k == 6 && i == 1 then [t] else []
def scL (k : Int) (t : ByteArray) (ns : List ByteArray) : Nat → List Ex → List Sc
  | _, [] => []
  | i, e :: r => (e, nmsOf k t ns i) :: scL k t ns (i + 1) r
def armSc (a : Arm) : Sc := (a.body, boundF a.pat)
def countedF : Ex → List Sc
  | .mk k n t ns _ xs ms _ => bif decide (needsF k n xs.length > xs.length) then xs.map (fun e => (e, [])) else
      scL k t ns 0 (xs.take (needsF k n xs.length).toNat) ++ (bif k == 13 || k == 18 then ms.map armSc else [])
theorem scL_snoc (k : Int) (t : ByteArray) (ns : List ByteArray) (e : Ex) : ∀ (l : List Ex) (i : Nat), scL k t ns i (l ++ [e]) = scL k t ns i l ++ [(e, nmsOf k t ns (i + l.length))]
  | [], i => by simp [scL]
  | a :: r, i => by
    rw [List.cons_append, scL, scL, scL_snoc k t ns e r (i + 1)]
    simp; congr 1; omega
theorem scL_len (k : Int) (t : ByteArray) (ns : List ByteArray) : ∀ (l : List Ex) (i : Nat), (scL k t ns i l).length = l.length
  | [], i => rfl
  | a :: r, i => by rw [scL, List.length_cons, List.length_cons, scL_len k t ns r]
theorem imax0 (x : Int) : imax x 0 = ((x.toNat : Nat) : Int) := by unfold imax; split <;> omega
theorem counted_spec (e : Ex) (hw : wE e ≤ 1048640) : APure Tryd.prog 28 [.p (eE e)] (.p (.sl 9 ((countedF e).map eSc))) := by
  have hn := needsOf_spec e
  obtain ⟨k, n, t, ns, ts, xs, ms, p⟩ := e
  have hl := wE_lens k n t ns ts xs ms p
  simp only [Ex.kind, Ex.num, Ex.args] at hn
  rw [countedF]
  have hel := eEs_len xs
  have hml := eAs_len ms
  generalize hnd : needsF k n xs.length = nd at *
  have hb := fun m (hm : m ∈ ms) => bound_le m.pat
  have hbw := fun m (hm : m ∈ ms) => wE_body (k := k) (n := n) (t := t) (ns := ns) (ts := ts) (xs := xs) (p := p) hm
  generalize wE (.mk k n t ns ts xs ms p) = W0 at *
  refine APure.intro (tyOf_ok Tryd.prog) hmix Tryd.func28 rfl (by rfl) (by kernel_rfl) (by show 1 ≤ _; decide) rfl ?_
  conv => whnf
  refine apc hn ?_
  conv => whnf
  refine asplit ?_ ?_ <;> intro h1 <;> conv => whnf
  · rw [hel] at h1
    rw [show decide (nd > (xs.length : Int)) = true from h1, cond_true]
    refine lp_nil 4 8 rfl ?_
    refine loopS (tyOf_ok _) hmix (by kernel_rfl) xs.length [4, 19, 20, 21] [] (fun j (s : List Sc) => [.so 9 (s.map eSc), .p (.sl 8 (eEs xs)), .p (.i .i64 (eEs xs).length), .p (.i .i64 (ix j))]) (fun _ _ => []) (fun j s => s = (xs.take j).map (fun e => (e, []))) [] ⟨rfl, rfl, rfl, rfl⟩ (by simp) ?_
    intro j s hj hs
    conv => whnf
    refine asplit ?_ ?_ <;> intro h2 <;> conv => whnf
    · have hj1 := ix_tt h2 (by rw [hel]) hj (by omega)
      obtain ⟨b, hb1⟩ : ∃ b, xs[j]? = some b := ⟨_, List.getElem?_eq_getElem hj1⟩
      have hts : (xs.take (j + 1)).map (fun e => ((e, []) : Sc)) = s ++ [(b, [])] := by rw [take_snoc hb1, List.map_append, ← hs]; rfl
      have hsl : s.length ≤ 1048640 := by rw [hs]; simp; omega
      refine aidxk (eEs_get hb1) (by omega) ?_
      obtain ⟨b1, b2, b3, b4, b5, b6, b7, b8⟩ := b
      conv => whnf
      refine aneed (show ((s.map eSc).length + 1) * 160 ≤ 140737488355328 by simp; omega) ?_
      conv => whnf
      exact ⟨hj1, s ++ [(.mk b1 b2 b3 b4 b5 b6 b7 b8, [])], ⟨rfl, by rw [List.map_append]; rfl, rfl, rfl⟩, hts.symm⟩
    · have hj1 := ix_ff h2 (by rw [hel]) hj (by omega)
      rw [hj1, List.take_length] at hs
      subst hs
      exact .inr (.inl rfl)
  rw [hel] at h1
  have hle : nd ≤ (xs.length : Int) := by have := of_decide_eq_false h1; omega
  rw [show decide (nd > (xs.length : Int)) = false from h1, cond_false]
  refine lp_nil 4 8 rfl ?_
  refine loopS (tyOf_ok _) hmix (by kernel_rfl) nd.toNat [1, 4, 33, 34] [1] (fun j (s : List Sc) => [.ptr 1 0, .so 9 (s.map eSc), .p (.i .i64 (imax nd 0)), .p (.i .i64 (ix j))]) (fun _ _ => [.cells [.p (.i .i64 k), .p (.i .i64 n), .p (.s t), .p (.sl 1 (ns.map eStr)), .p (.sl 3 (eTs ts)), .p (.sl 8 (eEs xs)), .p (.sl 12 (eAs ms)), .p (.i .i64 p)]]) (fun j s => s = scL k t ns 0 (xs.take j)) [] ⟨rfl, rfl, rfl, rfl⟩ (by simp [scL]) ?_
  intro j s hj hs
  conv => whnf
  refine asplit ?_ ?_ <;> intro h2 <;> conv => whnf
  · have hj1 := ix_tt h2 (imax0 nd) hj (by omega)
    obtain ⟨b, hb1⟩ : ∃ b, xs[j]? = some b := ⟨_, List.getElem?_eq_getElem (by omega)⟩
    have hts : scL k t ns 0 (xs.take (j + 1)) = s ++ [(b, nmsOf k t ns j)] := by
      rw [take_snoc hb1, scL_snoc, ← hs, List.length_take, Nat.zero_add, Nat.min_eq_left (by omega)]
    have hsl : s.length ≤ 1048640 := by rw [hs, scL_len]; simp; omega
    have hi1 : (ix j == 1) = (j == 1) := by
      rw [ix_eq (by omega)]
      by_cases q : j = 1
      · subst q; rfl
      · rw [show (j == 1) = false by simpa using q]; simpa using fun h => q (by omega)
    obtain ⟨b1, b2, b3, b4, b5, b6, b7, b8⟩ := b
    rw [nmsOf] at hts
    refine asplit ?_ ?_ <;> intro g1 <;> conv => whnf
    · refine asplit ?_ ?_ <;> intro g2 <;> conv => whnf
      · rw [hi1] at g2
        refine asplit ?_ ?_ <;> intro g3 <;> conv => whnf
        · replace g3 : (k == 10) = true := g3
          refine aidxk (eEs_get hb1) (by omega) ?_
          conv => whnf
          refine aneed (show ((s.map eSc).length + 1) * 160 ≤ 140737488355328 by simp; omega) ?_
          conv => whnf
          rw [g3] at hts
          exact ⟨hj1, s ++ [(.mk b1 b2 b3 b4 b5 b6 b7 b8, ns)], ⟨rfl, by rw [List.map_append]; rfl, rfl, rfl⟩, hts.symm⟩
        · replace g3 : (k == 10) = false := g3
          refine aidxk (eEs_get hb1) (by omega) ?_
          conv => whnf
          refine aneed (show ((s.map eSc).length + 1) * 160 ≤ 140737488355328 by simp; omega) ?_
          conv => whnf
          rw [g3, (show (k == 6) = true from g1), g2] at hts
          exact ⟨hj1, s ++ [(.mk b1 b2 b3 b4 b5 b6 b7 b8, [t])], ⟨rfl, by rw [List.map_append]; rfl, rfl, rfl⟩, hts.symm⟩
      · rw [hi1] at g2
        refine asplit ?_ ?_ <;> intro g3 <;> conv => whnf
        · replace g3 : (k == 10) = true := g3
          refine aidxk (eEs_get hb1) (by omega) ?_
          conv => whnf
          refine aneed (show ((s.map eSc).length + 1) * 160 ≤ 140737488355328 by simp; omega) ?_
          conv => whnf
          rw [g3] at hts
          exact ⟨hj1, s ++ [(.mk b1 b2 b3 b4 b5 b6 b7 b8, ns)], ⟨rfl, by rw [List.map_append]; rfl, rfl, rfl⟩, hts.symm⟩
        · replace g3 : (k == 10) = false := g3
          refine aidxk (eEs_get hb1) (by omega) ?_
          conv => whnf
          refine aneed (show ((s.map eSc).length + 1) * 160 ≤ 140737488355328 by simp; omega) ?_
          conv => whnf
          rw [g3, (show (k == 6) = true from g1), g2] at hts
          exact ⟨hj1, s ++ [(.mk b1 b2 b3 b4 b5 b6 b7 b8, [])], ⟨rfl, by rw [List.map_append]; rfl, rfl, rfl⟩, hts.symm⟩
    · refine asplit ?_ ?_ <;> intro g3 <;> conv => whnf
      · replace g3 : (k == 10) = true := g3
        refine aidxk (eEs_get hb1) (by omega) ?_
        conv => whnf
        refine aneed (show ((s.map eSc).length + 1) * 160 ≤ 140737488355328 by simp; omega) ?_
        conv => whnf
        rw [g3] at hts
        exact ⟨hj1, s ++ [(.mk b1 b2 b3 b4 b5 b6 b7 b8, ns)], ⟨rfl, by rw [List.map_append]; rfl, rfl, rfl⟩, hts.symm⟩
      · replace g3 : (k == 10) = false := g3
        refine aidxk (eEs_get hb1) (by omega) ?_
        conv => whnf
        refine aneed (show ((s.map eSc).length + 1) * 160 ≤ 140737488355328 by simp; omega) ?_
        conv => whnf
        rw [g3, (show (k == 6) = false from g1)] at hts
        exact ⟨hj1, s ++ [(.mk b1 b2 b3 b4 b5 b6 b7 b8, [])], ⟨rfl, by rw [List.map_append]; rfl, rfl, rfl⟩, hts.symm⟩
  · have hj1 := ix_ff h2 (imax0 nd) hj (by omega)
    rw [hj1] at hs
    refine asplit ?_ ?_ <;> intro g1 <;> conv => whnf
    · have hsl : s.length ≤ 1048640 := by rw [hs, scL_len]; simp; omega
      refine loopS (tyOf_ok _) hmix (by kernel_rfl) ms.length [4, 72, 73, 74] [] (fun j (z : List Sc) => [.so 9 (z.map eSc), .p (.sl 12 (eAs ms)), .p (.i .i64 (eAs ms).length), .p (.i .i64 (ix j))]) (fun _ _ => []) (fun j z => z = s ++ (ms.take j).map armSc) s ⟨rfl, rfl, rfl, rfl⟩ (by simp) ?_
      intro j z hj hz
      conv => whnf
      refine asplit ?_ ?_ <;> intro h3 <;> conv => whnf
      · have hj1 := ix_tt h3 (by rw [hml]) hj (by omega)
        obtain ⟨b, hb1⟩ : ∃ b, ms[j]? = some b := ⟨_, List.getElem?_eq_getElem hj1⟩
        have hbm := List.mem_of_getElem? hb1
        have hts : s ++ (ms.take (j + 1)).map armSc = z ++ [armSc b] := by rw [take_snoc hb1, List.map_append, ← List.append_assoc, ← hz]; rfl
        have hzl : z.length ≤ 2097280 := by rw [hz]; simp; omega
        refine aidxk (eAs_get hb1) (by omega) ?_
        have hc := namesOf_spec b.pat (by have := hbw b hbm; omega)
        obtain ⟨⟨p1, p2, p3, p4⟩, ⟨b1, b2, b3, b4, b5, b6, b7, b8⟩⟩ := b
        rw [armSc] at hts
        simp only [Arm.pat, Arm.body] at hc hts
        generalize boundF (.mk p1 p2 p3 p4) = bn at *
        conv => whnf
        refine apc hc ?_
        conv => whnf
        refine aneed (show ((z.map eSc).length + 1) * 160 ≤ 140737488355328 by simp; omega) ?_
        conv => whnf
        refine aneed (by kernel_rfl) ?_
        conv => whnf
        exact ⟨hj1, z ++ [(.mk b1 b2 b3 b4 b5 b6 b7 b8, bn)], ⟨rfl, by rw [List.map_append]; rfl, rfl, rfl⟩, hts.symm⟩
      · have hj1 := ix_ff h3 (by rw [hml]) hj (by omega)
        rw [hj1, List.take_length] at hz
        rw [← hs, show (k == 13) = true from g1, Bool.true_or, cond_true]
        subst hz
        exact .inr (.inl rfl)
    · refine asplit ?_ ?_ <;> intro g2 <;> conv => whnf
      · have hsl : s.length ≤ 1048640 := by rw [hs, scL_len]; simp; omega
        refine loopS (tyOf_ok _) hmix (by kernel_rfl) ms.length [4, 72, 73, 74] [] (fun j (z : List Sc) => [.so 9 (z.map eSc), .p (.sl 12 (eAs ms)), .p (.i .i64 (eAs ms).length), .p (.i .i64 (ix j))]) (fun _ _ => []) (fun j z => z = s ++ (ms.take j).map armSc) s ⟨rfl, rfl, rfl, rfl⟩ (by simp) ?_
        intro j z hj hz
        conv => whnf
        refine asplit ?_ ?_ <;> intro h3 <;> conv => whnf
        · have hj1 := ix_tt h3 (by rw [hml]) hj (by omega)
          obtain ⟨b, hb1⟩ : ∃ b, ms[j]? = some b := ⟨_, List.getElem?_eq_getElem hj1⟩
          have hbm := List.mem_of_getElem? hb1
          have hts : s ++ (ms.take (j + 1)).map armSc = z ++ [armSc b] := by rw [take_snoc hb1, List.map_append, ← List.append_assoc, ← hz]; rfl
          have hzl : z.length ≤ 2097280 := by rw [hz]; simp; omega
          refine aidxk (eAs_get hb1) (by omega) ?_
          have hc := namesOf_spec b.pat (by have := hbw b hbm; omega)
          obtain ⟨⟨p1, p2, p3, p4⟩, ⟨b1, b2, b3, b4, b5, b6, b7, b8⟩⟩ := b
          rw [armSc] at hts
          simp only [Arm.pat, Arm.body] at hc hts
          generalize boundF (.mk p1 p2 p3 p4) = bn at *
          conv => whnf
          refine apc hc ?_
          conv => whnf
          refine aneed (show ((z.map eSc).length + 1) * 160 ≤ 140737488355328 by simp; omega) ?_
          conv => whnf
          refine aneed (by kernel_rfl) ?_
          conv => whnf
          exact ⟨hj1, z ++ [(.mk b1 b2 b3 b4 b5 b6 b7 b8, bn)], ⟨rfl, by rw [List.map_append]; rfl, rfl, rfl⟩, hts.symm⟩
        · have hj1 := ix_ff h3 (by rw [hml]) hj (by omega)
          rw [hj1, List.take_length] at hz
          rw [← hs, show (k == 13) = false from g1, show (k == 18) = true from g2, Bool.false_or, cond_true]
          subst hz
          exact .inr (.inl rfl)
      · rw [← hs, show (k == 13) = false from g1, show (k == 18) = false from g2, Bool.false_or, cond_false, List.append_nil]
        exact .inr (.inl rfl)
end GL
open Go Go.AM Go.Proofs Go.RowKit TR
set_option maxRecDepth 100000
namespace GL
/-! the free names, as the reference finds them -/
def FreeS (e : Ex) : Prop := ∃ l : List ByteArray, l.length ≤ wE e ∧ (∀ s, s ∈ l ↔ fvB s e = true) ∧ APure Tryd.prog 8 [.p (eE e)] (.p (.sl 1 (l.map eStr)))
open Classical in
noncomputable def frF (e : Ex) : List ByteArray := if h : FreeS e then h.choose else []
theorem frF_ok {e : Ex} (h : FreeS e) : (frF e).length ≤ wE e ∧ (∀ s, s ∈ frF e ↔ fvB s e = true) ∧ APure Tryd.prog 8 [.p (eE e)] (.p (.sl 1 ((frF e).map eStr))) := by
  unfold frF; rw [dif_pos h]; exact h.choose_spec
def addF (names out : List ByteArray) (s : ByteArray) : List ByteArray := bif !(names.contains s) && !(out.contains s) then out ++ [s] else out
def foldIn (F : Ex → List ByteArray) (out : List ByteArray) (x : Sc) : List ByteArray := (F x.1).foldl (addF x.2) out
def sumW : List Sc → Nat
  | [] => 0
  | x :: r => wE x.1 + sumW r
theorem sumW_app : ∀ (l r : List Sc), sumW (l ++ r) = sumW l + sumW r
  | [], r => by simp [sumW]
  | x :: l, r => by rw [List.cons_append, sumW, sumW, sumW_app l r]; omega
theorem sumW_scL (k : Int) (t : ByteArray) (ns : List ByteArray) : ∀ (l : List Ex) (i : Nat), sumW (scL k t ns i l) = PV.wts (eEs l)
  | [], i => rfl
  | a :: r, i => by rw [scL, sumW, sumW_scL k t ns r]; simp only [eEs, PV.wts]; rfl
theorem sumW_nil : ∀ (l : List Ex), sumW (l.map fun e => (e, [])) = PV.wts (eEs l)
  | [] => rfl
  | a :: r => by rw [List.map_cons, sumW, sumW_nil r]; simp only [eEs, PV.wts]; rfl
theorem sumW_arm : ∀ (l : List Arm), sumW (l.map armSc) ≤ PV.wts (eAs l)
  | [] => Nat.le_refl _
  | a :: r => by
    have h := sumW_arm r
    have h2 := wA_body a
    rw [List.map_cons, sumW]; simp only [eAs, PV.wts]
    rw [show PV.wt (eA a) = wA a from rfl, show (armSc a).1 = a.body from rfl]; omega
theorem sumW_le (e : Ex) : sumW (countedF e) ≤ wE e := by
  obtain ⟨k, n, t, ns, ts, xs, ms, p⟩ := e
  rw [countedF, wE_mk]
  cases decide (needsF k n xs.length > xs.length) with
  | true => rw [cond_true, sumW_nil]; omega
  | false =>
    rw [cond_false, sumW_app, sumW_scL]
    have h1 := wts_take (eEs xs) (needsF k n xs.length).toNat
    rw [← eEs_take] at h1
    have h2 := sumW_arm ms
    cases (k == 13 || k == 18) with
    | true => rw [cond_true]; omega
    | false => rw [cond_false, sumW]; omega
theorem add_mem (names : List ByteArray) (s : ByteArray) : ∀ (l out : List ByteArray), s ∈ l.foldl (addF names) out ↔ s ∈ out ∨ (s ∈ l ∧ names.contains s = false)
  | [], out => by simp
  | a :: r, out => by
    rw [List.foldl_cons, add_mem names s r, addF]
    cases hn : names.contains a with
    | true =>
      rw [Bool.not_true, Bool.false_and, cond_false, List.mem_cons]
      constructor
      · rintro (h | ⟨h, q⟩)
        · exact .inl h
        · exact .inr ⟨.inr h, q⟩
      · rintro (h | ⟨rfl | h, q⟩)
        · exact .inl h
        · rw [hn] at q; cases q
        · exact .inr ⟨h, q⟩
    | false =>
      cases ho : out.contains a with
      | true =>
        have hm := (cont_iff a out).1 ho
        rw [Bool.not_true, Bool.and_false, cond_false, List.mem_cons]
        constructor
        · rintro (h | ⟨h, q⟩)
          · exact .inl h
          · exact .inr ⟨.inr h, q⟩
        · rintro (h | ⟨rfl | h, q⟩)
          · exact .inl h
          · exact .inl hm
          · exact .inr ⟨h, q⟩
      | false =>
        rw [Bool.not_false, Bool.and_true, cond_true, List.mem_append, List.mem_singleton, List.mem_cons]
        constructor
        · rintro ((h | h) | ⟨h, q⟩)
          · exact .inl h
          · subst h; exact .inr ⟨.inl rfl, hn⟩
          · exact .inr ⟨.inr h, q⟩
        · rintro (h | ⟨h | h, q⟩)
          · exact .inl (.inl h)
          · exact .inl (.inr h)
          · exact .inr ⟨h, q⟩
theorem in_mem (F : Ex → List ByteArray) (s : ByteArray) : ∀ (l : List Sc) (out : List ByteArray), s ∈ l.foldl (foldIn F) out ↔ s ∈ out ∨ ∃ x ∈ l, s ∈ F x.1 ∧ x.2.contains s = false
  | [], out => by simp
  | x :: r, out => by
    rw [List.foldl_cons, in_mem F s r, foldIn, add_mem]
    constructor
    · rintro ((h | h) | ⟨y, hy, h⟩)
      · exact .inl h
      · exact .inr ⟨x, by simp, h⟩
      · exact .inr ⟨y, by simp [hy], h⟩
    · rintro (h | ⟨y, hy, h⟩)
      · exact .inl (.inl h)
      · rcases List.mem_cons.1 hy with rfl | hy
        · exact .inl (.inr h)
        · exact .inr ⟨y, hy, h⟩
theorem add_len (names : List ByteArray) : ∀ (l out : List ByteArray), (l.foldl (addF names) out).length ≤ out.length + l.length
  | [], out => by simp
  | a :: r, out => by
    rw [List.foldl_cons]
    have := add_len names r (addF names out a)
    have h2 : (addF names out a).length ≤ out.length + 1 := by unfold addF; cases !(names.contains a) && !(out.contains a) <;> simp
    simp only [List.length_cons]; omega
theorem in_len (F : Ex → List ByteArray) : ∀ (l : List Sc) (out : List ByteArray), (∀ x ∈ l, (F x.1).length ≤ wE x.1) → (l.foldl (foldIn F) out).length ≤ out.length + sumW l
  | [], out, _ => by simp [sumW]
  | x :: r, out, h => by
    rw [List.foldl_cons, sumW]
    have h1 := in_len F r (foldIn F out x) (fun y hy => h y (by simp [hy]))
    have h2 := add_len x.2 (F x.1) out
    have h3 := h x (by simp)
    unfold foldIn at h1 ⊢; omega
theorem fvN_ex (nm : ByteArray) : ∀ (j : Nat) (l : List Ex), fvN nm j l = true ↔ ∃ e ∈ l.take j, fvB nm e = true
  | 0, [] => by simp [fvN]
  | _ + 1, [] => by simp [fvN]
  | 0, _ :: _ => by simp [fvN]
  | j + 1, e :: r => by rw [fvN, Bool.or_eq_true, fvN_ex nm j r]; simp
theorem fvA_ex (nm : ByteArray) : ∀ (l : List Arm), fvA nm l = true ↔ ∃ x ∈ l.map armSc, fvB nm x.1 = true ∧ x.2.contains nm = false
  | [] => by simp [fvA]
  | .mk p e :: r => by
    rw [fvA, Bool.or_eq_true, fvA_ex nm r, Bool.and_eq_true, Bool.not_eq_true']
    constructor
    · rintro (⟨h1, h2⟩ | ⟨x, hx, h⟩)
      · exact ⟨armSc (.mk p e), by simp, h2, h1⟩
      · exact ⟨x, by simp at hx ⊢; exact .inr hx, h⟩
    · rintro ⟨x, hx, h⟩
      rw [List.map_cons] at hx
      rcases List.mem_cons.1 hx with rfl | hx
      · exact .inl ⟨h.2, h.1⟩
      · exact .inr ⟨x, hx, h⟩
theorem scL_plain (k : Int) (t : ByteArray) (ns : List ByteArray) (h6 : (k == 6) = false) (h10 : (k == 10) = false) : ∀ (l : List Ex) (i : Nat), scL k t ns i l = l.map fun e => (e, [])
  | [], i => rfl
  | a :: r, i => by rw [scL, scL_plain k t ns h6 h10 r, nmsOf, h6, h10]; rfl
theorem map_ex (nm : ByteArray) (l : List Ex) : (∃ x ∈ l.map (fun e => ((e, []) : Sc)), fvB nm x.1 = true ∧ x.2.contains nm = false) ↔ ∃ e ∈ l, fvB nm e = true := by
  constructor
  · rintro ⟨x, hx, h1, h2⟩
    obtain ⟨e, he, rfl⟩ := List.mem_map.1 hx
    exact ⟨e, he, h1⟩
  · rintro ⟨e, he, h⟩
    exact ⟨(e, []), List.mem_map.2 ⟨e, he, rfl⟩, h, by simp⟩
theorem one_cont (t nm : ByteArray) : ([t] : List ByteArray).contains nm = (t == nm) := by
  rw [List.contains_cons, List.contains_nil, Bool.or_false]
  by_cases q : nm = t
  · subst q; rfl
  · rw [beq_no q, beq_no (fun h => q h.symm)]
theorem counted_fv (nm : ByteArray) (e : Ex) (h5 : (e.kind == 5) = false) : fvB nm e = true ↔ ∃ x ∈ countedF e, fvB nm x.1 = true ∧ x.2.contains nm = false := by
  obtain ⟨k, n, t, ns, ts, xs, ms, p⟩ := e
  simp only [Ex.kind] at h5
  rw [fvB, countedF]
  by_cases g1 : needsF k n xs.length < 0
  · rw [decide_eq_true g1, cond_true, show decide (needsF k n xs.length > (xs.length : Int)) = false from decide_eq_false (by omega), cond_false, show (needsF k n xs.length).toNat = 0 by omega]
    have q13 : (k == 13) = false := by
      cases h : k == 13 with
      | false => rfl
      | true => rw [eq_of_beq h] at g1; exact absurd g1 (by show ¬ ((1 : Int) < 0); decide)
    have q18 : (k == 18) = false := by
      cases h : k == 18 with
      | false => rfl
      | true => rw [eq_of_beq h] at g1; exact absurd g1 (by show ¬ ((bif decide (n ≥ 0) then (1 : Int) else 0) < 0); cases decide (n ≥ 0) <;> decide)
    rw [q13, q18]
    simp [scL]
  rw [decide_eq_false g1, cond_false]
  by_cases g2 : (xs.length : Int) < needsF k n xs.length
  · rw [decide_eq_true g2, cond_true, cond_true, map_ex, fvN_ex, List.take_length]
  rw [decide_eq_false g2, cond_false, cond_false, h5, cond_false, Bool.or_eq_true]
  have hA : (bif k == 13 || k == 18 then fvA nm ms else false) = true ↔ ∃ x ∈ (bif k == 13 || k == 18 then ms.map armSc else []), fvB nm x.1 = true ∧ x.2.contains nm = false := by
    cases (k == 13 || k == 18) with
    | true => rw [cond_true, cond_true]; exact fvA_ex nm ms
    | false => rw [cond_false, cond_false]; simp
  have hX : (bif k == 6 then fvLet nm t xs else bif k == 10 then fvFun nm ns xs else fvN nm (needsF k n xs.length).toNat xs) = true ↔ ∃ x ∈ scL k t ns 0 (xs.take (needsF k n xs.length).toNat), fvB nm x.1 = true ∧ x.2.contains nm = false := by
    cases h6 : k == 6 with
    | true =>
      have := eq_of_beq h6
      subst this
      rw [needs6] at g2 ⊢
      match xs, g2 with
      | [], g2 => exact absurd (show (((0 : Nat) : Int) < 2) by decide) g2
      | [a], g2 => exact absurd (show (((1 : Nat) : Int) < 2) by decide) g2
      | a :: b :: r, _ =>
        rw [cond_true, fvLet, show ((2 : Int)).toNat = 2 from rfl]
        show _ ↔ ∃ x ∈ scL 6 t ns 0 [a, b], _
        simp only [scL, nmsOf]
        rw [Bool.or_eq_true, Bool.and_eq_true, Bool.not_eq_true', ← one_cont t nm]
        constructor
        · rintro (h | ⟨h1, h2⟩)
          · exact ⟨(a, []), List.mem_cons.2 (.inl rfl), h, by simp⟩
          · exact ⟨(b, [t]), by simp, h2, h1⟩
        · rintro ⟨x, hx, q1, q2⟩
          rcases List.mem_cons.1 hx with rfl | hx
          · exact .inl q1
          · rw [List.mem_singleton] at hx; subst hx; exact .inr ⟨q2, q1⟩
    | false =>
      rw [cond_false]
      cases h10 : k == 10 with
      | true =>
        have := eq_of_beq h10
        subst this
        rw [needs10] at g2 ⊢
        match xs, g2 with
        | [], g2 => exact absurd (show (((0 : Nat) : Int) < 1) by decide) g2
        | a :: r, _ =>
          rw [cond_true, fvFun, show ((1 : Int)).toNat = 1 from rfl]
          show _ ↔ ∃ x ∈ scL 10 t ns 0 [a], _
          simp only [scL, nmsOf]
          rw [Bool.and_eq_true, Bool.not_eq_true']
          constructor
          · rintro ⟨h1, h2⟩
            exact ⟨(a, ns), by simp, h2, h1⟩
          · rintro ⟨x, hx, q1, q2⟩
            rw [List.mem_singleton] at hx; subst hx; exact ⟨q2, q1⟩
      | false => rw [cond_false, scL_plain k t ns h6 h10, map_ex, fvN_ex]
  rw [hX, hA]
  constructor
  · rintro (⟨x, hx, h⟩ | ⟨x, hx, h⟩)
    · exact ⟨x, List.mem_append.2 (.inl hx), h⟩
    · exact ⟨x, List.mem_append.2 (.inr hx), h⟩
  · rintro ⟨x, hx, h⟩
    rcases List.mem_append.1 hx with hx | hx
    · exact .inl ⟨x, hx, h⟩
    · exact .inr ⟨x, hx, h⟩
theorem scL_mem (k : Int) (t : ByteArray) (ns : List ByteArray) (x : Sc) : ∀ (l : List Ex) (i : Nat), x ∈ scL k t ns i l → x.1 ∈ l ∧ x.2.length ≤ ns.length + 1
  | [], i, h => by cases h
  | a :: r, i, h => by
    rw [scL] at h
    rcases List.mem_cons.1 h with rfl | h
    · refine ⟨by simp, ?_⟩
      unfold nmsOf
      cases k == 10 with
      | true => simp
      | false => cases k == 6 && i == 1 <;> simp
    · have := scL_mem k t ns x r (i + 1) h
      exact ⟨by simp [this.1], this.2⟩
theorem counted_mem {e : Ex} {x : Sc} (h : x ∈ countedF e) : (x.1 ∈ e.args ∨ ∃ a ∈ e.arms, x.1 = a.body) ∧ x.2.length ≤ wE e := by
  obtain ⟨k, n, t, ns, ts, xs, ms, p⟩ := e
  have hl := wE_lens k n t ns ts xs ms p
  rw [countedF] at h
  simp only [Ex.args, Ex.arms]
  revert h
  cases decide (needsF k n xs.length > xs.length) with
  | true =>
    intro h
    rw [cond_true] at h
    obtain ⟨a, ha, rfl⟩ := List.mem_map.1 h
    exact ⟨.inl ha, by simp⟩
  | false =>
    intro h
    rw [cond_false] at h
    rcases List.mem_append.1 h with h | h
    · have := scL_mem k t ns x _ _ h
      exact ⟨.inl (List.mem_of_mem_take this.1), by omega⟩
    · revert h
      cases (k == 13 || k == 18) with
      | true =>
        intro h
        rw [cond_true] at h
        obtain ⟨a, ha, rfl⟩ := List.mem_map.1 h
        have h1 := wE_body (k := k) (n := n) (t := t) (ns := ns) (ts := ts) (xs := xs) (p := p) ha
        have h2 := bound_le a.pat
        exact ⟨.inr ⟨a, ha, rfl⟩, by rw [show (armSc a).2 = boundF a.pat from rfl]; omega⟩
      | false => intro h; rw [cond_false] at h; cases h
end GL
open Go Go.AM Go.Proofs Go.RowKit TR
set_option maxRecDepth 100000
namespace GL
theorem free_of (e : Ex) (hw : wE e ≤ 1048640) (ih1 : ∀ a ∈ e.args, FreeS a) (ih2 : ∀ a ∈ e.arms, FreeS a.body) : FreeS e := by
  have hF : ∀ x ∈ countedF e, FreeS x.1 := fun x hx => by
    rcases (counted_mem hx).1 with h | ⟨a, ha, h⟩
    · exact ih1 _ h
    · rw [h]; exact ih2 a ha
  have hmem : ∀ s, s ∈ (countedF e).foldl (foldIn frF) [] ↔ ∃ x ∈ countedF e, fvB s x.1 = true ∧ x.2.contains s = false := fun s => by
    rw [in_mem]
    constructor
    · rintro (h | ⟨x, hx, h⟩)
      · cases h
      · exact ⟨x, hx, ((frF_ok (hF x hx)).2.1 s).1 h.1, h.2⟩
    · rintro ⟨x, hx, h⟩
      exact .inr ⟨x, hx, ((frF_ok (hF x hx)).2.1 s).2 h.1, h.2⟩
  have hlen := in_len frF (countedF e) [] (fun x hx => (frF_ok (hF x hx)).1)
  have hsw := sumW_le e
  have hcs := counted_spec e hw
  have hfv := fun s => counted_fv s e
  have hcm := fun x hx => (counted_mem (e := e) (x := x) hx).2
  have hcl : (countedF e).length ≤ wE e := by
    have : ∀ l : List Sc, l.length ≤ sumW l := fun l => by
      induction l with
      | nil => exact Nat.le_refl _
      | cons a r ih => rw [sumW]; have := wE_pos a.1; simp only [List.length_cons]; omega
    have := this (countedF e); omega
  have hL := fun x hx => (frF_ok (hF x hx)).1
  have hS := fun x hx => (frF_ok (hF x hx)).2.2
  have hWp := wE_pos e
  obtain ⟨k, n, t, ns, ts, xs, ms, p⟩ := e
  simp only [Ex.kind] at hfv
  generalize hC : countedF (.mk k n t ns ts xs ms p) = Cs at *
  have hfe : ∀ s, fvB s (.mk k n t ns ts xs ms p) = fvB s (.mk k n t ns ts xs ms p) := fun _ => rfl
  refine ⟨bif k == 5 then [t] else Cs.foldl (foldIn frF) [], ?_, fun s => ?_, ?_⟩
  · cases k == 5 with
    | true => rw [cond_true]; simp; omega
    | false => rw [cond_false]; simp at hlen; omega
  · cases h5 : k == 5 with
    | true =>
      have := eq_of_beq h5
      subst this
      rw [cond_true, List.mem_singleton, fvB, needs5, show decide ((0 : Int) < 0) = false from rfl, show decide ((xs.length : Int) < 0) = false from decide_eq_false (by omega), cond_false, cond_false, show ((5 : Int) == 5) = true from rfl, cond_true]
      rw [show ((5 : Int) == 13 || (5 : Int) == 18) = false from rfl, cond_false, Bool.or_false, beq_bytes]
      exact ⟨fun h => h.symm, fun h => h.symm⟩
    | false =>
      rw [cond_false, hmem, hfv s h5]
  generalize wE (.mk k n t ns ts xs ms p) = W0 at *
  clear hmem hfv hfe hC ih1 ih2
  generalize frF = FF at *
  refine APure.intro (tyOf_ok Tryd.prog) hmix Tryd.func8 rfl (by rfl) (by kernel_rfl) (by show 1 ≤ _; decide) rfl ?_
  conv => whnf
  refine asplit ?_ ?_ <;> intro g1 <;> conv => whnf
  · rw [show (k == 5) = true from g1, cond_true]
    exact .inr (.inl rfl)
  rw [show (k == 5) = false from g1, cond_false]
  refine apc hcs ?_
  conv => whnf
  generalize hR : Cs.foldl (foldIn FF) [] = R
  refine lp_nil 3 0 rfl ?_
  refine loopS (tyOf_ok _) hmix (by kernel_rfl) Cs.length [3, 15, 16, 17] [] (fun j (s : List ByteArray) => [.so 1 (s.map eStr), .p (.sl 9 (Cs.map eSc)), .p (.i .i64 (Cs.map eSc).length), .p (.i .i64 (ix j))]) (fun _ _ => []) (fun j s => s.length + sumW (Cs.drop j) ≤ W0 ∧ (Cs.drop j).foldl (foldIn FF) s = R) [] ⟨rfl, rfl, rfl, rfl⟩ ⟨by simpa using hsw, hR⟩ ?_
  rintro j s hj ⟨hs1, hs2⟩
  conv => whnf
  refine asplit ?_ ?_ <;> intro h1 <;> conv => whnf
  · have hj1 := ix_tt h1 (by simp) hj (by omega)
    obtain ⟨b, hb1⟩ : ∃ b, Cs[j]? = some b := ⟨_, List.getElem?_eq_getElem hj1⟩
    have hbm := List.mem_of_getElem? hb1
    have hc := hS b hbm
    have hbl := hL b hbm
    have hb2 := hcm b hbm
    rw [drop_cons hb1, sumW] at hs1
    rw [drop_cons hb1, List.foldl_cons, foldIn] at hs2
    refine aidxk (x := eSc b) (by simp [hb1]) (by omega) ?_
    obtain ⟨⟨b1, b2, b3, b4, b5, b6, b7, b8⟩, nl⟩ := b
    simp only at hc hbl hb2 hs1 hs2
    generalize FF (.mk b1 b2 b3 b4 b5 b6 b7 b8) = Fl at *
    generalize hwb : wE (.mk b1 b2 b3 b4 b5 b6 b7 b8) = Wb at *
    clear hwb
    have hWb : Wb ≤ W0 := by omega
    conv => whnf
    refine apc hc ?_
    conv => whnf
    refine loopS (tyOf_ok _) hmix (by kernel_rfl) Fl.length [3, 5, 15, 16, 17, 23, 24, 25] [5] (fun i (z : List ByteArray) => [.so 1 (z.map eStr), .ptr 5 0, .p (.sl 9 (Cs.map eSc)), .p (.i .i64 (Cs.map eSc).length), .p (.i .i64 (ix j)), .p (.sl 1 (Fl.map eStr)), .p (.i .i64 (Fl.map eStr).length), .p (.i .i64 (ix i))]) (fun _ _ => [.cells [.p (.i .i64 b1), .p (.i .i64 b2), .p (.s b3), .p (.sl 1 (b4.map eStr)), .p (.sl 3 (eTs b5)), .p (.sl 8 (eEs b6)), .p (.sl 12 (eAs b7)), .p (.i .i64 b8), .p (.sl 1 (nl.map eStr))]]) (fun i z => z.length + (Fl.length - i) + sumW (Cs.drop (j + 1)) ≤ W0 ∧ (Cs.drop (j + 1)).foldl (foldIn FF) ((Fl.drop i).foldl (addF nl) z) = R) s ⟨rfl, rfl, rfl, rfl⟩ ⟨by omega, hs2⟩ ?_
    clear hs1 hs2
    rintro i z hi ⟨hz1, hz2⟩
    conv => whnf
    refine asplit ?_ ?_ <;> intro h2 <;> conv => whnf
    · have hi1 := ix_tt h2 (by simp) hi (by omega)
      obtain ⟨a, ha1⟩ : ∃ a, Fl[i]? = some a := ⟨_, List.getElem?_eq_getElem hi1⟩
      rw [drop_cons ha1, List.foldl_cons, addF] at hz2
      refine aidxk (x := eStr a) (by simp [ha1]) (by omega) ?_
      have c1 := contS_spec nl a (by omega)
      have c2 := contS_spec z a (by omega)
      generalize nl.contains a = q1 at *
      generalize z.contains a = q2 at *
      conv => whnf
      refine apc c1 ?_
      conv => whnf
      refine asplit ?_ ?_ <;> intro h3 <;> conv => whnf
      · rw [show (!q1) = true from h3, Bool.true_and] at hz2
        refine apc c2 ?_
        conv => whnf
        refine asplit ?_ ?_ <;> intro h4 <;> conv => whnf
        · rw [show (!q2) = true from h4, cond_true] at hz2
          refine aneed (show ((z.map eStr).length + 1) * 16 ≤ 140737488355328 by simp; omega) ?_
          conv => whnf
          exact ⟨hi1, z ++ [a], ⟨rfl, by rw [List.map_append]; rfl, rfl, rfl⟩, by simp; omega, hz2⟩
        · rw [show (!q2) = false from h4, cond_false] at hz2
          exact ⟨hi1, z, ⟨rfl, rfl, rfl, rfl⟩, by omega, hz2⟩
      · rw [show (!q1) = false from h3, Bool.false_and, cond_false] at hz2
        exact ⟨hi1, z, ⟨rfl, rfl, rfl, rfl⟩, by omega, hz2⟩
    · have hi1 := ix_ff h2 (by simp) hi (by omega)
      rw [hi1, List.drop_length, List.foldl_nil] at hz2
      exact ⟨hj1, z, ⟨rfl, rfl, rfl, rfl⟩, by omega, hz2⟩
  · have hj1 := ix_ff h1 (by simp) hj (by omega)
    rw [hj1, List.drop_length, List.foldl_nil] at hs2
    subst hs2
    exact .inr (.inl rfl)
theorem freeOf_spec (e : Ex) : wE e ≤ 1048640 → FreeS e := by
  induction e using Ex.ind with
  | h k n t ns ts xs ms p ih1 ih2 =>
  intro hw
  exact free_of _ hw (fun x hx => ih1 x hx (by have := wE_args (k := k) (n := n) (t := t) (ns := ns) (ts := ts) (xs := xs) (ms := ms) (p := p) hx; omega))
    (fun a ha => ih2 a ha (by have := wE_body (k := k) (n := n) (t := t) (ns := ns) (ts := ts) (xs := xs) (ms := ms) (p := p) ha; omega))
end GL
open Go Go.AM Go.Proofs Go.RowKit TR
set_option maxRecDepth 100000
namespace GL
/-! uses -/
theorem fv10 (nm : ByteArray) (n : Int) (t : ByteArray) (ns : List ByteArray) (ts : List Ty) (xs : List Ex) (ms : List Arm) (p : Int) : fvB nm (.mk 10 n t ns ts xs ms p) = fvFun nm ns xs := by
  rw [fvB, needs10]
  rw [show decide ((1 : Int) < 0) = false from rfl, cond_false, show ((10 : Int) == 5) = false from rfl, show ((10 : Int) == 6) = false from rfl, show ((10 : Int) == 10) = true from rfl, show ((10 : Int) == 13 || (10 : Int) == 18) = false from rfl]
  simp only [cond_false, cond_true, Bool.or_false]
  match xs with
  | [] => rw [show decide ((([] : List Ex).length : Int) < 1) = true from rfl, cond_true]; rfl
  | a :: r => rw [show decide (((a :: r).length : Int) < 1) = false from decide_eq_false (by simp; omega), cond_false]
theorem free_len (e : Ex) : (freeF e).length ≤ wE e := by
  have := visit_out e ⟨[], [], []⟩
  simpa [freeF] using this
def UseS (nm : ByteArray) (e : Ex) : Prop := APure Tryd.prog 6 [.p (.s nm), .p (eE e)] (.p (.i .i64 (useF nm e)))
theorem use_of (nm : ByteArray) (k n : Int) (t : ByteArray) (ns : List ByteArray) (ts : List Ty) (xs : List Ex) (ms : List Arm) (p : Int) (hw : wE (.mk k n t ns ts xs ms p) ≤ 1048640) (ih1 : ∀ a ∈ xs, UseS nm a) (ih2 : ∀ a ∈ ms, UseS nm a.body) : UseS nm (.mk k n t ns ts xs ms p) := by
  have hl := wE_lens k n t ns ts xs ms p
  have hwk := wE_mk k n t ns ts xs ms p
  have hfree := free_spec (.mk k n t ns ts xs ms p) hw
  have hfm := mem_free (.mk k n t ns ts xs ms p) (by omega) nm
  have hfc := contS_spec (freeF (.mk k n t ns ts xs ms p)) nm (by have := free_len (.mk k n t ns ts xs ms p); omega)
  have hel := eEs_len xs
  have hml := eAs_len ms
  have hsum := sum_le nm k t xs 0
  have harm := armU_le nm ms
  have hbw := fun m (hm : m ∈ ms) => wE_body (k := k) (n := n) (t := t) (ns := ns) (ts := ts) (xs := xs) (p := p) hm
  have hR : useF nm (.mk k n t ns ts xs ms p) = bif k == 5 then (bif t == nm then 1 else 0) else bif k == 10 then (bif fvFun nm ns xs then 2 else 0) else
      sumU nm k t 0 xs + max (mostU nm k t 0 xs) (bif k == 13 || k == 18 then armU nm ms else 0) := by rw [useF]
  unfold UseS
  generalize hFR : freeF (.mk k n t ns ts xs ms p) = fr at *
  have h10 : (k == 10) = true → fr.contains nm = fvFun nm ns xs := fun h => by
    have := eq_of_beq h
    subst this
    rw [fv10] at hfm
    exact Bool.eq_iff_iff.2 ((cont_iff nm fr).trans hfm)
  generalize wE (.mk k n t ns ts xs ms p) = W0 at *
  generalize useF nm (.mk k n t ns ts xs ms p) = R at *
  generalize hSU : sumU nm k t 0 xs = SU at *
  generalize hMO : mostU nm k t 0 xs = MO at *
  clear hfm hFR
  refine APure.intro (tyOf_ok Tryd.prog) hmix Tryd.func6 rfl (by rfl) (by kernel_rfl) (by show 2 ≤ _; decide) rfl ?_
  conv => whnf
  refine asplit ?_ ?_ <;> intro g1 <;> conv => whnf
  · replace g1 : (k == 5) = true := g1
    rw [g1, cond_true] at hR
    refine asplit ?_ ?_ <;> intro g2 <;> conv => whnf
    · rw [bl_iff] at g2
      rw [show (t == nm) = true from g2, cond_true] at hR
      exact .inl (pi (by rw [hR]; rfl))
    · rw [bl_iff] at g2
      rw [show (t == nm) = false from g2, cond_false] at hR
      exact .inl (pi (by rw [hR]; rfl))
  replace g1 : (k == 5) = false := g1
  rw [g1, cond_false] at hR
  refine asplit ?_ ?_ <;> intro g2 <;> conv => whnf
  · replace g2 : (k == 10) = true := g2
    rw [g2, cond_true, ← h10 g2] at hR
    refine apc hfree ?_
    conv => whnf
    refine apc hfc ?_
    conv => whnf
    refine asplit ?_ ?_ <;> intro g3 <;> conv => whnf
    · rw [g3, cond_true] at hR
      exact .inl (pi (by rw [hR]; rfl))
    · rw [g3, cond_false] at hR
      exact .inl (pi (by rw [hR]; rfl))
  replace g2 : (k == 10) = false := g2
  rw [g2, cond_false] at hR
  clear hfree hfc h10
  refine loopS (tyOf_ok _) hmix (by kernel_rfl) xs.length [0, 3, 5, 6, 27, 28, 29] [3] (fun j (s : Nat × Nat) => [.p (.s nm), .ptr 3 0, .p (.i .i64 (s.1 : Nat)), .p (.i .i64 (s.2 : Nat)), .p (.sl 8 (eEs xs)), .p (.i .i64 (eEs xs).length), .p (.i .i64 (ix j))]) (fun _ _ => [.cells [.p (.i .i64 k), .p (.i .i64 n), .p (.s t), .p (.sl 1 (ns.map eStr)), .p (.sl 3 (eTs ts)), .p (.sl 8 (eEs xs)), .p (.sl 12 (eAs ms)), .p (.i .i64 p)]]) (fun j s => s.1 + sumU nm k t j (xs.drop j) = SU ∧ max s.2 (mostU nm k t j (xs.drop j)) = MO) (0, 0) ⟨rfl, rfl, rfl, rfl⟩ ⟨by simpa using hSU, by simpa using hMO⟩ ?_
  clear hSU hMO
  rintro j ⟨sa, sm⟩ hj ⟨hs1, hs2⟩
  simp only at hs1 hs2
  conv => whnf
  refine asplit ?_ ?_ <;> intro h1 <;> conv => whnf
  · have hj1 := ix_tt h1 (by rw [hel]) hj (by omega)
    obtain ⟨b, hb1⟩ : ∃ b, xs[j]? = some b := ⟨_, List.getElem?_eq_getElem hj1⟩
    have hbm := List.mem_of_getElem? hb1
    have hc := ih1 b hbm
    unfold UseS at hc
    rw [drop_cons hb1, sumU] at hs1
    rw [drop_cons hb1, mostU] at hs2
    have hi1 : (ix j != 1) = !(j == 1) := by
      rw [ix_eq (by omega), bne]
      by_cases q : j = 1
      · subst q; rfl
      · rw [show (j == 1) = false by simpa using q]; simpa using fun h => q (by omega)
    have hi0 : decide (ix j > 0) = !(j == 0) := by
      rw [ix_eq (by omega)]
      by_cases q : j = 0
      · subst q; rfl
      · rw [show (j == 0) = false by simpa using q]; simp; omega
    refine aidxk (eEs_get hb1) (by omega) ?_
    generalize useF nm b = ub at *
    obtain ⟨b1, b2, b3, b4, b5, b6, b7, b8⟩ := b
    conv => whnf
    refine asplit ?_ ?_ <;> intro g3 <;> conv => whnf
    · replace g3 : (!(k == 6)) = true := g3
      have k6 : (k == 6) = false := by simpa using g3
      refine apc hc ?_
      conv => whnf
      rw [k6, Bool.false_and, cond_false] at hs1 hs2
      refine asplit ?_ ?_ <;> intro k7 <;> conv => whnf
      · replace k7 : (k == 7) = true := k7
        refine asplit ?_ ?_ <;> intro i0 <;> conv => whnf
        · rw [hi0] at i0
          rw [k7, i0, Bool.true_and, Bool.true_or, cond_true] at hs2
          rw [k7, i0, Bool.true_and, Bool.true_or, cond_true, Nat.zero_add] at hs1
          exact ⟨hj1, (sa, max sm ub), ⟨rfl, by simp only [← imax_nat']; rfl, rfl, rfl⟩, hs1, by rw [Nat.max_assoc]; exact hs2⟩
        · rw [hi0] at i0
          refine asplit ?_ ?_ <;> intro k18 <;> conv => whnf
          · replace k18 : (k == 18) = true := k18
            rw [k7, i0, Bool.and_false, k18, Bool.or_true, cond_true] at hs2
            rw [k7, i0, Bool.and_false, k18, Bool.or_true, cond_true, Nat.zero_add] at hs1
            exact ⟨hj1, (sa, max sm ub), ⟨rfl, by simp only [← imax_nat']; rfl, rfl, rfl⟩, hs1, by rw [Nat.max_assoc]; exact hs2⟩
          · replace k18 : (k == 18) = false := k18
            rw [k7, i0, Bool.and_false, k18, Bool.or_false, cond_false, Nat.max_eq_right (Nat.zero_le _)] at hs2
            rw [k7, i0, Bool.and_false, k18, Bool.or_false, cond_false] at hs1
            exact ⟨hj1, (sa + ub, sm), ⟨rfl, by simp only [List.map_cons, List.map_nil]; rw [show ((sa + ub : Nat) : Int) = IntKind.i64.wrap ((sa : Int) + ((ub : Nat) : Int)) by rw [wrap64 (by omega) (by omega)]; omega]; rfl, rfl, rfl⟩, by simp only; omega, hs2⟩
      · replace k7 : (k == 7) = false := k7
        refine asplit ?_ ?_ <;> intro k18 <;> conv => whnf
        · replace k18 : (k == 18) = true := k18
          rw [k7, Bool.false_and, k18, Bool.or_true, cond_true] at hs2
          rw [k7, Bool.false_and, k18, Bool.or_true, cond_true, Nat.zero_add] at hs1
          exact ⟨hj1, (sa, max sm ub), ⟨rfl, by simp only [← imax_nat']; rfl, rfl, rfl⟩, hs1, by rw [Nat.max_assoc]; exact hs2⟩
        · replace k18 : (k == 18) = false := k18
          rw [k7, Bool.false_and, k18, Bool.or_false, cond_false, Nat.max_eq_right (Nat.zero_le _)] at hs2
          rw [k7, Bool.false_and, k18, Bool.or_false, cond_false] at hs1
          exact ⟨hj1, (sa + ub, sm), ⟨rfl, by simp only [List.map_cons, List.map_nil]; rw [show ((sa + ub : Nat) : Int) = IntKind.i64.wrap ((sa : Int) + ((ub : Nat) : Int)) by rw [wrap64 (by omega) (by omega)]; omega]; rfl, rfl, rfl⟩, by simp only; omega, hs2⟩
    · replace g3 : (!(k == 6)) = false := g3
      have k6 : (k == 6) = true := by simpa using g3
      refine asplit ?_ ?_ <;> intro g4 <;> conv => whnf
      · rw [hi1] at g4
        have j1 : (j == 1) = false := by simpa using g4
        refine apc hc ?_
        conv => whnf
        rw [k6, j1, Bool.false_and, Bool.and_false, cond_false] at hs1 hs2
        refine asplit ?_ ?_ <;> intro k7 <;> conv => whnf
        · replace k7 : (k == 7) = true := k7
          refine asplit ?_ ?_ <;> intro i0 <;> conv => whnf
          · rw [hi0] at i0
            rw [k7, i0, Bool.true_and, Bool.true_or, cond_true] at hs2
            rw [k7, i0, Bool.true_and, Bool.true_or, cond_true, Nat.zero_add] at hs1
            exact ⟨hj1, (sa, max sm ub), ⟨rfl, by simp only [← imax_nat']; rfl, rfl, rfl⟩, hs1, by rw [Nat.max_assoc]; exact hs2⟩
          · rw [hi0] at i0
            refine asplit ?_ ?_ <;> intro k18 <;> conv => whnf
            · replace k18 : (k == 18) = true := k18
              rw [k7, i0, Bool.and_false, k18, Bool.or_true, cond_true] at hs2
              rw [k7, i0, Bool.and_false, k18, Bool.or_true, cond_true, Nat.zero_add] at hs1
              exact ⟨hj1, (sa, max sm ub), ⟨rfl, by simp only [← imax_nat']; rfl, rfl, rfl⟩, hs1, by rw [Nat.max_assoc]; exact hs2⟩
            · replace k18 : (k == 18) = false := k18
              rw [k7, i0, Bool.and_false, k18, Bool.or_false, cond_false, Nat.max_eq_right (Nat.zero_le _)] at hs2
              rw [k7, i0, Bool.and_false, k18, Bool.or_false, cond_false] at hs1
              exact ⟨hj1, (sa + ub, sm), ⟨rfl, by simp only [List.map_cons, List.map_nil]; rw [show ((sa + ub : Nat) : Int) = IntKind.i64.wrap ((sa : Int) + ((ub : Nat) : Int)) by rw [wrap64 (by omega) (by omega)]; omega]; rfl, rfl, rfl⟩, by simp only; omega, hs2⟩
        · replace k7 : (k == 7) = false := k7
          refine asplit ?_ ?_ <;> intro k18 <;> conv => whnf
          · replace k18 : (k == 18) = true := k18
            rw [k7, Bool.false_and, k18, Bool.or_true, cond_true] at hs2
            rw [k7, Bool.false_and, k18, Bool.or_true, cond_true, Nat.zero_add] at hs1
            exact ⟨hj1, (sa, max sm ub), ⟨rfl, by simp only [← imax_nat']; rfl, rfl, rfl⟩, hs1, by rw [Nat.max_assoc]; exact hs2⟩
          · replace k18 : (k == 18) = false := k18
            rw [k7, Bool.false_and, k18, Bool.or_false, cond_false, Nat.max_eq_right (Nat.zero_le _)] at hs2
            rw [k7, Bool.false_and, k18, Bool.or_false, cond_false] at hs1
            exact ⟨hj1, (sa + ub, sm), ⟨rfl, by simp only [List.map_cons, List.map_nil]; rw [show ((sa + ub : Nat) : Int) = IntKind.i64.wrap ((sa : Int) + ((ub : Nat) : Int)) by rw [wrap64 (by omega) (by omega)]; omega]; rfl, rfl, rfl⟩, by simp only; omega, hs2⟩
      · rw [hi1] at g4
        have j1 : (j == 1) = true := by simpa using g4
        refine asplit ?_ ?_ <;> intro g5 <;> conv => whnf
        · replace g5 : (!(t.toList == nm.toList)) = true := g5
          rw [bl_iff] at g5
          have tn : (t == nm) = false := by simpa using g5
          refine apc hc ?_
          conv => whnf
          rw [k6, j1, tn, Bool.true_and, Bool.true_and, cond_false] at hs1 hs2
          refine asplit ?_ ?_ <;> intro k7 <;> conv => whnf
          · replace k7 : (k == 7) = true := k7
            refine asplit ?_ ?_ <;> intro i0 <;> conv => whnf
            · rw [hi0] at i0
              rw [k7, i0, Bool.true_and, Bool.true_or, cond_true] at hs2
              rw [k7, i0, Bool.true_and, Bool.true_or, cond_true, Nat.zero_add] at hs1
              exact ⟨hj1, (sa, max sm ub), ⟨rfl, by simp only [← imax_nat']; rfl, rfl, rfl⟩, hs1, by rw [Nat.max_assoc]; exact hs2⟩
            · rw [hi0] at i0
              refine asplit ?_ ?_ <;> intro k18 <;> conv => whnf
              · replace k18 : (k == 18) = true := k18
                rw [k7, i0, Bool.and_false, k18, Bool.or_true, cond_true] at hs2
                rw [k7, i0, Bool.and_false, k18, Bool.or_true, cond_true, Nat.zero_add] at hs1
                exact ⟨hj1, (sa, max sm ub), ⟨rfl, by simp only [← imax_nat']; rfl, rfl, rfl⟩, hs1, by rw [Nat.max_assoc]; exact hs2⟩
              · replace k18 : (k == 18) = false := k18
                rw [k7, i0, Bool.and_false, k18, Bool.or_false, cond_false, Nat.max_eq_right (Nat.zero_le _)] at hs2
                rw [k7, i0, Bool.and_false, k18, Bool.or_false, cond_false] at hs1
                exact ⟨hj1, (sa + ub, sm), ⟨rfl, by simp only [List.map_cons, List.map_nil]; rw [show ((sa + ub : Nat) : Int) = IntKind.i64.wrap ((sa : Int) + ((ub : Nat) : Int)) by rw [wrap64 (by omega) (by omega)]; omega]; rfl, rfl, rfl⟩, by simp only; omega, hs2⟩
          · replace k7 : (k == 7) = false := k7
            refine asplit ?_ ?_ <;> intro k18 <;> conv => whnf
            · replace k18 : (k == 18) = true := k18
              rw [k7, Bool.false_and, k18, Bool.or_true, cond_true] at hs2
              rw [k7, Bool.false_and, k18, Bool.or_true, cond_true, Nat.zero_add] at hs1
              exact ⟨hj1, (sa, max sm ub), ⟨rfl, by simp only [← imax_nat']; rfl, rfl, rfl⟩, hs1, by rw [Nat.max_assoc]; exact hs2⟩
            · replace k18 : (k == 18) = false := k18
              rw [k7, Bool.false_and, k18, Bool.or_false, cond_false, Nat.max_eq_right (Nat.zero_le _)] at hs2
              rw [k7, Bool.false_and, k18, Bool.or_false, cond_false] at hs1
              exact ⟨hj1, (sa + ub, sm), ⟨rfl, by simp only [List.map_cons, List.map_nil]; rw [show ((sa + ub : Nat) : Int) = IntKind.i64.wrap ((sa : Int) + ((ub : Nat) : Int)) by rw [wrap64 (by omega) (by omega)]; omega]; rfl, rfl, rfl⟩, by simp only; omega, hs2⟩
        · replace g5 : (!(t.toList == nm.toList)) = false := g5
          rw [bl_iff] at g5
          have tn : (t == nm) = true := by simpa using g5
          rw [k6, j1, tn, Bool.true_and, Bool.true_and, cond_true] at hs1 hs2
          refine asplit ?_ ?_ <;> intro k7 <;> conv => whnf
          · replace k7 : (k == 7) = true := k7
            refine asplit ?_ ?_ <;> intro i0 <;> conv => whnf
            · rw [hi0] at i0
              rw [k7, i0, Bool.true_and, Bool.true_or, cond_true] at hs2
              rw [k7, i0, Bool.true_and, Bool.true_or, cond_true, Nat.zero_add] at hs1
              exact ⟨hj1, (sa, max sm 0), ⟨rfl, by simp only [← imax_nat']; rfl, rfl, rfl⟩, hs1, by rw [Nat.max_assoc]; exact hs2⟩
            · rw [hi0] at i0
              refine asplit ?_ ?_ <;> intro k18 <;> conv => whnf
              · replace k18 : (k == 18) = true := k18
                rw [k7, i0, Bool.and_false, k18, Bool.or_true, cond_true] at hs2
                rw [k7, i0, Bool.and_false, k18, Bool.or_true, cond_true, Nat.zero_add] at hs1
                exact ⟨hj1, (sa, max sm 0), ⟨rfl, by simp only [← imax_nat']; rfl, rfl, rfl⟩, hs1, by rw [Nat.max_assoc]; exact hs2⟩
              · replace k18 : (k == 18) = false := k18
                rw [k7, i0, Bool.and_false, k18, Bool.or_false, cond_false, Nat.max_eq_right (Nat.zero_le _)] at hs2
                rw [k7, i0, Bool.and_false, k18, Bool.or_false, cond_false] at hs1
                exact ⟨hj1, (sa + 0, sm), ⟨rfl, by simp only [List.map_cons, List.map_nil]; rw [show ((sa + 0 : Nat) : Int) = IntKind.i64.wrap ((sa : Int) + ((0 : Nat) : Int)) by rw [wrap64 (by omega) (by omega)]; omega]; rfl, rfl, rfl⟩, by simp only; omega, hs2⟩
          · replace k7 : (k == 7) = false := k7
            refine asplit ?_ ?_ <;> intro k18 <;> conv => whnf
            · replace k18 : (k == 18) = true := k18
              rw [k7, Bool.false_and, k18, Bool.or_true, cond_true] at hs2
              rw [k7, Bool.false_and, k18, Bool.or_true, cond_true, Nat.zero_add] at hs1
              exact ⟨hj1, (sa, max sm 0), ⟨rfl, by simp only [← imax_nat']; rfl, rfl, rfl⟩, hs1, by rw [Nat.max_assoc]; exact hs2⟩
            · replace k18 : (k == 18) = false := k18
              rw [k7, Bool.false_and, k18, Bool.or_false, cond_false, Nat.max_eq_right (Nat.zero_le _)] at hs2
              rw [k7, Bool.false_and, k18, Bool.or_false, cond_false] at hs1
              exact ⟨hj1, (sa + 0, sm), ⟨rfl, by simp only [List.map_cons, List.map_nil]; rw [show ((sa + 0 : Nat) : Int) = IntKind.i64.wrap ((sa : Int) + ((0 : Nat) : Int)) by rw [wrap64 (by omega) (by omega)]; omega]; rfl, rfl, rfl⟩, by simp only; omega, hs2⟩
  · have hj1 := ix_ff h1 (by rw [hel]) hj (by omega)
    rw [hj1, List.drop_length, sumU] at hs1
    rw [hj1, List.drop_length, mostU] at hs2
    have hsa : sa = SU := by omega
    have hsm : sm = MO := by omega
    subst hsa
    subst hsm
    refine asplit ?_ ?_ <;> intro k13 <;> conv => whnf
    · rw [show (k == 13) = true from k13, Bool.true_or, cond_true] at hR
      refine loopS (tyOf_ok _) hmix (by kernel_rfl) ms.length [0, 5, 6, 78, 79, 80] [] (fun j (s : Nat) => [.p (.s nm), .p (.i .i64 (sa : Nat)), .p (.i .i64 (s : Nat)), .p (.sl 12 (eAs ms)), .p (.i .i64 (eAs ms).length), .p (.i .i64 (ix j))]) (fun _ _ => []) (fun j s => max s (armU nm (ms.drop j)) = max sm (armU nm ms)) sm ⟨rfl, rfl, rfl, rfl⟩ rfl ?_
      clear hs1 hs2 h1
      intro j s hj hs
      conv => whnf
      refine asplit ?_ ?_ <;> intro h1 <;> conv => whnf
      · have hj1 := ix_tt h1 (by rw [hml]) hj (by omega)
        obtain ⟨b, hb1⟩ : ∃ b, ms[j]? = some b := ⟨_, List.getElem?_eq_getElem hj1⟩
        have hbm := List.mem_of_getElem? hb1
        have hc := ih2 b hbm
        have hb2 := hbw b hbm
        have hcb := bound_spec b.pat (by omega)
        have hcc := contS_spec (boundF b.pat) nm (by have := bound_le b.pat; omega)
        unfold UseS at hc
        obtain ⟨⟨p1, p2, p3, p4⟩, ⟨b1, b2, b3, b4, b5, b6, b7, b8⟩⟩ := b
        rw [drop_cons hb1, armU] at hs
        simp only [Arm.pat, Arm.body] at hc hcb hcc
        generalize boundF (.mk p1 p2 p3 p4) = bo at *
        generalize useF nm (.mk b1 b2 b3 b4 b5 b6 b7 b8) = ub at *
        generalize bo.contains nm = bc at *
        refine aidxk (eAs_get hb1) (by omega) ?_
        conv => whnf
        refine apc hcb ?_
        conv => whnf
        refine apc hcc ?_
        conv => whnf
        refine asplit ?_ ?_ <;> intro g4 <;> conv => whnf
        · rw [show bc = false by simpa using g4, cond_false] at hs
          refine apc hc ?_
          conv => whnf
          exact ⟨hj1, max s ub, ⟨rfl, by simp only [← imax_nat']; rfl, rfl, rfl⟩, by rw [Nat.max_assoc]; exact hs⟩
        · rw [show bc = true by simpa using g4, cond_true, Nat.max_eq_right (Nat.zero_le _)] at hs
          exact ⟨hj1, s, ⟨rfl, rfl, rfl, rfl⟩, hs⟩
      · have hj1 := ix_ff h1 (by rw [hml]) hj (by omega)
        rw [hj1, List.drop_length, armU, Nat.max_eq_left (Nat.zero_le _)] at hs
        subst hs
        exact .inl (pi (by rw [hR, wrap64 (by omega) (by omega)]; omega))
    · refine asplit ?_ ?_ <;> intro k18 <;> conv => whnf
      · rw [show (k == 13) = false from k13, show (k == 18) = true from k18, Bool.false_or, cond_true] at hR
        refine loopS (tyOf_ok _) hmix (by kernel_rfl) ms.length [0, 5, 6, 78, 79, 80] [] (fun j (s : Nat) => [.p (.s nm), .p (.i .i64 (sa : Nat)), .p (.i .i64 (s : Nat)), .p (.sl 12 (eAs ms)), .p (.i .i64 (eAs ms).length), .p (.i .i64 (ix j))]) (fun _ _ => []) (fun j s => max s (armU nm (ms.drop j)) = max sm (armU nm ms)) sm ⟨rfl, rfl, rfl, rfl⟩ rfl ?_
        clear hs1 hs2 h1
        intro j s hj hs
        conv => whnf
        refine asplit ?_ ?_ <;> intro h1 <;> conv => whnf
        · have hj1 := ix_tt h1 (by rw [hml]) hj (by omega)
          obtain ⟨b, hb1⟩ : ∃ b, ms[j]? = some b := ⟨_, List.getElem?_eq_getElem hj1⟩
          have hbm := List.mem_of_getElem? hb1
          have hc := ih2 b hbm
          have hb2 := hbw b hbm
          have hcb := bound_spec b.pat (by omega)
          have hcc := contS_spec (boundF b.pat) nm (by have := bound_le b.pat; omega)
          unfold UseS at hc
          obtain ⟨⟨p1, p2, p3, p4⟩, ⟨b1, b2, b3, b4, b5, b6, b7, b8⟩⟩ := b
          rw [drop_cons hb1, armU] at hs
          simp only [Arm.pat, Arm.body] at hc hcb hcc
          generalize boundF (.mk p1 p2 p3 p4) = bo at *
          generalize useF nm (.mk b1 b2 b3 b4 b5 b6 b7 b8) = ub at *
          generalize bo.contains nm = bc at *
          refine aidxk (eAs_get hb1) (by omega) ?_
          conv => whnf
          refine apc hcb ?_
          conv => whnf
          refine apc hcc ?_
          conv => whnf
          refine asplit ?_ ?_ <;> intro g4 <;> conv => whnf
          · rw [show bc = false by simpa using g4, cond_false] at hs
            refine apc hc ?_
            conv => whnf
            exact ⟨hj1, max s ub, ⟨rfl, by simp only [← imax_nat']; rfl, rfl, rfl⟩, by rw [Nat.max_assoc]; exact hs⟩
          · rw [show bc = true by simpa using g4, cond_true, Nat.max_eq_right (Nat.zero_le _)] at hs
            exact ⟨hj1, s, ⟨rfl, rfl, rfl, rfl⟩, hs⟩
        · have hj1 := ix_ff h1 (by rw [hml]) hj (by omega)
          rw [hj1, List.drop_length, armU, Nat.max_eq_left (Nat.zero_le _)] at hs
          subst hs
          exact .inl (pi (by rw [hR, wrap64 (by omega) (by omega)]; omega))
      · rw [show (k == 13) = false from k13, show (k == 18) = false from k18, Bool.false_or, cond_false, Nat.max_eq_left (Nat.zero_le _)] at hR
        exact .inl (pi (by rw [hR, wrap64 (by omega) (by omega)]; omega))
theorem uses_spec (nm : ByteArray) (e : Ex) : wE e ≤ 1048640 → UseS nm e := by
  induction e using Ex.ind with
  | h k n t ns ts xs ms p ih1 ih2 =>
  intro hw
  exact use_of nm k n t ns ts xs ms p hw (fun x hx => ih1 x hx (by have := wE_args (k := k) (n := n) (t := t) (ns := ns) (ts := ts) (ms := ms) (p := p) hx; omega))
    (fun a ha => ih2 a ha (by have := wE_body (k := k) (n := n) (t := t) (ns := ns) (ts := ts) (xs := xs) (p := p) ha; omega))
end GL
open Go Go.AM Go.Proofs Go.RowKit TR
set_option maxRecDepth 100000
namespace GL
/-! plain: what the judge lets pass has the parts that it must have -/
theorem must0 {e er : Int} {ok : Bool} (h : mustF e ok er = 0) (her : er ≠ 0) : e = 0 ∧ ok = true := by
  unfold mustF at h
  cases ok with
  | true => rw [Bool.not_true, Bool.and_false, cond_false] at h; exact ⟨h, rfl⟩
  | false =>
    cases he : e == 0 with
    | true => rw [he, Bool.not_false, Bool.and_true, cond_true] at h; exact absurd h her
    | false => rw [he, Bool.false_and, cond_false] at h; rw [h] at he; cases he
theorem listGo0 (S : ByteArray → Bool) : ∀ (l : List ByteArray) (e : Int), listGo S l e = 0 → e = 0
  | [], e, h => h
  | s :: r, e, h => by rw [listGo] at h; exact (must0 (listGo0 S r _ h) (by decide)).1
theorem list0 {S : ByteArray → Bool} {l : List ByteArray} {e : Int} (h : listF S l e = 0) : e = 0 := (must0 (listGo0 S l _ h) (by decide)).1
mutual
theorem typ0 (S G : ByteArray → Bool) : ∀ (t : Ty) (d e : Int), typF S G t d e = 0 → e = 0
  | .mk k n xs, d, e, h => by
    rw [typF] at h
    cases hq : mustF (mustF e (decide (d ≤ 40)) 2) (decide (k ≥ 1) && decide (k ≤ 9)) 3 == 0 with
    | true => exact (must0 (must0 (eq_of_beq hq) (by decide)).1 (by decide)).1
    | false => rw [hq, Bool.not_false, cond_true] at h; rw [h] at hq; cases hq
theorem typs0 (S G : ByteArray → Bool) : ∀ (l : List Ty) (d e : Int), typFs S G l d e = 0 → e = 0
  | [], d, e, h => by rw [typFs] at h; exact h
  | t :: r, d, e, h => by rw [typFs] at h; exact typ0 S G t d e (typs0 S G r d _ h)
end
mutual
theorem pat0 (S G : ByteArray → Bool) : ∀ (t : Pt) (e : Int), patF S G t e = 0 → e = 0
  | .mk k m t xs, e, h => by
    rw [patF] at h
    cases hq : mustF (mustF (mustF e (pFew k t) 2) (pForm S G k m t xs.length) 3) (decide ((xs.length : Int) ≤ 6)) 2 == 0 with
    | true => exact (must0 (must0 (must0 (eq_of_beq hq) (by decide)).1 (by decide)).1 (by decide)).1
    | false => rw [hq, Bool.not_false, cond_true] at h; rw [h] at hq; cases hq
end
theorem names0 {S G : ByteArray → Bool} {k : Int} {ns : List ByteArray} {ts : List Ty} {e : Int} (h : xNames S G k ns ts e = 0) : e = 0 := by
  unfold xNames at h
  cases hk : k == 10 with
  | true => rw [hk, cond_true] at h; exact (must0 (list0 (typs0 S G ts 1 _ h)) (by decide)).1
  | false => rw [hk, cond_false] at h; exact (must0 h (by decide)).1
theorem arg_needs {S G C : ByteArray → Bool} {k m : Int} {t : ByteArray} {L : Nat} (h1 : xForm (argF k m t L).1 (argF k m t L).2 L (wordF S G C k t) (numF k m) = true) : needsF k m L = L := by
  unfold xForm at h1
  simp only [Bool.and_eq_true, decide_eq_true_eq] at h1
  obtain ⟨ha, hb, hc, hd⟩ := h1
  unfold argF at ha hb
  cases q9 : (k == 9 || (k == 12 || (k == 14 || k == 17))) with
  | true =>
    simp only [Bool.or_eq_true, beq_iff_eq] at q9
    rcases q9 with rfl | rfl | rfl | rfl <;> rfl
  | false =>
  rw [q9, cond_false] at ha hb
  cases q11 : k == 11 with
  | true =>
    rw [q11, cond_true] at ha
    have := eq_of_beq q11
    subst this
    show (if (L : Int) < 1 then (1 : Int) else L) = L
    rw [if_neg (by simp only at ha; omega)]
  | false =>
  rw [q11, cond_false] at ha hb
  cases q8 : k == 8 with
  | true =>
    have := eq_of_beq q8
    subst this
    rfl
  | false =>
  rw [q8, cond_false] at ha hb
  cases q18 : k == 18 with
  | true =>
    rw [q18, cond_true] at ha hb
    have := eq_of_beq q18
    subst this
    show (bif decide (m ≥ 0) then (1 : Int) else 0) = L
    cases qm : m == -1 with
    | true =>
      rw [qm, cond_true] at ha hb
      have := eq_of_beq qm
      subst this
      simp only at ha hb
      show (0 : Int) = L
      omega
    | false =>
      rw [qm, cond_false] at ha hb
      rw [numF, show ((18 : Int) == 2) = false from rfl, show ((18 : Int) == 3) = false from rfl, show ((18 : Int) == 18) = true from rfl, cond_false, cond_false, cond_true, qm, Bool.false_or, plainF, Bool.and_eq_true, decide_eq_true_eq] at hd
      rw [decide_eq_true hd.1, cond_true]
      simp only at ha hb
      omega
  | false =>
    rw [q18, cond_false] at ha hb
    simp only at ha hb
    omega
theorem head0 {S G C : ByteArray → Bool} {k m : Int} {t : ByteArray} {xs : List Ex} {ms : List Arm} {ac : Bool} {e : Int} (h : xHead S G C k m t xs.length ms.length ac e = 0) : e = 0 ∧ needsF k m xs.length = xs.length ∧ (k = 13 ∨ k = 18 ∨ ms = []) := by
  unfold xHead at h
  obtain ⟨h, ha⟩ := must0 h (by decide)
  obtain ⟨h, hf⟩ := must0 h (by decide)
  obtain ⟨h, _⟩ := must0 h (by decide)
  obtain ⟨h, _⟩ := must0 h (by decide)
  refine ⟨h, arg_needs hf, ?_⟩
  unfold xArm at ha
  simp only [Bool.and_eq_true, Bool.or_eq_true, beq_iff_eq] at ha
  rcases ha.1 with (q | q) | q
  · exact .inl q
  · exact .inr (.inl q)
  · exact .inr (.inr (List.length_eq_zero_iff.1 (by omega)))
mutual
theorem expr0 (S G C : ByteArray → Bool) : ∀ (x : Ex) (ac : Bool) (e : Int), exprF S G C x ac e = 0 → e = 0 ∧ wfE x
  | .mk k m t ns ts xs ms p, ac, e, h => by
    rw [exprF] at h
    cases hq : xHead S G C k m t xs.length ms.length ac e == 0 with
    | true =>
      rw [hq, Bool.not_true, cond_false] at h
      obtain ⟨h1, h2, h3⟩ := head0 (eq_of_beq hq)
      have ha := exprAs0 S G C ms ac _ h
      have hx := exprFs0 S G C xs _ _ ha.1
      exact ⟨h1, by rw [wfE]; exact ⟨h2, h3, hx.2, ha.2⟩⟩
    | false => rw [hq, Bool.not_false, cond_true] at h; rw [h] at hq; cases hq
theorem exprFs0 (S G C : ByteArray → Bool) : ∀ (l : List Ex) (ac : Bool) (e : Int), exprFs S G C l ac e = 0 → e = 0 ∧ wfEs l
  | [], ac, e, h => by rw [exprFs] at h; exact ⟨h, by rw [wfEs]; trivial⟩
  | x :: r, ac, e, h => by
    rw [exprFs] at h
    have h1 := exprFs0 S G C r ac _ h
    have h2 := expr0 S G C x ac e h1.1
    exact ⟨h2.1, by rw [wfEs]; exact ⟨h2.2, h1.2⟩⟩
theorem exprAs0 (S G C : ByteArray → Bool) : ∀ (l : List Arm) (ac : Bool) (e : Int), exprAs S G C l ac e = 0 → e = 0 ∧ wfAs l
  | [], ac, e, h => by rw [exprAs] at h; exact ⟨h, by rw [wfAs]; trivial⟩
  | .mk p x :: r, ac, e, h => by
    rw [exprAs] at h
    have h1 := exprAs0 S G C r ac _ h
    have h2 := expr0 S G C x ac _ h1.1
    exact ⟨pat0 S G p e h2.1, by rw [wfAs]; exact ⟨h2.2, h1.2⟩⟩
end
theorem body0 {S G C : ByteArray → Bool} {x : Ex} {ac : Bool} {e : Int} (h : bodyF S G C x ac e = 0) : e = 0 ∧ wfE x := by
  have := expr0 S G C x ac _ h
  exact ⟨(must0 this.1 (by decide)).1, this.2⟩
theorem fold0 {α : Type} (f : Int → α → Int) (P : α → Prop) (hf : ∀ e a, f e a = 0 → e = 0 ∧ P a) : ∀ (l : List α) (e : Int), l.foldl f e = 0 → e = 0 ∧ ∀ a ∈ l, P a
  | [], e, h => ⟨h, fun a ha => by cases ha⟩
  | x :: r, e, h => by
    rw [List.foldl_cons] at h
    have h1 := fold0 f P hf r _ h
    have h2 := hf e x h1.1
    refine ⟨h2.1, fun a ha => ?_⟩
    rcases List.mem_cons.1 ha with rfl | ha
    · exact h2.2
    · exact h1.2 a ha
theorem headJ0 {S G : ByteArray → Bool} {f : LFu} {e : Int} (h : headJ S G f e = 0) : e = 0 :=
  (must0 (list0 (list0 (typs0 S G f.ts 1 _ (typs0 S G [f.out] 1 _ h)))) (by decide)).1
theorem fuJ0 {S G C : ByteArray → Bool} (e : Int) (f : LFu) (h : fuJ S G C e f = 0) : e = 0 ∧ wfE f.body := by
  have := body0 h
  exact ⟨headJ0 this.1, this.2⟩
theorem acJ0 {S G C : ByteArray → Bool} (e : Int) (f : LAc) (h : acJ S G C e f = 0) : e = 0 ∧ wfE f.body := by
  have := body0 h
  exact ⟨(must0 (list0 (typs0 S G f.ts 1 _ (typs0 S G [f.msg] 1 _ this.1))) (by decide)).1, this.2⟩
theorem imJ0 {S G C B : ByteArray → Bool} (e : Int) (t : LIm) (h : imJ S G C B e t = 0) : e = 0 ∧ ∀ f ∈ t.funcs, wfE f.body := by
  have h1 := fold0 (fuJ S G C) (fun f => wfE f.body) fuJ0 t.funcs _ h
  exact ⟨(must0 (must0 h1.1 (by decide)).1 (by decide)).1, h1.2⟩
/-- all bodies -/
theorem right0 {S G C B : ByteArray → Bool} {Q : Ex → Bool} {p : LPg} (h : rightF S G C B Q p = 0) : (∀ t ∈ p.impls, ∀ f ∈ t.funcs, wfE f.body) ∧ (∀ f ∈ p.funcs, wfE f.body) ∧ (∀ f ∈ p.actors, wfE f.body) := by
  unfold rightF at h
  have h1 := fold0 (acJ S G C) (fun f => wfE f.body) acJ0 p.actors _ h
  have h2 := fold0 (fuJ S G C) (fun f => wfE f.body) fuJ0 p.funcs _ h1.1
  have h3 := fold0 (imJ S G C B) (fun t => ∀ f ∈ t.funcs, wfE f.body) imJ0 p.impls _ h2.1
  exact ⟨h3.2, h2.2, h1.2⟩
end GL
open Go Go.AM Go.Proofs Go.RowKit TR
set_option maxRecDepth 100000
namespace GL
def ifOf (e x y : Ex) : Ex := .mk 7 0 ⟨#[]⟩ [] [] [e, x, y] [] 0
def pgOf (e x y : Ex) : LPg := ⟨⟨#[120]⟩, 0, [], [], [], [], [], [⟨⟨#[88]⟩, [], [], .mk 1 ⟨#[]⟩ [], ifOf e x y⟩]⟩
def varX : Ex := .mk 5 0 ⟨#[120]⟩ [] [] [] [] 0
theorem use_var : useF ⟨#[120]⟩ varX = 1 := by decide +kernel
theorem use_if (nm : ByteArray) (e x y : Ex) : useF nm (ifOf e x y) = useF nm e + max (useF nm x) (useF nm y) := by
  rw [ifOf, useF]
  simp only [sumU, mostU]
  rw [show ((7 : Int) == 5) = false from rfl, show ((7 : Int) == 10) = false from rfl, show ((7 : Int) == 7) = true from rfl, show ((7 : Int) == 18) = false from rfl, show ((7 : Int) == 6) = false from rfl, show ((7 : Int) == 13 || false) = false from rfl]
  rw [show (0 == 0) = true from rfl, show (0 + 1 == 0) = false from rfl, show (0 + 1 + 1 == 0) = false from rfl]
  simp
theorem use_unit (nm : ByteArray) : useF nm (.mk 1 0 ⟨#[]⟩ [] [] [] [] 0) = 0 := by
  rw [useF]; simp only [sumU, mostU]; rfl
theorem use_let (nm : ByteArray) (e : Ex) : useF nm (letOf nm e) = 0 := by
  rw [letOf, useF]
  simp only [sumU, mostU, use_unit]
  rw [show (nm == nm) = true from (beq_bytes nm nm).2 rfl]
  rfl
theorem wE_if (e x y : Ex) : wE (ifOf e x y) = wE e + wE x + wE y + 8 := by
  rw [ifOf, wE_mk]; simp only [List.map_nil, eTs, eEs, eAs, PV.wts]
  show 0 + 8 + 0 + 0 + (wE e + (wE x + (wE y + 0))) + 0 = _
  omega
theorem wE_let (nm : ByteArray) (e : Ex) : wE (letOf nm e) = nm.size + wE e + 16 := by
  have h : wE (.mk 1 0 ⟨#[]⟩ [] [] [] [] 0) = 8 := by decide +kernel
  rw [letOf, wE_mk]; simp only [List.map_nil, eTs, eEs, eAs, PV.wts]
  show nm.size + 8 + 0 + 0 + (wE (.mk 1 0 ⟨#[]⟩ [] [] [] [] 0) + (wE e + 0)) + 0 = _
  omega
theorem wl_pgOf (e x y : Ex) : wlPg (pgOf e x y) ≤ wE e + wE x + wE y + 40 := by
  rw [wlPg_eq]
  have h : wT (.mk 1 ⟨#[]⟩ []) = 3 := by decide +kernel
  have h2 := wlAc_eq ⟨⟨#[88]⟩, [], [], .mk 1 ⟨#[]⟩ [], ifOf e x y⟩
  simp only [h, wE_if] at h2
  simp only [pgOf, List.map_nil, List.map_cons, PV.wts, h2, eTs]
  show 1 + 1 + 1 + (0 + 1) + (0 + 1) + (0 + 1) + (0 + 1) + (0 + 1) + (1 + 1 + (0 + 1) + (0 + 1) + 3 + (wE e + wE x + wE y + 8) + 0 + 1) ≤ _
  omega
theorem imaxm (a b : Nat) : imax (a : Int) (b : Int) = ((max a b : Nat) : Int) := imax_nat' a b
theorem once_spec (S G C B : ByteArray → Bool) (tab : List Value) (hW : World3 S G C tab) (hB : ConB B) (e x y : Ex) (nm : ByteArray) (hw : wE e + wE x + wE y + nm.size ≤ 1048576) :
    AMem Tryd.prog 3 [.p (eE e), .p (eE x), .p (eE y), .p (.s nm)] [(1000000000, .glob 0 tab)] (.p (.b true)) [(1000000000, .glob 0 tab)] := by
  have hr := right_spec S G C B tab hW hB (fun _ => true) (pgOf e x y) (by have := wl_pgOf e x y; omega) (fun t ht => by cases ht)
  have hr0 : rightF S G C B (fun _ => true) (pgOf e x y) = 0 → wfE e := fun h => by
    have := (right0 h).2.2 _ (List.mem_cons_self ..)
    rw [show (⟨⟨#[88]⟩, [], [], .mk 1 ⟨#[]⟩ [], ifOf e x y⟩ : LAc).body = ifOf e x y from rfl, ifOf, wfE] at this
    exact wfEs_mem this.2.2.1 e (by simp)
  generalize hrr : rightF S G C B (fun _ => true) (pgOf e x y) = r at *
  have u1 := uses_spec nm e (by omega)
  have u2 := uses_spec nm (letOf nm e) (by rw [wE_let]; omega)
  have u3 := uses_spec nm (ifOf e x y) (by rw [wE_if]; omega)
  have u4 := uses_spec nm x (by omega)
  have u5 := uses_spec nm y (by omega)
  have u6 := uses_spec ⟨#[120]⟩ varX (by decide +kernel)
  obtain ⟨l, hl1, hl2, hl3⟩ := freeOf_spec e (by omega)
  have hc := contS_spec l nm (by omega)
  have hz : wfE e → (decide ((useF nm e : Int) = 0)) = !l.contains nm := fun h => by
    have h1 := use_zero nm e h
    have h2 := (cont_iff nm l).trans (hl2 nm)
    cases hq : l.contains nm with
    | true =>
      have : fvB nm e = true := h2.1 hq
      rw [this] at h1
      exact decide_eq_false (fun h => by have := h1.1 (by omega); cases this)
    | false =>
      have : fvB nm e = false := by cases hf : fvB nm e with | false => rfl | true => rw [h2.2 hf] at hq; cases hq
      exact decide_eq_true (by have := h1.2 this; omega)
  have b1 := use_le nm e
  have b4 := use_le nm x
  have b5 := use_le nm y
  unfold UseS at u1 u2 u3 u4 u5 u6
  rw [use_let] at u2
  rw [use_if] at u3
  rw [use_var] at u6
  generalize useF nm e = n1 at *
  generalize useF nm x = n2 at *
  generalize useF nm y = n3 at *
  generalize l.contains nm = cn at *
  clear hrr hl1 hl2
  obtain ⟨e1, e2, e3, e4, e5, e6, e7, e8⟩ := e
  obtain ⟨x1, x2, x3, x4, x5, x6, x7, x8⟩ := x
  obtain ⟨y1, y2, y3, y4, y5, y6, y7, y8⟩ := y
  refine AMem.intro (tyOf_ok Tryd.prog) hmix Tryd.func3 rfl (by rfl) (by kernel_rfl) (by show 4 ≤ _; decide) rfl ?_
  conv => whnf
  refine amc [1000000000] 500 hr ?_
  conv => whnf
  refine asplit ?_ ?_ <;> intro g1 <;> conv => whnf
  · exact ⟨.inl rfl, ⟨rfl, rfl⟩, trivial⟩
  have hr1 : r = 0 := by simpa using g1
  have hz := hz (hr0 hr1)
  refine apc u1 ?_
  conv => whnf
  refine ⟨_, Int.le_refl _, rfl, ?_⟩
  conv => whnf
  refine apc u3 ?_
  conv => whnf
  refine apc hl3 ?_
  conv => whnf
  refine apc hc ?_
  conv => whnf
  have hz1 : (((n1 : Int) == 0) == !cn) = true := by rw [← hz]; cases n1 with | zero => rfl | succ q => rfl
  refine ast hz1 ?_
  conv => whnf
  refine apc u2 ?_
  conv => whnf
  refine apc u4 ?_
  conv => whnf
  refine apc u5 ?_
  conv => whnf
  have hmx : (((n1 + max n2 n3 : Nat) : Int) == IntKind.i64.wrap ((n1 : Int) + imax (n2 : Int) (n3 : Int))) = true := by
    rw [imaxm, wrap64 (by omega) (by omega)]; simp
  refine ast hmx ?_
  conv => whnf
  refine apc u6 ?_
  conv => whnf
  refine aneed (by kernel_rfl) ?_
  conv => whnf
  exact ⟨.inl rfl, ⟨rfl, rfl⟩, trivial⟩
end GL
