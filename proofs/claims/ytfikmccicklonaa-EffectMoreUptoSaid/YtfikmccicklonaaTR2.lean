/-
  DERIVED. Contracts of the functions that the law reaches, and the law itself, for every input. No conditions.
-/
import Derived.Test.YtfikmccicklonaaTR1
open Go Go.AM Go.Proofs
set_option maxRecDepth 100000
namespace TR
/-- pats: all patterns within one -/
def patsK (p : Pt) : Nat → List Pt
  | 0 => [p]
  | k + 1 => match (patsK p k)[k]? with | some x => patsK p k ++ x.args | none => patsK p k
theorem psizeFs_len : ∀ (l : List Pt), l.length ≤ psizeFs l
  | [] => by simp
  | e :: r => by have := psizeFs_len r; have := psizeF_pos e; rw [psizeFs]; simp; omega
theorem pats_spec (p : Pt) (hp : wP p ≤ 1048576) : APure Try.prog 35 [.p (eP p)] (.p (.sl 4 (ePs (patsK p (psizeF p))))) := by
  have hle := psize_le p
  generalize hn : psizeF p = N at hle
  generalize hP : patsK p = S
  have hS0 : S 0 = [p] := by rw [← hP]; rfl
  have hS1 : ∀ k x, (S k)[k]? = some x → S (k + 1) = S k ++ x.args := fun k x h => by rw [← hP] at h ⊢; rw [patsK]; simp only [h]
  have h0 : 0 + psizeFs ([p].drop 0) = N := by simp [psizeFs, hn]
  clear hP hn
  obtain ⟨k0, n0, t0, as0⟩ := p
  refine APure.intro (tyOf_ok Try.prog) hmix Try.func35 rfl (by rfl) (by kernel_rfl) (by show 1 ≤ _; decide) rfl ?_
  conv => whnf
  refine loopS (tyOf_ok _) hmix (by kernel_rfl) N [3, 4] [] (fun k (s : List Pt) => [.so 4 (ePs s), .p (.i .i64 (ix k))]) (fun _ _ => []) (fun k s => s = S k ∧ k ≤ s.length ∧ k + psizeFs (s.drop k) = N) [.mk k0 n0 t0 as0] ⟨rfl, rfl, rfl, rfl⟩ ⟨hS0.symm, by simp, h0⟩ ?_
  rintro k s hk ⟨hs, hkl, hN⟩
  have hlen := psizeFs_len (s.drop k)
  simp only [List.length_drop] at hlen
  conv => whnf
  refine asplit ?_ ?_ <;> intro h1 <;> conv => whnf
  · have hk1 := ix_tt h1 (by rw [ePs_len]) hkl (by omega)
    obtain ⟨b, hb1⟩ : ∃ b, s[k]? = some b := ⟨s[k], by simp [hk1]⟩
    refine aidxk (ePs_get hb1) (by omega) ?_
    rw [drop_cons hb1, psizeFs] at hN
    have hS2 := hS1 k b (by rw [← hs]; exact hb1)
    obtain ⟨bk, bn, bt, ba⟩ := b
    rw [psizeF] at hN
    have hal := psizeFs_len ba
    have hdl := psizeFs_len (s.drop (k + 1))
    simp only [List.length_drop] at hdl
    conv => whnf
    refine aneed (show ((ePs s).length + (ePs ba).length) * 56 ≤ 140737488355328 by rw [ePs_len, ePs_len]; omega) ?_
    conv => whnf
    refine ⟨by omega, s ++ ba, ⟨rfl, ?_, rfl, rfl⟩, by rw [hS2, hs]; rfl, by simp; omega, ?_⟩
    · rw [ePs_app]; rfl
    · rw [List.drop_append_of_le_length (by omega), psizeFs_app]; omega
  · have hk1 := ix_ff h1 (by rw [ePs_len]) hkl (by omega)
    have : k = N := by rw [hk1, List.drop_length, psizeFs] at hN; omega
    subst this
    subst hs
    exact .inr (.inl rfl)
theorem patsK_inv (p : Pt) : ∀ k, k ≤ psizeF p → k ≤ (patsK p k).length ∧ k + psizeFs ((patsK p k).drop k) = psizeF p
  | 0, _ => by simp [patsK, psizeFs]
  | k + 1, h => by
    obtain ⟨h1, h2⟩ := patsK_inv p k (by omega)
    rcases Nat.lt_or_ge k (patsK p k).length with q | q
    · have hb : (patsK p k)[k]? = some (patsK p k)[k] := List.getElem?_eq_getElem q
      have e : patsK p (k + 1) = patsK p k ++ (patsK p k)[k].args := by rw [patsK]; simp only [hb]
      rw [drop_cons hb, psizeFs] at h2
      rw [e, List.drop_append_of_le_length (by omega), psizeFs_app]
      generalize (patsK p k)[k] = b at h2
      obtain ⟨bk, bn, bt, ba⟩ := b
      rw [psizeF] at h2
      simp only [Pt.args, List.length_append]
      omega
    · rw [List.drop_eq_nil_of_le q, psizeFs] at h2; omega
theorem patsK_len (p : Pt) : (patsK p (psizeF p)).length = psizeF p := by
  obtain ⟨h1, h2⟩ := patsK_inv p (psizeF p) (Nat.le_refl _)
  have := psizeFs_len ((patsK p (psizeF p)).drop (psizeF p))
  simp only [List.length_drop] at this
  omega

theorem all_spec (e : Ex) (he : wE e ≤ 1048576) : APure Try.prog 34 [.p (eE e)] (.p (.sl 8 (eEs (walkF e)))) := by
  have hwl := walk_le e
  have hsl := size_le e
  have hmem := fun x (h : x ∈ walkF e) => walk_mem e h
  generalize hW : walkF e = W at hwl hmem
  obtain ⟨k0, n0, t0, ns0, ts0, as0, ms0, p0⟩ := e
  refine APure.intro ((tyOf_ok Try.prog).hint 34 [9]) hmix Try.func34 rfl (by rfl) (by kernel_rfl) (by show 1 ≤ _; decide) rfl ?_
  conv => whnf
  refine lp_nil 4 7 rfl ?_
  refine loopR (tyOf_ok _) hmix (by kernel_rfl) 9 23 W.length [3, 4] [9] (fun k (s : List Ex × List Ex) => [.al true 9 8 s.1.length, .so 8 (eEs s.2)])
    (fun k s => [.gr true 8 (eEs s.1)]) (fun k s => s.2.length = k ∧ s.2 ++ walkFs s.1.reverse = W) ([.mk k0 n0 t0 ns0 ts0 as0 ms0 p0], []) ⟨rfl, rfl, rfl, rfl⟩ ⟨rfl, by simp [walkFs, hW]⟩ ?_
  rintro k ⟨row, out⟩ hk ⟨hk2, hinv⟩
  simp only at hk2 hinv
  conv => whnf
  refine asplit ?_ ?_ <;> intro h1 <;> conv => whnf
  · obtain ⟨r, x, rfl⟩ : ∃ r x, row = r ++ [x] := by
      have : row ≠ [] := fun q => by subst q; simp at h1
      exact ⟨row.dropLast, row.getLast this, (List.dropLast_concat_getLast this).symm⟩
    have hxW : x ∈ W := by rw [← hinv, List.reverse_append, walkFs_app, List.reverse_singleton, walkFs, walkFs, walkF_cons]; simp
    have hxw := hmem x hxW
    have hrl : r.length + 1 ≤ (walkF x).length + (walkFs r.reverse).length := by
      have := walkFs_len r.reverse
      rw [walkF_cons]; simp at this ⊢; omega
    have hWl : out.length + ((walkF x).length + (walkFs r.reverse).length) = W.length := by
      rw [← hinv, List.reverse_append, walkFs_app, List.reverse_singleton, walkFs, walkFs]; simp
    have e1 : IntKind.i64.wrap (((r ++ [x]).length : Int) - 1) = (r.length : Int) := by simp; exact wrap64 (by omega) (by omega)
    rw [e1]
    refine aneed ⟨by omega, by simp⟩ ?_
    conv => whnf
    refine aidxn (x := eE x) (by rw [eEs_app]; simp [eEs_len, eEs]) ?_
    have hout2 : eEs (out ++ [x]) = eEs out ++ [eE x] := by rw [eEs_app]; rfl
    have hxl := fun k n t ns ts xs ms p (q : x = Ex.mk k n t ns ts xs ms p) => q ▸ wE_lens k n t ns ts xs ms p
    obtain ⟨k1, n1, t1, ns1, ts1, as1, ms1, p1⟩ := x
    have hxl := hxl _ _ _ _ _ _ _ _ rfl
    conv => whnf
    rw [e1]
    refine aneed ⟨by omega, by simp; omega, by rw [eEs_len]; simp; omega⟩ ?_
    conv => whnf
    refine aneed (show ((eEs out).length + 1) * 136 ≤ 140737488355328 by rw [eEs_len]; omega) ?_
    conv => whnf
    refine loopR (tyOf_ok _) hmix (by kernel_rfl) 23 44 ms1.length [3, 4, 5, 6] [23, 5] (fun k (s : List Ex) => [.al true 23 8 s.length, .so 8 (eEs out ++ [eE (Ex.mk k1 n1 t1 ns1 ts1 as1 ms1 p1)]), .ptr 5 0, .p (.i .i64 (dn (IntKind.i64.wrap (((eAs ms1).length : Int) - 1)) k))])
      (fun k s => [.gr true 8 (eEs s), .cells [.p (.i .i64 k1), .p (.i .i64 n1), .p (.s t1), .p (.sl 1 (ns1.map eStr)), .p (.sl 3 (eTs ts1)), .p (.sl 8 (eEs as1)), .p (.sl 12 (eAs ms1)), .p (.i .i64 p1)]])
      (fun k s => s = r ++ (ms1.map Arm.body).reverse.take k) r ⟨?_, rfl, rfl, rfl⟩ (by simp) ?_
    · show _ = [some (AObj.gr true 8 (eEs r)), _]
      rw [show eEs r = (eEs (r ++ [Ex.mk k1 n1 t1 ns1 ts1 as1 ms1 p1])).take r.length by rw [eEs_app, List.take_append_of_le_length (by simp [eEs_len]), List.take_of_length_le (by simp [eEs_len])]]
      rfl
    intro k2 s hk3 hs
    have hsl2 : s.length ≤ 2097152 := by rw [hs]; simp; omega
    conv => whnf
    refine asplit ?_ ?_ <;> intro h2 <;> conv => whnf
    · have hk4 := dn_tt h2 (by rw [eAs_len]) (by omega) hk3
      obtain ⟨b, hb1, hb2⟩ := rev_get hk4
      refine aidxd (eAs_get hb2) (by rw [eAs_len]) (by omega) hk4 ?_
      have hts : (ms1.map Arm.body).reverse.take (k2 + 1) = (ms1.map Arm.body).reverse.take k2 ++ [b.body] := take_snoc (by rw [← List.map_reverse, List.getElem?_map, hb1]; rfl)
      obtain ⟨⟨bk, bn, bt, ba⟩, ⟨b1, b2, b3, b4, b5, b6, b7, b8⟩⟩ := b
      conv => whnf
      refine aneed ⟨by simp [eEs_len], show ((eEs s).length + 1) * 136 ≤ 140737488355328 by rw [eEs_len]; omega⟩ ?_
      conv => whnf
      refine ⟨hk4, s ++ [Ex.mk b1 b2 b3 b4 b5 b6 b7 b8], ⟨?_, ?_, rfl, rfl, rfl⟩, by rw [hts, hs, List.append_assoc]; rfl⟩
      · rw [eEs_app]; rfl
      · simp only [List.length_append]; rfl
    · have hk4 := dn_ff h2 (by rw [eAs_len]) (by omega) hk3
      have hs2 : s = r ++ (ms1.map Arm.body).reverse := by rw [hs, List.take_of_length_le (by simp [hk4])]
      refine loopR (tyOf_ok _) hmix (by kernel_rfl) 23 60 as1.length [3, 4, 5, 7] [23, 5] (fun k (s : List Ex) => [.al true 23 8 s.length, .so 8 (eEs out ++ [eE (Ex.mk k1 n1 t1 ns1 ts1 as1 ms1 p1)]), .ptr 5 0, .p (.i .i64 (dn (IntKind.i64.wrap (((eEs as1).length : Int) - 1)) k))])
        (fun k s => [.gr true 8 (eEs s), .cells [.p (.i .i64 k1), .p (.i .i64 n1), .p (.s t1), .p (.sl 1 (ns1.map eStr)), .p (.sl 3 (eTs ts1)), .p (.sl 8 (eEs as1)), .p (.sl 12 (eAs ms1)), .p (.i .i64 p1)]])
        (fun k s => s = r ++ (ms1.map Arm.body).reverse ++ as1.reverse.take k) s ⟨rfl, rfl, rfl, rfl⟩ (by simp [hs2]) ?_
      intro k5 s5 hk5 hs5
      have hsl5 : s5.length ≤ 4194304 := by rw [hs5]; simp; omega
      conv => whnf
      refine asplit ?_ ?_ <;> intro h3 <;> conv => whnf
      · have hk6 := dn_tt h3 (by rw [eEs_len]) (by omega) hk5
        obtain ⟨b, hb1, hb2⟩ := rev_get hk6
        refine aidxd (eEs_get hb2) (by rw [eEs_len]) (by omega) hk6 ?_
        have hts := take_snoc hb1
        obtain ⟨b1, b2, b3, b4, b5, b6, b7, b8⟩ := b
        conv => whnf
        refine aneed ⟨by simp [eEs_len], show ((eEs s5).length + 1) * 136 ≤ 140737488355328 by rw [eEs_len]; omega⟩ ?_
        conv => whnf
        refine ⟨hk6, s5 ++ [Ex.mk b1 b2 b3 b4 b5 b6 b7 b8], ⟨?_, ?_, rfl, rfl, rfl⟩, by rw [hts, hs5, List.append_assoc]⟩
        · rw [eEs_app]; rfl
        · simp only [List.length_append]; rfl
      · have hk6 := dn_ff h3 (by rw [eEs_len]) (by omega) hk5
        have hs6 : s5 = r ++ (ms1.map Arm.body).reverse ++ as1.reverse := by rw [hs5, List.take_of_length_le (by simp [hk6])]
        refine ⟨by have : 0 < (walkF (Ex.mk k1 n1 t1 ns1 ts1 as1 ms1 p1)).length := by rw [walkF]; simp
                   omega, (s5, out ++ [Ex.mk k1 n1 t1 ns1 ts1 as1 ms1 p1]), ⟨rfl, ?_, rfl, rfl, rfl⟩, by simp [hk2], ?_⟩
        · simp only [hout2]; rfl
        · rw [← hinv, hs6]
          simp [walkFs_app, walkFs, walkF, walkFa_map]
  · have hr0 : row = [] := by cases row with | nil => rfl | cons a b => simp at h1
    subst hr0
    have : out = W := by simpa [walkFs] using hinv
    subst this
    exact .inr (.inl rfl)

/-- what SizeOf counts of one -/
def oneF (e : Ex) : Nat := 1 + psizeFs (e.arms.map Arm.pat)
def sumF : List Ex → Nat
  | [] => 0
  | e :: r => oneF e + sumF r
theorem sumF_app (l r : List Ex) : sumF (l ++ r) = sumF l + sumF r := by
  induction l with
  | nil => simp [sumF]
  | cons a l ih => simp [sumF, ih]; omega
mutual
theorem sum_walk : ∀ (e : Ex), sumF (walkF e) = sizeF e
  | .mk k n t ns ts xs ms p => by
    rw [walkF, sumF, sumF_app, sum_walks xs, sizeF, oneF]
    have := sum_walka ms
    simp only [Ex.arms]; omega
theorem sum_walks : ∀ (l : List Ex), sumF (walkFs l) = sizeFs l
  | [] => rfl
  | e :: r => by rw [walkFs, sumF_app, sum_walk e, sum_walks r, sizeFs]
theorem sum_walka : ∀ (l : List Arm), psizeFs (l.map Arm.pat) + sumF (walkFa l) = sizeFa l
  | [] => rfl
  | .mk p e :: r => by
    have := sum_walka r
    rw [walkFa, sumF_app, sum_walk e, sizeFa, List.map_cons, psizeFs]
    simp only [Arm.pat]; omega
end
theorem sumF_le : ∀ (l : List Ex) (k : Nat), sumF (l.take k) ≤ sumF l := fun l k => by
  have := sumF_app (l.take k) (l.drop k)
  rw [List.take_append_drop] at this; omega
theorem psizeFs_le (l : List Pt) (k : Nat) : psizeFs (l.take k) ≤ psizeFs l := by
  have := psizeFs_app (l.take k) (l.drop k)
  rw [List.take_append_drop] at this; omega

theorem sizeOf_spec (e : Ex) (he : wE e ≤ 1048576) : APure Try.prog 10 [.p (eE e)] (.p (.i .i64 (sizeF e))) := by
  have hall := all_spec e he
  have hmem := fun x (h : x ∈ walkF e) => walk_mem e h
  have hsl := size_le e
  have hwl := walk_le e
  have hsum := sum_walk e
  rw [← hsum] at hsl hwl ⊢
  clear hsum
  generalize walkF e = W at hall hmem hsl hwl ⊢
  obtain ⟨k0, n0, t0, ns0, ts0, as0, ms0, p0⟩ := e
  refine APure.intro (tyOf_ok Try.prog) hmix Try.func10 rfl (by rfl) (by kernel_rfl) (by show 1 ≤ _; decide) rfl ?_
  conv => whnf
  refine apc hall ?_
  conv => whnf
  refine loopS (tyOf_ok _) hmix (by kernel_rfl) W.length [3, 9, 10, 11] [] (fun k (s : Int) => [.p (.i .i64 s), .p (.sl 8 (eEs W)), .p (.i .i64 (eEs W).length), .p (.i .i64 (ix k))]) (fun _ _ => []) (fun k s => s = sumF (W.take k)) 0 ⟨rfl, rfl, rfl, rfl⟩ rfl ?_
  intro k s hk hs
  conv => whnf
  refine asplit ?_ ?_ <;> intro h1 <;> conv => whnf
  · have hk1 := ix_tt h1 (by rw [eEs_len]) hk (by omega)
    obtain ⟨b, hb1⟩ : ∃ b, W[k]? = some b := ⟨W[k], by simp [hk1]⟩
    refine aidxk (eEs_get hb1) (by omega) ?_
    have hbm := hmem b (List.mem_of_getElem? hb1)
    have hts : sumF (W.take (k + 1)) = sumF (W.take k) + oneF b := by rw [take_snoc hb1, sumF_app]; simp [sumF]
    have htl := sumF_le W (k + 1)
    obtain ⟨b1, b2, b3, b4, b5, b6, b7, b8⟩ := b
    have hbl := wE_lens b1 b2 b3 b4 b5 b6 b7 b8
    rw [oneF] at hts
    simp only [Ex.arms] at hts
    conv => whnf
    refine loopS (tyOf_ok _) hmix (by kernel_rfl) b7.length [3, 9, 10, 11, 18, 19, 20] [] (fun j (s : Int) => [.p (.i .i64 s), .p (.sl 8 (eEs W)), .p (.i .i64 (eEs W).length), .p (.i .i64 (ix k)), .p (.sl 12 (eAs b7)), .p (.i .i64 (eAs b7).length), .p (.i .i64 (ix j))]) (fun _ _ => [])
      (fun j s' => s' = sumF (W.take k) + 1 + psizeFs ((b7.map Arm.pat).take j)) (IntKind.i64.wrap (s + 1)) ⟨rfl, rfl, rfl, rfl⟩ (by rw [hs, wrap64 (by omega) (by omega)]; simp [psizeFs]) ?_
    intro j s2 hj hs2
    have hpl := psizeFs_le (b7.map Arm.pat) (j + 1)
    conv => whnf
    refine asplit ?_ ?_ <;> intro h2 <;> conv => whnf
    · have hj1 := ix_tt h2 (by rw [eAs_len]) hj (by omega)
      obtain ⟨c, hc1⟩ : ∃ c, b7[j]? = some c := ⟨b7[j], by simp [hj1]⟩
      refine aidxk (eAs_get hc1) (by omega) ?_
      have hcw := wE_body (k := b1) (n := b2) (t := b3) (ns := b4) (ts := b5) (xs := b6) (p := b8) (List.mem_of_getElem? hc1)
      have hps := pats_spec c.pat (by omega)
      have hpn := patsK_len c.pat
      have hts2 : psizeFs ((b7.map Arm.pat).take (j + 1)) = psizeFs ((b7.map Arm.pat).take j) + psizeF c.pat := by
        rw [take_snoc (show (b7.map Arm.pat)[j]? = some c.pat by rw [List.getElem?_map, hc1]; rfl), psizeFs_app]; simp [psizeFs]
      generalize patsK c.pat (psizeF c.pat) = ps at hps hpn
      obtain ⟨⟨ck, cn, ct, ca⟩, ⟨c1, c2, c3, c4, c5, c6, c7, c8⟩⟩ := c
      simp only [Arm.pat] at hps hpn hts2
      conv => whnf
      refine apc hps ?_
      conv => whnf
      refine ⟨hj1, _, ⟨rfl, rfl, rfl, rfl⟩, ?_⟩
      rw [ePs_len, hpn, hs2, wrap64 (by omega) (by omega), hts2]; omega
    · have hj1 := ix_ff h2 (by rw [eAs_len]) hj (by omega)
      refine ⟨hk1, s2, ⟨rfl, rfl, rfl, rfl⟩, ?_⟩
      have hjl : psizeFs ((b7.map Arm.pat).take j) = psizeFs (b7.map Arm.pat) := by rw [hj1, List.take_of_length_le (by simp)]
      omega
  · have hk1 := ix_ff h1 (by rw [eEs_len]) hk (by omega)
    exact .inl (pi (by rw [hs, hk1, List.take_length]))
end TR
