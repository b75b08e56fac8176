/-
  DERIVED. Contracts of the functions that the law reaches, and the law itself, for every input. No conditions.
-/
import Derived.Test.YtkabogkkbafonaaSesD
open Go Go.AM Go.Proofs
namespace SE
/-! the order -/
theorem addC_ord {l : List St} {cl o : List Int} (h : OrdOK l cl o) {x : Int} (hx : Inn l x) : OrdOK l cl (addC cl o x) := by
  unfold addC
  split
  · exact h
  · rename_i q; exact h.add hx q
theorem goB_ord {l : List St} {cl : List Int} : ∀ {r : List Br} {o : List Int}, OrdOK l cl o → (∀ b ∈ r, Inn l b.nxt) → OrdOK l cl (goB cl o r).1
  | [], _, h, _ => h
  | b :: r, o, h, hb => by
    rw [goB]
    exact goB_ord (addC_ord h (hb b (by simp))) (fun c hc => hb c (by simp [hc]))
theorem lst_ord {l : List St} (v : Vs l) (cl : List Int) : ∀ k, OrdOK l cl (lstF l cl k).1
  | 0 => ⟨by have := v.len; simp [lstF]; omega, by simp [lstF]⟩
  | k + 1 => by
    have ih := lst_ord v cl k
    rw [lstF]
    split
    · rename_i x hx
      exact goB_ord ih (v.brIn (ih.rng x (List.mem_of_getElem? hx)))
    · exact ih
theorem lst_stay {l : List St} {cl : List Int} (k : Nat) (h : (lstF l cl k).1.length ≤ k) : ∀ n, lstF l cl (k + n) = lstF l cl k
  | 0 => rfl
  | n + 1 => by
    have ih := lst_stay k h n
    rw [← Nat.add_assoc, lstF, ih, List.getElem?_eq_none (by omega)]
theorem least_far {l : List St} (v : Vs l) (n : Nat) : leastF l = (lstF l (clsF l l.length) (l.length + n)).2 := by
  rw [lst_stay l.length (lst_ord v _ _).len n]; rfl
/-! two automata, step by step -/
def RelO (R : Int → Int → Prop) : List Int → List Int → Prop
  | [], [] => True
  | x :: r, y :: r' => R x y ∧ RelO R r r'
  | _, _ => False
theorem RelO.app {R : Int → Int → Prop} {u v : Int} (h : R u v) : ∀ {a b : List Int}, RelO R a b → RelO R (a ++ [u]) (b ++ [v])
  | [], [], _ => ⟨h, trivial⟩
  | [], _ :: _, q => q.elim
  | _ :: _, [], q => q.elim
  | _ :: _, _ :: _, q => ⟨q.1, RelO.app h q.2⟩
theorem RelO.len {R : Int → Int → Prop} : ∀ {a b : List Int}, RelO R a b → a.length = b.length
  | [], [], _ => rfl
  | [], _ :: _, q => q.elim
  | _ :: _, [], q => q.elim
  | _ :: _, _ :: _, q => by simp [RelO.len q.2]
theorem RelO.get {R : Int → Int → Prop} : ∀ {a b : List Int}, RelO R a b → ∀ (i : Nat) (x : Int), a[i]? = some x → ∃ y, b[i]? = some y ∧ R x y
  | [], [], _, i, x, hx => by simp at hx
  | [], _ :: _, q, _, _, _ => q.elim
  | _ :: _, [], q, _, _, _ => q.elim
  | u :: a, v :: b, q, 0, x, hx => by simp at hx; subst hx; exact ⟨v, rfl, q.1⟩
  | u :: a, v :: b, q, i + 1, x, hx => by simpa using RelO.get q.2 i x (by simpa using hx)
section
variable {a b : List St} (va : Vs a) (vb : Vs b)
include va vb
theorem cls_two {x y u v : Int} (h : Bis a b x y) (h' : Bis a b u v) : (clAt (clsF a a.length) x == clAt (clsF a a.length) u) = (clAt (clsF b b.length) y == clAt (clsF b b.length) v) := by
  have e : clAt (clsF a a.length) x = clAt (clsF a a.length) u ↔ clAt (clsF b b.length) y = clAt (clsF b b.length) v := by
    rw [cls_iff va h.inn.1 h'.inn.1, cls_iff vb h.inn.2 h'.inn.2]
    exact ⟨fun q => (h.symm.trans q).trans h', fun q => (h.trans q).trans h'.symm⟩
  by_cases q : clAt (clsF a a.length) x = clAt (clsF a a.length) u
  · rw [beq_iff_eq.2 q, beq_iff_eq.2 (e.1 q)]
  · rw [beq_eq_false_iff_ne.2 q, beq_eq_false_iff_ne.2 (fun p => q (e.2 p))]
theorem pos_two {x y : Int} (h : Bis a b x y) : ∀ {o o' : List Int} (k : Nat), RelO (Bis a b) o o' → posC (clsF a a.length) (clAt (clsF a a.length) x) o k = posC (clsF b b.length) (clAt (clsF b b.length) y) o' k
  | [], [], _, _ => rfl
  | [], _ :: _, _, q => q.elim
  | _ :: _, [], _, q => q.elim
  | u :: o, v :: o', k, q => by
    rw [posC, posC, cls_two va vb h q.1, pos_two h (k + 1) q.2]
theorem add_two {x y : Int} (h : Bis a b x y) {o o' : List Int} (q : RelO (Bis a b) o o') : RelO (Bis a b) (addC (clsF a a.length) o x) (addC (clsF b b.length) o' y) ∧ numC (clsF a a.length) o x = numC (clsF b b.length) o' y := by
  unfold addC numC
  rw [pos_two va vb h 0 q, q.len]
  cases posC (clsF b b.length) (clAt (clsF b b.length) y) o' 0 with
  | some n => exact ⟨q, rfl⟩
  | none => exact ⟨q.app h, rfl⟩
theorem go_two : ∀ {r r' : List Br} {o o' : List Int}, brsR (Bis a b) r r' → RelO (Bis a b) o o' → RelO (Bis a b) (goB (clsF a a.length) o r).1 (goB (clsF b b.length) o' r').1 ∧ (goB (clsF a a.length) o r).2 = (goB (clsF b b.length) o' r').2
  | [], [], _, _, _, q => ⟨q, rfl⟩
  | [], _ :: _, _, _, h, _ => h.elim
  | _ :: _, [], _, _, h, _ => h.elim
  | x :: r, y :: r', o, o', h, q => by
    obtain ⟨h1, h2, h3⟩ := h
    obtain ⟨k1, k2⟩ := add_two va vb h2 q
    obtain ⟨m1, m2⟩ := go_two h3 k1
    exact ⟨m1, by rw [goB, goB]; simp only; rw [h1, k2, m2]⟩
theorem lst_two (h : Bis a b 0 0) : ∀ k, RelO (Bis a b) (lstF a (clsF a a.length) k).1 (lstF b (clsF b b.length) k).1 ∧ (lstF a (clsF a a.length) k).2 = (lstF b (clsF b b.length) k).2
  | 0 => ⟨⟨h, trivial⟩, rfl⟩
  | k + 1 => by
    obtain ⟨h1, h2⟩ := lst_two h k
    rw [lstF, lstF]
    cases hx : (lstF a (clsF a a.length) k).1[k]? with
    | none =>
      have : (lstF b (clsF b b.length) k).1[k]? = none := by
        rw [List.getElem?_eq_none_iff] at hx ⊢
        rw [← h1.len]; exact hx
      rw [this]; exact ⟨h1, h2⟩
    | some x =>
      obtain ⟨y, hy, hb⟩ := h1.get k x hx
      rw [hy]
      obtain ⟨m1, m2⟩ := go_two va vb hb.st.2 h1
      exact ⟨m1, by simp only; rw [m2, h2, hb.st.1]⟩
theorem least_two (h : Bis a b 0 0) : leastF a = leastF b := by
  rw [least_far va b.length, least_far vb a.length, Nat.add_comm b.length]
  exact (lst_two va vb h _).2
end
/-! the least automaton is the same -/
/-- n stands for u -/
def Num (cl o : List Int) (u n : Int) : Prop := 0 ≤ n ∧ ∃ y, o[n.toNat]? = some y ∧ clAt cl u = clAt cl y
theorem Num.app {cl o : List Int} {u n : Int} (h : Num cl o u n) (ext : List Int) : Num cl (o ++ ext) u n := by
  obtain ⟨h0, y, h1, h2⟩ := h
  exact ⟨h0, y, by rw [List.getElem?_append_left (List.getElem?_eq_some_iff.1 h1).1]; exact h1, h2⟩
theorem posC_some {cl : List Int} {c : Int} : ∀ {o : List Int} {k n : Nat}, posC cl c o k = some n → ∃ i y, n = k + i ∧ o[i]? = some y ∧ c = clAt cl y
  | [], k, n, h => by simp [posC] at h
  | x :: r, k, n, h => by
    rw [posC] at h
    cases hq : c == clAt cl x with
    | true => rw [hq, cond_true] at h; cases h; exact ⟨0, x, by omega, rfl, beq_iff_eq.1 hq⟩
    | false =>
      rw [hq, cond_false] at h
      obtain ⟨i, y, h1, h2, h3⟩ := posC_some h
      exact ⟨i + 1, y, by omega, by simpa using h2, h3⟩
theorem add_num (cl o : List Int) (x : Int) : (∃ ext, addC cl o x = o ++ ext) ∧ Num cl (addC cl o x) x (numC cl o x) := by
  unfold addC numC
  cases h : posC cl (clAt cl x) o 0 with
  | some n =>
    obtain ⟨i, y, h1, h2, h3⟩ := posC_some h
    exact ⟨⟨[], by simp⟩, by simp only; omega, y, by simp only; rw [h1]; simpa using h2, h3⟩
  | none => exact ⟨⟨[x], rfl⟩, by simp only; omega, x, by simp, rfl⟩
theorem go_num (cl : List Int) : ∀ (r : List Br) (o : List Int), (∃ ext, (goB cl o r).1 = o ++ ext) ∧ brsR (Num cl (goB cl o r).1) r (goB cl o r).2
  | [], o => ⟨⟨[], by simp [goB]⟩, trivial⟩
  | b :: r, o => by
    obtain ⟨⟨e1, h1⟩, h2⟩ := add_num cl o b.nxt
    obtain ⟨⟨e2, h3⟩, h4⟩ := go_num cl r (addC cl o b.nxt)
    rw [goB]
    refine ⟨⟨e1 ++ e2, by simp only; rw [h3, h1]; simp⟩, rfl, ?_, h4⟩
    simp only
    rw [h3]; exact h2.app e2
structure LInv (l : List St) (cl : List Int) (k : Nat) (q : List Int × List St) : Prop where
  z : q.1[0]? = some 0
  le : q.2.length ≤ q.1.length
  lek : q.2.length ≤ k
  or : q.2.length = k ∨ q.2.length = q.1.length
  st : ∀ (i : Nat) (s : St), q.2[i]? = some s → ∃ x, q.1[i]? = some x ∧ s.kind = (stAt l x).kind ∧ brsR (Num cl q.1) (stAt l x).brs s.brs
theorem lst_inv (l : List St) (cl : List Int) : ∀ k, LInv l cl k (lstF l cl k)
  | 0 => ⟨rfl, by simp [lstF], by simp [lstF], .inl rfl, fun i s h => by simp [lstF] at h⟩
  | k + 1 => by
    have ih := lst_inv l cl k
    rw [lstF]
    cases hx : (lstF l cl k).1[k]? with
    | none =>
      simp only
      refine ⟨ih.z, ih.le, by have := ih.lek; omega, ?_, ih.st⟩
      rcases ih.or with h | h
      · right
        have := List.getElem?_eq_none_iff.1 hx
        have := ih.le; omega
      · exact .inr h
    | some x =>
      obtain ⟨⟨ext, h1⟩, h2⟩ := go_num cl (stAt l x).brs (lstF l cl k).1
      have hk := (List.getElem?_eq_some_iff.1 hx).1
      have hlen : (lstF l cl k).2.length = k := by
        rcases ih.or with h | h
        · exact h
        · have := ih.lek; omega
      simp only
      refine ⟨?_, ?_, by simp [hlen], .inl (by simp [hlen]), fun i s hs => ?_⟩
      · rw [h1, List.getElem?_append_left (by omega)]; exact ih.z
      · rw [h1]; simp; omega
      · by_cases hi : i < k
        · rw [List.getElem?_append_left (by omega)] at hs
          obtain ⟨y, p1, p2, p3⟩ := ih.st i s hs
          refine ⟨y, by rw [h1, List.getElem?_append_left (by omega)]; exact p1, p2, brsR_mono (fun _ _ _ _ q => ?_) p3⟩
          rw [h1]; exact q.app ext
        · rw [List.getElem?_append_right (by omega), hlen] at hs
          have e : i - k = 0 := by have := (List.getElem?_eq_some_iff.1 hs).1; simp at this; omega
          rw [e] at hs
          simp at hs
          subst hs
          have : i = k := by omega
          subst this
          exact ⟨x, by rw [h1, List.getElem?_append_left (by omega)]; exact hx, rfl, h2⟩

/-- the least automaton, told -/
theorem least_tell {a : List St} (va : Vs a) : ∃ o : List Int, OrdOK a (clsF a a.length) o ∧ o[0]? = some 0 ∧ (leastF a).length = o.length ∧
    ∀ (i : Nat) (s : St), (leastF a)[i]? = some s → ∃ x, o[i]? = some x ∧ s.kind = (stAt a x).kind ∧ brsR (Num (clsF a a.length) o) (stAt a x).brs s.brs := by
  have hi := lst_inv a (clsF a a.length) a.length
  have ho := lst_ord va (clsF a a.length) a.length
  refine ⟨_, ho, hi.z, ?_, hi.st⟩
  have h1 := ho.len
  have h2 := hi.le
  show (lstF a (clsF a a.length) a.length).2.length = _
  rcases hi.or with h | h <;> omega
theorem least_len {a : List St} (va : Vs a) : 1 ≤ (leastF a).length ∧ (leastF a).length ≤ a.length := by
  obtain ⟨o, h1, h2, h3, _⟩ := least_tell va
  have := (List.getElem?_eq_some_iff.1 h2).1
  have := h1.len
  omega
theorem least_bis {a : List St} (va : Vs a) : Bis a (leastF a) 0 0 := by
  obtain ⟨o, h1, h2, h3, h4⟩ := least_tell va
  have hl := va.len
  have h0 : 0 < o.length := (List.getElem?_eq_some_iff.1 h2).1
  refine ⟨fun u v => Inn a u ∧ Inn (leastF a) v ∧ ∃ y, o[v.toNat]? = some y ∧ Bis a a u y, fun u v ⟨hu, hv, y, hy, hb⟩ => ⟨hu, hv, ?_⟩, ⟨by omega, by omega⟩, ⟨by omega, by omega⟩, 0, h2, Bis.refl va ⟨by omega, by omega⟩⟩
  have hvl : v.toNat < (leastF a).length := by have := hv.1; have := hv.2; omega
  have hs : (leastF a)[v.toNat]? = some (stAt (leastF a) v) := by
    rw [List.getElem?_eq_getElem hvl, stAt, List.getElem?_eq_getElem hvl]; rfl
  obtain ⟨x, q1, q2, q3⟩ := h4 _ _ hs
  rw [hy] at q1; cases q1
  refine ⟨hb.st.1.trans q2.symm, ?_⟩
  have c1 : brsR (fun u' n => ∃ w, Bis a a u' w ∧ Num (clsF a a.length) o w n) (stAt a u).brs (stAt (leastF a) v).brs := brsR_trans (fun _ w _ p q => ⟨w, p, q⟩) hb.st.2 q3
  refine brsR_mono (fun s hs t ht => ?_) c1
  rintro ⟨w, b1, n0, z, n1, n2⟩
  have hz := h1.rng z (List.mem_of_getElem? n1)
  have := (List.getElem?_eq_some_iff.1 n1).1
  exact ⟨b1.inn.1, ⟨n0, by omega⟩, z, n1, b1.trans ((cls_iff va b1.inn.2 hz).1 n2)⟩
theorem brsF_num {n n' : Int} : ∀ {r r' : List Br} {last : Int}, brsF n last r = 0 → brsR (fun _ v => 0 ≤ v ∧ v < n') r r' → brsF n' last r' = 0
  | [], [], _, _, _ => rfl
  | [], _ :: _, _, _, h => h.elim
  | _ :: _, [], _, _, h => h.elim
  | c :: r, d :: r', last, h, q => by
    obtain ⟨q1, ⟨q2, q3⟩, q4⟩ := q
    rw [brsF] at h ⊢
    cases h1 : (decide (c.msg < 0) || (decide (c.msg > 20) || (decide (c.nxt < 0) || decide (c.nxt ≥ n)))) with
    | true => rw [h1] at h; simp at h
    | false =>
      rw [h1, cond_false] at h
      cases h2 : decide (c.msg ≤ last) with
      | true => rw [h2] at h; simp at h
      | false =>
        rw [h2, cond_false] at h
        simp only [Bool.or_eq_false_iff, decide_eq_false_iff_not] at h1
        have h2 := of_decide_eq_false h2
        have e1 : (decide (d.msg < 0) || (decide (d.msg > 20) || (decide (d.nxt < 0) || decide (d.nxt ≥ n')))) = false := by
          simp only [Bool.or_eq_false_iff, decide_eq_false_iff_not]
          omega
        have e2 : decide (d.msg ≤ last) = false := decide_eq_false (by omega)
        rw [e1, e2, cond_false, cond_false, ← q1]
        exact brsF_num h q4
theorem sts_all {n : Int} : ∀ {l : List St}, (∀ s ∈ l, stF s n = 0) → stsF n l = 0
  | [], _ => rfl
  | s :: r, h => by
    rw [stsF, h s (by simp)]
    exact sts_all (fun t ht => h t (by simp [ht]))
theorem least_chk {a : List St} (hc : chkF a = 0) : chkF (leastF a) = 0 := by
  have va := chk_vs hc
  obtain ⟨_, _, hst⟩ := chkF_ok hc
  obtain ⟨o, h1, h2, h3, h4⟩ := least_tell va
  have hl := least_len va
  have hal := va.len
  unfold chkF
  rw [show (decide (((leastF a).length : Int) < 1) || decide (((leastF a).length : Int) > 16)) = false by simp; omega, cond_false]
  refine sts_all fun s hs => ?_
  obtain ⟨i, hi⟩ := List.mem_iff_getElem?.1 hs
  obtain ⟨x, q1, q2, q3⟩ := h4 i s hi
  have hx := h1.rng x (List.mem_of_getElem? q1)
  have hsx := hst _ (va.at hx.1 hx.2).1
  have hlen := brsR_len q3
  have hb := (stF_ok hsx).2
  unfold stF at hsx ⊢
  rw [q2, ← hlen]
  cases c1 : (decide ((stAt a x).kind < 1) || (decide ((stAt a x).kind > 3) || !(((stAt a x).kind == 3) == (((stAt a x).brs.length : Int) == 0)))) with
  | true => rw [c1] at hsx; simp at hsx
  | false =>
    rw [c1, cond_false] at hsx
    rw [cond_false]
    cases c2 : decide (((stAt a x).brs.length : Int) > 6) with
    | true => rw [c2] at hsx; simp at hsx
    | false =>
      rw [cond_false]
      refine brsF_num hb (brsR_mono (fun u _ w _ p => ?_) q3)
      obtain ⟨n0, y, n1, _⟩ := p
      have := (List.getElem?_eq_some_iff.1 n1).1
      exact ⟨n0, by omega⟩
theorem same_iff {a b : List St} (ha : chkF a = 0) (hb : chkF b = 0) : (subB a b && subB b a) = true ↔ Bis a b 0 0 := by
  rw [Bool.and_eq_true, subB_true, subB_true]
  have va := chk_vs ha
  have vb := chk_vs hb
  exact ⟨fun h => sub_bis va vb h.1 h.2, fun h => ⟨bis_sub va vb h, bis_sub vb va h.symm⟩⟩
theorem least_iff {a b : List St} (ha : chkF a = 0) (hb : chkF b = 0) : sameF (leastF a) (leastF b) = (subB a b && subB b a) := by
  have va := chk_vs ha
  have vb := chk_vs hb
  rw [Bool.eq_iff_iff, sameF_iff, same_iff ha hb]
  refine ⟨fun h => ?_, fun h => least_two va vb h⟩
  have h1 := least_bis va
  rw [h] at h1
  exact h1.trans (least_bis vb).symm
theorem least_least {a : List St} (ha : chkF a = 0) : leastF (leastF a) = leastF a :=
  (least_two (chk_vs ha) (chk_vs (least_chk ha)) (least_bis (chk_vs ha))).symm
theorem least_fit {a : List St} (ha : chkF a = 0) : ∀ s ∈ leastF a, s.brs.length < 9223372036854775807 := fun s hs => by
  have := (chk_vs (least_chk ha)).st s hs; omega
set_option maxRecDepth 100000 in
theorem leastLaw_spec (a b : List St) (fa : Fit a) (fb : Fit b) : APure Try.prog 6 [.p (.sl 2 (a.map eS)), .p (.sl 2 (b.map eS))] (.p (.b true)) := by
  have la : ∀ s ∈ a, s.brs.length < 9223372036854775807 := fun s hs => by have := fa s hs; omega
  have lb : ∀ s ∈ b, s.brs.length < 9223372036854775807 := fun s hs => by have := fb s hs; omega
  have h1 := least_spec a la
  have r1 : leastR a = bif chkF a != 0 then ([], chkF a) else (leastF a, 0) := rfl
  by_cases ca : chkF a = 0
  · rw [ca] at r1
    rw [show leastR a = (leastF a, 0) from r1] at h1
    have va := chk_vs ca
    have cl := least_chk ca
    have hl := least_len va
    have hal := va.len
    have h2 := least_spec (leastF a) (least_fit ca)
    rw [show leastR (leastF a) = (leastF a, 0) by unfold leastR; rw [cl, least_least ca]; rfl] at h2
    have h3 := same_spec a (leastF a) la (least_fit ca)
    have e3 := (same_iff ca cl).2 (least_bis va)
    rw [subF_ok ca cl, subF_ok cl ca] at h3
    have h3 : APure Try.prog 11 [.p (.sl 2 (a.map eS)), .p (.sl 2 ((leastF a).map eS))] (.tup [.p (.b true), .p (.i .i64 0)]) := by
      have e : (bif (subB a (leastF a), (0 : Int)).2 != 0 then false else (subB a (leastF a), (0 : Int)).1 && (subB (leastF a) a, (0 : Int)).1) = true := e3
      rw [e] at h3; exact h3
    have h4 := sameSession_spec (leastF a) (leastF a) (by omega) (least_fit ca)
    rw [(sameF_iff _ _).2 rfl] at h4
    have h5 := least_spec b lb
    have h6 := same_spec a b la lb
    by_cases cb : chkF b = 0
    · rw [show leastR b = (leastF b, 0) by unfold leastR; rw [cb]; rfl] at h5
      rw [subF_ok ca cb, subF_ok cb ca] at h6
      have h6 : APure Try.prog 11 [.p (.sl 2 (a.map eS)), .p (.sl 2 (b.map eS))] (.tup [.p (.b (subB a b && subB b a)), .p (.i .i64 0)]) := h6
      have h7 := sameSession_spec (leastF a) (leastF b) (by omega) (least_fit ca)
      rw [least_iff ca cb] at h7
      generalize (subB a b && subB b a) = r at h6 h7
      generalize leastF a = L at *
      generalize leastF b = M at *
      refine APure.intro (tyOf_ok Try.prog) hmix Try.func6 rfl (by rfl) (by kernel_rfl) (by show 2 ≤ _; decide) rfl ?_
      conv => whnf
      refine apc sessions_spec ?_
      conv => whnf
      refine apc h1 ?_
      conv => whnf
      refine apc h2 ?_
      conv => whnf
      refine apc h3 ?_
      conv => whnf
      refine asf (decide_eq_false (by simp; omega)) ?_
      conv => whnf
      refine apc h4 ?_
      conv => whnf
      refine apc h5 ?_
      conv => whnf
      refine apc h6 ?_
      conv => whnf
      refine apc h7 ?_
      conv => whnf
      exact .inl (pb (by simp))
    · have e5 : (leastR b).2 = chkF b := by
        unfold leastR
        rw [show (chkF b != 0) = true by simpa using cb]; rfl
      rw [e5] at h5
      generalize (leastR b).1 = M at h5
      generalize (bif (subF a b).2 != 0 then false else (subF a b).1 && (subF b a).1) = r at h6
      generalize (subF a b).2 = e at h6
      generalize leastF a = L at *
      have cb' : (chkF b != 0) = true := by simpa using cb
      generalize chkF b = q at h5 cb'
      refine APure.intro (tyOf_ok Try.prog) hmix Try.func6 rfl (by rfl) (by kernel_rfl) (by show 2 ≤ _; decide) rfl ?_
      conv => whnf
      refine apc sessions_spec ?_
      conv => whnf
      refine apc h1 ?_
      conv => whnf
      refine apc h2 ?_
      conv => whnf
      refine apc h3 ?_
      conv => whnf
      refine asf (decide_eq_false (by simp; omega)) ?_
      conv => whnf
      refine apc h4 ?_
      conv => whnf
      refine apc h5 ?_
      conv => whnf
      refine apc h6 ?_
      conv => whnf
      refine ast cb' ?_
      conv => whnf
      exact .inl rfl
  · have ca' : (chkF a != 0) = true := by simpa using ca
    rw [ca', cond_true] at r1
    rw [r1] at h1
    generalize chkF a = q at h1 ca'
    refine APure.intro (tyOf_ok Try.prog) hmix Try.func6 rfl (by rfl) (by kernel_rfl) (by show 2 ≤ _; decide) rfl ?_
    conv => whnf
    refine apc sessions_spec ?_
    conv => whnf
    refine apc h1 ?_
    conv => whnf
    refine ast ca' ?_
    conv => whnf
    exact .inl rfl
end SE
