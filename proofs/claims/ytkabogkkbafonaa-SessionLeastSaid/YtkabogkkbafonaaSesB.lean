/-
  DERIVED. Contracts of the functions that the law reaches, and the law itself, for every input. No conditions.
-/
import Derived.Test.YtkabogkkbafonaaSesA
open Go Go.AM Go.Proofs
namespace SE
/-! maps from numbers to numbers -/
def ilook (k : Int) : List (Int × Int) → Option Int
  | [] => none
  | (a, v) :: r => bif k == a then some v else ilook k r
def iput (k v : Int) : List (Int × Int) → List (Int × Int)
  | [] => [(k, v)]
  | (a, u) :: r => bif k == a then (k, v) :: r else (a, u) :: iput k v r
def eMI (m : List (Int × Int)) : List (PV × PV) := m.map fun p => (vI p.1, vI p.2)
theorem mfind_eMI (k : Int) : ∀ (m : List (Int × Int)), mfind (vI k) (eMI m) = (ilook k m).map vI
  | [] => rfl
  | (a, v) :: r => by
    have ih := mfind_eMI k r
    simp only [eMI, List.map_cons, mfind, pvEq, ilook, vI] at ih ⊢
    cases k == a <;> simp [ih, vI]
theorem mput_eMI (k v : Int) : ∀ (m : List (Int × Int)), mput (vI k) (vI v) (eMI m) = eMI (iput k v m)
  | [] => rfl
  | (a, u) :: r => by
    have ih := mput_eMI k v r
    simp only [eMI, List.map_cons, mput, pvEq, iput, vI] at ih ⊢
    cases k == a <;> simp [ih]
theorem mlook_eMI (k : Int) (m : List (Int × Int)) : mlook (vI k) (.i .i64 0) (eMI m) = (.i .i64 ((ilook k m).getD 0), (ilook k m).isSome) := by
  unfold mlook; rw [mfind_eMI]; cases ilook k m <;> rfl
theorem ilook_iput (k k' v : Int) : ∀ (m : List (Int × Int)), ilook k' (iput k v m) = bif k' == k then some v else ilook k' m
  | [] => by simp [iput, ilook]
  | (a, u) :: r => by
    have ih := ilook_iput k k' v r
    simp only [iput]
    cases h : k == a with
    | true =>
      have := of_decide_eq_true h; subst this
      simp only [cond_true, ilook]
      cases k' == k <;> rfl
    | false =>
      simp only [cond_false, ilook, ih]
      cases h2 : k' == a with
      | false => rfl
      | true =>
        have := of_decide_eq_true h2; subst this
        have : (k' == k) = false := by
          cases h3 : k' == k with
          | false => rfl
          | true => have := of_decide_eq_true h3; subst this; rw [h] at h2; cases h2
        rw [this]; rfl

/-! the order in which the classes are reached -/
def posC (cl : List Int) (c : Int) : List Int → Nat → Option Nat
  | [], _ => none
  | x :: r, k => bif c == clAt cl x then some k else posC cl c r (k + 1)
theorem posC_app (cl : List Int) (c x : Int) : ∀ (o : List Int) (k : Nat), posC cl c (o ++ [x]) k = match posC cl c o k with | some n => some n | none => bif c == clAt cl x then some (k + o.length) else none
  | [], k => by simp [posC]
  | y :: r, k => by
    rw [List.cons_append, posC, posC]
    cases c == clAt cl y with
    | true => rfl
    | false => simp only [cond_false]; rw [posC_app cl c x r (k + 1), List.length_cons, show k + 1 + r.length = k + (r.length + 1) by omega]
def addC (cl : List Int) (o : List Int) (x : Int) : List Int := match posC cl (clAt cl x) o 0 with | some _ => o | none => o ++ [x]
def numC (cl : List Int) (o : List Int) (x : Int) : Int := match posC cl (clAt cl x) o 0 with | some n => n | none => o.length
def goB (cl : List Int) : List Int → List Br → List Int × List Br
  | o, [] => (o, [])
  | o, b :: r => ((goB cl (addC cl o b.nxt) r).1, ⟨b.msg, numC cl o b.nxt⟩ :: (goB cl (addC cl o b.nxt) r).2)
def lstF (l : List St) (cl : List Int) : Nat → List Int × List St
  | 0 => ([0], [])
  | i + 1 => match (lstF l cl i).1[i]? with
    | some x => ((goB cl (lstF l cl i).1 (stAt l x).brs).1, (lstF l cl i).2 ++ [⟨(stAt l x).kind, (goB cl (lstF l cl i).1 (stAt l x).brs).2⟩])
    | none => lstF l cl i
/-- what the places tell -/
def PlaceOK (cl o : List Int) (m : List (Int × Int)) : Prop := ∀ c, ilook c m = (posC cl c o 0).map Int.ofNat
theorem PlaceOK.add {cl o : List Int} {m : List (Int × Int)} (h : PlaceOK cl o m) {x : Int} (hn : posC cl (clAt cl x) o 0 = none) : PlaceOK cl (o ++ [x]) (iput (clAt cl x) o.length m) := by
  intro c
  rw [ilook_iput, posC_app, h c]
  cases hq : c == clAt cl x with
  | true => have := of_decide_eq_true hq; subst this; rw [hn]; simp
  | false => cases posC cl c o 0 <;> rfl
structure OrdOK (l : List St) (cl o : List Int) : Prop where
  rng : ∀ x ∈ o, 0 ≤ x ∧ x < l.length
  nd : (o.map (clAt cl)).Nodup
theorem OrdOK.len {l : List St} {cl o : List Int} (h : OrdOK l cl o) : o.length ≤ l.length := by
  have h1 : o.Nodup := by
    have : ∀ (o : List Int), (o.map (clAt cl)).Nodup → o.Nodup := by
      intro o
      induction o with
      | nil => simp
      | cons x r ih =>
        intro hh
        rw [List.map_cons, List.nodup_cons] at hh
        rw [List.nodup_cons]
        exact ⟨fun hx => hh.1 (List.mem_map_of_mem hx), ih hh.2⟩
    exact this o h.nd
  have h2 : (o.map Int.toNat).Nodup := by
    have hr := h.rng
    clear h
    induction o with
    | nil => simp
    | cons x r ih =>
      rw [List.nodup_cons] at h1
      rw [List.map_cons, List.nodup_cons]
      refine ⟨fun hx => ?_, ih h1.2 (fun y hy => hr y (List.mem_cons_of_mem _ hy))⟩
      obtain ⟨y, hy, e⟩ := List.mem_map.1 hx
      have q1 := hr y (List.mem_cons_of_mem _ hy)
      have q2 := hr x (by simp)
      have : y = x := by omega
      subst this
      exact h1.1 hy
  have := nodup_bound l.length (o.map Int.toNat) h2 (fun x hx => by
    obtain ⟨y, hy, e⟩ := List.mem_map.1 hx
    have := h.rng y hy; omega)
  simpa using this
theorem posC_none {cl : List Int} {c : Int} : ∀ {o : List Int} {k : Nat}, posC cl c o k = none ↔ c ∉ o.map (clAt cl)
  | [], k => by simp [posC]
  | x :: r, k => by
    rw [posC, List.map_cons, List.mem_cons]
    cases hq : c == clAt cl x with
    | true => have := of_decide_eq_true hq; simp [this]
    | false =>
      have h1 : ¬ c = clAt cl x := of_decide_eq_false hq
      rw [cond_false, posC_none (o := r)]
      simp [h1]
theorem OrdOK.add {l : List St} {cl o : List Int} (h : OrdOK l cl o) {x : Int} (hx : 0 ≤ x ∧ x < l.length) (hn : posC cl (clAt cl x) o 0 = none) : OrdOK l cl (o ++ [x]) := by
  refine ⟨fun y hy => ?_, ?_⟩
  · rcases List.mem_append.1 hy with hy | hy
    · exact h.rng y hy
    · rw [List.mem_singleton.1 hy]; exact hx
  · rw [List.map_append, List.nodup_append]
    refine ⟨h.nd, by simp, fun a ha b hb => ?_⟩
    simp at hb
    subst hb
    intro e
    subst e
    exact posC_none.1 hn ha
def leastF (l : List St) : List St := (lstF l (clsF l l.length) l.length).2
def leastR (l : List St) : List St × Int := bif chkF l != 0 then ([], chkF l) else (leastF l, 0)
theorem least_spec (l : List St) (hb : ∀ s ∈ l, s.brs.length < 9223372036854775807) : APure Try.prog 14 [.p (.sl 2 (l.map eS))] (.tup [.p (.sl 2 ((leastR l).1.map eS)), .p (.i .i64 (leastR l).2)]) := by
  have hlr : leastR l = bif chkF l != 0 then ([], chkF l) else (leastF l, 0) := rfl
  have hc := check_spec l hb
  have v0 : chkF l = 0 → Vs l := chk_vs
  generalize chkF l = ce at hc v0 hlr
  refine APure.intro (tyOf_ok Try.prog) hmix Try.func14 rfl (by rfl) (by kernel_rfl) (by show 1 ≤ _; decide) rfl ?_
  conv => whnf
  refine apc hc ?_
  conv => whnf
  refine asplit ?_ ?_ <;> intro g1 <;> conv => whnf
  · rw [hlr, g1]; exact .inl rfl
  have v := v0 (by simpa using g1)
  rw [g1, cond_false] at hlr
  rw [hlr]
  have hl := v.len
  have hcs := classes_spec l v
  have hcl := clsF_len l l.length
  unfold leastF
  generalize clsF l l.length = cl at hcs hcl
  refine apc hcs ?_
  conv => whnf
  have h0 : 0 < cl.length := by omega
  obtain ⟨c0, hc0⟩ : ∃ c, cl[0]? = some c := ⟨_, List.getElem?_eq_getElem h0⟩
  have e0 : clAt cl 0 = c0 := by simp [clAt, hc0]
  refine aidxi (x := vI c0) (by decide) (by simp [hc0]) ?_
  conv => whnf
  refine lp_nil 8 1 rfl ?_
  refine loopS (tyOf_ok _) hmix (by kernel_rfl) l.length [0, 5, 6, 7, 8, 9] [24] (fun k (s : List PV × List (PV × PV) × List PV) => [.p (.sl 2 (l.map eS)), .p (.sl 1 (cl.map vI)), .so 1 s.1, .mp 24, .so 2 s.2.2, .p (.i .i64 (ix k))])
    (fun k s => [.map (.ki .i64) s.2.1]) (fun k s => ∃ (o : List Int) (m : List (Int × Int)) (out : List St), s = (o.map vI, eMI m, out.map eS) ∧ lstF l cl k = (o, out) ∧ PlaceOK cl o m ∧ OrdOK l cl o ∧ k ≤ o.length ∧ out.length = k) (_, _, _) ⟨rfl, rfl, rfl, rfl⟩
    ⟨[0], [(c0, 0)], [], rfl, rfl, fun c => by simp only [ilook, posC, e0]; cases c == c0 <;> rfl, ⟨by simp; omega, by simp⟩, by simp, rfl⟩ ?_
  rintro k _ hk ⟨o, m, out, rfl, hst, hpl, hord, hko, hout⟩
  have hol := hord.len
  conv => whnf
  refine asplit ?_ ?_ <;> intro g2 <;> conv => whnf
  · have hk1 := ix_tt g2 (by simp) hko (by omega)
    obtain ⟨x, hx⟩ : ∃ x, o[k]? = some x := ⟨o[k], by simp [hk1]⟩
    have hxr := hord.rng x (List.mem_of_getElem? hx)
    obtain ⟨xm, xg⟩ := v.at hxr.1 hxr.2
    obtain ⟨_, _, x6, xb, _⟩ := v.st _ xm
    have hst2 : lstF l cl (k + 1) = ((goB cl o (stAt l x).brs).1, out ++ [⟨(stAt l x).kind, (goB cl o (stAt l x).brs).2⟩]) := by rw [lstF, hst, hx]
    generalize stAt l x = sx at xm xg x6 xb hst2
    obtain ⟨xk, brs⟩ := sx
    simp only at x6 xb hst2
    refine aidxk (x := vI x) (by simp [hx]) (by omega) ?_
    conv => whnf
    refine aidxi (x := eS ⟨xk, brs⟩) hxr.1 (by rw [List.getElem?_map, xg]; rfl) ?_
    conv => whnf
    refine aidxk (x := vI x) (by simp [hx]) (by omega) ?_
    conv => whnf
    refine aidxi (x := eS ⟨xk, brs⟩) hxr.1 (by rw [List.getElem?_map, xg]; rfl) ?_
    conv => whnf
    refine lp_le 10 (.cells [.p (.i .i64 xk), .so 2 []]) rfl ⟨.inl rfl, .inr (.inr ⟨rfl, 1, rfl⟩), trivial⟩ ?_
    refine loopS (tyOf_ok _) hmix (by kernel_rfl) brs.length [0, 5, 6, 7, 8, 9, 10, 51, 52, 53] [24, 10] (fun j (s : List PV × List (PV × PV) × List PV) => [.p (.sl 2 (l.map eS)), .p (.sl 1 (cl.map vI)), .so 1 s.1, .mp 24, .so 2 (out.map eS), .p (.i .i64 (ix k)), .ptr 10 0, .p (.sl 2 (brs.map eB)), .p (.i .i64 (brs.map eB).length), .p (.i .i64 (ix j))])
      (fun j s => [.map (.ki .i64) s.2.1, .cells [.p (.i .i64 xk), .so 2 s.2.2]])
      (fun j s => ∃ (o' : List Int) (m' : List (Int × Int)) (bs : List Br), s = (o'.map vI, eMI m', bs.map eB) ∧ goB cl o brs = ((goB cl o' (brs.drop j)).1, bs ++ (goB cl o' (brs.drop j)).2) ∧ PlaceOK cl o' m' ∧ OrdOK l cl o' ∧ k < o'.length ∧ bs.length = j) (o.map vI, eMI m, []) ⟨rfl, rfl, rfl, rfl⟩
      ⟨o, m, [], rfl, rfl, hpl, hord, hk1, rfl⟩ ?_
    rintro j _ hj ⟨o', m', bs, rfl, hgo, hpl', hord', hko', hbl⟩
    have hol' := hord'.len
    conv => whnf
    refine asplit ?_ ?_ <;> intro g3 <;> conv => whnf
    · have hj1 := ix_tt g3 (by simp) hj (by omega)
      obtain ⟨b, hb1⟩ : ∃ b, brs[j]? = some b := ⟨brs[j], by simp [hj1]⟩
      have hbr := xb b (List.mem_of_getElem? hb1)
      rw [drop_cons hb1, goB] at hgo
      obtain ⟨bm, bn⟩ := b
      simp only at hbr hgo
      obtain ⟨c, hc1⟩ : ∃ c, cl[bn.toNat]? = some c := ⟨_, List.getElem?_eq_getElem (by omega)⟩
      have ec : clAt cl bn = c := by simp [clAt, hc1]
      refine aidxk (x := eB ⟨bm, bn⟩) (by simp [hb1]) (by omega) ?_
      conv => whnf
      refine aidxi (x := vI c) hbr.1 (by simp [hc1]) ?_
      conv => whnf
      refine alook (mlook_eMI c m') ?_
      conv => whnf
      have hlook := hpl' c
      cases hpos : posC cl c o' 0 with
      | none =>
        rw [hpos] at hlook
        simp only [Option.map_none] at hlook
        refine ast (by rw [hlook]; rfl) ?_
        conv => whnf
        refine aneed (show ((o'.map vI).length + 1) * 8 ≤ 140737488355328 by simp; omega) ?_
        conv => whnf
        refine aneed (show ((bs.map eB).length + 1) * 16 ≤ 140737488355328 by simp; omega) ?_
        conv => whnf
        have ha : addC cl o' bn = o' ++ [bn] := by rw [addC, ec, hpos]
        have hn : numC cl o' bn = o'.length := by rw [numC, ec, hpos]
        rw [ha, hn] at hgo
        refine ⟨hj1, (_, _, _), ⟨rfl, rfl, rfl, rfl⟩, o' ++ [bn], iput c o'.length m', bs ++ [⟨bm, o'.length⟩], ?_, by rw [hgo]; simp, ?_, ?_, by simp; omega, by simp [hbl]⟩
        · have := mput_eMI c o'.length m'
          simp only [List.length_map, List.map_append, List.map_cons, List.map_nil, ← this]
          rfl
        · rw [← ec] at hpos ⊢; exact hpl'.add hpos
        · rw [← ec] at hpos; exact hord'.add hbr hpos
      | some q =>
        rw [hpos] at hlook
        simp only [Option.map_some] at hlook
        refine asf (by rw [hlook]; rfl) ?_
        conv => whnf
        refine aneed (show ((bs.map eB).length + 1) * 16 ≤ 140737488355328 by simp; omega) ?_
        conv => whnf
        have ha : addC cl o' bn = o' := by rw [addC, ec, hpos]
        have hn : numC cl o' bn = q := by rw [numC, ec, hpos]
        rw [ha, hn] at hgo
        refine ⟨hj1, (o'.map vI, eMI m', bs.map eB ++ [.agg [.i .i64 bm, .i .i64 ((ilook c m').getD 0)]]), ⟨rfl, rfl, rfl, rfl⟩, o', m', bs ++ [⟨bm, q⟩], ?_, by rw [hgo]; simp, hpl', hord', hko', by simp [hbl]⟩
        rw [hlook]; simp; rfl
    · have hj1 := ix_ff g3 (by simp) hj (by omega)
      rw [List.drop_eq_nil_of_le (by omega), goB] at hgo
      refine aneed (show ((out.map eS).length + 1) * 32 ≤ 140737488355328 by simp; omega) ?_
      conv => whnf
      refine ⟨by omega, (o'.map vI, eMI m', out.map eS ++ [.agg [.i .i64 xk, .sl 2 (bs.map eB)]]), ⟨rfl, rfl, rfl, rfl⟩, o', m', out ++ [⟨xk, bs⟩], ?_, ?_, hpl', hord', hko', by simp [hout]⟩
      · simp; rfl
      · rw [hst2, hgo]; simp
  · have hk1 := ix_ff g2 (by simp) hko (by omega)
    have stay : ∀ n, k ≤ n → lstF l cl n = (o, out) := by
      intro n hn
      induction n with
      | zero => have : k = 0 := by omega
                subst this; exact hst
      | succ n ih =>
        by_cases e : k = n + 1
        · subst e; exact hst
        · rw [lstF, ih (by omega)]; simp only; rw [List.getElem?_eq_none (by omega)]
    rw [stay l.length (by omega)]
    exact .inl rfl
end SE
