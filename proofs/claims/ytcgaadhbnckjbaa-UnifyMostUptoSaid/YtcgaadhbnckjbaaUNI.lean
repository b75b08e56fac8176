/-
  DERIVED. Contracts of functions that the law reaches, and the law, for every input. No conditions.
-/
import Derived.Test.YtcgaadhbnckjbaaUX9
open Go Go.AM Go.Proofs
set_option maxRecDepth 100000
namespace KK
/-! UnifyMost -/
theorem unks_len' (t : Ty) : (unksF t).length ≤ nodes t := by have := unk_len t ⟨[], []⟩; rw [unksF]; simpa using this
theorem eTs_nil : eTs [] = [] := by rw [eTs]
theorem unifyMost_ok (ps : List TP2) (os : TM) (hs : sumP ps ≤ 1099511627776) (ho : os.length ≤ 2000000) (hob : ∀ p ∈ os, nodes p.2 ≤ 1048576) :
    APure Try.prog 5 [.p (.sl 6 (ps.map eP)), .p (.sl 4 (os.map eB))] (.p (.b true)) := by
  have hfair := fair_spec ps hs
  have hfo := @fair_of ps 0
  have huni := unifies_spec
  have hcon := contB_spec os (by omega)
  have hgood := nb_good os 0
  have hoo : ∀ p ∈ os, okT p.2 := fun p hp => okT_of_nodes _ (by have := hob p hp; omega)
  generalize fairF ps 0 = q at hfair hfo
  generalize decide (nbF os 0 ≥ 0) = qb at hcon hgood
  refine APure.introS (tyOf_ok Try.prog) Try.func5 rfl (by rfl) (by show 2 ≤ _; decide) rfl ?_
  refine AWp.cut (tyOf_ok Try.prog) hmix (by kernel_rfl) 5 [1, 5] [] (fun _ : Unit => [.p (.sl 4 (os.map eB)), .so 6 (ps.map eP)]) (fun _ => []) (fun _ => q = true ∧ qb = false ∧ ∀ p ∈ ps, applyF os p.1 = applyF os p.2) ?_ ?_
  · conv => whnf
    refine apc hfair ?_
    conv => whnf
    cases q with
    | false =>
      conv => whnf
      refine apc huni ?_
      conv => whnf
      exact .inl rfl
    | true =>
      obtain ⟨hpure, hsm⟩ := hfo rfl
      rw [Nat.zero_add] at hsm
      obtain ⟨hn4, hl6⟩ := sumP_small hsm
      conv => whnf
      refine apc huni ?_
      conv => whnf
      refine apc hcon ?_
      conv => whnf
      cases qb with
      | true =>
        conv => whnf
        exact .inl rfl
      | false =>
        conv => whnf
        refine lp_nil 5 5 rfl ?_
        refine loopS (tyOf_ok _) hmix (by kernel_rfl) ps.length [1, 5, 27, 28, 29] [] (fun k (_ : Unit) => [.p (.sl 4 (os.map eB)), .so 6 ((ps.take k).map eP), .p (.sl 6 (ps.map eP)), .p (.i .i64 (ps.map eP).length), .p (.i .i64 (ix k))])
          (fun _ _ => []) (fun k s => ∀ p ∈ ps.take k, applyF os p.1 = applyF os p.2) () ⟨rfl, rfl, rfl, rfl⟩ (by simp) ?_
        rintro k _ hk hso
        conv => whnf
        refine asplit ?_ ?_ <;> intro h9 <;> conv => whnf
        · have hk1 := ix_tt h9 (by rw [List.length_map]) hk (by omega)
          obtain ⟨p, hpk⟩ : ∃ b, ps[k]? = some b := ⟨_, List.getElem?_eq_getElem hk1⟩
          have hmem := List.mem_of_getElem? hpk
          obtain ⟨n1, n2⟩ := hn4 p hmem
          have hts := take_snoc hpk
          have e1 : (ps.take (k + 1)).map eP = (ps.take k).map eP ++ [eP p] := by rw [hts, List.map_append]; rfl
          have hlen : ((ps.take k).map eP).length = k := by simp; omega
          refine aidxk (eP_get hpk) (by omega) ?_
          obtain ⟨x, y⟩ := p
          simp only at n1 n2
          have c1 := apply_spec os (by omega) hoo x (okT_of_nodes x (by omega))
          have c2 := apply_spec os (by omega) hoo y (okT_of_nodes y (by omega))
          have m1 : nodes (applyF os x) ≤ nodes x * 1048576 := nodes_put (by decide) (fun t ht => by obtain ⟨p, hp, rfl⟩ := List.mem_map.1 ht; exact hob p hp) x
          have m2 : nodes (applyF os y) ≤ nodes y * 1048576 := nodes_put (by decide) (fun t ht => by obtain ⟨p, hp, rfl⟩ := List.mem_map.1 ht; exact hob p hp) y
          have c3 := sameType_spec (applyF os x) (okT_of_nodes _ (by omega)) (applyF os y) (okT_of_nodes _ (by omega))
          have c4 := unknowns_spec (applyF os x) (by omega)
          have hse := same_eq (applyF os x) (applyF os y)
          have hgo : applyF os x = applyF os y → ∀ p ∈ ps.take (k + 1), applyF os p.1 = applyF os p.2 := fun h p hp => by
            rw [hts] at hp
            rcases List.mem_append.1 hp with hp | hp
            · exact hso p hp
            · simp at hp; subst hp; exact h
          generalize (ps.take k).map eP = zs at e1 hlen
          generalize applyF os x = a at c1 c3 c4 hse hgo
          generalize applyF os y = b at c2 c3 hse hgo
          generalize sameF a b = sab at c3 hse
          generalize unksF a = us at c4
          obtain ⟨xk, xn, xx⟩ := x
          obtain ⟨yk, yn, yx⟩ := y
          obtain ⟨ak, an, ax⟩ := a
          obtain ⟨bk, bn, bx⟩ := b
          conv => whnf
          refine aneed (by decide) ?_
          conv => whnf
          refine apc c1 ?_
          conv => whnf
          refine aneed (by decide) ?_
          conv => whnf
          refine apc c2 ?_
          conv => whnf
          refine aneed (by kernel_rfl) ?_
          conv => whnf
          refine apc c3 ?_
          conv => whnf
          cases sab with
          | false =>
            conv => whnf
            exact .inl rfl
          | true =>
            conv => whnf
            refine apc c4 ?_
            conv => whnf
            refine asplit ?_ ?_ <;> intro h10 <;> conv => whnf
            · exact .inl rfl
            · refine aneed (show (zs.length + 1) * 96 ≤ 140737488355328 by omega) ?_
              conv => whnf
              refine ⟨hk1, (), ⟨rfl, ?_, rfl, rfl⟩, hgo (hse rfl)⟩
              rw [e1]
              rfl
        · have hk1 := ix_ff h9 (by rw [List.length_map]) hk (by omega)
          subst hk1
          rw [List.take_length] at hso ⊢
          exact ⟨(), ⟨rfl, rfl, rfl, rfl⟩, rfl, rfl, hso⟩
  · rintro _ ⟨rfl, rfl, hso⟩
    obtain ⟨hpure, hsm⟩ := hfo rfl
    have hq := hgood rfl
    rw [Nat.zero_add] at hsm
    obtain ⟨hn4, hl6⟩ := sumP_small hsm
    obtain ⟨f, r, hr, hinv⟩ := sol_ends ps hpure
    have hmost := sol_most (θ := applyF os) (nh_put _ _) (ri_put fun n hn => by obtain ⟨p, hp, rfl⟩ := List.mem_map.1 hn; exact hq p hp) f ps [] r Inv.nil (fun p hp => by cases hp) (fun p hp => ⟨hpure p hp, hso p hp⟩) hr
    refine AWp.callRS (tyOf_ok Try.prog) (σ := TM) 1 [] 30000 (so2Q r) (so2R r) (fun _ => []) ⟨rfl, rfl, rfl⟩ (by kernel_rfl) ?_
    conv => whnf
    refine ⟨8, [], [], _, rfl, by kernel_rfl, rfl, ?_, fun s hs => rfl, fun l hs => ?_⟩
    · exact solve_spec2 f ps r hr hn4 hl6 fun h0 => by have := (hinv h0).2; omega
    · have hk : (r.1 = 0 ∧ l.Perm r.2 ∧ Inv r.2 ∧ r.2.length ≤ 120 ∧ Un (applyF os) r.2) ∨ r.1 = 2 := by
        rcases hmost with ⟨h0, hu⟩ | h2
        · rcases hs with ⟨_, hp⟩ | ⟨h, _⟩
          · exact .inl ⟨h0, hp, (hinv h0).1, by have := (hinv h0).2; omega, hu⟩
          · exact absurd h0 h
        · exact .inr h2
      clear hr hinv hmost hs
      obtain ⟨e, m⟩ := r
      simp only at hk
      conv => whnf
      refine AWp.fin (tyOf_ok Try.prog) hmix (by kernel_rfl) ?_
      rcases hk with ⟨rfl, hp, him, hml, hun⟩ | rfl
      · have hlm : l.length ≤ 1000000000 := by rw [hp.length_eq]; omega
        have hlo : ∀ p ∈ l, okT p.2 := fun p hp' => okT_of_nodes _ (by have := him.good.2 p (hp.mem_iff.1 hp'); omega)
        have happ : ∀ t, pureF t = true → applyF l t = appF m t := fun t ht => by unfold applyF; rw [put_app l t ht, perm_app hp him.good.1 ht]
        have hlast : ∀ n : ByteArray, ∃ a b : Ty, APure Try.prog 9 [.p (.sl 4 (l.map eB)), .p (eT (va n))] (.p (eT a)) ∧ APure Try.prog 9 [.p (.sl 4 (os.map eB)), .p (eT a)] (.p (eT b)) ∧ APure Try.prog 9 [.p (.sl 4 (os.map eB)), .p (eT (va n))] (.p (eT b)) ∧ APure Try.prog 10 [.p (eT b), .p (eT b)] (.p (.b true)) := fun n => by
          have ov : okT (va n) := okT_of_nodes _ (by simp [va, nodes, nodess])
          have oa : okT (applyF l (va n)) := okT_put (okTs_of' fun t h => by obtain ⟨p, hp, rfl⟩ := List.mem_map.1 h; exact hlo p hp) _ ov
          have ob : okT (applyF os (va n)) := okT_put (okTs_of' fun t h => by obtain ⟨p, hp, rfl⟩ := List.mem_map.1 h; exact hoo p hp) _ ov
          have e1 : applyF os (applyF l (va n)) = applyF os (va n) := by rw [happ _ (pure_va n)]; exact un_app (nh_put _ _) hun (pure_va n)
          have c2 := apply_spec os (by omega) hoo (applyF l (va n)) oa
          rw [e1] at c2
          have c4 := sameType_spec (applyF os (va n)) ob (applyF os (va n)) ob
          rw [same_refl] at c4
          exact ⟨_, _, apply_spec l hlm hlo (va n) ov, c2, apply_spec os (by omega) hoo (va n) ov, c4⟩
        conv => whnf
        refine loopS (tyOf_ok _) hmix (by kernel_rfl) ps.length [1, 10, 63, 64, 65] [] (fun k (_ : Unit) => [.p (.sl 4 (os.map eB)), .p (.sl 4 (l.map eB)), .p (.sl 6 (ps.map eP)), .p (.i .i64 (ps.map eP).length), .p (.i .i64 (ix k))])
          (fun _ _ => []) (fun k s => True) () ⟨rfl, rfl, rfl, rfl⟩ trivial ?_
        rintro k _ hk -
        conv => whnf
        refine asplit ?_ ?_ <;> intro h9 <;> conv => whnf
        · have hk1 := ix_tt h9 (by rw [List.length_map]) hk (by omega)
          obtain ⟨p, hpk⟩ : ∃ b, ps[k]? = some b := ⟨_, List.getElem?_eq_getElem hk1⟩
          have hmem := List.mem_of_getElem? hpk
          obtain ⟨n1, n2⟩ := hn4 p hmem
          refine aidxk (eP_get hpk) (by omega) ?_
          obtain ⟨x, y⟩ := p
          simp only at n1 n2
          have c1 := unknownsA_spec x (by omega)
          have c2 := unknowns_spec y (by omega)
          have u1 := unks_len' x
          have u2 := unks_len' y
          generalize unksF x = us at c1 u1
          generalize unksF y = vs at c2 u2
          obtain ⟨xk, xn, xx⟩ := x
          obtain ⟨yk, yn, yx⟩ := y
          conv => whnf
          refine aneed (by decide) ?_
          conv => whnf
          refine amc [] 10000 c1 ?_
          conv => whnf
          refine aneed (by decide) ?_
          conv => whnf
          refine apc c2 ?_
          conv => whnf
          refine aneed (show us.length = (us.map eStr).length ∧ ((us.map eStr).length + (vs.map eStr).length) * 16 ≤ 140737488355328 from ⟨by simp, by simp; omega⟩) ?_
          conv => whnf
          refine aneed (by kernel_rfl) ?_
          conv => whnf
          have hW : ∀ j : Nat, j < us.length + (vs.map eStr).length → ∃ n, (us.map eStr ++ vs.map eStr)[j]? = some (.s n) := fun j hj => by
            rw [← List.map_append, List.getElem?_map]
            have : j < (us ++ vs).length := by simp at hj ⊢; omega
            rw [List.getElem?_eq_getElem this]
            exact ⟨_, rfl⟩
          have hWl : us.length + (vs.map eStr).length ≤ 100000 := by simp; omega
          refine loopS (tyOf_ok _) hmix (by kernel_rfl) (us.length + (vs.map eStr).length) [1, 10, 63, 64, 65, 75, 76, 77] [75] (fun j (_ : Unit) => [.p (.sl 4 (os.map eB)), .p (.sl 4 (l.map eB)), .p (.sl 6 (ps.map eP)), .p (.i .i64 (ps.map eP).length), .p (.i .i64 (ix k)), .al false 75 1 (us.length + (vs.map eStr).length), .p (.i .i64 ((us.length + (vs.map eStr).length : Nat) : Int)), .p (.i .i64 (ix j))])
            (fun _ _ => [.gr false 1 (us.map eStr ++ vs.map eStr)]) (fun k s => True) () ⟨rfl, rfl, rfl, rfl⟩ trivial ?_
          generalize us.length + (vs.map eStr).length = N at hW hWl
          generalize us.map eStr ++ vs.map eStr = W at hW
          rintro j _ hj -
          conv => whnf
          refine asplit ?_ ?_ <;> intro h11 <;> conv => whnf
          · have hj1 := ix_tt h11 rfl hj (by omega)
            obtain ⟨n, hn⟩ := hW j hj1
            obtain ⟨a, b, d1, d2, d3, d4⟩ := hlast n
            refine aneed (show 0 ≤ ix j ∧ (ix j).toNat < N by rw [ix_eq (by omega)]; omega) ?_
            conv => whnf
            refine ⟨_, by omega, show W[((((ix j).toNat : Nat)) : Int).toNat]? = some (.s n) by rw [ix_eq (by omega)]; simpa using hn, ?_⟩
            obtain ⟨ak, an, ax⟩ := a
            obtain ⟨bk, bn, bx⟩ := b
            conv => whnf
            refine apc d1 ?_
            conv => whnf
            refine apc d2 ?_
            conv => whnf
            refine apc d3 ?_
            conv => whnf
            refine apc d4 ?_
            conv => whnf
            refine aneed (by kernel_rfl) ?_
            conv => whnf
            exact ⟨hj1, (), ⟨rfl, rfl, rfl, rfl⟩, trivial⟩
          · have hj1 := ix_ff h11 rfl hj (by omega)
            exact ⟨hk1, (), ⟨rfl, rfl, rfl, rfl⟩, trivial⟩
        · exact .inl rfl
      · conv => whnf
        exact .inl rfl
end KK
