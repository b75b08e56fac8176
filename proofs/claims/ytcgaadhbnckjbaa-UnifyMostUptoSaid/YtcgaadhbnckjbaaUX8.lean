/-
  DERIVED. Contracts of functions that the law reaches, and the law, for every input. No conditions.
-/
import Derived.Test.YtcgaadhbnckjbaaUND
open Go Go.AM Go.Proofs
set_option maxRecDepth 100000
namespace KK
/-! unifies -/
def qa : ByteArray := ⟨#[63, 97]⟩
def tI : Ty := .mk 1 ⟨#[]⟩ []
theorem solve_unifies : solF 1 [] [(va qa, tI)] = some (0, [(qa, tI)]) := by
  have h1 : unkB (.mk 5 qa []) = true := by kernel_rfl
  have h2 : unkB (.mk 1 ⟨#[]⟩ []) = false := by kernel_rfl
  have h3 : bindF [] qa (.mk 1 ⟨#[]⟩ []) = (0, [(qa, .mk 1 ⟨#[]⟩ [])]) := by kernel_rfl
  have h4 : uniH 0 [] (.mk 5 qa []) (.mk 1 ⟨#[]⟩ []) = some (0, [(qa, .mk 1 ⟨#[]⟩ [])]) := by rw [uniH, h1, h2, cond_true, cond_false, h3]
  have h5 : uniF 1 [] (va qa) tI = some (0, [(qa, .mk 1 ⟨#[]⟩ [])]) := by rw [uniF_eq]; exact h4
  rw [solF, h5]
  show solF 1 [(qa, tI)] [] = _
  rw [solF]
theorem unifies_of (n m : ByteArray) (xs : List Ty) (hS : AMemR Try.prog 8 [.p (.sl 6 [eP (va ⟨#[63, 97]⟩, tI)])] [] (solQ (0, [(n, .mk 1 m xs)])) (solR (0, [(n, .mk 1 m xs)])) solH) (hn : (n.toList == (ByteArray.mk #[63, 97]).toList) = true) :
    APure Try.prog 7 [] (.p (.b true)) := by
  refine APure.introS (tyOf_ok Try.prog) Try.func7 rfl (by rfl) (by show 0 ≤ _; decide) rfl ?_
  refine AWp.cut (tyOf_ok Try.prog) hmix (by kernel_rfl) 1 [0] [] (fun _ : Unit => [.p (.b false)]) (fun _ => []) (fun _ => True) ?_ ?_
  · conv => whnf
    exact ⟨(), ⟨rfl, rfl, rfl, rfl⟩, trivial⟩
  · rintro _ -
    refine AWp.callRS (tyOf_ok Try.prog) (σ := Option TM) 4 [] 30000 (solQ (0, [(n, .mk 1 m xs)])) (solR (0, [(n, .mk 1 m xs)])) solH ⟨rfl, rfl, rfl⟩ (by kernel_rfl) ?_
    conv => whnf
    refine ⟨8, [], [], _, rfl, by kernel_rfl, rfl, hS, fun s hs => by cases s <;> rfl, fun s hs => ?_⟩
    cases s with
    | none => exact absurd rfl hs
    | some l =>
      have hl : l = [(n, .mk 1 m xs)] := List.perm_singleton.1 hs.2
      subst hl
      conv => whnf
      refine AWp.fin (tyOf_ok Try.prog) hmix (by kernel_rfl) ?_
      conv => whnf
      refine aidxn (i := 0) rfl ?_
      conv => whnf
      refine asplit ?_ ?_ <;> intro hq <;> conv => whnf
      · refine aidxn (i := 0) rfl ?_
        conv => whnf
        exact .inl rfl
      · exfalso
        replace hq : (n.toList == (ByteArray.mk #[63, 97]).toList) = false := hq
        rw [hn] at hq
        cases hq
theorem unifies_spec : APure Try.prog 7 [] (.p (.b true)) :=
  unifies_of qa ⟨#[]⟩ [] (solve_spec 1 [(va qa, tI)] _ solve_unifies (by decide) (by decide) (by decide)) (by rw [bl_iff]; exact (beq_bytes qa qa).2 rfl)
end KK
open Go Go.AM Go.Proofs
set_option maxRecDepth 100000
namespace KK
/-! UnifySolves -/
theorem same_of_eq {a b : Ty} (h : a = b) : sameF a b = true := by subst h; exact same_refl a
theorem sumP_small {ps : List TP2} (h : sumP ps ≤ 120) : (∀ p ∈ ps, nodes p.1 ≤ 400 ∧ nodes p.2 ≤ 400) ∧ ps.length ≤ 1000000 := by
  refine ⟨fun p hp => ?_, ?_⟩
  · have := sumP_mem hp; omega
  · have := sumP_len ps; omega
theorem unifySolves_ok (ps : List TP2) (hs : sumP ps ≤ 1099511627776) : APure Try.prog 4 [.p (.sl 6 (ps.map eP))] (.p (.b true)) := by
  have hfair := fair_spec ps hs
  have hfo := @fair_of ps 0
  have huni := unifies_spec
  generalize fairF ps 0 = q at hfair hfo
  refine APure.introS (tyOf_ok Try.prog) Try.func4 rfl (by rfl) (by show 1 ≤ _; decide) rfl ?_
  refine AWp.cut (tyOf_ok Try.prog) hmix (by kernel_rfl) 3 [0] [] (fun _ : Unit => [.p (.sl 6 (ps.map eP))]) (fun _ => []) (fun _ => q = true) ?_ ?_
  · conv => whnf
    refine apc hfair ?_
    conv => whnf
    cases q with
    | false =>
      conv => whnf
      exact .inl rfl
    | true =>
      conv => whnf
      refine apc huni ?_
      conv => whnf
      exact ⟨(), ⟨rfl, rfl, rfl, rfl⟩, rfl⟩
  · rintro _ rfl
    obtain ⟨hpure, hsm⟩ := hfo rfl
    rw [Nat.zero_add] at hsm
    obtain ⟨hn4, hl6⟩ := sumP_small hsm
    obtain ⟨f, r, hr, hinv⟩ := sol_ends ps hpure
    refine AWp.callRS (tyOf_ok Try.prog) (σ := Option TM) 1 [] 30000 (solQ r) (solR r) solH ⟨rfl, rfl, rfl⟩ (by kernel_rfl) ?_
    conv => whnf
    refine ⟨8, [], [], _, rfl, by kernel_rfl, rfl, ?_, fun s hs => by cases s <;> rfl, fun s hs => ?_⟩
    · exact solve_spec f ps r hr hn4 hl6 fun h0 => by have := (hinv h0).2; omega
    · cases s with
      | none =>
        have hs : r.1 ≠ 0 := hs
        conv => whnf
        refine AWp.fin (tyOf_ok Try.prog) hmix (by kernel_rfl) ?_
        conv => whnf
        generalize r.1 = e at hs
        refine asplit ?_ ?_ <;> intro h1 <;> conv => whnf
        · exact .inl rfl
        · replace h1 : (e != 0) = false := h1
          exact absurd (by simpa using h1) hs
      | some l =>
        obtain ⟨h0, hp⟩ : r.1 = 0 ∧ l.Perm r.2 := hs
        obtain ⟨e0, m⟩ := r
        simp only at h0 hp
        subst h0
        obtain ⟨him, hml⟩ := hinv rfl
        simp only at him hml
        obtain ⟨_, _, hsol⟩ := sol_solves f ps [] m Inv.nil hpure hr
        have hlm : l.length ≤ 1000000000 := by rw [hp.length_eq]; omega
        have hlo : ∀ p ∈ l, okT p.2 := fun p hp' => okT_of_nodes _ (by have := him.good.2 p (hp.mem_iff.1 hp'); omega)
        have happ : ∀ t, pureF t = true → applyF l t = appF m t := fun t ht => by unfold applyF; rw [put_app l t ht, perm_app hp him.good.1 ht]
        clear hr hinv
        conv => whnf
        refine AWp.fin (tyOf_ok Try.prog) hmix (by kernel_rfl) ?_
        conv => whnf
        refine loopS (tyOf_ok _) hmix (by kernel_rfl) ps.length [3, 23, 24, 25] [] (fun k (_ : Unit) => [.p (.sl 4 (l.map eB)), .p (.sl 6 (ps.map eP)), .p (.i .i64 (ps.map eP).length), .p (.i .i64 (ix k))])
          (fun _ _ => []) (fun k s => True) () ⟨rfl, rfl, rfl, rfl⟩ trivial ?_
        rintro k _ hk -
        conv => whnf
        refine asplit ?_ ?_ <;> intro h9 <;> conv => whnf
        · have hk1 := ix_tt h9 (by rw [List.length_map]) hk (by omega)
          obtain ⟨p, hpk⟩ : ∃ b, ps[k]? = some b := ⟨_, List.getElem?_eq_getElem hk1⟩
          have hmem := List.mem_of_getElem? hpk
          obtain ⟨n1, n2⟩ := hn4 p hmem
          obtain ⟨p1, p2⟩ := hpure p hmem
          have hso := hsol p hmem
          refine aidxk (eP_get hpk) (by omega) ?_
          obtain ⟨x, y⟩ := p
          simp only at n1 n2 p1 p2 hso
          have ox := okT_of_nodes x (by omega)
          have oy := okT_of_nodes y (by omega)
          have c1 := apply_spec l hlm hlo x ox
          have c2 := apply_spec l hlm hlo y oy
          rw [happ x p1] at c1
          rw [happ y p2, ← hso] at c2
          have hax := app_pure him x p1
          have han := nodes_app him.good x
          have oax := okT_of_nodes (appF m x) (by omega)
          have c3 := apply_spec l hlm hlo (appF m x) oax
          rw [happ _ hax, app_twice him p1] at c3
          have c4 := sameType_spec (appF m x) oax (appF m x) oax
          rw [same_refl] at c4
          generalize appF m x = z at c1 c2 c3 c4
          obtain ⟨xk, xn, xx⟩ := x
          obtain ⟨yk, yn, yx⟩ := y
          obtain ⟨zk, zn, zx⟩ := z
          conv => whnf
          refine aneed (by decide) ?_
          conv => whnf
          refine apc c1 ?_
          conv => whnf
          refine aneed (by decide) ?_
          conv => whnf
          refine apc c2 ?_
          conv => whnf
          refine apc c4 ?_
          conv => whnf
          refine apc c3 ?_
          conv => whnf
          refine apc c4 ?_
          conv => whnf
          refine aneed (by kernel_rfl) ?_
          conv => whnf
          exact ⟨hk1, (), ⟨rfl, rfl, rfl, rfl⟩, trivial⟩
        · exact .inl rfl
end KK
