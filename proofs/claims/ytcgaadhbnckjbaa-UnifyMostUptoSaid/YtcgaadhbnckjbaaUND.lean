/-
  DERIVED. Contracts of functions that the law reaches, and the law, for every input. No conditions.
-/
import Derived.Test.YtcgaadhbnckjbaaUNC
open Go Go.AM Go.Proofs
set_option maxRecDepth 100000
namespace KK
/-! bindings, New, Solve -/
def hpB' (m l : TM) : Heap := [(1000000000, .cells [.mp 1000000001]), (1000000001, .map .ks (eM eT m)), (10900, .gr false 4 (l.map eB))]
theorem bindings_spec (m : TM) (hm : Good m) (hl : m.length ≤ 1000000000) :
    AMemR Try.prog 18 [.ptr 1000000000 0] (hpS m) (fun l : TM => l.Perm m) (fun l => .al false 10900 4 (l.map eB).length) (fun l => hpB' m l) := by
  refine AMemR.introS (tyOf_ok Try.prog) Try.func18 rfl (by rfl) (by show 1 ≤ _; decide) (fun _ _ => rfl) ?_
  refine AWp.cut (tyOf_ok Try.prog) hmix (by kernel_rfl) 2 [0, 3] [3, 1000000000, 1000000001] (fun _ : Unit => [.ptr 1000000000 0, .ptr 3 0]) (fun _ => [.cells [.nilS], .cells [.mp 1000000001], .map .ks (eM eT m)]) (fun _ => True) ?_ ?_
  · conv => whnf
    exact ⟨(), ⟨rfl, rfl, rfl, rfl⟩, trivial⟩
  · rintro _ -
    refine AWp.nilObj 3 0 905 4 rfl rfl rfl ?_
    refine AWp.callR (tyOf_ok Try.prog) (σ := TM) 2 [1000000000, 1000000001, 3, 905] 10000 (fun l => l.Perm m) (fun _ => .tup []) (fun l => [(1000000000, .cells [.mp 1000000001]), (1000000001, .map .ks (eM eT m)), (1000000002, .cells [.al false 900 4 (l.map eB).length]), (1000000003, .dead), (900, .gr false 4 (l.map eB))]) ⟨rfl, rfl, rfl, rfl⟩ (by kernel_rfl) ?_
    conv => whnf
    refine ⟨29, [], [], _, rfl, by kernel_rfl, rfl, ?_, fun s hs => rfl, fun l hl2 => ?_⟩
    · exact names_spec m hm (by omega)
    · refine AWp.callR (tyOf_ok Try.prog) (σ := TM) 1 [10900] 20000 (fun ys => ys.Perm l) (fun _ => .tup []) (fun ys => [(1000000000, .gr false 4 (ys.map eB))]) ⟨rfl, rfl, rfl, rfl⟩ (by kernel_rfl) ?_
      conv => whnf
      refine ⟨32, [], [], _, rfl, by kernel_rfl, rfl, ?_, fun s hs => rfl, fun ys hy => ?_⟩
      · exact sort_spec l (by rw [hl2.length_eq]; omega)
      · have hlen : (l.map eB).length = (ys.map eB).length := by rw [List.length_map, List.length_map, hy.length_eq]
        rw [hlen]
        generalize hxs : ys.map eB = xs
        refine AWp.fin (tyOf_ok Try.prog) hmix (by kernel_rfl) ?_
        conv => whnf
        refine ⟨ys, hy.trans hl2, ?_⟩
        unfold hpB'
        rw [hxs]
        conv => whnf
        exact ⟨.inl rfl, ⟨.inl rfl, trivial⟩, ⟨rfl, rfl⟩, ⟨rfl, rfl, rfl⟩, trivial⟩
/-- the list as a plain slice, its block no longer owned -/
theorem bindings_plain (m : TM) (hm : Good m) (hl : m.length ≤ 1000000000) :
    AMemR Try.prog 18 [.ptr 1000000000 0] (hpS m) (fun l : TM => l.Perm m) (fun l => .p (.sl 4 (l.map eB))) (fun _ => hpS m) := by
  obtain ⟨hb, _, hcall⟩ := bindings_spec m hm hl
  refine ⟨hb, fun _ _ => rfl, fun g w vs hH hbn hlen hrel => (hcall g w vs hH hbn hlen hrel).mono ?_⟩
  rintro en w' ⟨l, v, g', hq, rfl, hv, hH', hbn', hE⟩
  have build : ∀ (g2 : Gh), g2.ρ = g'.ρ → (∀ b o v, imm g' w' b o = some v → imm g2 w' b o = some v) → (∀ b, g'.own b = some (.obj 1000000000) ∨ g'.own b = some (.obj 1000000001) → g2.own b = g'.own b ∧ g2.pre b = g'.pre b) → HRel g2 w' (hpS m) := fun g2 hρ hi hk => by
    have o0 := hH'.own 1000000000 _ rfl rfl
    have o1 := hH'.own 1000000001 _ rfl rfl
    have k0 := hk _ (.inl o0)
    have k1 := hk _ (.inr o1)
    have p0 := hH'.pre 1000000000 _ rfl rfl
    have p1 := hH'.pre 1000000001 _ rfl rfl
    have only : ∀ (x : Nat) (ob : AObj), hget (hpS m) x = some ob → (x = 1000000000 ∧ ob = .cells [.mp 1000000001]) ∨ (x = 1000000001 ∧ ob = .map .ks (eM eT m)) := fun x ob hx => by
      unfold hpS at hx
      by_cases q : (1000000000 : Nat) = x
      · subst q; rw [hget_self] at hx; cases hx; exact .inl ⟨rfl, rfl⟩
      · rw [hget_ne q] at hx
        by_cases q2 : (1000000001 : Nat) = x
        · subst q2; rw [hget_self] at hx; cases hx; exact .inr ⟨rfl, rfl⟩
        · rw [hget_ne q2] at hx; cases hx
    refine ⟨fun x ob hx => ?_, fun x ob hx _ => ?_, fun x ob hx _ => ?_⟩
    · rcases only x ob hx with ⟨rfl, rfl⟩ | ⟨rfl, rfl⟩
      · cases hH'.obj 1000000000 _ rfl with
        | cells cs us E hb2 hl2 hx2 h1 =>
          refine .cells _ us E (by rw [hρ]; exact hb2) hl2 (fun j u c q1 q2 => ?_) h1
          have := hx2 j u c q1 q2
          match j, q2 with
          | 0, q2 =>
            cases q2
            cases this with
            | mp _ _ _ => rw [← hρ]; exact .mp _ _ rfl
          | _ + 1, q2 => cases q2
      · cases hH'.obj 1000000001 _ rfl with
        | map _ xs es clock hb2 hx2 hc2 => exact .map _ _ es clock (by rw [hρ]; exact hb2) ⟨hx2.1, fun j e x q1 q2 => ⟨(hx2.2 j e x q1 q2).1.mono hi, (hx2.2 j e x q1 q2).2.mono hi⟩⟩ hc2
    · rcases only x ob hx with ⟨rfl, rfl⟩ | ⟨rfl, rfl⟩
      · rw [hρ, k0.1]; exact o0
      · rw [hρ, k1.1]; exact o1
    · rcases only x ob hx with ⟨rfl, rfl⟩ | ⟨rfl, rfl⟩
      · rw [hρ, k0.2]; exact p0
      · rw [hρ, k1.2]; exact p1
  replace hv : VRel g' w' (domOf (hpB' m l)) (some .ret) v (.al false 10900 4 (l.map eB).length) := hv
  generalize hn : (l.map eB).length = n at hv
  cases hv with
  | al0 _ _ _ _ =>
    have he : l.map eB = [] := List.eq_nil_of_length_eq_zero hn
    refine ⟨l, _, g', hq, rfl, ?_, build g' rfl (fun _ _ _ h => h) (fun _ _ => ⟨rfl, rfl⟩), hbn', hE⟩
    show VRel g' w' _ _ _ (.p (.sl 4 (l.map eB)))
    rw [he]; exact .p _ _ _ (.nil 4)
  | al _ _ _ _ _ cap hd h0 hc hcs =>
    have hn0 : 0 < n := by rcases h0 with h | h; cases h; exact h
    have hne : l.map eB ≠ [] := fun e => by rw [e] at hn; simp at hn; omega
    have hsol : (AObj.gr false 4 (l.map eB)).solid = true := gr_solid (.inr hne)
    have hown : g'.own (g'.ρ 10900) = some (.obj 10900) := hH'.own 10900 _ rfl hsol
    have hpre : g'.pre (g'.ρ 10900) = 0 := hH'.pre 10900 _ rfl hsol
    have hG : GRow g' w' 10900 4 (l.map eB) := by
      cases hH'.obj 10900 _ rfl with
      | gr _ _ _ hg => exact hg (.inr hne)
    obtain ⟨us, E, hb2, _, hsz, h4, hcell⟩ := hG
    generalize hblk : g'.ρ 10900 = blk at *
    let g2 : Gh := { pre := fun b => if b = blk then n * 4 else g'.pre b, own := fun b => if b = blk then none else g'.own b, ρ := g'.ρ }
    have hi : ∀ b o v, imm g' w' b o = some v → imm g2 w' b o = some v := fun b o v hv => by
      unfold imm at hv ⊢
      by_cases q : b = blk
      · subst q; rw [hpre, if_neg (by omega)] at hv; cases hv
      · show (if o < (if b = blk then n * 4 else g'.pre b) then _ else _) = _
        rw [if_neg q]; exact hv
    have hne2 : ∀ b, g'.own b = some (.obj 1000000000) ∨ g'.own b = some (.obj 1000000001) → b ≠ blk := fun b h e => by
      subst e; rw [hown] at h; rcases h with h | h <;> cases h
    refine ⟨l, _, g2, hq, rfl, ?_, build g2 rfl hi (fun b h => ⟨by show (if b = blk then none else g'.own b) = _; rw [if_neg (hne2 b h)], by show (if b = blk then n * 4 else g'.pre b) = _; rw [if_neg (hne2 b h)]⟩), fun b ow ho => ?_, ?_⟩
    · refine .p _ _ _ ?_
      have hcl : ∀ (j : Nat) (x : PV), (l.map eB)[j]? = some x → ∀ (i : Nat) (y : PV), x.cells[i]? = some y → ∃ u, us[j * 4 + i]? = some u ∧ u.oneCell' = true ∧ PRel (imm g2 w') u y := fun j x hx i y hy => by
        obtain ⟨u, q1, q2, q3⟩ := hcell j x hx i y hy
        exact ⟨u, q1, q2, q3.mono hi⟩
      have key := PRel.sl (M := imm g2 w') ⟨blk, 0, none⟩ cap 4 (l.map eB) (fun j i => (us[j * 4 + i]?).getD .nilIface) (fun _ => rfl) (by omega) h4 (fun j x hx i y hy => ?_) (fun j x hx i y hy => ?_)
      · rw [hn] at key; exact key
      · obtain ⟨u, q1, q2, _⟩ := hcl j x hx i y hy
        have hj : j < n := by have := (List.getElem?_eq_some_iff.1 hx).1; omega
        have hi4 : i < 4 := by have := (List.getElem?_eq_some_iff.1 hy).1; rw [h4 x (List.mem_of_getElem? hx)] at this; exact this
        refine ⟨?_, by rw [q1]; exact q2⟩
        unfold imm
        show (if 0 + j * 4 + i < (if blk = blk then n * 4 else g'.pre blk) then _ else _) = _
        rw [if_pos rfl, if_pos (by omega), q1]
        show (match w'.heap[blk]? with | some (.cells c _ _) => if (none : Option Nat).isSome then none else c[0 + j * 4 + i]? | _ => none) = _
        rw [hb2, Nat.zero_add]
        exact q1
      · obtain ⟨u, q1, _, q3⟩ := hcl j x hx i y hy
        simp only [q1, Option.getD_some]; exact q3
    · have ho : (if b = blk then none else g'.own b) = some ow := ho
      split at ho
      · cases ho
      · exact hbn' b ow ho
    · refine ⟨hE.size, hE.os, hE.out, fun b o u h => hi b o u (hE.imm b o u h), fun b h1 h2 => ?_, trivial, hE.frz', hE.ρk, hE.siz⟩
      obtain ⟨k1, k2, k3⟩ := hE.kept b h1 h2
      have hbb : b ≠ blk := fun e => by subst e; rw [hown] at k3; cases k3
      exact ⟨k1, by show (if b = blk then n * 4 else g'.pre b) = _; rw [if_neg hbb]; exact k2, by show (if b = blk then none else g'.own b) = _; rw [if_neg hbb]; exact k3⟩
theorem new_spec : AMem Try.prog 16 [] [] (.ptr 3 0) [(3, .cells [.mp 1]), (1, .map .ks (eM eT []))] := by
  refine AMem.intro (tyOf_ok Try.prog) hmix Try.func16 rfl (by rfl) (by kernel_rfl) (by show 0 ≤ _; decide) rfl ?_
  conv => whnf
  exact ⟨.inl rfl, ⟨.inl rfl, trivial⟩, ⟨rfl, rfl⟩, trivial⟩
def solQ (r : Int × TM) (s : Option TM) : Prop := match s with | some l => r.1 = 0 ∧ l.Perm r.2 | none => r.1 ≠ 0
def solR (r : Int × TM) (s : Option TM) : AV := match s with | some l => .tup [.p (.sl 4 (l.map eB)), .p (.i .i64 0)] | none => .tup [.p (.sl 4 []), .p (.i .i64 r.1)]
def solH (_ : Option TM) : Heap := []
theorem solve_spec (f : Nat) (ps : List TP2) (r : Int × TM) (hr : solF f [] ps = some r) (hps : ∀ p ∈ ps, nodes p.1 ≤ 400 ∧ nodes p.2 ≤ 400) (hlen : ps.length ≤ 1000000) (hml0 : r.1 = 0 → r.2.length ≤ 1000000000) :
    AMemR Try.prog 8 [.p (.sl 6 (ps.map eP))] [] (solQ r) (solR r) solH := by
  refine AMemR.introS (tyOf_ok Try.prog) Try.func8 rfl (by rfl) (by show 1 ≤ _; decide) (fun s _ => by cases s <;> rfl) ?_
  refine AWp.cut (tyOf_ok Try.prog) hmix (by kernel_rfl) 3 [4] [10003, 10001] (fun m : TM => [.ptr 10003 0]) (fun m => [.cells [.mp 10001], .map .ks (eM eT m)]) (fun m => Good m ∧ r = (0, m)) ?_ ?_
  · conv => whnf
    refine amc [] 10000 new_spec ?_
    conv => whnf
    refine loopS (tyOf_ok _) hmix (by kernel_rfl) ps.length [4, 9, 10, 11] [10003, 10001] (fun k (_ : TM) => [.ptr 10003 0, .p (.sl 6 (ps.map eP)), .p (.i .i64 (ps.map eP).length), .p (.i .i64 (ix k))])
      (fun _ s => [.cells [.mp 10001], .map .ks (eM eT s)]) (fun k s => Good s ∧ solF f s (ps.drop k) = some r) [] ⟨rfl, rfl, rfl, rfl⟩ ⟨Inv.nil.good, hr⟩ ?_
    rintro k s hk ⟨hs, hrs⟩
    conv => whnf
    refine asplit ?_ ?_ <;> intro h9 <;> conv => whnf
    · have hk1 := ix_tt h9 (by rw [List.length_map]) hk (by omega)
      obtain ⟨p, hp⟩ : ∃ b, ps[k]? = some b := ⟨_, List.getElem?_eq_getElem hk1⟩
      obtain ⟨n1, n2⟩ := hps p (List.mem_of_getElem? hp)
      rw [drop_cons hp] at hrs
      refine aidxk (eP_get hp) (by omega) ?_
      obtain ⟨x, y⟩ := p
      rw [solF] at hrs
      cases hq : uniF f s x y with
      | none => rw [hq] at hrs; cases hrs
      | some r1 =>
        obtain ⟨e1, m1⟩ := r1
        have hc := uni_spec f s x y (e1, m1) hs n1 n2 hq
        have hg : e1 = 0 → Good m1 := fun he => uni_good f (a := x) (b := y) hs n1 n2 (by rw [hq, he])
        rw [hq] at hrs
        simp only at hrs hc
        obtain ⟨xk, xn, xx⟩ := x
        obtain ⟨yk, yn, yx⟩ := y
        conv => whnf
        refine aneed (by decide) ?_
        conv => whnf
        refine aneed (by decide) ?_
        conv => whnf
        refine amc [10003, 10001] 10000 hc ?_
        conv => whnf
        refine asplit ?_ ?_ <;> intro hz <;> conv => whnf
        · replace hz : (e1 != 0) = true := hz
          rw [hz, cond_true] at hrs
          cases hrs
          refine ⟨none, by simpa [solQ] using hz, ?_⟩
          conv => whnf
          exact ⟨.inl rfl, trivial⟩
        · replace hz : (e1 != 0) = false := hz
          rw [hz, cond_false] at hrs
          obtain rfl : e1 = 0 := by simpa using hz
          exact ⟨hk1, m1, ⟨rfl, rfl, rfl, rfl⟩, hg rfl, hrs⟩
    · have hk1 := ix_ff h9 (by rw [List.length_map]) hk (by omega)
      rw [hk1, List.drop_length, solF] at hrs
      cases hrs
      exact ⟨s, ⟨rfl, rfl, rfl, rfl⟩, hs, rfl⟩
  · rintro m ⟨hm, rfl⟩
    have hml := hml0 rfl
    refine AWp.callRS (tyOf_ok Try.prog) (σ := TM) 1 [10003, 10001] 10000 (fun l => l.Perm m) (fun l => .p (.sl 4 (l.map eB))) (fun _ => hpS m) ⟨rfl, rfl, rfl⟩ (by kernel_rfl) ?_
    conv => whnf
    refine ⟨18, [], [], _, rfl, by kernel_rfl, rfl, ?_, fun s hs => rfl, fun l hl2 => ?_⟩
    · exact bindings_plain m hm hml
    · conv => whnf
      refine AWp.fin (tyOf_ok Try.prog) hmix (by kernel_rfl) ?_
      conv => whnf
      refine ⟨some l, ⟨rfl, hl2⟩, ?_⟩
      conv => whnf
      exact ⟨.inl rfl, trivial⟩
end KK
