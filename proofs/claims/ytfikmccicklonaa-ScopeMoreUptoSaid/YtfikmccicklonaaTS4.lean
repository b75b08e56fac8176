/-
  DERIVED. Contracts of the functions that the law reaches, and the law itself, for every input. No conditions.
-/
import Derived.Test.YtfikmccicklonaaTS3
open Go Go.AM Go.Proofs
set_option maxRecDepth 100000
namespace TR
/-- the resolver's objects -/
abbrev BM := List (ByteArray × Bool)
abbrev IM := List (ByteArray × Int)
def hpR (A B C : BM) (m : IM) : Heap := [(1000000000, .cells [.mp 1000000001, .mp 1000000002, .mp 1000000003, .mp 1000000004]), (1000000001, .map .ks (eM vB A)), (1000000002, .map .ks (eM vB B)), (1000000003, .map .ks (eM vB C)), (1000000004, .map .ks (eM vI m))]
def has (A : BM) (t : ByteArray) : Bool := (slook t A).getD false
mutual
def forF (A : BM) : Pt → Bool
  | .mk k _ t xs => bif (k == 6) && !has A t then true else forFs A xs
def forFs (A : BM) : List Pt → Bool
  | [] => false
  | p :: r => forF A p || forFs A r
end
theorem foreign_spec (A B C : BM) (m : IM) (p : Pt) : wP p ≤ 1048640 → AMem Try.prog 77 [.ptr 1000000000 0, .p (eP p)] (hpR A B C m) (.p (.b (forF A p))) (hpR A B C m) := by
  induction p using Pt.ind with
  | h k0 n0 t0 as0 ih =>
  intro hw
  have hl := wP_lens k0 n0 t0 as0
  generalize hR : forF A (Pt.mk k0 n0 t0 as0) = R
  rw [forF] at hR
  refine AMem.intro (tyOf_ok Try.prog) hmix Try.func77 rfl (by rfl) (by kernel_rfl) (by show 2 ≤ _; decide) rfl ?_
  conv => whnf
  refine asplit ?_ ?_ <;> intro h1 <;> conv => whnf
  · replace h1 : (k0 == 6) = true := h1
    refine alook (mlook_B t0 A) ?_
    conv => whnf
    refine aneed (by kernel_rfl) ?_
    conv => whnf
    refine asplit ?_ ?_ <;> intro h2 <;> conv => whnf
    · replace h2 : (!has A t0) = true := h2
      rw [h1, h2] at hR
      exact ⟨.inl (pb hR), ⟨.inl rfl, .inl rfl, .inl rfl, .inl rfl, trivial⟩, ⟨rfl, rfl⟩, ⟨rfl, rfl⟩, ⟨rfl, rfl⟩, ⟨rfl, rfl⟩, trivial⟩
    · replace h2 : (!has A t0) = false := h2
      have h0 : ((k0 == 6) && !has A t0) = false := (by rw [h1, h2]; rfl)
      rw [h0, cond_false] at hR
      refine loopS (tyOf_ok _) hmix (by kernel_rfl) as0.length [0, 21, 22, 23] [1000000000, 1000000001, 1000000002, 1000000003, 1000000004] (fun k (s : Unit) => [.ptr 1000000000 0, .p (.sl 4 (ePs as0)), .p (.i .i64 (ePs as0).length), .p (.i .i64 (ix k))])
          (fun _ _ => [.cells [.mp 1000000001, .mp 1000000002, .mp 1000000003, .mp 1000000004], .map .ks (eM vB A), .map .ks (eM vB B), .map .ks (eM vB C), .map .ks (eM vI m)]) (fun k _ => forFs A (as0.drop k) = R) () ⟨rfl, rfl, rfl, rfl⟩ hR ?_
      intro k _ hk hs
      conv => whnf
      refine asplit ?_ ?_ <;> intro h3 <;> conv => whnf
      · have hk1 := ix_tt h3 (by rw [ePs_len]) hk (by omega)
        obtain ⟨b, hb1⟩ : ∃ b, as0[k]? = some b := ⟨_, List.getElem?_eq_getElem hk1⟩
        refine aidxk (ePs_get hb1) (by omega) ?_
        have hbw := wP_args (k := k0) (n := n0) (t := t0) (List.mem_of_getElem? hb1)
        have hc := ih b (List.mem_of_getElem? hb1) (by omega)
        rw [drop_cons hb1, forFs] at hs
        generalize forF A b = q at hc hs
        obtain ⟨b1, b2, b3, b4⟩ := b
        conv => whnf
        refine amc [1000000000, 1000000001, 1000000002, 1000000003, 1000000004] 10000 hc ?_
        conv => whnf
        refine asplit ?_ ?_ <;> intro h4 <;> conv => whnf
        · subst h4
          exact ⟨.inl (pb hs), ⟨.inl rfl, .inl rfl, .inl rfl, .inl rfl, trivial⟩, ⟨rfl, rfl⟩, ⟨rfl, rfl⟩, ⟨rfl, rfl⟩, ⟨rfl, rfl⟩, trivial⟩
        · subst h4
          exact ⟨hk1, (), ⟨rfl, rfl, rfl, rfl⟩, hs⟩
      · have hk1 := ix_ff h3 (by rw [ePs_len]) hk (by omega)
        rw [hk1, List.drop_length, forFs] at hs
        exact ⟨.inl (pb hs), ⟨.inl rfl, .inl rfl, .inl rfl, .inl rfl, trivial⟩, ⟨rfl, rfl⟩, ⟨rfl, rfl⟩, ⟨rfl, rfl⟩, ⟨rfl, rfl⟩, trivial⟩
  · replace h1 : (k0 == 6) = false := h1
    refine aneed (by kernel_rfl) ?_
    conv => whnf
    have h0 : ((k0 == 6) && !has A t0) = false := (by rw [h1]; rfl)
    rw [h0, cond_false] at hR
    refine loopS (tyOf_ok _) hmix (by kernel_rfl) as0.length [0, 21, 22, 23] [1000000000, 1000000001, 1000000002, 1000000003, 1000000004] (fun k (s : Unit) => [.ptr 1000000000 0, .p (.sl 4 (ePs as0)), .p (.i .i64 (ePs as0).length), .p (.i .i64 (ix k))])
        (fun _ _ => [.cells [.mp 1000000001, .mp 1000000002, .mp 1000000003, .mp 1000000004], .map .ks (eM vB A), .map .ks (eM vB B), .map .ks (eM vB C), .map .ks (eM vI m)]) (fun k _ => forFs A (as0.drop k) = R) () ⟨rfl, rfl, rfl, rfl⟩ hR ?_
    intro k _ hk hs
    conv => whnf
    refine asplit ?_ ?_ <;> intro h3 <;> conv => whnf
    · have hk1 := ix_tt h3 (by rw [ePs_len]) hk (by omega)
      obtain ⟨b, hb1⟩ : ∃ b, as0[k]? = some b := ⟨_, List.getElem?_eq_getElem hk1⟩
      refine aidxk (ePs_get hb1) (by omega) ?_
      have hbw := wP_args (k := k0) (n := n0) (t := t0) (List.mem_of_getElem? hb1)
      have hc := ih b (List.mem_of_getElem? hb1) (by omega)
      rw [drop_cons hb1, forFs] at hs
      generalize forF A b = q at hc hs
      obtain ⟨b1, b2, b3, b4⟩ := b
      conv => whnf
      refine amc [1000000000, 1000000001, 1000000002, 1000000003, 1000000004] 10000 hc ?_
      conv => whnf
      refine asplit ?_ ?_ <;> intro h4 <;> conv => whnf
      · subst h4
        exact ⟨.inl (pb hs), ⟨.inl rfl, .inl rfl, .inl rfl, .inl rfl, trivial⟩, ⟨rfl, rfl⟩, ⟨rfl, rfl⟩, ⟨rfl, rfl⟩, ⟨rfl, rfl⟩, trivial⟩
      · subst h4
        exact ⟨hk1, (), ⟨rfl, rfl, rfl, rfl⟩, hs⟩
    · have hk1 := ix_ff h3 (by rw [ePs_len]) hk (by omega)
      rw [hk1, List.drop_length, forFs] at hs
      exact ⟨.inl (pb hs), ⟨.inl rfl, .inl rfl, .inl rfl, .inl rfl, trivial⟩, ⟨rfl, rfl⟩, ⟨rfl, rfl⟩, ⟨rfl, rfl⟩, ⟨rfl, rfl⟩, trivial⟩
end TR
