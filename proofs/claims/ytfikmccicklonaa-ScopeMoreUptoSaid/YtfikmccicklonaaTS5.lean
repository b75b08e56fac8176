/-
  DERIVED. Contracts of the functions that the law reaches, and the law itself, for every input. No conditions.
-/
import Derived.Test.YtfikmccicklonaaTS4
open Go Go.AM Go.Proofs
set_option maxRecDepth 100000
namespace TR
def wrongA (A : BM) : List Arm → Bool
  | [] => false
  | .mk p _ :: r => bif (twF (boundF p) []) || forF A p then true else wrongA A r
def headF (A B C : BM) (m : IM) (k : Int) (t : ByteArray) (ns : List ByteArray) : Bool :=
  bif k == 5 then (slook t m).getD 0 == 0 else bif k == 9 then !has B t else bif k == 12 then !has A t else bif k == 14 then !has C t else bif k == 10 then twF ns [] else false
def wrongF (A B C : BM) (m : IM) (k : Int) (t : ByteArray) (ns : List ByteArray) (ms : List Arm) : Bool := bif headF A B C m k t ns then true else wrongA A ms
theorem wrong_spec (A B C : BM) (m : IM) (k0 n0 : Int) (t0 : ByteArray) (ns0 : List ByteArray) (ts0 : List Ty) (as0 : List Ex) (ms0 : List Arm) (p0 : Int) (hw : wE (.mk k0 n0 t0 ns0 ts0 as0 ms0 p0) ≤ 1048640) :
    AMem Try.prog 74 [.ptr 1000000000 0, .p (eE (.mk k0 n0 t0 ns0 ts0 as0 ms0 p0))] (hpR A B C m) (.p (.b (wrongF A B C m k0 t0 ns0 ms0))) (hpR A B C m) := by
  have hl := wE_lens k0 n0 t0 ns0 ts0 as0 ms0 p0
  have htw := twice_spec ns0 (by omega)
  generalize hR : wrongF A B C m k0 t0 ns0 ms0 = R
  rw [wrongF] at hR
  generalize hH : headF A B C m k0 t0 ns0 = H at hR
  rw [headF] at hH
  refine AMem.intro (tyOf_ok Try.prog) hmix Try.func74 rfl (by rfl) (by kernel_rfl) (by show 2 ≤ _; decide) rfl ?_
  conv => whnf
  refine asplit ?_ ?_ <;> intro h1 <;> conv => whnf
  · replace h1 : (k0 == 5) = true := h1
    rw [h1, cond_true] at hH
    refine alook (mlook_I t0 m) ?_
    conv => whnf
    refine aneed (by kernel_rfl) ?_
    conv => whnf
    refine asplit ?_ ?_ <;> intro g2 <;> conv => whnf
    · replace g2 : ((slook t0 m).getD 0 == 0) = true := g2
      rw [g2] at hH
      subst hH
      exact ⟨.inl (pb hR), ⟨.inl rfl, .inl rfl, .inl rfl, .inl rfl, trivial⟩, ⟨rfl, rfl⟩, ⟨rfl, rfl⟩, ⟨rfl, rfl⟩, ⟨rfl, rfl⟩, trivial⟩
    · replace g2 : ((slook t0 m).getD 0 == 0) = false := g2
      rw [g2] at hH
      subst hH
      rw [cond_false] at hR
      refine loopS (tyOf_ok _) hmix (by kernel_rfl) ms0.length [0, 55, 56, 57] [1000000000, 1000000001, 1000000002, 1000000003, 1000000004] (fun k (s : Unit) => [.ptr 1000000000 0, .p (.sl 12 (eAs ms0)), .p (.i .i64 (eAs ms0).length), .p (.i .i64 (ix k))])
          (fun _ _ => [.cells [.mp 1000000001, .mp 1000000002, .mp 1000000003, .mp 1000000004], .map .ks (eM vB A), .map .ks (eM vB B), .map .ks (eM vB C), .map .ks (eM vI m)]) (fun k _ => wrongA A (ms0.drop k) = R) () ⟨rfl, rfl, rfl, rfl⟩ hR ?_
      intro k _ hk hs
      conv => whnf
      refine asplit ?_ ?_ <;> intro h3 <;> conv => whnf
      · have hk1 := ix_tt h3 (by rw [eAs_len]) hk (by omega)
        obtain ⟨b, hb1⟩ : ∃ b, ms0[k]? = some b := ⟨_, List.getElem?_eq_getElem hk1⟩
        refine aidxk (eAs_get hb1) (by omega) ?_
        have hbw := wE_body (k := k0) (n := n0) (t := t0) (ns := ns0) (ts := ts0) (xs := as0) (p := p0) (List.mem_of_getElem? hb1)
        have hbl := bound_le b.pat
        have c1 := bound_spec b.pat (by omega)
        have c2 := twice_spec (boundF b.pat) (by omega)
        have c3 := foreign_spec A B C m b.pat (by omega)
        rw [drop_cons hb1] at hs
        obtain ⟨bp, ⟨b1, b2, b3, b4, b5, b6, b7, b8⟩⟩ := b
        rw [wrongA] at hs
        simp only [Arm.pat] at c1 c2 c3
        generalize twF (boundF bp) [] = q1 at c2 hs
        generalize boundF bp = q0 at c1 c2
        generalize forF A bp = q3 at c3 hs
        obtain ⟨a1, a2, a3, a4⟩ := bp
        conv => whnf
        refine apc c1 ?_
        conv => whnf
        refine apc c2 ?_
        conv => whnf
        refine asplit ?_ ?_ <;> intro h5 <;> conv => whnf
        · subst h5
          exact ⟨.inl (pb hs), ⟨.inl rfl, .inl rfl, .inl rfl, .inl rfl, trivial⟩, ⟨rfl, rfl⟩, ⟨rfl, rfl⟩, ⟨rfl, rfl⟩, ⟨rfl, rfl⟩, trivial⟩
        · subst h5
          refine amc [1000000000, 1000000001, 1000000002, 1000000003, 1000000004] 10000 c3 ?_
          conv => whnf
          refine asplit ?_ ?_ <;> intro h4 <;> conv => whnf
          · subst h4
            exact ⟨.inl (pb hs), ⟨.inl rfl, .inl rfl, .inl rfl, .inl rfl, trivial⟩, ⟨rfl, rfl⟩, ⟨rfl, rfl⟩, ⟨rfl, rfl⟩, ⟨rfl, rfl⟩, trivial⟩
          · subst h4
            exact ⟨hk1, (), ⟨rfl, rfl, rfl, rfl⟩, hs⟩
      · have hk1 := ix_ff h3 (by rw [eAs_len]) hk (by omega)
        rw [hk1, List.drop_length, wrongA] at hs
        exact ⟨.inl (pb hs), ⟨.inl rfl, .inl rfl, .inl rfl, .inl rfl, trivial⟩, ⟨rfl, rfl⟩, ⟨rfl, rfl⟩, ⟨rfl, rfl⟩, ⟨rfl, rfl⟩, trivial⟩
  replace h1 : (k0 == 5) = false := h1
  rw [h1, cond_false] at hH
  refine asplit ?_ ?_ <;> intro h2 <;> conv => whnf
  · replace h2 : (k0 == 9) = true := h2
    rw [h2, cond_true] at hH
    refine alook (mlook_B t0 B) ?_
    conv => whnf
    refine aneed (by kernel_rfl) ?_
    conv => whnf
    refine asplit ?_ ?_ <;> intro g2 <;> conv => whnf
    · replace g2 : (!has B t0) = true := g2
      rw [g2] at hH
      subst hH
      exact ⟨.inl (pb hR), ⟨.inl rfl, .inl rfl, .inl rfl, .inl rfl, trivial⟩, ⟨rfl, rfl⟩, ⟨rfl, rfl⟩, ⟨rfl, rfl⟩, ⟨rfl, rfl⟩, trivial⟩
    · replace g2 : (!has B t0) = false := g2
      rw [g2] at hH
      subst hH
      rw [cond_false] at hR
      refine loopS (tyOf_ok _) hmix (by kernel_rfl) ms0.length [0, 55, 56, 57] [1000000000, 1000000001, 1000000002, 1000000003, 1000000004] (fun k (s : Unit) => [.ptr 1000000000 0, .p (.sl 12 (eAs ms0)), .p (.i .i64 (eAs ms0).length), .p (.i .i64 (ix k))])
          (fun _ _ => [.cells [.mp 1000000001, .mp 1000000002, .mp 1000000003, .mp 1000000004], .map .ks (eM vB A), .map .ks (eM vB B), .map .ks (eM vB C), .map .ks (eM vI m)]) (fun k _ => wrongA A (ms0.drop k) = R) () ⟨rfl, rfl, rfl, rfl⟩ hR ?_
      intro k _ hk hs
      conv => whnf
      refine asplit ?_ ?_ <;> intro h3 <;> conv => whnf
      · have hk1 := ix_tt h3 (by rw [eAs_len]) hk (by omega)
        obtain ⟨b, hb1⟩ : ∃ b, ms0[k]? = some b := ⟨_, List.getElem?_eq_getElem hk1⟩
        refine aidxk (eAs_get hb1) (by omega) ?_
        have hbw := wE_body (k := k0) (n := n0) (t := t0) (ns := ns0) (ts := ts0) (xs := as0) (p := p0) (List.mem_of_getElem? hb1)
        have hbl := bound_le b.pat
        have c1 := bound_spec b.pat (by omega)
        have c2 := twice_spec (boundF b.pat) (by omega)
        have c3 := foreign_spec A B C m b.pat (by omega)
        rw [drop_cons hb1] at hs
        obtain ⟨bp, ⟨b1, b2, b3, b4, b5, b6, b7, b8⟩⟩ := b
        rw [wrongA] at hs
        simp only [Arm.pat] at c1 c2 c3
        generalize twF (boundF bp) [] = q1 at c2 hs
        generalize boundF bp = q0 at c1 c2
        generalize forF A bp = q3 at c3 hs
        obtain ⟨a1, a2, a3, a4⟩ := bp
        conv => whnf
        refine apc c1 ?_
        conv => whnf
        refine apc c2 ?_
        conv => whnf
        refine asplit ?_ ?_ <;> intro h5 <;> conv => whnf
        · subst h5
          exact ⟨.inl (pb hs), ⟨.inl rfl, .inl rfl, .inl rfl, .inl rfl, trivial⟩, ⟨rfl, rfl⟩, ⟨rfl, rfl⟩, ⟨rfl, rfl⟩, ⟨rfl, rfl⟩, trivial⟩
        · subst h5
          refine amc [1000000000, 1000000001, 1000000002, 1000000003, 1000000004] 10000 c3 ?_
          conv => whnf
          refine asplit ?_ ?_ <;> intro h4 <;> conv => whnf
          · subst h4
            exact ⟨.inl (pb hs), ⟨.inl rfl, .inl rfl, .inl rfl, .inl rfl, trivial⟩, ⟨rfl, rfl⟩, ⟨rfl, rfl⟩, ⟨rfl, rfl⟩, ⟨rfl, rfl⟩, trivial⟩
          · subst h4
            exact ⟨hk1, (), ⟨rfl, rfl, rfl, rfl⟩, hs⟩
      · have hk1 := ix_ff h3 (by rw [eAs_len]) hk (by omega)
        rw [hk1, List.drop_length, wrongA] at hs
        exact ⟨.inl (pb hs), ⟨.inl rfl, .inl rfl, .inl rfl, .inl rfl, trivial⟩, ⟨rfl, rfl⟩, ⟨rfl, rfl⟩, ⟨rfl, rfl⟩, ⟨rfl, rfl⟩, trivial⟩
  replace h2 : (k0 == 9) = false := h2
  rw [h2, cond_false] at hH
  refine asplit ?_ ?_ <;> intro h4 <;> conv => whnf
  · replace h4 : (k0 == 12) = true := h4
    rw [h4, cond_true] at hH
    refine alook (mlook_B t0 A) ?_
    conv => whnf
    refine aneed (by kernel_rfl) ?_
    conv => whnf
    refine asplit ?_ ?_ <;> intro g2 <;> conv => whnf
    · replace g2 : (!has A t0) = true := g2
      rw [g2] at hH
      subst hH
      exact ⟨.inl (pb hR), ⟨.inl rfl, .inl rfl, .inl rfl, .inl rfl, trivial⟩, ⟨rfl, rfl⟩, ⟨rfl, rfl⟩, ⟨rfl, rfl⟩, ⟨rfl, rfl⟩, trivial⟩
    · replace g2 : (!has A t0) = false := g2
      rw [g2] at hH
      subst hH
      rw [cond_false] at hR
      refine loopS (tyOf_ok _) hmix (by kernel_rfl) ms0.length [0, 55, 56, 57] [1000000000, 1000000001, 1000000002, 1000000003, 1000000004] (fun k (s : Unit) => [.ptr 1000000000 0, .p (.sl 12 (eAs ms0)), .p (.i .i64 (eAs ms0).length), .p (.i .i64 (ix k))])
          (fun _ _ => [.cells [.mp 1000000001, .mp 1000000002, .mp 1000000003, .mp 1000000004], .map .ks (eM vB A), .map .ks (eM vB B), .map .ks (eM vB C), .map .ks (eM vI m)]) (fun k _ => wrongA A (ms0.drop k) = R) () ⟨rfl, rfl, rfl, rfl⟩ hR ?_
      intro k _ hk hs
      conv => whnf
      refine asplit ?_ ?_ <;> intro h3 <;> conv => whnf
      · have hk1 := ix_tt h3 (by rw [eAs_len]) hk (by omega)
        obtain ⟨b, hb1⟩ : ∃ b, ms0[k]? = some b := ⟨_, List.getElem?_eq_getElem hk1⟩
        refine aidxk (eAs_get hb1) (by omega) ?_
        have hbw := wE_body (k := k0) (n := n0) (t := t0) (ns := ns0) (ts := ts0) (xs := as0) (p := p0) (List.mem_of_getElem? hb1)
        have hbl := bound_le b.pat
        have c1 := bound_spec b.pat (by omega)
        have c2 := twice_spec (boundF b.pat) (by omega)
        have c3 := foreign_spec A B C m b.pat (by omega)
        rw [drop_cons hb1] at hs
        obtain ⟨bp, ⟨b1, b2, b3, b4, b5, b6, b7, b8⟩⟩ := b
        rw [wrongA] at hs
        simp only [Arm.pat] at c1 c2 c3
        generalize twF (boundF bp) [] = q1 at c2 hs
        generalize boundF bp = q0 at c1 c2
        generalize forF A bp = q3 at c3 hs
        obtain ⟨a1, a2, a3, a4⟩ := bp
        conv => whnf
        refine apc c1 ?_
        conv => whnf
        refine apc c2 ?_
        conv => whnf
        refine asplit ?_ ?_ <;> intro h5 <;> conv => whnf
        · subst h5
          exact ⟨.inl (pb hs), ⟨.inl rfl, .inl rfl, .inl rfl, .inl rfl, trivial⟩, ⟨rfl, rfl⟩, ⟨rfl, rfl⟩, ⟨rfl, rfl⟩, ⟨rfl, rfl⟩, trivial⟩
        · subst h5
          refine amc [1000000000, 1000000001, 1000000002, 1000000003, 1000000004] 10000 c3 ?_
          conv => whnf
          refine asplit ?_ ?_ <;> intro h4 <;> conv => whnf
          · subst h4
            exact ⟨.inl (pb hs), ⟨.inl rfl, .inl rfl, .inl rfl, .inl rfl, trivial⟩, ⟨rfl, rfl⟩, ⟨rfl, rfl⟩, ⟨rfl, rfl⟩, ⟨rfl, rfl⟩, trivial⟩
          · subst h4
            exact ⟨hk1, (), ⟨rfl, rfl, rfl, rfl⟩, hs⟩
      · have hk1 := ix_ff h3 (by rw [eAs_len]) hk (by omega)
        rw [hk1, List.drop_length, wrongA] at hs
        exact ⟨.inl (pb hs), ⟨.inl rfl, .inl rfl, .inl rfl, .inl rfl, trivial⟩, ⟨rfl, rfl⟩, ⟨rfl, rfl⟩, ⟨rfl, rfl⟩, ⟨rfl, rfl⟩, trivial⟩
  replace h4 : (k0 == 12) = false := h4
  rw [h4, cond_false] at hH
  refine asplit ?_ ?_ <;> intro h5 <;> conv => whnf
  · replace h5 : (k0 == 14) = true := h5
    rw [h5, cond_true] at hH
    refine alook (mlook_B t0 C) ?_
    conv => whnf
    refine aneed (by kernel_rfl) ?_
    conv => whnf
    refine asplit ?_ ?_ <;> intro g2 <;> conv => whnf
    · replace g2 : (!has C t0) = true := g2
      rw [g2] at hH
      subst hH
      exact ⟨.inl (pb hR), ⟨.inl rfl, .inl rfl, .inl rfl, .inl rfl, trivial⟩, ⟨rfl, rfl⟩, ⟨rfl, rfl⟩, ⟨rfl, rfl⟩, ⟨rfl, rfl⟩, trivial⟩
    · replace g2 : (!has C t0) = false := g2
      rw [g2] at hH
      subst hH
      rw [cond_false] at hR
      refine loopS (tyOf_ok _) hmix (by kernel_rfl) ms0.length [0, 55, 56, 57] [1000000000, 1000000001, 1000000002, 1000000003, 1000000004] (fun k (s : Unit) => [.ptr 1000000000 0, .p (.sl 12 (eAs ms0)), .p (.i .i64 (eAs ms0).length), .p (.i .i64 (ix k))])
          (fun _ _ => [.cells [.mp 1000000001, .mp 1000000002, .mp 1000000003, .mp 1000000004], .map .ks (eM vB A), .map .ks (eM vB B), .map .ks (eM vB C), .map .ks (eM vI m)]) (fun k _ => wrongA A (ms0.drop k) = R) () ⟨rfl, rfl, rfl, rfl⟩ hR ?_
      intro k _ hk hs
      conv => whnf
      refine asplit ?_ ?_ <;> intro h3 <;> conv => whnf
      · have hk1 := ix_tt h3 (by rw [eAs_len]) hk (by omega)
        obtain ⟨b, hb1⟩ : ∃ b, ms0[k]? = some b := ⟨_, List.getElem?_eq_getElem hk1⟩
        refine aidxk (eAs_get hb1) (by omega) ?_
        have hbw := wE_body (k := k0) (n := n0) (t := t0) (ns := ns0) (ts := ts0) (xs := as0) (p := p0) (List.mem_of_getElem? hb1)
        have hbl := bound_le b.pat
        have c1 := bound_spec b.pat (by omega)
        have c2 := twice_spec (boundF b.pat) (by omega)
        have c3 := foreign_spec A B C m b.pat (by omega)
        rw [drop_cons hb1] at hs
        obtain ⟨bp, ⟨b1, b2, b3, b4, b5, b6, b7, b8⟩⟩ := b
        rw [wrongA] at hs
        simp only [Arm.pat] at c1 c2 c3
        generalize twF (boundF bp) [] = q1 at c2 hs
        generalize boundF bp = q0 at c1 c2
        generalize forF A bp = q3 at c3 hs
        obtain ⟨a1, a2, a3, a4⟩ := bp
        conv => whnf
        refine apc c1 ?_
        conv => whnf
        refine apc c2 ?_
        conv => whnf
        refine asplit ?_ ?_ <;> intro h5 <;> conv => whnf
        · subst h5
          exact ⟨.inl (pb hs), ⟨.inl rfl, .inl rfl, .inl rfl, .inl rfl, trivial⟩, ⟨rfl, rfl⟩, ⟨rfl, rfl⟩, ⟨rfl, rfl⟩, ⟨rfl, rfl⟩, trivial⟩
        · subst h5
          refine amc [1000000000, 1000000001, 1000000002, 1000000003, 1000000004] 10000 c3 ?_
          conv => whnf
          refine asplit ?_ ?_ <;> intro h4 <;> conv => whnf
          · subst h4
            exact ⟨.inl (pb hs), ⟨.inl rfl, .inl rfl, .inl rfl, .inl rfl, trivial⟩, ⟨rfl, rfl⟩, ⟨rfl, rfl⟩, ⟨rfl, rfl⟩, ⟨rfl, rfl⟩, trivial⟩
          · subst h4
            exact ⟨hk1, (), ⟨rfl, rfl, rfl, rfl⟩, hs⟩
      · have hk1 := ix_ff h3 (by rw [eAs_len]) hk (by omega)
        rw [hk1, List.drop_length, wrongA] at hs
        exact ⟨.inl (pb hs), ⟨.inl rfl, .inl rfl, .inl rfl, .inl rfl, trivial⟩, ⟨rfl, rfl⟩, ⟨rfl, rfl⟩, ⟨rfl, rfl⟩, ⟨rfl, rfl⟩, trivial⟩
  replace h5 : (k0 == 14) = false := h5
  rw [h5, cond_false] at hH
  refine asplit ?_ ?_ <;> intro h6 <;> conv => whnf
  · replace h6 : (k0 == 10) = true := h6
    rw [h6, cond_true] at hH
    refine apc htw ?_
    conv => whnf
    refine asplit ?_ ?_ <;> intro g2 <;> conv => whnf
    · replace g2 : (twF ns0 []) = true := g2
      rw [g2] at hH
      subst hH
      exact ⟨.inl (pb hR), ⟨.inl rfl, .inl rfl, .inl rfl, .inl rfl, trivial⟩, ⟨rfl, rfl⟩, ⟨rfl, rfl⟩, ⟨rfl, rfl⟩, ⟨rfl, rfl⟩, trivial⟩
    · replace g2 : (twF ns0 []) = false := g2
      rw [g2] at hH
      subst hH
      rw [cond_false] at hR
      refine loopS (tyOf_ok _) hmix (by kernel_rfl) ms0.length [0, 55, 56, 57] [1000000000, 1000000001, 1000000002, 1000000003, 1000000004] (fun k (s : Unit) => [.ptr 1000000000 0, .p (.sl 12 (eAs ms0)), .p (.i .i64 (eAs ms0).length), .p (.i .i64 (ix k))])
          (fun _ _ => [.cells [.mp 1000000001, .mp 1000000002, .mp 1000000003, .mp 1000000004], .map .ks (eM vB A), .map .ks (eM vB B), .map .ks (eM vB C), .map .ks (eM vI m)]) (fun k _ => wrongA A (ms0.drop k) = R) () ⟨rfl, rfl, rfl, rfl⟩ hR ?_
      intro k _ hk hs
      conv => whnf
      refine asplit ?_ ?_ <;> intro h3 <;> conv => whnf
      · have hk1 := ix_tt h3 (by rw [eAs_len]) hk (by omega)
        obtain ⟨b, hb1⟩ : ∃ b, ms0[k]? = some b := ⟨_, List.getElem?_eq_getElem hk1⟩
        refine aidxk (eAs_get hb1) (by omega) ?_
        have hbw := wE_body (k := k0) (n := n0) (t := t0) (ns := ns0) (ts := ts0) (xs := as0) (p := p0) (List.mem_of_getElem? hb1)
        have hbl := bound_le b.pat
        have c1 := bound_spec b.pat (by omega)
        have c2 := twice_spec (boundF b.pat) (by omega)
        have c3 := foreign_spec A B C m b.pat (by omega)
        rw [drop_cons hb1] at hs
        obtain ⟨bp, ⟨b1, b2, b3, b4, b5, b6, b7, b8⟩⟩ := b
        rw [wrongA] at hs
        simp only [Arm.pat] at c1 c2 c3
        generalize twF (boundF bp) [] = q1 at c2 hs
        generalize boundF bp = q0 at c1 c2
        generalize forF A bp = q3 at c3 hs
        obtain ⟨a1, a2, a3, a4⟩ := bp
        conv => whnf
        refine apc c1 ?_
        conv => whnf
        refine apc c2 ?_
        conv => whnf
        refine asplit ?_ ?_ <;> intro h5 <;> conv => whnf
        · subst h5
          exact ⟨.inl (pb hs), ⟨.inl rfl, .inl rfl, .inl rfl, .inl rfl, trivial⟩, ⟨rfl, rfl⟩, ⟨rfl, rfl⟩, ⟨rfl, rfl⟩, ⟨rfl, rfl⟩, trivial⟩
        · subst h5
          refine amc [1000000000, 1000000001, 1000000002, 1000000003, 1000000004] 10000 c3 ?_
          conv => whnf
          refine asplit ?_ ?_ <;> intro h4 <;> conv => whnf
          · subst h4
            exact ⟨.inl (pb hs), ⟨.inl rfl, .inl rfl, .inl rfl, .inl rfl, trivial⟩, ⟨rfl, rfl⟩, ⟨rfl, rfl⟩, ⟨rfl, rfl⟩, ⟨rfl, rfl⟩, trivial⟩
          · subst h4
            exact ⟨hk1, (), ⟨rfl, rfl, rfl, rfl⟩, hs⟩
      · have hk1 := ix_ff h3 (by rw [eAs_len]) hk (by omega)
        rw [hk1, List.drop_length, wrongA] at hs
        exact ⟨.inl (pb hs), ⟨.inl rfl, .inl rfl, .inl rfl, .inl rfl, trivial⟩, ⟨rfl, rfl⟩, ⟨rfl, rfl⟩, ⟨rfl, rfl⟩, ⟨rfl, rfl⟩, trivial⟩
  replace h6 : (k0 == 10) = false := h6
  rw [h6, cond_false] at hH
  subst hH
  rw [cond_false] at hR
  refine loopS (tyOf_ok _) hmix (by kernel_rfl) ms0.length [0, 55, 56, 57] [1000000000, 1000000001, 1000000002, 1000000003, 1000000004] (fun k (s : Unit) => [.ptr 1000000000 0, .p (.sl 12 (eAs ms0)), .p (.i .i64 (eAs ms0).length), .p (.i .i64 (ix k))])
      (fun _ _ => [.cells [.mp 1000000001, .mp 1000000002, .mp 1000000003, .mp 1000000004], .map .ks (eM vB A), .map .ks (eM vB B), .map .ks (eM vB C), .map .ks (eM vI m)]) (fun k _ => wrongA A (ms0.drop k) = R) () ⟨rfl, rfl, rfl, rfl⟩ hR ?_
  intro k _ hk hs
  conv => whnf
  refine asplit ?_ ?_ <;> intro h3 <;> conv => whnf
  · have hk1 := ix_tt h3 (by rw [eAs_len]) hk (by omega)
    obtain ⟨b, hb1⟩ : ∃ b, ms0[k]? = some b := ⟨_, List.getElem?_eq_getElem hk1⟩
    refine aidxk (eAs_get hb1) (by omega) ?_
    have hbw := wE_body (k := k0) (n := n0) (t := t0) (ns := ns0) (ts := ts0) (xs := as0) (p := p0) (List.mem_of_getElem? hb1)
    have hbl := bound_le b.pat
    have c1 := bound_spec b.pat (by omega)
    have c2 := twice_spec (boundF b.pat) (by omega)
    have c3 := foreign_spec A B C m b.pat (by omega)
    rw [drop_cons hb1] at hs
    obtain ⟨bp, ⟨b1, b2, b3, b4, b5, b6, b7, b8⟩⟩ := b
    rw [wrongA] at hs
    simp only [Arm.pat] at c1 c2 c3
    generalize twF (boundF bp) [] = q1 at c2 hs
    generalize boundF bp = q0 at c1 c2
    generalize forF A bp = q3 at c3 hs
    obtain ⟨a1, a2, a3, a4⟩ := bp
    conv => whnf
    refine apc c1 ?_
    conv => whnf
    refine apc c2 ?_
    conv => whnf
    refine asplit ?_ ?_ <;> intro h5 <;> conv => whnf
    · subst h5
      exact ⟨.inl (pb hs), ⟨.inl rfl, .inl rfl, .inl rfl, .inl rfl, trivial⟩, ⟨rfl, rfl⟩, ⟨rfl, rfl⟩, ⟨rfl, rfl⟩, ⟨rfl, rfl⟩, trivial⟩
    · subst h5
      refine amc [1000000000, 1000000001, 1000000002, 1000000003, 1000000004] 10000 c3 ?_
      conv => whnf
      refine asplit ?_ ?_ <;> intro h4 <;> conv => whnf
      · subst h4
        exact ⟨.inl (pb hs), ⟨.inl rfl, .inl rfl, .inl rfl, .inl rfl, trivial⟩, ⟨rfl, rfl⟩, ⟨rfl, rfl⟩, ⟨rfl, rfl⟩, ⟨rfl, rfl⟩, trivial⟩
      · subst h4
        exact ⟨hk1, (), ⟨rfl, rfl, rfl, rfl⟩, hs⟩
  · have hk1 := ix_ff h3 (by rw [eAs_len]) hk (by omega)
    rw [hk1, List.drop_length, wrongA] at hs
    exact ⟨.inl (pb hs), ⟨.inl rfl, .inl rfl, .inl rfl, .inl rfl, trivial⟩, ⟨rfl, rfl⟩, ⟨rfl, rfl⟩, ⟨rfl, rfl⟩, ⟨rfl, rfl⟩, trivial⟩

/-- visit -/
def namesF (k : Int) (t : ByteArray) (ns : List ByteArray) (i : Nat) : List ByteArray := bif (k == 6) && (i == 1) then [t] else bif k == 10 then ns else []
abbrev Rs := (Int × Bool) × IM
mutual
def resF (A B C : BM) : Ex → IM → Rs
  | .mk k _ t ns _ xs ms p, m => bif wrongF A B C m k t ns ms then ((p, true), m) else
    bif (resFs A B C k t ns 0 xs m).1.2 then resFs A B C k t ns 0 xs m else resFa A B C ms (resFs A B C k t ns 0 xs m).2
def resFs (A B C : BM) (k : Int) (t : ByteArray) (ns : List ByteArray) : Nat → List Ex → IM → Rs
  | _, [], m => ((0, false), m)
  | i, e :: r, m => bif (resF A B C e ((namesF k t ns i).foldl incF m)).1.2 then (((resF A B C e ((namesF k t ns i).foldl incF m)).1.1, true), (namesF k t ns i).foldl decF (resF A B C e ((namesF k t ns i).foldl incF m)).2)
    else resFs A B C k t ns (i + 1) r ((namesF k t ns i).foldl decF (resF A B C e ((namesF k t ns i).foldl incF m)).2)
def resFa (A B C : BM) : List Arm → IM → Rs
  | [], m => ((0, false), m)
  | .mk q e :: r, m => bif (resF A B C e ((boundF q).foldl incF m)).1.2 then (((resF A B C e ((boundF q).foldl incF m)).1.1, true), (boundF q).foldl decF (resF A B C e ((boundF q).foldl incF m)).2)
    else resFa A B C r ((boundF q).foldl decF (resF A B C e ((boundF q).foldl incF m)).2)
end
def undF (A B C : BM) (ns : List ByteArray) (e : Ex) (m : IM) : Rs := ((resF A B C e (ns.foldl incF m)).1, ns.foldl decF (resF A B C e (ns.foldl incF m)).2)
def rsV (r : Rs) : AV := .tup [.p (.i .i64 r.1.1), .p (.b r.1.2)]
def ResS (A B C : BM) (e : Ex) : Prop := ∀ m : IM, AMem Try.prog 71 [.ptr 1000000000 0, .p (eE e)] (hpR A B C m) (rsV (resF A B C e m)) (hpR A B C (resF A B C e m).2)
theorem und_of (A B C : BM) (ns : List ByteArray) (e : Ex) (hn : ns.length ≤ 1048640) (ih : ResS A B C e) (m0 : IM) :
    AMem Try.prog 75 [.ptr 1000000000 0, .p (.sl 1 (ns.map eStr)), .p (eE e)] (hpR A B C m0) (rsV (undF A B C ns e m0)) (hpR A B C (undF A B C ns e m0).2) := by
  have hv := ih (ns.foldl incF m0)
  rw [undF]
  generalize resF A B C e (ns.foldl incF m0) = R at hv
  obtain ⟨⟨r1, r2⟩, r3⟩ := R
  obtain ⟨k0, n0, t0, ns0, ts0, as0, ms0, p0⟩ := e
  simp only [rsV] at hv ⊢
  refine AMem.intro (tyOf_ok Try.prog) hmix Try.func75 rfl (by rfl) (by kernel_rfl) (by show 3 ≤ _; decide) rfl ?_
  conv => whnf
  refine loopS (tyOf_ok _) hmix (by kernel_rfl) ns.length [0, 1, 5, 14, 15, 16] [1000000000, 1000000001, 1000000002, 1000000003, 1000000004, 5] (fun k (m : IM) => [.ptr 1000000000 0, .p (.sl 1 (ns.map eStr)), .ptr 5 0, .p (.sl 1 (ns.map eStr)), .p (.i .i64 (ns.map eStr).length), .p (.i .i64 (ix k))])
    (fun k m => [.cells [.mp 1000000001, .mp 1000000002, .mp 1000000003, .mp 1000000004], .map .ks (eM vB A), .map .ks (eM vB B), .map .ks (eM vB C), .map .ks (eM vI m), .cells [.p (.i .i64 k0), .p (.i .i64 n0), .p (.s t0), .p (.sl 1 (ns0.map eStr)), .p (.sl 3 (eTs ts0)), .p (.sl 8 (eEs as0)), .p (.sl 12 (eAs ms0)), .p (.i .i64 p0)]])
    (fun k m => m = (ns.take k).foldl incF m0) m0 ⟨rfl, rfl, rfl, rfl⟩ rfl ?_
  intro k m hk hm
  conv => whnf
  refine asplit ?_ ?_ <;> intro h1 <;> conv => whnf
  · have hk1 := ix_tt h1 (by simp) hk (by omega)
    obtain ⟨b, hb1⟩ : ∃ b, ns[k]? = some b := ⟨_, List.getElem?_eq_getElem hk1⟩
    refine aidxk (x := eStr b) (by simp [hb1]) (by omega) ?_
    conv => whnf
    refine alook (mlook_I b m) ?_
    conv => whnf
    refine ⟨hk1, incF m b, ⟨by rw [incF, ← mput_eM]; rfl, rfl, rfl, rfl⟩, ?_⟩
    rw [take_snoc hb1, List.foldl_append, ← hm]; rfl
  · have hk1 := ix_ff h1 (by simp) hk (by omega)
    have hm2 : m = ns.foldl incF m0 := by rw [hm, hk1, List.take_length]
    subst hm2
    refine amc [1000000000, 1000000001, 1000000002, 1000000003, 1000000004] 10000 hv ?_
    conv => whnf
    refine loopS (tyOf_ok _) hmix (by kernel_rfl) ns.length [0, 10, 11, 34, 35, 36] [1000000000, 1000000001, 1000000002, 1000000003, 1000000004] (fun k (m : IM) => [.ptr 1000000000 0, .p (.i .i64 r1), .p (.b r2), .p (.sl 1 (ns.map eStr)), .p (.i .i64 (ns.map eStr).length), .p (.i .i64 (ix k))])
      (fun k m => [.cells [.mp 1000000001, .mp 1000000002, .mp 1000000003, .mp 1000000004], .map .ks (eM vB A), .map .ks (eM vB B), .map .ks (eM vB C), .map .ks (eM vI m)])
      (fun k m => m = (ns.take k).foldl decF r3) r3 ⟨rfl, rfl, rfl, rfl⟩ rfl ?_
    intro j m3 hj hm3
    conv => whnf
    refine asplit ?_ ?_ <;> intro h2 <;> conv => whnf
    · have hj1 := ix_tt h2 (by simp) hj (by omega)
      obtain ⟨b, hb1⟩ : ∃ b, ns[j]? = some b := ⟨_, List.getElem?_eq_getElem hj1⟩
      refine aidxk (x := eStr b) (by simp [hb1]) (by omega) ?_
      conv => whnf
      refine alook (mlook_I b m3) ?_
      conv => whnf
      refine ⟨hj1, decF m3 b, ⟨by rw [decF, ← mput_eM]; rfl, rfl, rfl, rfl⟩, ?_⟩
      rw [take_snoc hb1, List.foldl_append, ← hm3]; rfl
    · have hj1 := ix_ff h2 (by simp) hj (by omega)
      have hm4 : m3 = ns.foldl decF r3 := by rw [hm3, hj1, List.take_length]
      subst hm4
      exact ⟨.inl rfl, ⟨.inl rfl, .inl rfl, .inl rfl, .inl rfl, trivial⟩, ⟨rfl, rfl⟩, ⟨rfl, rfl⟩, ⟨rfl, rfl⟩, ⟨rfl, rfl⟩, trivial⟩
theorem resF_at {A B C : BM} {k0 : Int} {t0 : ByteArray} {ns0 : List ByteArray} {as0 : List Ex} {k : Nat} {b : Ex} (hb : as0[k]? = some b) (m : IM) : resFs A B C k0 t0 ns0 k (as0.drop k) m =
    bif (undF A B C (namesF k0 t0 ns0 k) b m).1.2 then (((undF A B C (namesF k0 t0 ns0 k) b m).1.1, true), (undF A B C (namesF k0 t0 ns0 k) b m).2) else resFs A B C k0 t0 ns0 (k + 1) (as0.drop (k + 1)) (undF A B C (namesF k0 t0 ns0 k) b m).2 := by
  rw [drop_cons hb, resFs]; rfl
theorem resFa_at {A B C : BM} {ms0 : List Arm} {k : Nat} {b : Arm} (hb : ms0[k]? = some b) (m : IM) : resFa A B C (ms0.drop k) m =
    bif (undF A B C (boundF b.pat) b.body m).1.2 then (((undF A B C (boundF b.pat) b.body m).1.1, true), (undF A B C (boundF b.pat) b.body m).2) else resFa A B C (ms0.drop (k + 1)) (undF A B C (boundF b.pat) b.body m).2 := by
  rw [drop_cons hb]; obtain ⟨p, e⟩ := b; rw [resFa]; rfl
theorem res_all (A B C : BM) (e : Ex) (he : wE e ≤ 1048640) (ih1 : ∀ a ∈ e.args, ResS A B C a) (ih2 : ∀ a ∈ e.arms, ResS A B C a.body) : ResS A B C e := by
  intro m0
  obtain ⟨k0, n0, t0, ns0, ts0, as0, ms0, p0⟩ := e
  have hl := wE_lens k0 n0 t0 ns0 ts0 as0 ms0 p0
  simp only [Ex.args, Ex.arms] at ih1 ih2
  have c0 := wrong_spec A B C m0 k0 n0 t0 ns0 ts0 as0 ms0 p0 he
  generalize hR : resF A B C (Ex.mk k0 n0 t0 ns0 ts0 as0 ms0 p0) m0 = R
  rw [resF] at hR
  generalize wrongF A B C m0 k0 t0 ns0 ms0 = W0 at c0 hR
  refine AMem.intro (tyOf_ok Try.prog) hmix Try.func71 rfl (by rfl) (by kernel_rfl) (by show 2 ≤ _; decide) rfl ?_
  conv => whnf
  refine amc [1000000000, 1000000001, 1000000002, 1000000003, 1000000004] 10000 c0 ?_
  conv => whnf
  refine asplit ?_ ?_ <;> intro h0 <;> conv => whnf
  · subst h0
    rw [cond_true] at hR
    subst hR
    exact ⟨.inl rfl, ⟨.inl rfl, .inl rfl, .inl rfl, .inl rfl, trivial⟩, ⟨rfl, rfl⟩, ⟨rfl, rfl⟩, ⟨rfl, rfl⟩, ⟨rfl, rfl⟩, trivial⟩
  subst h0
  rw [cond_false] at hR
  generalize hS : resFs A B C k0 t0 ns0 0 as0 m0 = S at hR
  refine loopS (tyOf_ok _) hmix (by kernel_rfl) as0.length [0, 3, 21, 22, 23] [1000000000, 1000000001, 1000000002, 1000000003, 1000000004, 3] (fun k (m : IM) => [.ptr 1000000000 0, .ptr 3 0, .p (.sl 8 (eEs as0)), .p (.i .i64 (eEs as0).length), .p (.i .i64 (ix k))])
      (fun k m => [.cells [.mp 1000000001, .mp 1000000002, .mp 1000000003, .mp 1000000004], .map .ks (eM vB A), .map .ks (eM vB B), .map .ks (eM vB C), .map .ks (eM vI m), .cells [.p (.i .i64 k0), .p (.i .i64 n0), .p (.s t0), .p (.sl 1 (ns0.map eStr)), .p (.sl 3 (eTs ts0)), .p (.sl 8 (eEs as0)), .p (.sl 12 (eAs ms0)), .p (.i .i64 p0)]])
      (fun k m => resFs A B C k0 t0 ns0 k (as0.drop k) m = S) m0 ⟨rfl, rfl, rfl, rfl⟩ hS ?_
  intro k m hk hs
  conv => whnf
  refine asplit ?_ ?_ <;> intro h1 <;> conv => whnf
  · have hk1 := ix_tt h1 (by rw [eEs_len]) hk (by omega)
    obtain ⟨b, hb1⟩ : ∃ b, as0[k]? = some b := ⟨_, List.getElem?_eq_getElem hk1⟩
    refine aidxk (eEs_get hb1) (by omega) ?_
    rw [resF_at hb1] at hs
    have hcc := fun ns (hn : ns.length ≤ 1048640) => und_of A B C ns b hn (ih1 b (List.mem_of_getElem? hb1)) m
    have hnl : (namesF k0 t0 ns0 k).length ≤ 1048640 := by rw [namesF]; cases ((k0 == 6) && (k == 1)) <;> cases k0 == 10 <;> simp <;> omega
    have hc := hcc (namesF k0 t0 ns0 k) hnl
    clear hcc hnl
    generalize undF A B C (namesF k0 t0 ns0 k) b m = U at hc hs
    obtain ⟨⟨u1, u2⟩, u3⟩ := U
    simp only [rsV] at hc hs
    rw [namesF] at hc
    obtain ⟨b1, b2, b3, b4, b5, b6, b7, b8⟩ := b
    conv => whnf
    refine asplit ?_ ?_ <;> intro h2 <;> conv => whnf
    · replace h2 : (k0 == 6) = true := h2
      refine asplit ?_ ?_ <;> intro h3 <;> conv => whnf
      · replace h3 : (ix k == 1) = true := h3
        rw [ix_eq (by omega)] at h3
        have h5 : (k == 1) = true := by simp at h3 ⊢; omega
        rw [h2, h5] at hc
        refine amc [1000000000, 1000000001, 1000000002, 1000000003, 1000000004] 10000 hc ?_
        conv => whnf
        refine asplit ?_ ?_ <;> intro h4 <;> conv => whnf
        · subst h4
          rw [cond_true] at hs
          subst hs
          rw [cond_true] at hR
          subst hR
          exact ⟨.inl rfl, ⟨.inl rfl, .inl rfl, .inl rfl, .inl rfl, trivial⟩, ⟨rfl, rfl⟩, ⟨rfl, rfl⟩, ⟨rfl, rfl⟩, ⟨rfl, rfl⟩, trivial⟩
        · subst h4
          rw [cond_false] at hs
          exact ⟨hk1, u3, ⟨rfl, rfl, rfl, rfl⟩, hs⟩
      · replace h3 : (ix k == 1) = false := h3
        rw [ix_eq (by omega)] at h3
        have h5 : (k == 1) = false := by simp at h3 ⊢; omega
        rw [h2, h5] at hc
        have h6 : (k0 == 10) = false := by simp at h2 ⊢; omega
        rw [h6] at hc
        refine asf h6 ?_
        conv => whnf
        refine amc [1000000000, 1000000001, 1000000002, 1000000003, 1000000004] 10000 hc ?_
        conv => whnf
        refine asplit ?_ ?_ <;> intro h4 <;> conv => whnf
        · subst h4
          rw [cond_true] at hs
          subst hs
          rw [cond_true] at hR
          subst hR
          exact ⟨.inl rfl, ⟨.inl rfl, .inl rfl, .inl rfl, .inl rfl, trivial⟩, ⟨rfl, rfl⟩, ⟨rfl, rfl⟩, ⟨rfl, rfl⟩, ⟨rfl, rfl⟩, trivial⟩
        · subst h4
          rw [cond_false] at hs
          exact ⟨hk1, u3, ⟨rfl, rfl, rfl, rfl⟩, hs⟩
    · replace h2 : (k0 == 6) = false := h2
      rw [h2] at hc
      refine asplit ?_ ?_ <;> intro h3 <;> conv => whnf
      · replace h3 : (k0 == 10) = true := h3
        rw [h3] at hc
        refine amc [1000000000, 1000000001, 1000000002, 1000000003, 1000000004] 10000 hc ?_
        conv => whnf
        refine asplit ?_ ?_ <;> intro h4 <;> conv => whnf
        · subst h4
          rw [cond_true] at hs
          subst hs
          rw [cond_true] at hR
          subst hR
          exact ⟨.inl rfl, ⟨.inl rfl, .inl rfl, .inl rfl, .inl rfl, trivial⟩, ⟨rfl, rfl⟩, ⟨rfl, rfl⟩, ⟨rfl, rfl⟩, ⟨rfl, rfl⟩, trivial⟩
        · subst h4
          rw [cond_false] at hs
          exact ⟨hk1, u3, ⟨rfl, rfl, rfl, rfl⟩, hs⟩
      · replace h3 : (k0 == 10) = false := h3
        rw [h3] at hc
        refine amc [1000000000, 1000000001, 1000000002, 1000000003, 1000000004] 10000 hc ?_
        conv => whnf
        refine asplit ?_ ?_ <;> intro h4 <;> conv => whnf
        · subst h4
          rw [cond_true] at hs
          subst hs
          rw [cond_true] at hR
          subst hR
          exact ⟨.inl rfl, ⟨.inl rfl, .inl rfl, .inl rfl, .inl rfl, trivial⟩, ⟨rfl, rfl⟩, ⟨rfl, rfl⟩, ⟨rfl, rfl⟩, ⟨rfl, rfl⟩, trivial⟩
        · subst h4
          rw [cond_false] at hs
          exact ⟨hk1, u3, ⟨rfl, rfl, rfl, rfl⟩, hs⟩
  · have hk1 := ix_ff h1 (by rw [eEs_len]) hk (by omega)
    rw [hk1, List.drop_length, resFs] at hs
    subst hs
    rw [cond_false] at hR
    refine loopS (tyOf_ok _) hmix (by kernel_rfl) ms0.length [0, 56, 57, 58] [1000000000, 1000000001, 1000000002, 1000000003, 1000000004] (fun k (m : IM) => [.ptr 1000000000 0, .p (.sl 12 (eAs ms0)), .p (.i .i64 (eAs ms0).length), .p (.i .i64 (ix k))])
        (fun k m => [.cells [.mp 1000000001, .mp 1000000002, .mp 1000000003, .mp 1000000004], .map .ks (eM vB A), .map .ks (eM vB B), .map .ks (eM vB C), .map .ks (eM vI m)])
        (fun k m => resFa A B C (ms0.drop k) m = R) m ⟨rfl, rfl, rfl, rfl⟩ hR ?_
    intro j m3 hj hs
    conv => whnf
    refine asplit ?_ ?_ <;> intro h2 <;> conv => whnf
    · have hj1 := ix_tt h2 (by rw [eAs_len]) hj (by omega)
      obtain ⟨b, hb1⟩ : ∃ b, ms0[j]? = some b := ⟨_, List.getElem?_eq_getElem hj1⟩
      refine aidxk (eAs_get hb1) (by omega) ?_
      rw [resFa_at hb1] at hs
      have hbw := wE_body (k := k0) (n := n0) (t := t0) (ns := ns0) (ts := ts0) (xs := as0) (p := p0) (List.mem_of_getElem? hb1)
      have hbl := bound_le b.pat
      have c1 := bound_spec b.pat (by omega)
      have hc := und_of A B C (boundF b.pat) b.body (by omega) (ih2 b (List.mem_of_getElem? hb1)) m3
      generalize undF A B C (boundF b.pat) b.body m3 = U at hc hs
      obtain ⟨⟨u1, u2⟩, u3⟩ := U
      simp only [rsV] at hc hs
      generalize boundF b.pat = bp at hc c1
      obtain ⟨⟨a1, a2, a3, a4⟩, ⟨b1, b2, b3, b4, b5, b6, b7, b8⟩⟩ := b
      conv => whnf
      refine apc c1 ?_
      conv => whnf
      refine amc [1000000000, 1000000001, 1000000002, 1000000003, 1000000004] 10000 hc ?_
      conv => whnf
      refine aneed (by kernel_rfl) ?_
      conv => whnf
      refine asplit ?_ ?_ <;> intro h4 <;> conv => whnf
      · subst h4
        rw [cond_true] at hs
        subst hs
        exact ⟨.inl rfl, ⟨.inl rfl, .inl rfl, .inl rfl, .inl rfl, trivial⟩, ⟨rfl, rfl⟩, ⟨rfl, rfl⟩, ⟨rfl, rfl⟩, ⟨rfl, rfl⟩, trivial⟩
      · subst h4
        rw [cond_false] at hs
        exact ⟨hj1, u3, ⟨rfl, rfl, rfl, rfl⟩, hs⟩
    · have hj1 := ix_ff h2 (by rw [eAs_len]) hj (by omega)
      rw [hj1, List.drop_length, resFa] at hs
      subst hs
      exact ⟨.inl rfl, ⟨.inl rfl, .inl rfl, .inl rfl, .inl rfl, trivial⟩, ⟨rfl, rfl⟩, ⟨rfl, rfl⟩, ⟨rfl, rfl⟩, ⟨rfl, rfl⟩, trivial⟩
theorem res_spec (A B C : BM) (e : Ex) : wE e ≤ 1048640 → ResS A B C e :=
  Ex.ind (Q := fun e => wE e ≤ 1048640 → ResS A B C e) (fun k n t ns ts xs ms p h1 h2 h => res_all A B C (.mk k n t ns ts xs ms p) h (fun a ha => h1 a ha (by have := wE_args (k := k) (n := n) (t := t) (ns := ns) (ts := ts) (ms := ms) (p := p) (show a ∈ xs from ha); omega))
    (fun a ha => h2 a ha (by have := wE_body (k := k) (n := n) (t := t) (ns := ns) (ts := ts) (xs := xs) (p := p) (show a ∈ ms from ha); omega))) e
end TR
