/-
  DERIVED. Contracts of the functions that the law reaches, and the law itself, for every input. No conditions.
-/
import Derived.Test.YtfikmccicklonaaTS1
open Go Go.AM Go.Proofs
set_option maxRecDepth 100000
namespace TR
/-- Twice -/
def twF : List ByteArray → List (ByteArray × Bool) → Bool
  | [], _ => false
  | s :: r, m => bif (slook s m).getD false then true else twF r (sput s true m)
theorem twice_spec (l : List ByteArray) (hl : l.length ≤ 2097152) : APure Try.prog 76 [.p (.sl 1 (l.map eStr))] (.p (.b (twF l []))) := by
  generalize hR : twF l [] = R
  refine APure.intro (tyOf_ok Try.prog) hmix Try.func76 rfl (by rfl) (by kernel_rfl) (by show 1 ≤ _; decide) rfl ?_
  conv => whnf
  refine loopS (tyOf_ok _) hmix (by kernel_rfl) l.length [3, 7, 8, 9] [6] (fun k (m : List (ByteArray × Bool)) => [.mp 6, .p (.sl 1 (l.map eStr)), .p (.i .i64 (l.map eStr).length), .p (.i .i64 (ix k))]) (fun _ m => [.map .ks (eM vB m)]) (fun k m => twF (l.drop k) m = R) [] ⟨rfl, rfl, rfl, rfl⟩ hR ?_
  intro k m hk hs
  conv => whnf
  refine asplit ?_ ?_ <;> intro h1 <;> conv => whnf
  · have hk1 := ix_tt h1 (by simp) hk (by omega)
    obtain ⟨b, hb1⟩ : ∃ b, l[k]? = some b := ⟨_, List.getElem?_eq_getElem hk1⟩
    rw [drop_cons hb1, twF] at hs
    refine aidxk (x := eStr b) (by simp [hb1]) (by omega) ?_
    conv => whnf
    refine alook (mlook_B b m) ?_
    conv => whnf
    refine asplit ?_ ?_ <;> intro h2 <;> conv => whnf
    · rw [h2, cond_true] at hs
      exact .inl (pb hs)
    · rw [h2, cond_false] at hs
      exact ⟨hk1, sput b true m, ⟨by rw [← mput_eM]; rfl, rfl, rfl, rfl⟩, hs⟩
  · have hk1 := ix_ff h1 (by simp) hk (by omega)
    rw [hk1, List.drop_length, twF] at hs
    exact .inl (pb hs)
/-- set -/
def setF (l : List ByteArray) : List (ByteArray × Bool) := l.foldl (fun m s => sput s true m) []
theorem set_spec (l : List ByteArray) (hl : l.length ≤ 2097152) : AMem Try.prog 67 [.p (.sl 1 (l.map eStr))] [] (.mp 6) [(6, .map .ks (eM vB (setF l)))] := by
  generalize hR : setF l = R
  refine AMem.intro (tyOf_ok Try.prog) hmix Try.func67 rfl (by rfl) (by kernel_rfl) (by show 1 ≤ _; decide) rfl ?_
  conv => whnf
  refine loopS (tyOf_ok _) hmix (by kernel_rfl) l.length [3, 7, 8, 9] [6] (fun k (m : List (ByteArray × Bool)) => [.mp 6, .p (.sl 1 (l.map eStr)), .p (.i .i64 (l.map eStr).length), .p (.i .i64 (ix k))]) (fun _ m => [.map .ks (eM vB m)]) (fun k m => m = setF (l.take k)) [] ⟨rfl, rfl, rfl, rfl⟩ rfl ?_
  intro k m hk hs
  conv => whnf
  refine asplit ?_ ?_ <;> intro h1 <;> conv => whnf
  · have hk1 := ix_tt h1 (by simp) hk (by omega)
    obtain ⟨b, hb1⟩ : ∃ b, l[k]? = some b := ⟨_, List.getElem?_eq_getElem hk1⟩
    refine aidxk (x := eStr b) (by simp [hb1]) (by omega) ?_
    conv => whnf
    refine ⟨hk1, sput b true m, ⟨by rw [← mput_eM]; rfl, rfl, rfl, rfl⟩, ?_⟩
    rw [take_snoc hb1, setF, List.foldl_append, hs]; rfl
  · have hk1 := ix_ff h1 (by simp) hk (by omega)
    rw [hk1, List.take_length, hR] at hs
    subst hs
    exact ⟨.inl rfl, ⟨rfl, rfl⟩, trivial⟩
/-- Actors -/
theorem actors_spec (p : Pg) (hp : wPg p ≤ 1048576) : APure Try.prog 70 [.p (ePg p)] (.p (.sl 1 ((p.actors.map (·.name)).map eStr))) := by
  have hw := wPg_eq p
  have hl := acs_len p.actors
  generalize wPg p = W at *
  obtain ⟨nm, ver, us, ds, ts, is, fs, acs⟩ := p
  simp only at *
  refine APure.intro (tyOf_ok Try.prog) hmix Try.func70 rfl (by rfl) (by kernel_rfl) (by show 1 ≤ _; decide) rfl ?_
  conv => whnf
  refine lp_nil 3 0 rfl ?_
  refine loopS (tyOf_ok _) hmix (by kernel_rfl) acs.length [3, 7, 8, 9] [] (fun k (s : List ByteArray) => [.so 1 (s.map eStr), .p (.sl 14 (acs.map eAc)), .p (.i .i64 (acs.map eAc).length), .p (.i .i64 (ix k))]) (fun _ _ => []) (fun k s => s = (acs.take k).map (·.name)) [] ⟨rfl, rfl, rfl, rfl⟩ (by simp) ?_
  intro k s hk hs
  have hsl : s.length ≤ 1048576 := by rw [hs]; simp; omega
  conv => whnf
  refine asplit ?_ ?_ <;> intro h1 <;> conv => whnf
  · have hk1 := ix_tt h1 (by simp) hk (by omega)
    obtain ⟨b, hb1⟩ : ∃ b, acs[k]? = some b := ⟨_, List.getElem?_eq_getElem hk1⟩
    refine aidxk (x := eAc b) (by simp [hb1]) (by omega) ?_
    have hts : (acs.take (k + 1)).map (·.name) = (acs.take k).map (·.name) ++ [b.name] := by rw [take_snoc hb1, List.map_append]; rfl
    obtain ⟨b1, b2, b3, b4, b5, b6, ⟨c1, c2, c3, c4, c5, c6, c7, c8⟩⟩ := b
    conv => whnf
    refine aneed (show ((s.map eStr).length + 1) * 16 ≤ 140737488355328 by simp; omega) ?_
    conv => whnf
    refine ⟨hk1, s ++ [b1], ⟨rfl, ?_, rfl, rfl⟩, by rw [hs, hts]⟩
    rw [List.map_append]; rfl
  · have hk1 := ix_ff h1 (by simp) hk (by omega)
    have hs2 : s = acs.map (·.name) := by rw [hs, hk1, List.take_length]
    subst hs2
    exact .inr (.inl rfl)
end TR
