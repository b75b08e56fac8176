/-
  DERIVED. Contracts of the functions that the law reaches, and the law itself, for every input. No conditions.
-/
import Derived.Test.YtfikmccicklonaaTS2
open Go Go.AM Go.Proofs
set_option maxRecDepth 100000
namespace TR
/-- Makers -/
def mkN (l : List Dt) : List ByteArray := l.flatMap (fun d => d.makes.map (·.name))
theorem mkN_snoc (l : List Dt) (d : Dt) : mkN (l ++ [d]) = mkN l ++ d.makes.map (·.name) := by simp [mkN]
theorem mkN_len : ∀ (l : List Dt), (mkN l).length ≤ PV.wts (l.map eDt)
  | [] => by simp [mkN]
  | m :: r => by
    have := mkN_len r
    have := mks_len m.makes
    simp only [mkN, List.flatMap_cons, List.length_append, List.map_cons, PV.wts, List.length_map] at *
    simp only [eDt, PV.wt, PV.wts]
    omega
theorem mkN_take (l : List Dt) (k : Nat) : (mkN (l.take k)).length ≤ (mkN l).length := by
  have : mkN l = mkN (l.take k) ++ mkN (l.drop k) := by unfold mkN; rw [← List.flatMap_append, List.take_append_drop]
  rw [this]; simp
theorem makers_spec (p : Pg) (hp : wPg p ≤ 1048576) : APure Try.prog 68 [.p (ePg p)] (.p (.sl 1 ((mkN p.datas).map eStr))) := by
  have hw := wPg_eq p
  have hl := dts_len p.datas
  have hl2 := mkN_len p.datas
  generalize wPg p = W at *
  obtain ⟨nm, ver, us, ds, ts, is, fs, acs⟩ := p
  simp only at *
  refine APure.intro (tyOf_ok Try.prog) hmix Try.func68 rfl (by rfl) (by kernel_rfl) (by show 1 ≤ _; decide) rfl ?_
  conv => whnf
  refine lp_nil 3 0 rfl ?_
  refine loopS (tyOf_ok _) hmix (by kernel_rfl) ds.length [3, 9, 10, 11] [] (fun k (s : List ByteArray) => [.so 1 (s.map eStr), .p (.sl 3 (ds.map eDt)), .p (.i .i64 (ds.map eDt).length), .p (.i .i64 (ix k))]) (fun _ _ => []) (fun k s => s = mkN (ds.take k)) [] ⟨rfl, rfl, rfl, rfl⟩ (by simp [mkN]) ?_
  intro k s hk hs
  conv => whnf
  refine asplit ?_ ?_ <;> intro h1 <;> conv => whnf
  · have hk1 := ix_tt h1 (by simp) hk (by omega)
    obtain ⟨b, hb1⟩ : ∃ b, ds[k]? = some b := ⟨_, List.getElem?_eq_getElem hk1⟩
    refine aidxk (x := eDt b) (by simp [hb1]) (by omega) ?_
    have hts : mkN (ds.take (k + 1)) = mkN (ds.take k) ++ b.makes.map (·.name) := by rw [take_snoc hb1, mkN_snoc]
    have htl := mkN_take ds (k + 1)
    rw [hts, ← hs, List.length_append, List.length_map] at htl
    obtain ⟨b1, b2, b3⟩ := b
    simp only at hts htl
    conv => whnf
    refine loopS (tyOf_ok _) hmix (by kernel_rfl) b3.length [3, 9, 10, 11, 16, 17, 18] [] (fun j (s : List ByteArray) => [.so 1 (s.map eStr), .p (.sl 3 (ds.map eDt)), .p (.i .i64 (ds.map eDt).length), .p (.i .i64 (ix k)), .p (.sl 2 (b3.map eMk)), .p (.i .i64 (b3.map eMk).length), .p (.i .i64 (ix j))]) (fun _ _ => []) (fun j s' => s' = s ++ (b3.take j).map (·.name)) s ⟨rfl, rfl, rfl, rfl⟩ (by simp) ?_
    intro j s2 hj hs2
    have hsl : s2.length ≤ 1048576 := by rw [hs2]; simp; omega
    conv => whnf
    refine asplit ?_ ?_ <;> intro h2 <;> conv => whnf
    · have hj1 := ix_tt h2 (by simp) hj (by omega)
      obtain ⟨c, hc1⟩ : ∃ b, b3[j]? = some b := ⟨_, List.getElem?_eq_getElem hj1⟩
      refine aidxk (x := eMk c) (by simp [hc1]) (by omega) ?_
      have hts2 : (b3.take (j + 1)).map (·.name) = (b3.take j).map (·.name) ++ [c.name] := by rw [take_snoc hc1, List.map_append]; rfl
      obtain ⟨c1, c2⟩ := c
      conv => whnf
      refine aneed (show ((s2.map eStr).length + 1) * 16 ≤ 140737488355328 by simp; omega) ?_
      conv => whnf
      refine ⟨hj1, s2 ++ [c1], ⟨rfl, ?_, rfl, rfl⟩, by rw [hs2, hts2]; simp⟩
      rw [List.map_append]; rfl
    · have hj1 := ix_ff h2 (by simp) hj (by omega)
      rw [hj1, List.take_length] at hs2
      exact ⟨hk1, s2, ⟨rfl, rfl, rfl, rfl⟩, by rw [hs2, hts, hs]⟩
  · have hk1 := ix_ff h1 (by simp) hk (by omega)
    have hs2 : s = mkN ds := by rw [hs, hk1, List.take_length]
    subst hs2
    exact .inr (.inl rfl)
/-- Callable -/
def trN (l : List Tr) : List ByteArray := l.flatMap (fun d => d.funcs.map (·.name))
theorem trN_snoc (l : List Tr) (d : Tr) : trN (l ++ [d]) = trN l ++ d.funcs.map (·.name) := by simp [trN]
theorem trN_len : ∀ (l : List Tr), (trN l).length ≤ PV.wts (l.map eTr)
  | [] => by simp [trN]
  | m :: r => by
    have := trN_len r
    have := fus_len m.funcs
    simp only [trN, List.flatMap_cons, List.length_append, List.map_cons, PV.wts, List.length_map] at *
    simp only [eTr, PV.wt, PV.wts]
    omega
theorem trN_take (l : List Tr) (k : Nat) : (trN (l.take k)).length ≤ (trN l).length := by
  have : trN l = trN (l.take k) ++ trN (l.drop k) := by unfold trN; rw [← List.flatMap_append, List.take_append_drop]
  rw [this]; simp
def caN (p : Pg) : List ByteArray := trN p.traits ++ p.funcs.map (·.name)
theorem callable_spec (p : Pg) (hp : wPg p ≤ 1048576) : APure Try.prog 69 [.p (ePg p)] (.p (.sl 1 ((caN p).map eStr))) := by
  have hw := wPg_eq p
  have hl := trs_len p.traits
  have hl2 := trN_len p.traits
  have hl3 := fus_len p.funcs
  generalize wPg p = W at *
  obtain ⟨nm, ver, us, ds, ts, is, fs, acs⟩ := p
  simp only [caN] at *
  refine APure.intro (tyOf_ok Try.prog) hmix Try.func69 rfl (by rfl) (by kernel_rfl) (by show 1 ≤ _; decide) rfl ?_
  conv => whnf
  refine lp_nil 3 0 rfl ?_
  refine loopS (tyOf_ok _) hmix (by kernel_rfl) ts.length [1, 3, 11, 12, 13] [1] (fun k (s : List ByteArray) => [.ptr 1 0, .so 1 (s.map eStr), .p (.sl 2 (ts.map eTr)), .p (.i .i64 (ts.map eTr).length), .p (.i .i64 (ix k))])
    (fun _ _ => [.cells [.p (.s nm), .p (.i .i64 ver), .p (.sl 3 us), .p (.sl 3 (ds.map eDt)), .p (.sl 2 (ts.map eTr)), .p (.sl 3 (is.map eIm)), .p (.sl 15 (fs.map eFu)), .p (.sl 14 (acs.map eAc))]]) (fun k s => s = trN (ts.take k)) [] ⟨rfl, rfl, rfl, rfl⟩ (by simp [trN]) ?_
  intro k s hk hs
  conv => whnf
  refine asplit ?_ ?_ <;> intro h1 <;> conv => whnf
  · have hk1 := ix_tt h1 (by simp) hk (by omega)
    obtain ⟨b, hb1⟩ : ∃ b, ts[k]? = some b := ⟨_, List.getElem?_eq_getElem hk1⟩
    refine aidxk (x := eTr b) (by simp [hb1]) (by omega) ?_
    have hts : trN (ts.take (k + 1)) = trN (ts.take k) ++ b.funcs.map (·.name) := by rw [take_snoc hb1, trN_snoc]
    have htl := trN_take ts (k + 1)
    rw [hts, ← hs, List.length_append, List.length_map] at htl
    obtain ⟨b1, b3⟩ := b
    simp only at hts htl
    conv => whnf
    refine loopS (tyOf_ok _) hmix (by kernel_rfl) b3.length [1, 3, 11, 12, 13, 18, 19, 20] [1] (fun j (s : List ByteArray) => [.ptr 1 0, .so 1 (s.map eStr), .p (.sl 2 (ts.map eTr)), .p (.i .i64 (ts.map eTr).length), .p (.i .i64 (ix k)), .p (.sl 15 (b3.map eFu)), .p (.i .i64 (b3.map eFu).length), .p (.i .i64 (ix j))])
      (fun _ _ => [.cells [.p (.s nm), .p (.i .i64 ver), .p (.sl 3 us), .p (.sl 3 (ds.map eDt)), .p (.sl 2 (ts.map eTr)), .p (.sl 3 (is.map eIm)), .p (.sl 15 (fs.map eFu)), .p (.sl 14 (acs.map eAc))]]) (fun j s' => s' = s ++ (b3.take j).map (·.name)) s ⟨rfl, rfl, rfl, rfl⟩ (by simp) ?_
    intro j s2 hj hs2
    have hsl : s2.length ≤ 1048576 := by rw [hs2]; simp; omega
    conv => whnf
    refine asplit ?_ ?_ <;> intro h2 <;> conv => whnf
    · have hj1 := ix_tt h2 (by simp) hj (by omega)
      obtain ⟨c, hc1⟩ : ∃ b, b3[j]? = some b := ⟨_, List.getElem?_eq_getElem hj1⟩
      refine aidxk (x := eFu c) (by simp [hc1]) (by omega) ?_
      have hts2 : (b3.take (j + 1)).map (·.name) = (b3.take j).map (·.name) ++ [c.name] := by rw [take_snoc hc1, List.map_append]; rfl
      obtain ⟨a1, a2, a3, a4, a5, a6, a7, ⟨c1, c2, c3, c4, c5, c6, c7, c8⟩⟩ := c
      conv => whnf
      refine aneed (show ((s2.map eStr).length + 1) * 16 ≤ 140737488355328 by simp; omega) ?_
      conv => whnf
      refine ⟨hj1, s2 ++ [a1], ⟨rfl, ?_, rfl, rfl⟩, by rw [hs2, hts2]; simp⟩
      rw [List.map_append]; rfl
    · have hj1 := ix_ff h2 (by simp) hj (by omega)
      rw [hj1, List.take_length] at hs2
      exact ⟨hk1, s2, ⟨rfl, rfl, rfl, rfl⟩, by rw [hs2, hts, hs]⟩
  · have hk1 := ix_ff h1 (by simp) hk (by omega)
    have hs2 : s = trN ts := by rw [hs, hk1, List.take_length]
    subst hs2
    refine loopS (tyOf_ok _) hmix (by kernel_rfl) fs.length [3, 32, 33, 34] [] (fun k (s : List ByteArray) => [.so 1 (s.map eStr), .p (.sl 15 (fs.map eFu)), .p (.i .i64 (fs.map eFu).length), .p (.i .i64 (ix k))]) (fun _ _ => [])
      (fun k s => s = trN ts ++ (fs.take k).map (·.name)) (trN ts) ⟨rfl, rfl, rfl, rfl⟩ (by simp) ?_
    intro j s hj hs
    have hsl : s.length ≤ 2097152 := by rw [hs]; simp; omega
    conv => whnf
    refine asplit ?_ ?_ <;> intro h2 <;> conv => whnf
    · have hj1 := ix_tt h2 (by simp) hj (by omega)
      obtain ⟨b, hb1⟩ : ∃ b, fs[j]? = some b := ⟨_, List.getElem?_eq_getElem hj1⟩
      refine aidxk (x := eFu b) (by simp [hb1]) (by omega) ?_
      have hts : (fs.take (j + 1)).map (·.name) = (fs.take j).map (·.name) ++ [b.name] := by rw [take_snoc hb1, List.map_append]; rfl
      obtain ⟨a1, a2, a3, a4, a5, a6, a7, ⟨c1, c2, c3, c4, c5, c6, c7, c8⟩⟩ := b
      conv => whnf
      refine aneed (show ((s.map eStr).length + 1) * 16 ≤ 140737488355328 by simp; omega) ?_
      conv => whnf
      refine ⟨hj1, s ++ [a1], ⟨rfl, ?_, rfl, rfl⟩, by rw [hs, hts]; simp⟩
      rw [List.map_append]; rfl
    · have hj1 := ix_ff h2 (by simp) hj (by omega)
      have hs2 : s = trN ts ++ fs.map (·.name) := by rw [hs, hj1, List.take_length]
      subst hs2
      exact .inr (.inl rfl)
/-- newResolver -/
def hpN (A B C : List (ByteArray × Bool)) : Heap := [(13, .cells [.mp 10006, .mp 20006, .mp 30006, .c (.map none)]), (10006, .map .ks (eM vB A)), (20006, .map .ks (eM vB B)), (30006, .map .ks (eM vB C))]
theorem newRes_spec (p : Pg) (hp : wPg p ≤ 1048576) : AMem Try.prog 49 [.p (ePg p)] [] (.ptr 13 0) (hpN (setF (mkN p.datas)) (setF (caN p)) (setF (p.actors.map (·.name)))) := by
  have hw := wPg_eq p
  have l1 := mkN_len p.datas
  have l2 := trN_len p.traits
  have l3 := fus_len p.funcs
  have l4 := acs_len p.actors
  have h1 := makers_spec p hp
  have h2 := callable_spec p hp
  have h3 := actors_spec p hp
  have g1 := set_spec (mkN p.datas) (by omega)
  have g2 := set_spec (caN p) (by simp [caN]; omega)
  have g3 := set_spec (p.actors.map (·.name)) (by simp; omega)
  generalize setF (mkN p.datas) = A at *
  generalize setF (caN p) = B at *
  generalize setF (p.actors.map (·.name)) = C at *
  generalize mkN p.datas = a at *
  generalize caN p = b at *
  generalize p.actors.map (·.name) = c at *
  clear l1 l2 l3 l4 hw hp
  obtain ⟨nm, ver, us, ds, ts, is, fs, acs⟩ := p
  refine AMem.intro (tyOf_ok Try.prog) hmix Try.func49 rfl (by rfl) (by kernel_rfl) (by show 1 ≤ _; decide) rfl ?_
  conv => whnf
  refine apc h1 ?_
  conv => whnf
  refine amc [] 10000 g1 ?_
  conv => whnf
  refine apc h2 ?_
  conv => whnf
  refine amc [] 20000 g2 ?_
  conv => whnf
  refine apc h3 ?_
  conv => whnf
  refine amc [] 30000 g3 ?_
  conv => whnf
  refine aneed (by kernel_rfl) ?_
  conv => whnf
  exact ⟨.inl rfl, ⟨.inl rfl, .inl rfl, .inl rfl, .inl rfl, trivial⟩, ⟨rfl, rfl⟩, ⟨rfl, rfl⟩, ⟨rfl, rfl⟩, trivial⟩
theorem told_spec (x : Int) (b : Bool) : APure Try.prog 48 [.p (.i .i64 x), .p (.b b)] (.tup [.p (.i .i64 (bif b then 11 else 0)), .p (.i .i64 (bif b then x else 0))]) := by
  refine APure.intro (tyOf_ok Try.prog) hmix Try.func48 rfl (by rfl) (by kernel_rfl) (by show 2 ≤ _; decide) rfl ?_
  cases b with
  | true =>
    conv => whnf
    exact .inl rfl
  | false =>
    conv => whnf
    exact .inl rfl
end TR
