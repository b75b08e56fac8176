/-
  DERIVED. Contracts of the functions that the law reaches, and the law itself, for every input. No conditions.
-/
import Derived.Test.YtfikmccicklonaaEF1
open Go Go.AM Go.Proofs
set_option maxRecDepth 100000
namespace TR
structure Qn where
  own : Nat
  calls : List ByteArray
  any : Bool
def eQ (q : Qn) : PV := .agg [.i .i64 q.own, .sl 1 (q.calls.map eStr), .b q.any]
def anyL (l : List Ex) (o : Bool) : Bool := l.foldl (fun o x => bif o then true else x.kind == 11) o
def ofF (e : Ex) : Qn := ⟨ownF e, callsF e, anyL (walkF e) false⟩
theorem of_spec (e : Ex) (he : wE e ≤ 1048576) : APure Try.prog 39 [.p (eE e)] (.p (eQ (ofF e))) := by
  have h1 := walk_spec e he
  have h2 := own_spec e he
  have h3 := callsE_spec e he
  have hl := walk_le e
  have hl2 := size_le e
  rw [ofF]
  generalize walkF e = L at *
  generalize hwe : wE e = we at *
  generalize ownF e = O at *
  generalize callsF e = C at *
  clear hwe
  obtain ⟨k0, n0, t0, ns0, ts0, as0, ms0, p0⟩ := e
  refine APure.intro (tyOf_ok Try.prog) hmix Try.func39 rfl (by rfl) (by kernel_rfl) (by show 1 ≤ _; decide) rfl ?_
  conv => whnf
  refine apc h2 ?_
  conv => whnf
  refine apc h3 ?_
  conv => whnf
  refine aneed (by kernel_rfl) ?_
  conv => whnf
  refine apc h1 ?_
  conv => whnf
  refine loopS (tyOf_ok _) hmix (by kernel_rfl) L.length [2, 3, 12, 13, 14] [2, 3] (fun k (s : Bool) => [.ptr 2 0, .ptr 3 0, .p (.sl 8 (eEs L)), .p (.i .i64 (eEs L).length), .p (.i .i64 (ix k))]) (fun _ s => [.cells [.p (.i .i64 0), .nilS, .p (.b false)], .cells [.p (.i .i64 O), .p (.sl 1 (C.map eStr)), .p (.b s)]]) (fun k s => s = anyL (L.take k) false) false ⟨rfl, rfl, rfl, rfl⟩ rfl ?_
  intro k s hk hs
  conv => whnf
  refine asplit ?_ ?_ <;> intro h1 <;> conv => whnf
  · have hk1 := ix_tt h1 (by rw [eEs_len]) hk (by omega)
    obtain ⟨b, hb1⟩ : ∃ b, L[k]? = some b := ⟨_, List.getElem?_eq_getElem hk1⟩
    refine aidxk (eEs_get hb1) (by omega) ?_
    have hts : anyL (L.take (k + 1)) false = bif s then true else b.kind == 11 := by rw [take_snoc hb1, anyL, List.foldl_append, hs]; rfl
    obtain ⟨b1, b2, b3, b4, b5, b6, b7, b8⟩ := b
    conv => whnf
    refine asplit ?_ ?_ <;> intro h2 <;> conv => whnf
    · subst h2
      exact ⟨hk1, true, ⟨rfl, rfl, rfl, rfl⟩, hts.symm⟩
    · subst h2
      exact ⟨hk1, b1 == 11, ⟨rfl, rfl, rfl, rfl⟩, hts.symm⟩
  · have hk1 := ix_ff h1 (by rw [eEs_len]) hk (by omega)
    rw [hk1, List.take_length] at hs
    rw [← hs]
    exact .inl rfl
abbrev NM := List (ByteArray × Nat)
def vN (n : Nat) : PV := .i .i64 n
def nv (m : NM) (k : ByteArray) : Nat := (slook k m).getD 0
theorem mlook_N (k : ByteArray) (m : NM) : mlook (.s k) (.i .i64 0) (eM vN m) = (.i .i64 (nv m k), (slook k m).isSome) := by
  unfold mlook nv; rw [mfind_eM]; cases slook k m <;> rfl
def NB (m : NM) : Prop := ∀ k, nv m k < 128
theorem nv_put (m : NM) (s x : ByteArray) (v : Nat) : nv (sput s v m) x = if x = s then v else nv m x := by
  unfold nv
  rw [slook_sput]
  by_cases h : x = s
  · rw [if_pos h, (beq_bytes x s).2 h]; rfl
  · have : (x == s) = false := by cases hq : x == s with | false => rfl | true => exact absurd ((beq_bytes x s).1 hq) h
    rw [if_neg h, this]; rfl
theorem NB.put {m : NM} (h : NB m) {s : ByteArray} {v : Nat} (hv : v < 128) : NB (sput s v m) := fun k => by rw [nv_put]; split; exact hv; exact h k
def solL (m : NM) (l : List ByteArray) (o : Nat) : Nat := l.foldl (fun o n => o ||| nv m n) o
def solF (m : NM) (a : Nat) (q : Qn) : Nat := bif q.any then solL m q.calls q.own ||| a else solL m q.calls q.own
theorem solL_lt {m : NM} (hm : NB m) : ∀ (l : List ByteArray) (o : Nat), o < 128 → solL m l o < 128
  | [], o, h => h
  | x :: r, o, h => solL_lt hm r _ (or_lt h (hm x))
theorem solF_lt {m : NM} (hm : NB m) {a : Nat} (ha : a < 128) {q : Qn} (hq : q.own < 128) : solF m a q < 128 := by
  have := solL_lt hm q.calls q.own hq
  unfold solF; cases q.any
  · exact this
  · exact or_lt this ha
theorem sol_spec (m : NM) (a : Nat) (q : Qn) (hm : NB m) (ha : a < 128) (hq : q.own < 128) (hl : q.calls.length ≤ 2097152) :
    AMem Try.prog 38 [.agg [.mp 1000000000, .p (.i .i64 a)], .p (eQ q)] [(1000000000, .map .ks (eM vN m))] (.p (.i .i64 (solF m a q))) [(1000000000, .map .ks (eM vN m))] := by
  obtain ⟨o, C, an⟩ := q
  simp only at hq hl
  have hlt := solL_lt hm C o hq
  rw [solF]
  simp only
  generalize hR : solL m C o = R at hlt
  refine AMem.intro (tyOf_ok Try.prog) hmix Try.func38 rfl (by rfl) (by kernel_rfl) (by show 2 ≤ _; decide) rfl ?_
  conv => whnf
  refine loopS (tyOf_ok _) hmix (by kernel_rfl) C.length [2, 3, 5, 11, 12, 13] [1000000000, 2, 3] (fun k (s : Nat) => [.ptr 2 0, .ptr 3 0, .p (.i .i64 s), .p (.sl 1 (C.map eStr)), .p (.i .i64 (C.map eStr).length), .p (.i .i64 (ix k))])
    (fun _ s => [.map .ks (eM vN m), .cells [.mp 1000000000, .p (.i .i64 a)], .cells [.p (.i .i64 o), .p (.sl 1 (C.map eStr)), .p (.b an)]]) (fun k s => s < 128 ∧ s = solL m (C.take k) o) o ⟨rfl, rfl, rfl, rfl⟩ ⟨hq, rfl⟩ ?_
  intro k s hk hs
  conv => whnf
  refine asplit ?_ ?_ <;> intro h1 <;> conv => whnf
  · have hk1 := ix_tt h1 (by simp) hk (by omega)
    obtain ⟨b, hb1⟩ : ∃ b, C[k]? = some b := ⟨_, List.getElem?_eq_getElem hk1⟩
    refine aidxk (x := eStr b) (by simp [hb1]) (by omega) ?_
    conv => whnf
    refine alook (mlook_N b m) ?_
    conv => whnf
    refine ⟨hk1, s ||| nv m b, ⟨rfl, by rw [← orI hs.1 (hm b)]; rfl, rfl, rfl⟩, or_lt hs.1 (hm b), ?_⟩
    rw [take_snoc hb1, solL, List.foldl_append, hs.2]; rfl
  · have hk1 := ix_ff h1 (by simp) hk (by omega)
    rw [hk1, List.take_length, hR] at hs
    obtain ⟨hs1, rfl⟩ := hs
    refine asplit ?_ ?_ <;> intro h2 <;> conv => whnf
    · subst h2
      exact ⟨.inl (by rw [cond_true, ← orI hs1 ha]; rfl), ⟨rfl, rfl⟩, trivial⟩
    · subst h2
      exact ⟨.inl rfl, ⟨rfl, rfl⟩, trivial⟩
/-- Funs -/
theorem funsE_spec (p : Pg) (hp : wPg p ≤ 1048576) : APure Try.prog 37 [.p (ePg p)] (.so 15 ((funsF p).map eFu)) := by
  have hw := wPg_eq p
  have hl1 := ims_len p.impls
  have hl2 := fus_len p.funcs
  have hl3 := fus_len (imF p.impls)
  have hl4 := imF_wts p.impls
  obtain ⟨nm, ver, us, ds, ts, is, fs, acs⟩ := p
  simp only [funsF] at *
  refine APure.intro (tyOf_ok Try.prog) hmix Try.func37 rfl (by rfl) (by kernel_rfl) (by show 1 ≤ _; decide) rfl ?_
  conv => whnf
  refine lp_nil 3 14 rfl ?_
  refine loopS (tyOf_ok _) hmix (by kernel_rfl) is.length [1, 3, 7, 8, 9] [1] (fun k (s : List Fu) => [.ptr 1 0, .so 15 (s.map eFu), .p (.sl 3 (is.map eIm)), .p (.i .i64 (is.map eIm).length), .p (.i .i64 (ix k))])
    (fun _ _ => [.cells [.p (.s nm), .p (.i .i64 ver), .p (.sl 3 us), .p (.sl 3 (ds.map eDt)), .p (.sl 2 (ts.map eTr)), .p (.sl 3 (is.map eIm)), .p (.sl 15 (fs.map eFu)), .p (.sl 14 (acs.map eAc))]]) (fun k s => s = imF (is.take k)) [] ⟨rfl, rfl, rfl, rfl⟩ (by simp [imF]) ?_
  intro k s hk hs
  conv => whnf
  refine asplit ?_ ?_ <;> intro h1 <;> conv => whnf
  · have hk1 := ix_tt h1 (by simp) hk (by omega)
    obtain ⟨b, hb1⟩ : ∃ b, is[k]? = some b := ⟨_, List.getElem?_eq_getElem hk1⟩
    refine aidxk (x := eIm b) (by simp [hb1]) (by omega) ?_
    have hts : imF (is.take (k + 1)) = imF (is.take k) ++ b.funcs := by rw [take_snoc hb1, imF_snoc]
    have htl := imF_take is (k + 1)
    rw [hts, ← hs, List.length_append] at htl
    obtain ⟨b1, b2, b3⟩ := b
    conv => whnf
    refine aneed (show ((s.map eFu).length + (b3.map eFu).length) * 272 ≤ 140737488355328 by simp at htl ⊢; omega) ?_
    conv => whnf
    refine ⟨hk1, s ++ b3, ⟨rfl, ?_, rfl, rfl⟩, by rw [hs, hts]⟩
    rw [List.map_append]; rfl
  · have hk1 := ix_ff h1 (by simp) hk (by omega)
    have hs2 : s = imF is := by rw [hs, hk1, List.take_length]
    subst hs2
    refine aneed (show (((imF is).map eFu).length + (fs.map eFu).length) * 272 ≤ 140737488355328 by simp; omega) ?_
    conv => whnf
    rw [List.map_append]
    exact .inl rfl
/-- tree.Bodies -/
theorem bodies_spec (p : Pg) (hp : wPg p ≤ 1048576) : APure Try.prog 63 [.p (ePg p)] (.p (.sl 8 (eEs (bodiesF p)))) := by
  have hw := wPg_eq p
  have hl1 := ims_len p.impls
  have hl2 := fus_len p.funcs
  have hl3 := fus_len (imF p.impls)
  have hl4 := imF_wts p.impls
  have hl5 := acs_len p.actors
  rw [bodiesF, funsF, List.map_append]
  generalize wPg p = W0 at *
  obtain ⟨nm, ver, us, ds, ts, is, fs, acs⟩ := p
  simp only at *
  refine APure.intro (tyOf_ok Try.prog) hmix Try.func63 rfl (by rfl) (by kernel_rfl) (by show 1 ≤ _; decide) rfl ?_
  conv => whnf
  refine lp_nil 3 7 rfl ?_
  refine loopS (tyOf_ok _) hmix (by kernel_rfl) is.length [1, 3, 13, 14, 15] [1] (fun k (s : List Ex) => [.ptr 1 0, .so 8 (eEs s), .p (.sl 3 (is.map eIm)), .p (.i .i64 (is.map eIm).length), .p (.i .i64 (ix k))])
    (fun _ _ => [.cells [.p (.s nm), .p (.i .i64 ver), .p (.sl 3 us), .p (.sl 3 (ds.map eDt)), .p (.sl 2 (ts.map eTr)), .p (.sl 3 (is.map eIm)), .p (.sl 15 (fs.map eFu)), .p (.sl 14 (acs.map eAc))]]) (fun k s => s = (imF (is.take k)).map (·.body)) [] ⟨rfl, rfl, rfl, rfl⟩ (by simp [imF]) ?_
  intro k s hk hs
  conv => whnf
  refine asplit ?_ ?_ <;> intro h1 <;> conv => whnf
  · have hk1 := ix_tt h1 (by simp) hk (by omega)
    obtain ⟨b, hb1⟩ : ∃ b, is[k]? = some b := ⟨_, List.getElem?_eq_getElem hk1⟩
    refine aidxk (x := eIm b) (by simp [hb1]) (by omega) ?_
    have hts : imF (is.take (k + 1)) = imF (is.take k) ++ b.funcs := by rw [take_snoc hb1, imF_snoc]
    have htl := imF_take is (k + 1)
    rw [hts, List.length_append] at htl
    obtain ⟨b1, b2, b3⟩ := b
    simp only at htl hts
    conv => whnf
    refine loopS (tyOf_ok _) hmix (by kernel_rfl) b3.length [1, 3, 13, 14, 15, 20, 21, 22] [1] (fun j (s : List Ex) => [.ptr 1 0, .so 8 (eEs s), .p (.sl 3 (is.map eIm)), .p (.i .i64 (is.map eIm).length), .p (.i .i64 (ix k)), .p (.sl 15 (b3.map eFu)), .p (.i .i64 (b3.map eFu).length), .p (.i .i64 (ix j))])
      (fun _ _ => [.cells [.p (.s nm), .p (.i .i64 ver), .p (.sl 3 us), .p (.sl 3 (ds.map eDt)), .p (.sl 2 (ts.map eTr)), .p (.sl 3 (is.map eIm)), .p (.sl 15 (fs.map eFu)), .p (.sl 14 (acs.map eAc))]]) (fun j s' => s' = s ++ (b3.take j).map (·.body)) s ⟨rfl, rfl, rfl, rfl⟩ (by simp) ?_
    intro j s2 hj hs2
    have hsl : s2.length ≤ 1048576 := by rw [hs2, hs]; simp; omega
    conv => whnf
    refine asplit ?_ ?_ <;> intro h2 <;> conv => whnf
    · have hj1 := ix_tt h2 (by simp) hj (by omega)
      obtain ⟨c, hc1⟩ : ∃ b, b3[j]? = some b := ⟨_, List.getElem?_eq_getElem hj1⟩
      refine aidxk (x := eFu c) (by simp [hc1]) (by omega) ?_
      have hts2 : (b3.take (j + 1)).map (·.body) = (b3.take j).map (·.body) ++ [c.body] := by rw [take_snoc hc1, List.map_append]; rfl
      obtain ⟨a1, a2, a3, a4, a5, a6, a7, ⟨c1, c2, c3, c4, c5, c6, c7, c8⟩⟩ := c
      conv => whnf
      refine aneed (show ((eEs s2).length + 1) * 136 ≤ 140737488355328 by rw [eEs_len]; omega) ?_
      conv => whnf
      refine ⟨hj1, s2 ++ [.mk c1 c2 c3 c4 c5 c6 c7 c8], ⟨rfl, ?_, rfl, rfl⟩, by rw [hs2, hts2]; simp⟩
      rw [eEs_app]; rfl
    · have hj1 := ix_ff h2 (by simp) hj (by omega)
      rw [hj1, List.take_length] at hs2
      exact ⟨hk1, s2, ⟨rfl, rfl, rfl, rfl⟩, by rw [hs2, hts, hs]; simp⟩
  · have hk1 := ix_ff h1 (by simp) hk (by omega)
    have hs2 : s = (imF is).map (·.body) := by rw [hs, hk1, List.take_length]
    have hsL : s.length ≤ 1048576 := by rw [hs2]; simp; omega
    rw [← hs2]
    refine loopS (tyOf_ok _) hmix (by kernel_rfl) fs.length [1, 3, 34, 35, 36] [1] (fun k (s : List Ex) => [.ptr 1 0, .so 8 (eEs s), .p (.sl 15 (fs.map eFu)), .p (.i .i64 (fs.map eFu).length), .p (.i .i64 (ix k))])
      (fun _ _ => [.cells [.p (.s nm), .p (.i .i64 ver), .p (.sl 3 us), .p (.sl 3 (ds.map eDt)), .p (.sl 2 (ts.map eTr)), .p (.sl 3 (is.map eIm)), .p (.sl 15 (fs.map eFu)), .p (.sl 14 (acs.map eAc))]])
      (fun k s' => s' = s ++ (fs.take k).map (·.body)) s ⟨rfl, rfl, rfl, rfl⟩ (by simp) ?_
    intro j s3 hj hs3
    have hsl : s3.length ≤ 2097152 := by rw [hs3]; simp; omega
    conv => whnf
    refine asplit ?_ ?_ <;> intro h2 <;> conv => whnf
    · have hj1 := ix_tt h2 (by simp) hj (by omega)
      obtain ⟨c, hc1⟩ : ∃ b, fs[j]? = some b := ⟨_, List.getElem?_eq_getElem hj1⟩
      refine aidxk (x := eFu c) (by simp [hc1]) (by omega) ?_
      have hts2 : (fs.take (j + 1)).map (·.body) = (fs.take j).map (·.body) ++ [c.body] := by rw [take_snoc hc1, List.map_append]; rfl
      obtain ⟨a1, a2, a3, a4, a5, a6, a7, ⟨c1, c2, c3, c4, c5, c6, c7, c8⟩⟩ := c
      conv => whnf
      refine aneed (show ((eEs s3).length + 1) * 136 ≤ 140737488355328 by rw [eEs_len]; omega) ?_
      conv => whnf
      refine ⟨hj1, s3 ++ [.mk c1 c2 c3 c4 c5 c6 c7 c8], ⟨rfl, ?_, rfl, rfl⟩, by rw [hs3, hts2]; simp⟩
      rw [eEs_app]; rfl
    · have hj1 := ix_ff h2 (by simp) hj (by omega)
      rw [hj1, List.take_length] at hs3
      have hsl3 : s3.length ≤ 2097152 := by rw [hs3]; simp; omega
      rw [← hs3]
      refine loopS (tyOf_ok _) hmix (by kernel_rfl) acs.length [3, 47, 48, 49] [] (fun k (s : List Ex) => [.so 8 (eEs s), .p (.sl 14 (acs.map eAc)), .p (.i .i64 (acs.map eAc).length), .p (.i .i64 (ix k))]) (fun _ _ => [])
        (fun k s => s = s3 ++ (acs.take k).map (·.body)) s3 ⟨rfl, rfl, rfl, rfl⟩ (by simp) ?_
      intro i s4 hi hs4
      have hsl : s4.length ≤ 4194304 := by rw [hs4]; simp; omega
      conv => whnf
      refine asplit ?_ ?_ <;> intro h3 <;> conv => whnf
      · have hi1 := ix_tt h3 (by simp) hi (by omega)
        obtain ⟨c, hc1⟩ : ∃ b, acs[i]? = some b := ⟨_, List.getElem?_eq_getElem hi1⟩
        refine aidxk (x := eAc c) (by simp [hc1]) (by omega) ?_
        have hts2 : (acs.take (i + 1)).map (·.body) = (acs.take i).map (·.body) ++ [c.body] := by rw [take_snoc hc1, List.map_append]; rfl
        obtain ⟨a1, a2, a4, a5, a6, a7, ⟨c1, c2, c3, c4, c5, c6, c7, c8⟩⟩ := c
        conv => whnf
        refine aneed (show ((eEs s4).length + 1) * 136 ≤ 140737488355328 by rw [eEs_len]; omega) ?_
        conv => whnf
        refine ⟨hi1, s4 ++ [.mk c1 c2 c3 c4 c5 c6 c7 c8], ⟨rfl, ?_, rfl, rfl⟩, by rw [hs4, hts2]; simp⟩
        rw [eEs_app]; rfl
      · have hi1 := ix_ff h3 (by simp) hi (by omega)
        rw [hi1, List.take_length] at hs4
        rw [← hs4]
        exact .inr (.inl rfl)
end TR
