/-
  DERIVED. Contracts of the functions that the law reaches, and the law itself, for every input. No conditions.
-/
import Derived.Test.YtfikmccicklonaaEF3
open Go Go.AM Go.Proofs
set_option maxRecDepth 100000
namespace TR
theorem mapF_wts : ∀ (l : List Fu), PV.wts (eEs (l.map (·.body))) ≤ PV.wts (l.map eFu)
  | [] => by simp [eEs]
  | f :: r => by
    have := mapF_wts r; have h := wFu f; unfold wE at h
    simp only [List.map_cons, eEs, PV.wts]; omega
theorem mapA_wts : ∀ (l : List Ac), PV.wts (eEs (l.map (·.body))) ≤ PV.wts (l.map eAc)
  | [] => by simp [eEs]
  | f :: r => by
    have := mapA_wts r; have h := wAc f; unfold wE at h
    simp only [List.map_cons, eEs, PV.wts]; omega
theorem bodies_wts (p : Pg) : PV.wts (eEs (bodiesF p)) ≤ wPg p := by
  have h1 := mapF_wts (funsF p)
  have h2 := mapA_wts p.actors
  rw [bodiesF, eEs_app, PV.wts_append]
  have h3 : PV.wts ((funsF p).map eFu) = PV.wts ((imF p.impls).map eFu) + PV.wts (p.funcs.map eFu) := by rw [funsF, List.map_append, PV.wts_append]
  have h4 := imF_wts p.impls
  have := wPg_eq p
  omega
/-- the equations of the function values -/
def valX (l : List Ex) : List Qn := (l.filter (fun x => x.kind == 10)).map ofF
def valsF (l : List Ex) : List Qn := l.flatMap (fun b => valX (walkF b))
theorem valX_snoc (l : List Ex) (x : Ex) : valX (l ++ [x]) = valX l ++ (bif x.kind == 10 then [ofF x] else []) := by
  unfold valX; rw [List.filter_append]; cases h : x.kind == 10 <;> simp [List.filter_cons, h]
theorem valX_len (l : List Ex) : (valX l).length ≤ l.length := by unfold valX; simp; exact List.length_filter_le _ _
theorem valsF_snoc (l : List Ex) (x : Ex) : valsF (l ++ [x]) = valsF l ++ valX (walkF x) := by simp [valsF]
theorem valsF_len : ∀ (l : List Ex), (valsF l).length ≤ PV.wts (eEs l)
  | [] => by simp [valsF]
  | e :: r => by
    have h1 := valsF_len r; have h2 := valX_len (walkF e); have h3 := walk_le e; have h4 := size_le e
    unfold wE at h4
    simp only [valsF, List.flatMap_cons, List.length_append, eEs, PV.wts] at *; omega
theorem valsF_take (l : List Ex) (k : Nat) : (valsF (l.take k)).length ≤ (valsF l).length := by
  have : valsF l = valsF (l.take k) ++ valsF (l.drop k) := by unfold valsF; rw [← List.flatMap_append, List.take_append_drop]
  rw [this]; simp
theorem ofF_own (e : Ex) : (ofF e).own < 128 := ownF_lt e
theorem valX_own {l : List Ex} {q : Qn} (h : q ∈ valX l) : q.own < 128 := by
  obtain ⟨x, _, rfl⟩ := List.mem_map.1 h; exact ofF_own x
theorem valsF_own {l : List Ex} {q : Qn} (h : q ∈ valsF l) : q.own < 128 := by
  obtain ⟨x, _, h⟩ := List.mem_flatMap.1 h; exact valX_own h
def eqF (f : Fu) : ByteArray × Qn := (f.name, ofF f.body)
def solveF (p : Pg) : Sol := iterF ((funsF p).map eqF) (valsF (bodiesF p)) (127 * ((funsF p).length + 1) + 1) ⟨[], 0⟩
def hpV (s : Sol) : Heap := [(59, .map .ks (eM vN s.m))]
theorem beq_cast (a b : Nat) : (((a : Nat) : Int) == (b : Int)) = (a == b) := by
  cases h : a == b with
  | true => simp at h ⊢; omega
  | false => simp at h ⊢; omega
theorem solve_spec (p : Pg) (hp : wPg p ≤ 1048576) : AMem Try.prog 36 [.p (ePg p)] [] (.agg [.mp 59, .p (.i .i64 (solveF p).a)]) (hpV (solveF p)) := by
  have h0 := funsE_spec p hp
  have h1 := bodies_spec p hp
  have hF := funsF_wts p
  have hFl := fus_len (funsF p)
  have hB := bodies_wts p
  have hBl := wEs_len (bodiesF p)
  have hV := valsF_len (bodiesF p)
  have hbm := fun e (h : e ∈ bodiesF p) => bodies_mem h
  have hfm : ∀ f ∈ funsF p, wE f.body ≤ wPg p := fun f hf => by
    have := map_mem eFu hf; rw [wFu] at this; omega
  generalize hR : solveF p = R
  rw [solveF] at hR
  generalize funsF p = F at *
  generalize bodiesF p = Bs at *
  generalize wPg p = W0 at *
  obtain ⟨nm, ver, us, ds, ts, is, fs, acs⟩ := p
  refine AMem.intro (tyOf_ok Try.prog) hmix Try.func36 rfl (by rfl) (by kernel_rfl) (by show 1 ≤ _; decide) rfl ?_
  conv => whnf
  refine apc h0 ?_
  conv => whnf
  refine lp_nil 4 2 rfl ?_
  refine lp_nil 5 2 rfl ?_
  refine loopS (tyOf_ok _) hmix (by kernel_rfl) F.length [1, 2, 3, 4, 5, 22, 23, 24] [1, 2] (fun k (s : List Qn) => [.ptr 1 0, .ptr 2 0, .so 15 (F.map eFu), .so 3 (s.map eQ), .so 3 [], .p (.sl 15 (F.map eFu)), .p (.i .i64 (F.map eFu).length), .p (.i .i64 (ix k))])
    (fun _ _ => [.cells [.p (.s nm), .p (.i .i64 ver), .p (.sl 3 us), .p (.sl 3 (ds.map eDt)), .p (.sl 2 (ts.map eTr)), .p (.sl 3 (is.map eIm)), .p (.sl 15 (fs.map eFu)), .p (.sl 14 (acs.map eAc))], .cells [.c (.map none), .p (.i .i64 0)]])
    (fun k s => s = (F.take k).map (fun f => ofF f.body)) [] ⟨rfl, rfl, rfl, rfl⟩ (by simp) ?_
  intro k s hk hs
  have hsl : s.length ≤ 1048576 := by rw [hs]; simp; omega
  conv => whnf
  refine asplit ?_ ?_ <;> intro g1 <;> conv => whnf
  · have hk1 := ix_tt g1 (by simp) hk (by omega)
    obtain ⟨b, hb1⟩ : ∃ b, F[k]? = some b := ⟨_, List.getElem?_eq_getElem hk1⟩
    refine aidxk (x := eFu b) (by simp [hb1]) (by omega) ?_
    have hc := of_spec b.body (by have := hfm b (List.mem_of_getElem? hb1); omega)
    have hts : (F.take (k + 1)).map (fun f => ofF f.body) = (F.take k).map (fun f => ofF f.body) ++ [ofF b.body] := by rw [take_snoc hb1, List.map_append]; rfl
    generalize ofF b.body = q at hc hts
    obtain ⟨q1, q2, q3⟩ := q
    obtain ⟨a1, a2, a3, a4, a5, a6, a7, ⟨c1, c2, c3, c4, c5, c6, c7, c8⟩⟩ := b
    conv => whnf
    refine apc hc ?_
    conv => whnf
    refine aneed (show ((s.map eQ).length + 1) * 40 ≤ 140737488355328 by simp; omega) ?_
    conv => whnf
    refine ⟨hk1, s ++ [⟨q1, q2, q3⟩], ⟨rfl, ?_, rfl, rfl⟩, by rw [hs, hts]⟩
    rw [List.map_append]; rfl
  have hk1 := ix_ff g1 (by simp) hk (by omega)
  have hs2 : s = F.map (fun f => ofF f.body) := by rw [hs, hk1, List.take_length]
  clear hs hsl
  subst hs2
  refine apc h1 ?_
  conv => whnf
  refine loopS (tyOf_ok _) hmix (by kernel_rfl) Bs.length [2, 3, 4, 5, 36, 37, 38] [2] (fun k (s : List Qn) => [.ptr 2 0, .so 15 (F.map eFu), .so 3 ((F.map (fun f => ofF f.body)).map eQ), .so 3 (s.map eQ), .p (.sl 8 (eEs Bs)), .p (.i .i64 (eEs Bs).length), .p (.i .i64 (ix k))])
    (fun _ _ => [.cells [.c (.map none), .p (.i .i64 0)]]) (fun k s => s = valsF (Bs.take k)) [] ⟨rfl, rfl, rfl, rfl⟩ (by simp [valsF]) ?_
  intro j s hj hs
  conv => whnf
  refine asplit ?_ ?_ <;> intro g2 <;> conv => whnf
  · have hj1 := ix_tt g2 (by rw [eEs_len]) hj (by omega)
    obtain ⟨b, hb1⟩ : ∃ b, Bs[j]? = some b := ⟨_, List.getElem?_eq_getElem hj1⟩
    refine aidxk (eEs_get hb1) (by omega) ?_
    have hbw := hbm b (List.mem_of_getElem? hb1)
    have hc := walk_spec b (by omega)
    have hwm := fun x (h : x ∈ walkF b) => walk_mem b h
    have hwl := walk_le b
    have hws := size_le b
    have hts : valsF (Bs.take (j + 1)) = valsF (Bs.take j) ++ valX (walkF b) := by rw [take_snoc hb1, valsF_snoc]
    have htl := valsF_take Bs j
    generalize walkF b = L at *
    generalize hwb : wE b = wb at *
    clear hwb
    obtain ⟨c1, c2, c3, c4, c5, c6, c7, c8⟩ := b
    conv => whnf
    refine apc hc ?_
    conv => whnf
    refine loopS (tyOf_ok _) hmix (by kernel_rfl) L.length [2, 3, 4, 5, 36, 37, 38, 43, 44, 45] [2] (fun i (s : List Qn) => [.ptr 2 0, .so 15 (F.map eFu), .so 3 ((F.map (fun f => ofF f.body)).map eQ), .so 3 (s.map eQ), .p (.sl 8 (eEs Bs)), .p (.i .i64 (eEs Bs).length), .p (.i .i64 (ix j)), .p (.sl 8 (eEs L)), .p (.i .i64 (eEs L).length), .p (.i .i64 (ix i))])
      (fun _ _ => [.cells [.c (.map none), .p (.i .i64 0)]]) (fun i s' => s' = s ++ valX (L.take i)) s ⟨rfl, rfl, rfl, rfl⟩ (by simp [valX]) ?_
    intro i s2 hi hs2
    have hsl : s2.length ≤ 4194304 := by rw [hs2, hs]; have := valX_len (L.take i); simp at *; omega
    conv => whnf
    refine asplit ?_ ?_ <;> intro g3 <;> conv => whnf
    · have hi1 := ix_tt g3 (by rw [eEs_len]) hi (by omega)
      obtain ⟨x, hx1⟩ : ∃ b, L[i]? = some b := ⟨_, List.getElem?_eq_getElem hi1⟩
      refine aidxk (eEs_get hx1) (by omega) ?_
      have hxw := hwm x (List.mem_of_getElem? hx1)
      have hc2 := of_spec x (by omega)
      have hts2 : valX (L.take (i + 1)) = valX (L.take i) ++ (bif x.kind == 10 then [ofF x] else []) := by rw [take_snoc hx1, valX_snoc]
      generalize ofF x = q at hc2 hts2
      obtain ⟨q1, q2, q3⟩ := q
      obtain ⟨x1, x2, x3, x4, x5, x6, x7, x8⟩ := x
      simp only [Ex.kind] at hts2
      conv => whnf
      refine asplit ?_ ?_ <;> intro g4 <;> conv => whnf
      · replace g4 : (x1 == 10) = true := g4
        rw [g4] at hts2
        refine apc hc2 ?_
        conv => whnf
        refine aneed (show ((s2.map eQ).length + 1) * 40 ≤ 140737488355328 by simp; omega) ?_
        conv => whnf
        refine ⟨hi1, s2 ++ [⟨q1, q2, q3⟩], ⟨rfl, ?_, rfl, rfl⟩, by rw [hs2, hts2]; simp⟩
        rw [List.map_append]; rfl
      · replace g4 : (x1 == 10) = false := g4
        rw [g4] at hts2
        exact ⟨hi1, s2, ⟨rfl, rfl, rfl, rfl⟩, by rw [hs2, hts2]; simp⟩
    · have hi1 := ix_ff g3 (by rw [eEs_len]) hi (by omega)
      rw [hi1, List.take_length] at hs2
      exact ⟨hj1, s2, ⟨rfl, rfl, rfl, rfl⟩, by rw [hs2, hts, hs]⟩
  have hj1 := ix_ff g2 (by rw [eEs_len]) hj (by omega)
  have hs2 : s = valsF Bs := by rw [hs, hj1, List.take_length]
  clear hs
  have hvo : ∀ q ∈ s, q.own < 128 := fun q hq => by rw [hs2] at hq; exact valsF_own hq
  have hvc : ∀ q ∈ s, q.calls.length ≤ 2097152 := fun q hq => by
    rw [hs2] at hq
    obtain ⟨x, hx, h⟩ := List.mem_flatMap.1 hq
    obtain ⟨y, hy, rfl⟩ := List.mem_map.1 h
    have h1 := walk_mem x (List.mem_filter.1 hy).1
    have h2 := hbm x hx
    have h3 := calls_len y
    show (callsF y).length ≤ _
    omega
  have hfo : ∀ f ∈ F.map eqF, f.2.own < 128 := fun f hf => by obtain ⟨x, _, rfl⟩ := List.mem_map.1 hf; exact ofF_own _
  rw [← hs2] at hR hV
  clear hs2 hj hk
  have hRS := fun t => rnd_stp hfo hvo t
  have hFE : (F.map eqF).length = F.length := by simp
  have hml := fun t (ht : WF t) => μ_le (fs := F.map eqF) ht
  rw [hFE] at hml
  refine loopS (tyOf_ok _) hmix (by kernel_rfl) (127 * (F.length + 1) + 1) [2, 3, 4, 5, 12, 13] [2, 12, 59] (fun k (σ : Sol × Bool) => [.ptr 2 0, .so 15 (F.map eFu), .so 3 ((F.map (fun f => ofF f.body)).map eQ), .so 3 (s.map eQ), .ptr 12 0, .p (.b σ.2)])
    (fun _ σ => [.cells [.c (.map none), .p (.i .i64 0)], .cells [.mp 59, .p (.i .i64 σ.1.a)], .map .ks (eM vN σ.1.m)])
    (fun k σ => WF σ.1 ∧ (σ.2 = true → k ≤ μ (F.map eqF) σ.1 ∧ iterF (F.map eqF) s (127 * (F.length + 1) + 1 - k) σ.1 = R) ∧ (σ.2 = false → σ.1 = R)) (⟨[], 0⟩, true) ⟨rfl, rfl, rfl, rfl⟩ ⟨⟨fun _ => by simp [nv, slook], by decide⟩, fun _ => ⟨by omega, hR⟩, fun h => by cases h⟩ ?_
  rintro k ⟨⟨m0, a0⟩, ag⟩ hk ⟨hw, hq1, hq2⟩
  conv => whnf
  refine asplit ?_ ?_ <;> intro g3 <;> conv => whnf
  · subst g3
    obtain ⟨hkm, hit⟩ := hq1 rfl
    have hkn : k < 127 * (F.length + 1) + 1 := by have := hml _ hw; omega
    obtain ⟨n, hn⟩ : ∃ n, 127 * (F.length + 1) + 1 - k = n + 1 := ⟨127 * (F.length + 1) - k, by omega⟩
    have hn2 : 127 * (F.length + 1) + 1 - (k + 1) = n := by omega
    rw [hn, iterF] at hit
    have hr := hRS ⟨m0, a0⟩
    have hgo := hr.go
    have hwf := hr.wf hw
    clear hr
    rw [rndF, List.foldl_map] at hit hgo hwf
    refine loopS (tyOf_ok _) hmix (by kernel_rfl) F.length [2, 3, 4, 5, 12, 13, 62, 63, 64] [2, 12, 59] (fun j (σ : Sol × Bool) => [.ptr 2 0, .so 15 (F.map eFu), .so 3 ((F.map (fun f => ofF f.body)).map eQ), .so 3 (s.map eQ), .ptr 12 0, .p (.b σ.2), .p (.sl 15 (F.map eFu)), .p (.i .i64 (F.map eFu).length), .p (.i .i64 (ix j))])
      (fun _ σ => [.cells [.c (.map none), .p (.i .i64 0)], .cells [.mp 59, .p (.i .i64 σ.1.a)], .map .ks (eM vN σ.1.m)])
      (fun j σ => WF σ.1 ∧ σ = (F.take j).foldl (fun x y => fstep x (eqF y)) (⟨m0, a0⟩, false)) (⟨m0, a0⟩, false) ⟨rfl, rfl, rfl, rfl⟩ ⟨hw, rfl⟩ ?_
    rintro j ⟨⟨m1, a1⟩, ag1⟩ hj ⟨hw1, hs1⟩
    conv => whnf
    refine asplit ?_ ?_ <;> intro g4 <;> conv => whnf
    · have hj1 := ix_tt g4 (by simp) hj (by omega)
      obtain ⟨b, hb1⟩ : ∃ b, F[j]? = some b := ⟨_, List.getElem?_eq_getElem hj1⟩
      refine aidxk (x := eFu b) (by simp [hb1]) (by omega) ?_
      have hts : (F.take (j + 1)).foldl (fun x y => fstep x (eqF y)) (⟨m0, a0⟩, false) = fstep (⟨m1, a1⟩, ag1) (eqF b) := by rw [take_snoc hb1, List.foldl_append, ← hs1]; rfl
      have hst := fstep_stp (fs := F.map eqF) (⟨m1, a1⟩, ag1) (f := eqF b) (List.mem_map.2 ⟨b, List.mem_of_getElem? hb1, rfl⟩) (ofF_own b.body)
      have hbw := hfm b (List.mem_of_getElem? hb1)
      have hcl := calls_len b.body
      have hc := sol_spec m1 a1 (ofF b.body) hw1.1 hw1.2 (ofF_own _) (by show (callsF b.body).length ≤ _; omega)
      have hslt := solF_lt hw1.1 hw1.2 (ofF_own b.body)
      have hget : ((F.map (fun f => ofF f.body)).map eQ)[j]? = some (eQ (ofF b.body)) := by simp [hb1]
      have hwf2 := hst.wf hw1
      rw [eqF, fstep] at hts hwf2
      simp only at hts hwf2
      clear hst
      generalize ofF b.body = q at *
      obtain ⟨q1, q2, q3⟩ := q
      generalize solF m1 a1 ⟨q1, q2, q3⟩ = z at *
      have hnv := hw1.1 b.name
      obtain ⟨a1', a2, a3, a4, a5, a6, a7, ⟨c1, c2, c3, c4, c5, c6, c7, c8⟩⟩ := b
      simp only at hts hwf2 hnv
      conv => whnf
      refine alook (mlook_N a1' m1) ?_
      conv => whnf
      refine aidxk hget (by omega) ?_
      conv => whnf
      refine amr [59] 10000 hc ?_
      conv => whnf
      refine aneed (by kernel_rfl) ?_
      conv => whnf
      refine alook (mlook_N a1' m1) ?_
      conv => whnf
      refine asplit ?_ ?_ <;> intro g5 <;> conv => whnf
      · replace g5 : (bitI .or .i64 (nv m1 a1' : Int) (z : Int) != (nv m1 a1' : Int)) = true := g5
        rw [orI hnv hslt] at g5
        have g6 : ((nv m1 a1' ||| z) == nv m1 a1') = false := by rw [← beq_cast]; simpa using g5
        rw [g6, cond_false] at hts hwf2
        refine ⟨hj1, (⟨sput a1' (nv m1 a1' ||| z) m1, a1⟩, true), ⟨?_, rfl, rfl, rfl⟩, hwf2, hts.symm⟩
        simp only
        rw [← mput_eM, vN, ← orI hnv hslt]; rfl
      · replace g5 : (bitI .or .i64 (nv m1 a1' : Int) (z : Int) != (nv m1 a1' : Int)) = false := g5
        rw [orI hnv hslt] at g5
        have g6 : ((nv m1 a1' ||| z) == nv m1 a1') = true := by rw [← beq_cast]; simpa using g5
        rw [g6, cond_true] at hts hwf2
        exact ⟨hj1, (⟨m1, a1⟩, ag1), ⟨rfl, rfl, rfl, rfl⟩, hw1, hts.symm⟩
    have hj1 := ix_ff g4 (by simp) hj (by omega)
    rw [hj1, List.take_length] at hs1
    rw [← hs1] at hit hgo hwf
    refine loopS (tyOf_ok _) hmix (by kernel_rfl) s.length [2, 3, 4, 5, 12, 13, 94, 95, 96] [2, 12, 59] (fun j (σ : Sol × Bool) => [.ptr 2 0, .so 15 (F.map eFu), .so 3 ((F.map (fun f => ofF f.body)).map eQ), .so 3 (s.map eQ), .ptr 12 0, .p (.b σ.2), .p (.sl 3 (s.map eQ)), .p (.i .i64 (s.map eQ).length), .p (.i .i64 (ix j))])
      (fun _ σ => [.cells [.c (.map none), .p (.i .i64 0)], .cells [.mp 59, .p (.i .i64 σ.1.a)], .map .ks (eM vN σ.1.m)])
      (fun j σ => WF σ.1 ∧ σ = (s.take j).foldl vstep (⟨m1, a1⟩, ag1)) (⟨m1, a1⟩, ag1) ⟨rfl, rfl, rfl, rfl⟩ ⟨hw1, rfl⟩ ?_
    rintro i ⟨⟨m2, a2⟩, ag2⟩ hi ⟨hw2, hs2⟩
    conv => whnf
    refine asplit ?_ ?_ <;> intro g5 <;> conv => whnf
    · have hi1 := ix_tt g5 (by simp) hi (by omega)
      obtain ⟨q, hb1⟩ : ∃ b, s[i]? = some b := ⟨_, List.getElem?_eq_getElem hi1⟩
      refine aidxk (x := eQ q) (by simp [hb1]) (by omega) ?_
      have hts : (s.take (i + 1)).foldl vstep (⟨m1, a1⟩, ag1) = vstep (⟨m2, a2⟩, ag2) q := by rw [take_snoc hb1, List.foldl_append, ← hs2]; rfl
      have hst := vstep_stp (fs := F.map eqF) (⟨m2, a2⟩, ag2) (hvo q (List.mem_of_getElem? hb1))
      have hc := sol_spec m2 a2 q hw2.1 hw2.2 (hvo q (List.mem_of_getElem? hb1)) (hvc q (List.mem_of_getElem? hb1))
      have hslt := solF_lt hw2.1 hw2.2 (hvo q (List.mem_of_getElem? hb1))
      have hwf2 := hst.wf hw2
      rw [vstep] at hts hwf2
      simp only at hts hwf2
      clear hst
      obtain ⟨q1, q2, q3⟩ := q
      generalize solF m2 a2 ⟨q1, q2, q3⟩ = z at *
      have hnv : a2 < 128 := hw2.2
      conv => whnf
      refine amr [59] 10000 hc ?_
      conv => whnf
      refine aneed (by kernel_rfl) ?_
      conv => whnf
      refine asplit ?_ ?_ <;> intro g7 <;> conv => whnf
      · replace g7 : (bitI .or .i64 (a2 : Int) (z : Int) != (a2 : Int)) = true := g7
        rw [orI hnv hslt] at g7
        have g6 : ((a2 ||| z) == a2) = false := by rw [← beq_cast]; simpa using g7
        rw [g6, cond_false] at hts hwf2
        refine ⟨hi1, (⟨m2, a2 ||| z⟩, true), ⟨?_, rfl, rfl, rfl⟩, hwf2, hts.symm⟩
        simp only
        rw [← orI hnv hslt]; rfl
      · replace g7 : (bitI .or .i64 (a2 : Int) (z : Int) != (a2 : Int)) = false := g7
        rw [orI hnv hslt] at g7
        have g6 : ((a2 ||| z) == a2) = true := by rw [← beq_cast]; simpa using g7
        rw [g6, cond_true] at hts hwf2
        exact ⟨hi1, (⟨m2, a2⟩, ag2), ⟨rfl, rfl, rfl, rfl⟩, hw2, hts.symm⟩
    have hi1 := ix_ff g5 (by simp) hi (by omega)
    rw [hi1, List.take_length] at hs2
    rw [← hs2] at hit hgo hwf
    refine ⟨hkn, (⟨m2, a2⟩, ag2), ⟨rfl, rfl, rfl, rfl⟩, hwf, fun hag => ?_, fun hag => ?_⟩
    · simp only at hag
      subst hag
      refine ⟨?_, by rw [hn2]; exact hit⟩
      rcases hgo with q | ⟨_, q⟩
      · cases q
      · have := q hw; simp only at this hkm ⊢; omega
    · simp only at hag
      subst hag
      exact hit
  · subst g3
    have := hq2 rfl
    subst this
    exact ⟨.inl rfl, ⟨rfl, rfl⟩, trivial⟩
end TR
