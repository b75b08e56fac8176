/-
  DERIVED. Contracts of the functions that the law reaches, and the law itself, for every input. No conditions.
-/
import Derived.Test.YtfikmccicklonaaTR7
open Go Go.AM Go.Proofs
set_option maxRecDepth 100000
namespace TR
/-! programs; what is not read stays raw -/
structure Fu where
  name : ByteArray
  ps : List PV
  ns : List PV
  ts : List PV
  ok : Int
  on : ByteArray
  oa : List PV
  body : Ex
structure Im where
  tr : ByteArray
  fo : ByteArray
  funcs : List Fu
structure Mk where
  name : ByteArray
  ts : List PV
structure Dt where
  name : ByteArray
  ps : List PV
  makes : List Mk
structure Tr where
  name : ByteArray
  funcs : List Fu
structure Ac where
  name : ByteArray
  ns : List PV
  ts : List PV
  mi : Int
  mn : ByteArray
  ma : List PV
  body : Ex
structure Pg where
  name : ByteArray
  ver : Int
  uses : List PV
  datas : List Dt
  traits : List Tr
  impls : List Im
  funcs : List Fu
  actors : List Ac
def eFu (f : Fu) : PV := .agg (.s f.name :: .sl 1 f.ps :: .sl 1 f.ns :: .sl 3 f.ts :: .i .i64 f.ok :: .s f.on :: .sl 3 f.oa :: (eE f.body).cells)
def eIm (m : Im) : PV := .agg [.s m.tr, .s m.fo, .sl 15 (m.funcs.map eFu)]
def eMk (m : Mk) : PV := .agg [.s m.name, .sl 3 m.ts]
def eDt (m : Dt) : PV := .agg [.s m.name, .sl 1 m.ps, .sl 2 (m.makes.map eMk)]
def eTr (m : Tr) : PV := .agg [.s m.name, .sl 15 (m.funcs.map eFu)]
def eAc (f : Ac) : PV := .agg (.s f.name :: .sl 1 f.ns :: .sl 3 f.ts :: .i .i64 f.mi :: .s f.mn :: .sl 3 f.ma :: (eE f.body).cells)
def ePg (p : Pg) : PV := .agg [.s p.name, .i .i64 p.ver, .sl 3 p.uses, .sl 3 (p.datas.map eDt), .sl 2 (p.traits.map eTr), .sl 3 (p.impls.map eIm), .sl 15 (p.funcs.map eFu), .sl 14 (p.actors.map eAc)]
def wPg (p : Pg) : Nat := PV.wt (ePg p)
theorem wFu (f : Fu) : PV.wt (eFu f) = f.name.size + f.on.size + PV.wts f.ps + PV.wts f.ns + PV.wts f.ts + PV.wts f.oa + 7 + wE f.body := by
  simp only [eFu, PV.wt, PV.wts, wt_cells]; unfold wE; omega
theorem wAc (f : Ac) : PV.wt (eAc f) = f.name.size + f.mn.size + PV.wts f.ns + PV.wts f.ts + PV.wts f.ma + 6 + wE f.body := by
  simp only [eAc, PV.wt, PV.wts, wt_cells]; unfold wE; omega
theorem wPg_eq (p : Pg) : wPg p = p.name.size + 8 + PV.wts p.uses + PV.wts (p.datas.map eDt) + PV.wts (p.traits.map eTr) + PV.wts (p.impls.map eIm) + PV.wts (p.funcs.map eFu) + PV.wts (p.actors.map eAc) := by
  simp only [wPg, ePg, PV.wt, PV.wts]; omega
theorem map_wts {α : Type} (f : α → PV) (h : ∀ x, 1 ≤ PV.wt (f x)) : ∀ (l : List α), l.length ≤ PV.wts (l.map f)
  | [] => by simp
  | x :: r => by have := h x; have := map_wts f h r; simp only [List.map_cons, PV.wts, List.length_cons]; omega
theorem fus_len (l : List Fu) : l.length ≤ PV.wts (l.map eFu) := map_wts eFu (fun x => by rw [wFu]; omega) l
theorem acs_len (l : List Ac) : l.length ≤ PV.wts (l.map eAc) := map_wts eAc (fun x => by rw [wAc]; omega) l
theorem ims_len (l : List Im) : l.length ≤ PV.wts (l.map eIm) := map_wts eIm (fun x => by simp only [eIm, PV.wt, PV.wts]; omega) l
theorem dts_len (l : List Dt) : l.length ≤ PV.wts (l.map eDt) := map_wts eDt (fun x => by simp only [eDt, PV.wt, PV.wts]; omega) l
theorem trs_len (l : List Tr) : l.length ≤ PV.wts (l.map eTr) := map_wts eTr (fun x => by simp only [eTr, PV.wt, PV.wts]; omega) l
theorem mks_len (l : List Mk) : l.length ≤ PV.wts (l.map eMk) := map_wts eMk (fun x => by simp only [eMk, PV.wt, PV.wts]; omega) l
theorem map_mem {α : Type} (f : α → PV) {x : α} {l : List α} (h : x ∈ l) : PV.wt (f x) ≤ PV.wts (l.map f) := wts_mem (List.mem_map.2 ⟨x, h, rfl⟩)

/-- FunsOf -/
def imF (l : List Im) : List Fu := l.flatMap (·.funcs)
def funsF (p : Pg) : List Fu := imF p.impls ++ p.funcs
theorem imF_wts : ∀ (l : List Im), PV.wts ((imF l).map eFu) ≤ PV.wts (l.map eIm)
  | [] => by simp [imF]
  | m :: r => by
    have := imF_wts r
    simp only [imF, List.flatMap_cons, List.map_append, List.map_cons, PV.wts_append, PV.wts] at this ⊢
    simp only [eIm, PV.wt, PV.wts] at this ⊢
    omega
theorem imF_snoc (l : List Im) (m : Im) : imF (l ++ [m]) = imF l ++ m.funcs := by simp [imF]
theorem imF_take (l : List Im) (k : Nat) : (imF (l.take k)).length ≤ (imF l).length := by
  have : imF l = imF (l.take k) ++ imF (l.drop k) := by unfold imF; rw [← List.flatMap_append, List.take_append_drop]
  rw [this]; simp
theorem funsF_wts (p : Pg) : PV.wts ((funsF p).map eFu) ≤ wPg p := by
  rw [funsF, List.map_append, PV.wts_append, wPg_eq]; have := imF_wts p.impls; omega
theorem funsOf_spec (p : Pg) (hp : wPg p ≤ 1048576) : APure Try.prog 14 [.p (ePg p)] (.so 15 ((funsF p).map eFu)) := by
  have hw := wPg_eq p
  have hl1 := ims_len p.impls
  have hl2 := fus_len p.funcs
  have hl3 := fus_len (imF p.impls)
  have hl4 := imF_wts p.impls
  obtain ⟨nm, ver, us, ds, ts, is, fs, acs⟩ := p
  simp only [funsF] at *
  refine APure.intro (tyOf_ok Try.prog) hmix Try.func14 rfl (by rfl) (by kernel_rfl) (by show 1 ≤ _; decide) rfl ?_
  conv => whnf
  refine lp_nil 3 14 rfl ?_
  refine loopS (tyOf_ok _) hmix (by kernel_rfl) is.length [1, 3, 7, 8, 9] [1] (fun k (s : List Fu) => [.ptr 1 0, .so 15 (s.map eFu), .p (.sl 3 (is.map eIm)), .p (.i .i64 (is.map eIm).length), .p (.i .i64 (ix k))])
    (fun _ _ => [.cells [.p (.s nm), .p (.i .i64 ver), .p (.sl 3 us), .p (.sl 3 (ds.map eDt)), .p (.sl 2 (ts.map eTr)), .p (.sl 3 (is.map eIm)), .p (.sl 15 (fs.map eFu)), .p (.sl 14 (acs.map eAc))]]) (fun k s => s = imF (is.take k)) [] ⟨rfl, rfl, rfl, rfl⟩ (by simp [imF]) ?_
  intro k s hk hs
  conv => whnf
  refine asplit ?_ ?_ <;> intro h1 <;> conv => whnf
  · have hk1 := ix_tt h1 (by simp) hk (by omega)
    obtain ⟨b, hb1⟩ : ∃ b, is[k]? = some b := ⟨_, List.getElem?_eq_getElem hk1⟩
    refine aidxk (x := eIm b) (by simp [hb1]) (by omega) ?_
    have hts : imF (is.take (k + 1)) = imF (is.take k) ++ b.funcs := by rw [take_snoc hb1, imF_snoc]
    have htl := imF_take is (k + 1)
    rw [hts, ← hs, List.length_append] at htl
    obtain ⟨b1, b2, b3⟩ := b
    conv => whnf
    refine aneed (show ((s.map eFu).length + (b3.map eFu).length) * 272 ≤ 140737488355328 by simp at htl ⊢; omega) ?_
    conv => whnf
    refine ⟨hk1, s ++ b3, ⟨rfl, ?_, rfl, rfl⟩, by rw [hs, hts]⟩
    rw [List.map_append]; rfl
  · have hk1 := ix_ff h1 (by simp) hk (by omega)
    have hs2 : s = imF is := by rw [hs, hk1, List.take_length]
    subst hs2
    refine aneed (show (((imF is).map eFu).length + (fs.map eFu).length) * 272 ≤ 140737488355328 by simp; omega) ?_
    conv => whnf
    rw [List.map_append]
    exact .inl rfl
/-- BodiesOf -/
def bodiesF (p : Pg) : List Ex := (funsF p).map (·.body) ++ p.actors.map (·.body)
theorem bodies_mem {p : Pg} {e : Ex} (h : e ∈ bodiesF p) : wE e ≤ wPg p := by
  rcases List.mem_append.1 h with h | h
  · obtain ⟨f, hf, rfl⟩ := List.mem_map.1 h
    have h1 := map_mem eFu hf
    have h2 := funsF_wts p
    rw [wFu] at h1; omega
  · obtain ⟨f, hf, rfl⟩ := List.mem_map.1 h
    have h1 := map_mem eAc hf
    rw [wAc] at h1
    rw [wPg_eq]; omega
theorem bodiesOf_spec (p : Pg) (hp : wPg p ≤ 1048576) : APure Try.prog 30 [.p (ePg p)] (.p (.sl 8 (eEs (bodiesF p)))) := by
  have hw := wPg_eq p
  have h0 := funsOf_spec p hp
  have hl1 := funsF_wts p
  have hl2 := fus_len (funsF p)
  have hl3 := acs_len p.actors
  rw [bodiesF]
  generalize funsF p = F at h0 hl1 hl2
  generalize wPg p = W at *
  obtain ⟨nm, ver, us, ds, ts, is, fs, acs⟩ := p
  simp only at *
  refine APure.intro (tyOf_ok Try.prog) hmix Try.func30 rfl (by rfl) (by kernel_rfl) (by show 1 ≤ _; decide) rfl ?_
  conv => whnf
  refine apc h0 ?_
  conv => whnf
  refine lp_nil 3 7 rfl ?_
  refine loopS (tyOf_ok _) hmix (by kernel_rfl) F.length [1, 3, 9, 10, 11] [1] (fun k (s : List Ex) => [.ptr 1 0, .so 8 (eEs s), .so 15 (F.map eFu), .p (.i .i64 (F.map eFu).length), .p (.i .i64 (ix k))])
    (fun _ _ => [.cells [.p (.s nm), .p (.i .i64 ver), .p (.sl 3 us), .p (.sl 3 (ds.map eDt)), .p (.sl 2 (ts.map eTr)), .p (.sl 3 (is.map eIm)), .p (.sl 15 (fs.map eFu)), .p (.sl 14 (acs.map eAc))]]) (fun k s => s = (F.take k).map (·.body)) [] ⟨rfl, rfl, rfl, rfl⟩ (by simp) ?_
  intro k s hk hs
  have hsl : s.length ≤ 1048576 := by rw [hs]; simp; omega
  conv => whnf
  refine asplit ?_ ?_ <;> intro h1 <;> conv => whnf
  · have hk1 := ix_tt h1 (by simp) hk (by omega)
    obtain ⟨b, hb1⟩ : ∃ b, F[k]? = some b := ⟨_, List.getElem?_eq_getElem hk1⟩
    refine aidxk (x := eFu b) (by simp [hb1]) (by omega) ?_
    have hts : (F.take (k + 1)).map (·.body) = (F.take k).map (·.body) ++ [b.body] := by rw [take_snoc hb1, List.map_append]; rfl
    obtain ⟨b1, b2, b3, b4, b5, b6, b7, ⟨c1, c2, c3, c4, c5, c6, c7, c8⟩⟩ := b
    conv => whnf
    refine aneed (show ((eEs s).length + 1) * 136 ≤ 140737488355328 by rw [eEs_len]; omega) ?_
    conv => whnf
    refine ⟨hk1, s ++ [.mk c1 c2 c3 c4 c5 c6 c7 c8], ⟨rfl, ?_, rfl, rfl⟩, by rw [hs, hts]⟩
    rw [eEs_app]; rfl
  · have hk1 := ix_ff h1 (by simp) hk (by omega)
    have hs2 : s = F.map (·.body) := by rw [hs, hk1, List.take_length]
    subst hs2
    refine loopS (tyOf_ok _) hmix (by kernel_rfl) acs.length [3, 22, 23, 24] [] (fun k (s : List Ex) => [.so 8 (eEs s), .p (.sl 14 (acs.map eAc)), .p (.i .i64 (acs.map eAc).length), .p (.i .i64 (ix k))]) (fun _ _ => [])
      (fun k s => s = F.map (·.body) ++ (acs.take k).map (·.body)) (F.map (·.body)) ⟨rfl, rfl, rfl, rfl⟩ (by simp) ?_
    intro j s hj hs
    have hsl : s.length ≤ 2097152 := by rw [hs]; simp; omega
    conv => whnf
    refine asplit ?_ ?_ <;> intro h2 <;> conv => whnf
    · have hj1 := ix_tt h2 (by simp) hj (by omega)
      obtain ⟨b, hb1⟩ : ∃ b, acs[j]? = some b := ⟨_, List.getElem?_eq_getElem hj1⟩
      refine aidxk (x := eAc b) (by simp [hb1]) (by omega) ?_
      have hts : (acs.take (j + 1)).map (·.body) = (acs.take j).map (·.body) ++ [b.body] := by rw [take_snoc hb1, List.map_append]; rfl
      obtain ⟨b1, b2, b3, b4, b5, b6, ⟨c1, c2, c3, c4, c5, c6, c7, c8⟩⟩ := b
      conv => whnf
      refine aneed (show ((eEs s).length + 1) * 136 ≤ 140737488355328 by rw [eEs_len]; omega) ?_
      conv => whnf
      refine ⟨hj1, s ++ [.mk c1 c2 c3 c4 c5 c6 c7 c8], ⟨rfl, ?_, rfl, rfl⟩, by rw [hs, hts]; simp⟩
      rw [eEs_app]; rfl
    · have hj1 := ix_ff h2 (by simp) hj (by omega)
      have hs2 : s = F.map (·.body) ++ acs.map (·.body) := by rw [hs, hj1, List.take_length]
      subst hs2
      exact .inr (.inl rfl)
/-- small -/
def sumB : List Ex → Int → Int
  | [], n => n
  | e :: r, n => sumB r (IntKind.i64.wrap (n + sizeF e))
theorem small_spec (p : Pg) (hp : wPg p ≤ 1048576) : APure Try.prog 9 [.p (ePg p)] (.p (.b (decide (sumB (bodiesF p) 0 ≤ 400)))) := by
  have h0 := bodiesOf_spec p hp
  have hB := fun e (h : e ∈ bodiesF p) => bodies_mem h
  have hl : (bodiesF p).length ≤ 2097152 := by
    have := fus_len (funsF p); have := funsF_wts p; have := acs_len p.actors; have := wPg_eq p
    simp [bodiesF]; omega
  generalize bodiesF p = Bs at h0 hB hl
  generalize wPg p = W at *
  obtain ⟨nm, ver, us, ds, ts, is, fs, acs⟩ := p
  refine APure.intro (tyOf_ok Try.prog) hmix Try.func9 rfl (by rfl) (by kernel_rfl) (by show 1 ≤ _; decide) rfl ?_
  conv => whnf
  refine apc h0 ?_
  conv => whnf
  refine loopS (tyOf_ok _) hmix (by kernel_rfl) Bs.length [3, 7, 8, 9] [] (fun k (s : Int) => [.p (.i .i64 s), .p (.sl 8 (eEs Bs)), .p (.i .i64 (eEs Bs).length), .p (.i .i64 (ix k))]) (fun _ _ => []) (fun k s => sumB Bs 0 = sumB (Bs.drop k) s) 0 ⟨rfl, rfl, rfl, rfl⟩ rfl ?_
  intro k s hk hs
  conv => whnf
  refine asplit ?_ ?_ <;> intro h1 <;> conv => whnf
  · have hk1 := ix_tt h1 (by rw [eEs_len]) hk (by omega)
    obtain ⟨b, hb1⟩ : ∃ b, Bs[k]? = some b := ⟨_, List.getElem?_eq_getElem hk1⟩
    refine aidxk (eEs_get hb1) (by omega) ?_
    have hc := sizeOf_spec b (by have := hB b (List.mem_of_getElem? hb1); omega)
    rw [drop_cons hb1, sumB] at hs
    generalize sizeF b = z at hc hs
    obtain ⟨c1, c2, c3, c4, c5, c6, c7, c8⟩ := b
    conv => whnf
    refine apc hc ?_
    conv => whnf
    exact ⟨hk1, IntKind.i64.wrap (s + z), ⟨rfl, rfl, rfl, rfl⟩, hs⟩
  · have hk1 := ix_ff h1 (by rw [eEs_len]) hk (by omega)
    rw [hk1, List.drop_length, sumB] at hs
    exact .inl (pb (by rw [hs]))
end TR
