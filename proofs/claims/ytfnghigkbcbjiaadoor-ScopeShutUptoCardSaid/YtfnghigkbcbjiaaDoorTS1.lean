/-
  DERIVED. Contracts of the functions that the law reaches, and the law itself, for every input. No conditions.
-/
import Derived.Test.YtfnghigkbcbjiaaDoorTR7
open Go Go.AM Go.Proofs
set_option maxRecDepth 100000
namespace TR
/-! programs; what is not read stays raw -/
structure Fu where
  name : ByteArray
  ps : List PV
  ns : List PV
  ts : List PV
  ok : Int
  on : ByteArray
  oa : List PV
  body : Ex
structure Im where
  tr : ByteArray
  fo : ByteArray
  funcs : List Fu
structure Mk where
  name : ByteArray
  ts : List PV
structure Dt where
  name : ByteArray
  ps : List PV
  makes : List Mk
structure Tr where
  name : ByteArray
  funcs : List Fu
structure Ac where
  name : ByteArray
  ns : List PV
  ts : List PV
  mi : Int
  mn : ByteArray
  ma : List PV
  body : Ex
structure Pg where
  name : ByteArray
  ver : Int
  uses : List PV
  datas : List Dt
  traits : List Tr
  impls : List Im
  funcs : List Fu
  actors : List Ac
def eFu (f : Fu) : PV := .agg (.s f.name :: .sl 1 f.ps :: .sl 1 f.ns :: .sl 3 f.ts :: .i .i64 f.ok :: .s f.on :: .sl 3 f.oa :: (eE f.body).cells)
def eIm (m : Im) : PV := .agg [.s m.tr, .s m.fo, .sl 15 (m.funcs.map eFu)]
def eMk (m : Mk) : PV := .agg [.s m.name, .sl 3 m.ts]
def eDt (m : Dt) : PV := .agg [.s m.name, .sl 1 m.ps, .sl 2 (m.makes.map eMk)]
def eTr (m : Tr) : PV := .agg [.s m.name, .sl 15 (m.funcs.map eFu)]
def eAc (f : Ac) : PV := .agg (.s f.name :: .sl 1 f.ns :: .sl 3 f.ts :: .i .i64 f.mi :: .s f.mn :: .sl 3 f.ma :: (eE f.body).cells)
def ePg (p : Pg) : PV := .agg [.s p.name, .i .i64 p.ver, .sl 3 p.uses, .sl 3 (p.datas.map eDt), .sl 2 (p.traits.map eTr), .sl 3 (p.impls.map eIm), .sl 15 (p.funcs.map eFu), .sl 14 (p.actors.map eAc)]
def wPg (p : Pg) : Nat := PV.wt (ePg p)
theorem wFu (f : Fu) : PV.wt (eFu f) = f.name.size + f.on.size + PV.wts f.ps + PV.wts f.ns + PV.wts f.ts + PV.wts f.oa + 7 + wE f.body := by
  simp only [eFu, PV.wt, PV.wts, wt_cells]; unfold wE; omega
theorem wAc (f : Ac) : PV.wt (eAc f) = f.name.size + f.mn.size + PV.wts f.ns + PV.wts f.ts + PV.wts f.ma + 6 + wE f.body := by
  simp only [eAc, PV.wt, PV.wts, wt_cells]; unfold wE; omega
theorem wPg_eq (p : Pg) : wPg p = p.name.size + 8 + PV.wts p.uses + PV.wts (p.datas.map eDt) + PV.wts (p.traits.map eTr) + PV.wts (p.impls.map eIm) + PV.wts (p.funcs.map eFu) + PV.wts (p.actors.map eAc) := by
  simp only [wPg, ePg, PV.wt, PV.wts]; omega
theorem map_wts {α : Type} (f : α → PV) (h : ∀ x, 1 ≤ PV.wt (f x)) : ∀ (l : List α), l.length ≤ PV.wts (l.map f)
  | [] => by simp
  | x :: r => by have := h x; have := map_wts f h r; simp only [List.map_cons, PV.wts, List.length_cons]; omega
theorem fus_len (l : List Fu) : l.length ≤ PV.wts (l.map eFu) := map_wts eFu (fun x => by rw [wFu]; omega) l
theorem acs_len (l : List Ac) : l.length ≤ PV.wts (l.map eAc) := map_wts eAc (fun x => by rw [wAc]; omega) l
theorem ims_len (l : List Im) : l.length ≤ PV.wts (l.map eIm) := map_wts eIm (fun x => by simp only [eIm, PV.wt, PV.wts]; omega) l
theorem dts_len (l : List Dt) : l.length ≤ PV.wts (l.map eDt) := map_wts eDt (fun x => by simp only [eDt, PV.wt, PV.wts]; omega) l
theorem trs_len (l : List Tr) : l.length ≤ PV.wts (l.map eTr) := map_wts eTr (fun x => by simp only [eTr, PV.wt, PV.wts]; omega) l
theorem mks_len (l : List Mk) : l.length ≤ PV.wts (l.map eMk) := map_wts eMk (fun x => by simp only [eMk, PV.wt, PV.wts]; omega) l
theorem map_mem {α : Type} (f : α → PV) {x : α} {l : List α} (h : x ∈ l) : PV.wt (f x) ≤ PV.wts (l.map f) := wts_mem (List.mem_map.2 ⟨x, h, rfl⟩)

/-- FunsOf -/
def imF (l : List Im) : List Fu := l.flatMap (·.funcs)
def funsF (p : Pg) : List Fu := imF p.impls ++ p.funcs
theorem imF_wts : ∀ (l : List Im), PV.wts ((imF l).map eFu) ≤ PV.wts (l.map eIm)
  | [] => by simp [imF]
  | m :: r => by
    have := imF_wts r
    simp only [imF, List.flatMap_cons, List.map_append, List.map_cons, PV.wts_append, PV.wts] at this ⊢
    simp only [eIm, PV.wt, PV.wts] at this ⊢
    omega
theorem imF_snoc (l : List Im) (m : Im) : imF (l ++ [m]) = imF l ++ m.funcs := by simp [imF]
theorem imF_take (l : List Im) (k : Nat) : (imF (l.take k)).length ≤ (imF l).length := by
  have : imF l = imF (l.take k) ++ imF (l.drop k) := by unfold imF; rw [← List.flatMap_append, List.take_append_drop]
  rw [this]; simp
theorem funsF_wts (p : Pg) : PV.wts ((funsF p).map eFu) ≤ wPg p := by
  rw [funsF, List.map_append, PV.wts_append, wPg_eq]; have := imF_wts p.impls; omega
theorem funsOf_spec (p : Pg) (hp : wPg p ≤ 1048576) : APure Tryd.prog 30 [.p (ePg p)] (.so 15 ((funsF p).map eFu)) := by
  have hw := wPg_eq p
  have hl1 := ims_len p.impls
  have hl2 := fus_len p.funcs
  have hl3 := fus_len (imF p.impls)
  have hl4 := imF_wts p.impls
  obtain ⟨nm, ver, us, ds, ts, is, fs, acs⟩ := p
  simp only [funsF] at *
  refine APure.intro (tyOf_ok Tryd.prog) hmix Tryd.func30 rfl (by rfl) (by kernel_rfl) (by show 1 ≤ _; decide) rfl ?_
  conv => whnf
  refine lp_nil 3 14 rfl ?_
  refine loopS (tyOf_ok _) hmix (by kernel_rfl) is.length [1, 3, 7, 8, 9] [1] (fun k (s : List Fu) => [.ptr 1 0, .so 15 (s.map eFu), .p (.sl 3 (is.map eIm)), .p (.i .i64 (is.map eIm).length), .p (.i .i64 (ix k))])
    (fun _ _ => [.cells [.p (.s nm), .p (.i .i64 ver), .p (.sl 3 us), .p (.sl 3 (ds.map eDt)), .p (.sl 2 (ts.map eTr)), .p (.sl 3 (is.map eIm)), .p (.sl 15 (fs.map eFu)), .p (.sl 14 (acs.map eAc))]]) (fun k s => s = imF (is.take k)) [] ⟨rfl, rfl, rfl, rfl⟩ (by simp [imF]) ?_
  intro k s hk hs
  conv => whnf
  refine asplit ?_ ?_ <;> intro h1 <;> conv => whnf
  · have hk1 := ix_tt h1 (by simp) hk (by omega)
    obtain ⟨b, hb1⟩ : ∃ b, is[k]? = some b := ⟨_, List.getElem?_eq_getElem hk1⟩
    refine aidxk (x := eIm b) (by simp [hb1]) (by omega) ?_
    have hts : imF (is.take (k + 1)) = imF (is.take k) ++ b.funcs := by rw [take_snoc hb1, imF_snoc]
    have htl := imF_take is (k + 1)
    rw [hts, ← hs, List.length_append] at htl
    obtain ⟨b1, b2, b3⟩ := b
    conv => whnf
    refine aneed (show ((s.map eFu).length + (b3.map eFu).length) * 272 ≤ 140737488355328 by simp at htl ⊢; omega) ?_
    conv => whnf
    refine ⟨hk1, s ++ b3, ⟨rfl, ?_, rfl, rfl⟩, by rw [hs, hts]⟩
    rw [List.map_append]; rfl
  · have hk1 := ix_ff h1 (by simp) hk (by omega)
    have hs2 : s = imF is := by rw [hs, hk1, List.take_length]
    subst hs2
    refine aneed (show (((imF is).map eFu).length + (fs.map eFu).length) * 272 ≤ 140737488355328 by simp; omega) ?_
    conv => whnf
    rw [List.map_append]
    exact .inl rfl
/-- BodiesOf -/
def bodiesF (p : Pg) : List Ex := (funsF p).map (·.body) ++ p.actors.map (·.body)
theorem bodies_mem {p : Pg} {e : Ex} (h : e ∈ bodiesF p) : wE e ≤ wPg p := by
  rcases List.mem_append.1 h with h | h
  · obtain ⟨f, hf, rfl⟩ := List.mem_map.1 h
    have h1 := map_mem eFu hf
    have h2 := funsF_wts p
    rw [wFu] at h1; omega
  · obtain ⟨f, hf, rfl⟩ := List.mem_map.1 h
    have h1 := map_mem eAc hf
    rw [wAc] at h1
    rw [wPg_eq]; omega
theorem bodiesOf_spec (p : Pg) (hp : wPg p ≤ 1048576) : APure Tryd.prog 11 [.p (ePg p)] (.p (.sl 8 (eEs (bodiesF p)))) := by
  have hw := wPg_eq p
  have h0 := funsOf_spec p hp
  have hl1 := funsF_wts p
  have hl2 := fus_len (funsF p)
  have hl3 := acs_len p.actors
  rw [bodiesF]
  generalize funsF p = F at h0 hl1 hl2
  generalize wPg p = W at *
  obtain ⟨nm, ver, us, ds, ts, is, fs, acs⟩ := p
  simp only at *
  refine APure.intro (tyOf_ok Tryd.prog) hmix Tryd.func11 rfl (by rfl) (by kernel_rfl) (by show 1 ≤ _; decide) rfl ?_
  conv => whnf
  refine apc h0 ?_
  conv => whnf
  refine lp_nil 3 7 rfl ?_
  refine loopS (tyOf_ok _) hmix (by kernel_rfl) F.length [1, 3, 9, 10, 11] [1] (fun k (s : List Ex) => [.ptr 1 0, .so 8 (eEs s), .so 15 (F.map eFu), .p (.i .i64 (F.map eFu).length), .p (.i .i64 (ix k))])
    (fun _ _ => [.cells [.p (.s nm), .p (.i .i64 ver), .p (.sl 3 us), .p (.sl 3 (ds.map eDt)), .p (.sl 2 (ts.map eTr)), .p (.sl 3 (is.map eIm)), .p (.sl 15 (fs.map eFu)), .p (.sl 14 (acs.map eAc))]]) (fun k s => s = (F.take k).map (·.body)) [] ⟨rfl, rfl, rfl, rfl⟩ (by simp) ?_
  intro k s hk hs
  have hsl : s.length ≤ 1048576 := by rw [hs]; simp; omega
  conv => whnf
  refine asplit ?_ ?_ <;> intro h1 <;> conv => whnf
  · have hk1 := ix_tt h1 (by simp) hk (by omega)
    obtain ⟨b, hb1⟩ : ∃ b, F[k]? = some b := ⟨_, List.getElem?_eq_getElem hk1⟩
    refine aidxk (x := eFu b) (by simp [hb1]) (by omega) ?_
    have hts : (F.take (k + 1)).map (·.body) = (F.take k).map (·.body) ++ [b.body] := by rw [take_snoc hb1, List.map_append]; rfl
    obtain ⟨b1, b2, b3, b4, b5, b6, b7, ⟨c1, c2, c3, c4, c5, c6, c7, c8⟩⟩ := b
    conv => whnf
    refine aneed (show ((eEs s).length + 1) * 136 ≤ 140737488355328 by rw [eEs_len]; omega) ?_
    conv => whnf
    refine ⟨hk1, s ++ [.mk c1 c2 c3 c4 c5 c6 c7 c8], ⟨rfl, ?_, rfl, rfl⟩, by rw [hs, hts]⟩
    rw [eEs_app]; rfl
  · have hk1 := ix_ff h1 (by simp) hk (by omega)
    have hs2 : s = F.map (·.body) := by rw [hs, hk1, List.take_length]
    subst hs2
    refine loopS (tyOf_ok _) hmix (by kernel_rfl) acs.length [3, 22, 23, 24] [] (fun k (s : List Ex) => [.so 8 (eEs s), .p (.sl 14 (acs.map eAc)), .p (.i .i64 (acs.map eAc).length), .p (.i .i64 (ix k))]) (fun _ _ => [])
      (fun k s => s = F.map (·.body) ++ (acs.take k).map (·.body)) (F.map (·.body)) ⟨rfl, rfl, rfl, rfl⟩ (by simp) ?_
    intro j s hj hs
    have hsl : s.length ≤ 2097152 := by rw [hs]; simp; omega
    conv => whnf
    refine asplit ?_ ?_ <;> intro h2 <;> conv => whnf
    · have hj1 := ix_tt h2 (by simp) hj (by omega)
      obtain ⟨b, hb1⟩ : ∃ b, acs[j]? = some b := ⟨_, List.getElem?_eq_getElem hj1⟩
      refine aidxk (x := eAc b) (by simp [hb1]) (by omega) ?_
      have hts : (acs.take (j + 1)).map (·.body) = (acs.take j).map (·.body) ++ [b.body] := by rw [take_snoc hb1, List.map_append]; rfl
      obtain ⟨b1, b2, b3, b4, b5, b6, ⟨c1, c2, c3, c4, c5, c6, c7, c8⟩⟩ := b
      conv => whnf
      refine aneed (show ((eEs s).length + 1) * 136 ≤ 140737488355328 by rw [eEs_len]; omega) ?_
      conv => whnf
      refine ⟨hj1, s ++ [.mk c1 c2 c3 c4 c5 c6 c7 c8], ⟨rfl, ?_, rfl, rfl⟩, by rw [hs, hts]; simp⟩
      rw [eEs_app]; rfl
    · have hj1 := ix_ff h2 (by simp) hj (by omega)
      have hs2 : s = F.map (·.body) ++ acs.map (·.body) := by rw [hs, hj1, List.take_length]
      subst hs2
      exact .inr (.inl rfl)
/-- small -/
def sumB : List Ex → Int → Int
  | [], n => n
  | e :: r, n => sumB r (IntKind.i64.wrap (n + sizeF e))
theorem small_spec (p : Pg) (hp : wPg p ≤ 1048576) : APure Tryd.prog 9 [.p (ePg p)] (.p (.b (decide (sumB (bodiesF p) 0 ≤ 400)))) := by
  have h0 := bodiesOf_spec p hp
  have hB := fun e (h : e ∈ bodiesF p) => bodies_mem h
  have hl : (bodiesF p).length ≤ 2097152 := by
    have := fus_len (funsF p); have := funsF_wts p; have := acs_len p.actors; have := wPg_eq p
    simp [bodiesF]; omega
  generalize bodiesF p = Bs at h0 hB hl
  generalize wPg p = W at *
  obtain ⟨nm, ver, us, ds, ts, is, fs, acs⟩ := p
  refine APure.intro (tyOf_ok Tryd.prog) hmix Tryd.func9 rfl (by rfl) (by kernel_rfl) (by show 1 ≤ _; decide) rfl ?_
  conv => whnf
  refine apc h0 ?_
  conv => whnf
  refine loopS (tyOf_ok _) hmix (by kernel_rfl) Bs.length [3, 7, 8, 9] [] (fun k (s : Int) => [.p (.i .i64 s), .p (.sl 8 (eEs Bs)), .p (.i .i64 (eEs Bs).length), .p (.i .i64 (ix k))]) (fun _ _ => []) (fun k s => sumB Bs 0 = sumB (Bs.drop k) s) 0 ⟨rfl, rfl, rfl, rfl⟩ rfl ?_
  intro k s hk hs
  conv => whnf
  refine asplit ?_ ?_ <;> intro h1 <;> conv => whnf
  · have hk1 := ix_tt h1 (by rw [eEs_len]) hk (by omega)
    obtain ⟨b, hb1⟩ : ∃ b, Bs[k]? = some b := ⟨_, List.getElem?_eq_getElem hk1⟩
    refine aidxk (eEs_get hb1) (by omega) ?_
    have hc := sizeOf_spec b (by have := hB b (List.mem_of_getElem? hb1); omega)
    rw [drop_cons hb1, sumB] at hs
    generalize sizeF b = z at hc hs
    obtain ⟨c1, c2, c3, c4, c5, c6, c7, c8⟩ := b
    conv => whnf
    refine apc hc ?_
    conv => whnf
    exact ⟨hk1, IntKind.i64.wrap (s + z), ⟨rfl, rfl, rfl, rfl⟩, hs⟩
  · have hk1 := ix_ff h1 (by rw [eEs_len]) hk (by omega)
    rw [hk1, List.drop_length, sumB] at hs
    exact .inl (pb (by rw [hs]))
end TR
open Go Go.AM Go.Proofs
set_option maxRecDepth 100000
namespace TR
/-- Twice -/
def twF : List ByteArray → List (ByteArray × Bool) → Bool
  | [], _ => false
  | s :: r, m => bif (slook s m).getD false then true else twF r (sput s true m)
theorem twice_spec (l : List ByteArray) (hl : l.length ≤ 2097152) : APure Tryd.prog 79 [.p (.sl 1 (l.map eStr))] (.p (.b (twF l []))) := by
  generalize hR : twF l [] = R
  refine APure.intro (tyOf_ok Tryd.prog) hmix Tryd.func79 rfl (by rfl) (by kernel_rfl) (by show 1 ≤ _; decide) rfl ?_
  conv => whnf
  refine loopS (tyOf_ok _) hmix (by kernel_rfl) l.length [3, 7, 8, 9] [6] (fun k (m : List (ByteArray × Bool)) => [.mp 6, .p (.sl 1 (l.map eStr)), .p (.i .i64 (l.map eStr).length), .p (.i .i64 (ix k))]) (fun _ m => [.map .ks (eM vB m)]) (fun k m => twF (l.drop k) m = R) [] ⟨rfl, rfl, rfl, rfl⟩ hR ?_
  intro k m hk hs
  conv => whnf
  refine asplit ?_ ?_ <;> intro h1 <;> conv => whnf
  · have hk1 := ix_tt h1 (by simp) hk (by omega)
    obtain ⟨b, hb1⟩ : ∃ b, l[k]? = some b := ⟨_, List.getElem?_eq_getElem hk1⟩
    rw [drop_cons hb1, twF] at hs
    refine aidxk (x := eStr b) (by simp [hb1]) (by omega) ?_
    conv => whnf
    refine alook (mlook_B b m) ?_
    conv => whnf
    refine asplit ?_ ?_ <;> intro h2 <;> conv => whnf
    · rw [h2, cond_true] at hs
      exact .inl (pb hs)
    · rw [h2, cond_false] at hs
      exact ⟨hk1, sput b true m, ⟨by rw [← mput_eM]; rfl, rfl, rfl, rfl⟩, hs⟩
  · have hk1 := ix_ff h1 (by simp) hk (by omega)
    rw [hk1, List.drop_length, twF] at hs
    exact .inl (pb hs)
/-- set -/
def setF (l : List ByteArray) : List (ByteArray × Bool) := l.foldl (fun m s => sput s true m) []
theorem set_spec (l : List ByteArray) (hl : l.length ≤ 2097152) : AMem Tryd.prog 47 [.p (.sl 1 (l.map eStr))] [] (.mp 6) [(6, .map .ks (eM vB (setF l)))] := by
  generalize hR : setF l = R
  refine AMem.intro (tyOf_ok Tryd.prog) hmix Tryd.func47 rfl (by rfl) (by kernel_rfl) (by show 1 ≤ _; decide) rfl ?_
  conv => whnf
  refine loopS (tyOf_ok _) hmix (by kernel_rfl) l.length [3, 7, 8, 9] [6] (fun k (m : List (ByteArray × Bool)) => [.mp 6, .p (.sl 1 (l.map eStr)), .p (.i .i64 (l.map eStr).length), .p (.i .i64 (ix k))]) (fun _ m => [.map .ks (eM vB m)]) (fun k m => m = setF (l.take k)) [] ⟨rfl, rfl, rfl, rfl⟩ rfl ?_
  intro k m hk hs
  conv => whnf
  refine asplit ?_ ?_ <;> intro h1 <;> conv => whnf
  · have hk1 := ix_tt h1 (by simp) hk (by omega)
    obtain ⟨b, hb1⟩ : ∃ b, l[k]? = some b := ⟨_, List.getElem?_eq_getElem hk1⟩
    refine aidxk (x := eStr b) (by simp [hb1]) (by omega) ?_
    conv => whnf
    refine ⟨hk1, sput b true m, ⟨by rw [← mput_eM]; rfl, rfl, rfl, rfl⟩, ?_⟩
    rw [take_snoc hb1, setF, List.foldl_append, hs]; rfl
  · have hk1 := ix_ff h1 (by simp) hk (by omega)
    rw [hk1, List.take_length, hR] at hs
    subst hs
    exact ⟨.inl rfl, ⟨rfl, rfl⟩, trivial⟩
/-- Actors -/
theorem actors_spec (p : Pg) (hp : wPg p ≤ 1048576) : APure Tryd.prog 50 [.p (ePg p)] (.p (.sl 1 ((p.actors.map (·.name)).map eStr))) := by
  have hw := wPg_eq p
  have hl := acs_len p.actors
  generalize wPg p = W at *
  obtain ⟨nm, ver, us, ds, ts, is, fs, acs⟩ := p
  simp only at *
  refine APure.intro (tyOf_ok Tryd.prog) hmix Tryd.func50 rfl (by rfl) (by kernel_rfl) (by show 1 ≤ _; decide) rfl ?_
  conv => whnf
  refine lp_nil 3 0 rfl ?_
  refine loopS (tyOf_ok _) hmix (by kernel_rfl) acs.length [3, 7, 8, 9] [] (fun k (s : List ByteArray) => [.so 1 (s.map eStr), .p (.sl 14 (acs.map eAc)), .p (.i .i64 (acs.map eAc).length), .p (.i .i64 (ix k))]) (fun _ _ => []) (fun k s => s = (acs.take k).map (·.name)) [] ⟨rfl, rfl, rfl, rfl⟩ (by simp) ?_
  intro k s hk hs
  have hsl : s.length ≤ 1048576 := by rw [hs]; simp; omega
  conv => whnf
  refine asplit ?_ ?_ <;> intro h1 <;> conv => whnf
  · have hk1 := ix_tt h1 (by simp) hk (by omega)
    obtain ⟨b, hb1⟩ : ∃ b, acs[k]? = some b := ⟨_, List.getElem?_eq_getElem hk1⟩
    refine aidxk (x := eAc b) (by simp [hb1]) (by omega) ?_
    have hts : (acs.take (k + 1)).map (·.name) = (acs.take k).map (·.name) ++ [b.name] := by rw [take_snoc hb1, List.map_append]; rfl
    obtain ⟨b1, b2, b3, b4, b5, b6, ⟨c1, c2, c3, c4, c5, c6, c7, c8⟩⟩ := b
    conv => whnf
    refine aneed (show ((s.map eStr).length + 1) * 16 ≤ 140737488355328 by simp; omega) ?_
    conv => whnf
    refine ⟨hk1, s ++ [b1], ⟨rfl, ?_, rfl, rfl⟩, by rw [hs, hts]⟩
    rw [List.map_append]; rfl
  · have hk1 := ix_ff h1 (by simp) hk (by omega)
    have hs2 : s = acs.map (·.name) := by rw [hs, hk1, List.take_length]
    subst hs2
    exact .inr (.inl rfl)
end TR
open Go Go.AM Go.Proofs
set_option maxRecDepth 100000
namespace TR
/-- Makers -/
def mkN (l : List Dt) : List ByteArray := l.flatMap (fun d => d.makes.map (·.name))
theorem mkN_snoc (l : List Dt) (d : Dt) : mkN (l ++ [d]) = mkN l ++ d.makes.map (·.name) := by simp [mkN]
theorem mkN_len : ∀ (l : List Dt), (mkN l).length ≤ PV.wts (l.map eDt)
  | [] => by simp [mkN]
  | m :: r => by
    have := mkN_len r
    have := mks_len m.makes
    simp only [mkN, List.flatMap_cons, List.length_append, List.map_cons, PV.wts, List.length_map] at *
    simp only [eDt, PV.wt, PV.wts]
    omega
theorem mkN_take (l : List Dt) (k : Nat) : (mkN (l.take k)).length ≤ (mkN l).length := by
  have : mkN l = mkN (l.take k) ++ mkN (l.drop k) := by unfold mkN; rw [← List.flatMap_append, List.take_append_drop]
  rw [this]; simp
theorem makers_spec (p : Pg) (hp : wPg p ≤ 1048576) : APure Tryd.prog 48 [.p (ePg p)] (.p (.sl 1 ((mkN p.datas).map eStr))) := by
  have hw := wPg_eq p
  have hl := dts_len p.datas
  have hl2 := mkN_len p.datas
  generalize wPg p = W at *
  obtain ⟨nm, ver, us, ds, ts, is, fs, acs⟩ := p
  simp only at *
  refine APure.intro (tyOf_ok Tryd.prog) hmix Tryd.func48 rfl (by rfl) (by kernel_rfl) (by show 1 ≤ _; decide) rfl ?_
  conv => whnf
  refine lp_nil 3 0 rfl ?_
  refine loopS (tyOf_ok _) hmix (by kernel_rfl) ds.length [3, 9, 10, 11] [] (fun k (s : List ByteArray) => [.so 1 (s.map eStr), .p (.sl 3 (ds.map eDt)), .p (.i .i64 (ds.map eDt).length), .p (.i .i64 (ix k))]) (fun _ _ => []) (fun k s => s = mkN (ds.take k)) [] ⟨rfl, rfl, rfl, rfl⟩ (by simp [mkN]) ?_
  intro k s hk hs
  conv => whnf
  refine asplit ?_ ?_ <;> intro h1 <;> conv => whnf
  · have hk1 := ix_tt h1 (by simp) hk (by omega)
    obtain ⟨b, hb1⟩ : ∃ b, ds[k]? = some b := ⟨_, List.getElem?_eq_getElem hk1⟩
    refine aidxk (x := eDt b) (by simp [hb1]) (by omega) ?_
    have hts : mkN (ds.take (k + 1)) = mkN (ds.take k) ++ b.makes.map (·.name) := by rw [take_snoc hb1, mkN_snoc]
    have htl := mkN_take ds (k + 1)
    rw [hts, ← hs, List.length_append, List.length_map] at htl
    obtain ⟨b1, b2, b3⟩ := b
    simp only at hts htl
    conv => whnf
    refine loopS (tyOf_ok _) hmix (by kernel_rfl) b3.length [3, 9, 10, 11, 16, 17, 18] [] (fun j (s : List ByteArray) => [.so 1 (s.map eStr), .p (.sl 3 (ds.map eDt)), .p (.i .i64 (ds.map eDt).length), .p (.i .i64 (ix k)), .p (.sl 2 (b3.map eMk)), .p (.i .i64 (b3.map eMk).length), .p (.i .i64 (ix j))]) (fun _ _ => []) (fun j s' => s' = s ++ (b3.take j).map (·.name)) s ⟨rfl, rfl, rfl, rfl⟩ (by simp) ?_
    intro j s2 hj hs2
    have hsl : s2.length ≤ 1048576 := by rw [hs2]; simp; omega
    conv => whnf
    refine asplit ?_ ?_ <;> intro h2 <;> conv => whnf
    · have hj1 := ix_tt h2 (by simp) hj (by omega)
      obtain ⟨c, hc1⟩ : ∃ b, b3[j]? = some b := ⟨_, List.getElem?_eq_getElem hj1⟩
      refine aidxk (x := eMk c) (by simp [hc1]) (by omega) ?_
      have hts2 : (b3.take (j + 1)).map (·.name) = (b3.take j).map (·.name) ++ [c.name] := by rw [take_snoc hc1, List.map_append]; rfl
      obtain ⟨c1, c2⟩ := c
      conv => whnf
      refine aneed (show ((s2.map eStr).length + 1) * 16 ≤ 140737488355328 by simp; omega) ?_
      conv => whnf
      refine ⟨hj1, s2 ++ [c1], ⟨rfl, ?_, rfl, rfl⟩, by rw [hs2, hts2]; simp⟩
      rw [List.map_append]; rfl
    · have hj1 := ix_ff h2 (by simp) hj (by omega)
      rw [hj1, List.take_length] at hs2
      exact ⟨hk1, s2, ⟨rfl, rfl, rfl, rfl⟩, by rw [hs2, hts, hs]⟩
  · have hk1 := ix_ff h1 (by simp) hk (by omega)
    have hs2 : s = mkN ds := by rw [hs, hk1, List.take_length]
    subst hs2
    exact .inr (.inl rfl)
/-- Callable -/
def trN (l : List Tr) : List ByteArray := l.flatMap (fun d => d.funcs.map (·.name))
theorem trN_snoc (l : List Tr) (d : Tr) : trN (l ++ [d]) = trN l ++ d.funcs.map (·.name) := by simp [trN]
theorem trN_len : ∀ (l : List Tr), (trN l).length ≤ PV.wts (l.map eTr)
  | [] => by simp [trN]
  | m :: r => by
    have := trN_len r
    have := fus_len m.funcs
    simp only [trN, List.flatMap_cons, List.length_append, List.map_cons, PV.wts, List.length_map] at *
    simp only [eTr, PV.wt, PV.wts]
    omega
theorem trN_take (l : List Tr) (k : Nat) : (trN (l.take k)).length ≤ (trN l).length := by
  have : trN l = trN (l.take k) ++ trN (l.drop k) := by unfold trN; rw [← List.flatMap_append, List.take_append_drop]
  rw [this]; simp
def caN (p : Pg) : List ByteArray := trN p.traits ++ p.funcs.map (·.name)
theorem callable_spec (p : Pg) (hp : wPg p ≤ 1048576) : APure Tryd.prog 49 [.p (ePg p)] (.p (.sl 1 ((caN p).map eStr))) := by
  have hw := wPg_eq p
  have hl := trs_len p.traits
  have hl2 := trN_len p.traits
  have hl3 := fus_len p.funcs
  generalize wPg p = W at *
  obtain ⟨nm, ver, us, ds, ts, is, fs, acs⟩ := p
  simp only [caN] at *
  refine APure.intro (tyOf_ok Tryd.prog) hmix Tryd.func49 rfl (by rfl) (by kernel_rfl) (by show 1 ≤ _; decide) rfl ?_
  conv => whnf
  refine lp_nil 3 0 rfl ?_
  refine loopS (tyOf_ok _) hmix (by kernel_rfl) ts.length [1, 3, 11, 12, 13] [1] (fun k (s : List ByteArray) => [.ptr 1 0, .so 1 (s.map eStr), .p (.sl 2 (ts.map eTr)), .p (.i .i64 (ts.map eTr).length), .p (.i .i64 (ix k))])
    (fun _ _ => [.cells [.p (.s nm), .p (.i .i64 ver), .p (.sl 3 us), .p (.sl 3 (ds.map eDt)), .p (.sl 2 (ts.map eTr)), .p (.sl 3 (is.map eIm)), .p (.sl 15 (fs.map eFu)), .p (.sl 14 (acs.map eAc))]]) (fun k s => s = trN (ts.take k)) [] ⟨rfl, rfl, rfl, rfl⟩ (by simp [trN]) ?_
  intro k s hk hs
  conv => whnf
  refine asplit ?_ ?_ <;> intro h1 <;> conv => whnf
  · have hk1 := ix_tt h1 (by simp) hk (by omega)
    obtain ⟨b, hb1⟩ : ∃ b, ts[k]? = some b := ⟨_, List.getElem?_eq_getElem hk1⟩
    refine aidxk (x := eTr b) (by simp [hb1]) (by omega) ?_
    have hts : trN (ts.take (k + 1)) = trN (ts.take k) ++ b.funcs.map (·.name) := by rw [take_snoc hb1, trN_snoc]
    have htl := trN_take ts (k + 1)
    rw [hts, ← hs, List.length_append, List.length_map] at htl
    obtain ⟨b1, b3⟩ := b
    simp only at hts htl
    conv => whnf
    refine loopS (tyOf_ok _) hmix (by kernel_rfl) b3.length [1, 3, 11, 12, 13, 18, 19, 20] [1] (fun j (s : List ByteArray) => [.ptr 1 0, .so 1 (s.map eStr), .p (.sl 2 (ts.map eTr)), .p (.i .i64 (ts.map eTr).length), .p (.i .i64 (ix k)), .p (.sl 15 (b3.map eFu)), .p (.i .i64 (b3.map eFu).length), .p (.i .i64 (ix j))])
      (fun _ _ => [.cells [.p (.s nm), .p (.i .i64 ver), .p (.sl 3 us), .p (.sl 3 (ds.map eDt)), .p (.sl 2 (ts.map eTr)), .p (.sl 3 (is.map eIm)), .p (.sl 15 (fs.map eFu)), .p (.sl 14 (acs.map eAc))]]) (fun j s' => s' = s ++ (b3.take j).map (·.name)) s ⟨rfl, rfl, rfl, rfl⟩ (by simp) ?_
    intro j s2 hj hs2
    have hsl : s2.length ≤ 1048576 := by rw [hs2]; simp; omega
    conv => whnf
    refine asplit ?_ ?_ <;> intro h2 <;> conv => whnf
    · have hj1 := ix_tt h2 (by simp) hj (by omega)
      obtain ⟨c, hc1⟩ : ∃ b, b3[j]? = some b := ⟨_, List.getElem?_eq_getElem hj1⟩
      refine aidxk (x := eFu c) (by simp [hc1]) (by omega) ?_
      have hts2 : (b3.take (j + 1)).map (·.name) = (b3.take j).map (·.name) ++ [c.name] := by rw [take_snoc hc1, List.map_append]; rfl
      obtain ⟨a1, a2, a3, a4, a5, a6, a7, ⟨c1, c2, c3, c4, c5, c6, c7, c8⟩⟩ := c
      conv => whnf
      refine aneed (show ((s2.map eStr).length + 1) * 16 ≤ 140737488355328 by simp; omega) ?_
      conv => whnf
      refine ⟨hj1, s2 ++ [a1], ⟨rfl, ?_, rfl, rfl⟩, by rw [hs2, hts2]; simp⟩
      rw [List.map_append]; rfl
    · have hj1 := ix_ff h2 (by simp) hj (by omega)
      rw [hj1, List.take_length] at hs2
      exact ⟨hk1, s2, ⟨rfl, rfl, rfl, rfl⟩, by rw [hs2, hts, hs]⟩
  · have hk1 := ix_ff h1 (by simp) hk (by omega)
    have hs2 : s = trN ts := by rw [hs, hk1, List.take_length]
    subst hs2
    refine loopS (tyOf_ok _) hmix (by kernel_rfl) fs.length [3, 32, 33, 34] [] (fun k (s : List ByteArray) => [.so 1 (s.map eStr), .p (.sl 15 (fs.map eFu)), .p (.i .i64 (fs.map eFu).length), .p (.i .i64 (ix k))]) (fun _ _ => [])
      (fun k s => s = trN ts ++ (fs.take k).map (·.name)) (trN ts) ⟨rfl, rfl, rfl, rfl⟩ (by simp) ?_
    intro j s hj hs
    have hsl : s.length ≤ 2097152 := by rw [hs]; simp; omega
    conv => whnf
    refine asplit ?_ ?_ <;> intro h2 <;> conv => whnf
    · have hj1 := ix_tt h2 (by simp) hj (by omega)
      obtain ⟨b, hb1⟩ : ∃ b, fs[j]? = some b := ⟨_, List.getElem?_eq_getElem hj1⟩
      refine aidxk (x := eFu b) (by simp [hb1]) (by omega) ?_
      have hts : (fs.take (j + 1)).map (·.name) = (fs.take j).map (·.name) ++ [b.name] := by rw [take_snoc hb1, List.map_append]; rfl
      obtain ⟨a1, a2, a3, a4, a5, a6, a7, ⟨c1, c2, c3, c4, c5, c6, c7, c8⟩⟩ := b
      conv => whnf
      refine aneed (show ((s.map eStr).length + 1) * 16 ≤ 140737488355328 by simp; omega) ?_
      conv => whnf
      refine ⟨hj1, s ++ [a1], ⟨rfl, ?_, rfl, rfl⟩, by rw [hs, hts]; simp⟩
      rw [List.map_append]; rfl
    · have hj1 := ix_ff h2 (by simp) hj (by omega)
      have hs2 : s = trN ts ++ fs.map (·.name) := by rw [hs, hj1, List.take_length]
      subst hs2
      exact .inr (.inl rfl)
/-- newResolver -/
def hpN (A B C : List (ByteArray × Bool)) : Heap := [(13, .cells [.mp 10006, .mp 20006, .mp 30006, .c (.map none)]), (10006, .map .ks (eM vB A)), (20006, .map .ks (eM vB B)), (30006, .map .ks (eM vB C))]
theorem newRes_spec (p : Pg) (hp : wPg p ≤ 1048576) : AMem Tryd.prog 32 [.p (ePg p)] [] (.ptr 13 0) (hpN (setF (mkN p.datas)) (setF (caN p)) (setF (p.actors.map (·.name)))) := by
  have hw := wPg_eq p
  have l1 := mkN_len p.datas
  have l2 := trN_len p.traits
  have l3 := fus_len p.funcs
  have l4 := acs_len p.actors
  have h1 := makers_spec p hp
  have h2 := callable_spec p hp
  have h3 := actors_spec p hp
  have g1 := set_spec (mkN p.datas) (by omega)
  have g2 := set_spec (caN p) (by simp [caN]; omega)
  have g3 := set_spec (p.actors.map (·.name)) (by simp; omega)
  generalize setF (mkN p.datas) = A at *
  generalize setF (caN p) = B at *
  generalize setF (p.actors.map (·.name)) = C at *
  generalize mkN p.datas = a at *
  generalize caN p = b at *
  generalize p.actors.map (·.name) = c at *
  clear l1 l2 l3 l4 hw hp
  obtain ⟨nm, ver, us, ds, ts, is, fs, acs⟩ := p
  refine AMem.intro (tyOf_ok Tryd.prog) hmix Tryd.func32 rfl (by rfl) (by kernel_rfl) (by show 1 ≤ _; decide) rfl ?_
  conv => whnf
  refine apc h1 ?_
  conv => whnf
  refine amc [] 10000 g1 ?_
  conv => whnf
  refine apc h2 ?_
  conv => whnf
  refine amc [] 20000 g2 ?_
  conv => whnf
  refine apc h3 ?_
  conv => whnf
  refine amc [] 30000 g3 ?_
  conv => whnf
  refine aneed (by kernel_rfl) ?_
  conv => whnf
  exact ⟨.inl rfl, ⟨.inl rfl, .inl rfl, .inl rfl, .inl rfl, trivial⟩, ⟨rfl, rfl⟩, ⟨rfl, rfl⟩, ⟨rfl, rfl⟩, trivial⟩
theorem told_spec (x : Int) (b : Bool) : APure Tryd.prog 31 [.p (.i .i64 x), .p (.b b)] (.tup [.p (.i .i64 (bif b then 11 else 0)), .p (.i .i64 (bif b then x else 0))]) := by
  refine APure.intro (tyOf_ok Tryd.prog) hmix Tryd.func31 rfl (by rfl) (by kernel_rfl) (by show 2 ≤ _; decide) rfl ?_
  cases b with
  | true =>
    conv => whnf
    exact .inl rfl
  | false =>
    conv => whnf
    exact .inl rfl
end TR
open Go Go.AM Go.Proofs
set_option maxRecDepth 100000
namespace TR
/-- the resolver's objects -/
abbrev BM := List (ByteArray × Bool)
abbrev IM := List (ByteArray × Int)
def hpR (A B C : BM) (m : IM) : Heap := [(1000000000, .cells [.mp 1000000001, .mp 1000000002, .mp 1000000003, .mp 1000000004]), (1000000001, .map .ks (eM vB A)), (1000000002, .map .ks (eM vB B)), (1000000003, .map .ks (eM vB C)), (1000000004, .map .ks (eM vI m))]
def has (A : BM) (t : ByteArray) : Bool := (slook t A).getD false
mutual
def forF (A : BM) : Pt → Bool
  | .mk k _ t xs => bif (k == 6) && !has A t then true else forFs A xs
def forFs (A : BM) : List Pt → Bool
  | [] => false
  | p :: r => forF A p || forFs A r
end
theorem foreign_spec (A B C : BM) (m : IM) (p : Pt) : wP p ≤ 1048640 → AMem Tryd.prog 80 [.ptr 1000000000 0, .p (eP p)] (hpR A B C m) (.p (.b (forF A p))) (hpR A B C m) := by
  induction p using Pt.ind with
  | h k0 n0 t0 as0 ih =>
  intro hw
  have hl := wP_lens k0 n0 t0 as0
  generalize hR : forF A (Pt.mk k0 n0 t0 as0) = R
  rw [forF] at hR
  refine AMem.intro (tyOf_ok Tryd.prog) hmix Tryd.func80 rfl (by rfl) (by kernel_rfl) (by show 2 ≤ _; decide) rfl ?_
  conv => whnf
  refine asplit ?_ ?_ <;> intro h1 <;> conv => whnf
  · replace h1 : (k0 == 6) = true := h1
    refine alook (mlook_B t0 A) ?_
    conv => whnf
    refine aneed (by kernel_rfl) ?_
    conv => whnf
    refine asplit ?_ ?_ <;> intro h2 <;> conv => whnf
    · replace h2 : (!has A t0) = true := h2
      rw [h1, h2] at hR
      exact ⟨.inl (pb hR), ⟨.inl rfl, .inl rfl, .inl rfl, .inl rfl, trivial⟩, ⟨rfl, rfl⟩, ⟨rfl, rfl⟩, ⟨rfl, rfl⟩, ⟨rfl, rfl⟩, trivial⟩
    · replace h2 : (!has A t0) = false := h2
      have h0 : ((k0 == 6) && !has A t0) = false := (by rw [h1, h2]; rfl)
      rw [h0, cond_false] at hR
      refine loopS (tyOf_ok _) hmix (by kernel_rfl) as0.length [0, 21, 22, 23] [1000000000, 1000000001, 1000000002, 1000000003, 1000000004] (fun k (s : Unit) => [.ptr 1000000000 0, .p (.sl 4 (ePs as0)), .p (.i .i64 (ePs as0).length), .p (.i .i64 (ix k))])
          (fun _ _ => [.cells [.mp 1000000001, .mp 1000000002, .mp 1000000003, .mp 1000000004], .map .ks (eM vB A), .map .ks (eM vB B), .map .ks (eM vB C), .map .ks (eM vI m)]) (fun k _ => forFs A (as0.drop k) = R) () ⟨rfl, rfl, rfl, rfl⟩ hR ?_
      intro k _ hk hs
      conv => whnf
      refine asplit ?_ ?_ <;> intro h3 <;> conv => whnf
      · have hk1 := ix_tt h3 (by rw [ePs_len]) hk (by omega)
        obtain ⟨b, hb1⟩ : ∃ b, as0[k]? = some b := ⟨_, List.getElem?_eq_getElem hk1⟩
        refine aidxk (ePs_get hb1) (by omega) ?_
        have hbw := wP_args (k := k0) (n := n0) (t := t0) (List.mem_of_getElem? hb1)
        have hc := ih b (List.mem_of_getElem? hb1) (by omega)
        rw [drop_cons hb1, forFs] at hs
        generalize forF A b = q at hc hs
        obtain ⟨b1, b2, b3, b4⟩ := b
        conv => whnf
        refine amc [1000000000, 1000000001, 1000000002, 1000000003, 1000000004] 10000 hc ?_
        conv => whnf
        refine asplit ?_ ?_ <;> intro h4 <;> conv => whnf
        · subst h4
          exact ⟨.inl (pb hs), ⟨.inl rfl, .inl rfl, .inl rfl, .inl rfl, trivial⟩, ⟨rfl, rfl⟩, ⟨rfl, rfl⟩, ⟨rfl, rfl⟩, ⟨rfl, rfl⟩, trivial⟩
        · subst h4
          exact ⟨hk1, (), ⟨rfl, rfl, rfl, rfl⟩, hs⟩
      · have hk1 := ix_ff h3 (by rw [ePs_len]) hk (by omega)
        rw [hk1, List.drop_length, forFs] at hs
        exact ⟨.inl (pb hs), ⟨.inl rfl, .inl rfl, .inl rfl, .inl rfl, trivial⟩, ⟨rfl, rfl⟩, ⟨rfl, rfl⟩, ⟨rfl, rfl⟩, ⟨rfl, rfl⟩, trivial⟩
  · replace h1 : (k0 == 6) = false := h1
    refine aneed (by kernel_rfl) ?_
    conv => whnf
    have h0 : ((k0 == 6) && !has A t0) = false := (by rw [h1]; rfl)
    rw [h0, cond_false] at hR
    refine loopS (tyOf_ok _) hmix (by kernel_rfl) as0.length [0, 21, 22, 23] [1000000000, 1000000001, 1000000002, 1000000003, 1000000004] (fun k (s : Unit) => [.ptr 1000000000 0, .p (.sl 4 (ePs as0)), .p (.i .i64 (ePs as0).length), .p (.i .i64 (ix k))])
        (fun _ _ => [.cells [.mp 1000000001, .mp 1000000002, .mp 1000000003, .mp 1000000004], .map .ks (eM vB A), .map .ks (eM vB B), .map .ks (eM vB C), .map .ks (eM vI m)]) (fun k _ => forFs A (as0.drop k) = R) () ⟨rfl, rfl, rfl, rfl⟩ hR ?_
    intro k _ hk hs
    conv => whnf
    refine asplit ?_ ?_ <;> intro h3 <;> conv => whnf
    · have hk1 := ix_tt h3 (by rw [ePs_len]) hk (by omega)
      obtain ⟨b, hb1⟩ : ∃ b, as0[k]? = some b := ⟨_, List.getElem?_eq_getElem hk1⟩
      refine aidxk (ePs_get hb1) (by omega) ?_
      have hbw := wP_args (k := k0) (n := n0) (t := t0) (List.mem_of_getElem? hb1)
      have hc := ih b (List.mem_of_getElem? hb1) (by omega)
      rw [drop_cons hb1, forFs] at hs
      generalize forF A b = q at hc hs
      obtain ⟨b1, b2, b3, b4⟩ := b
      conv => whnf
      refine amc [1000000000, 1000000001, 1000000002, 1000000003, 1000000004] 10000 hc ?_
      conv => whnf
      refine asplit ?_ ?_ <;> intro h4 <;> conv => whnf
      · subst h4
        exact ⟨.inl (pb hs), ⟨.inl rfl, .inl rfl, .inl rfl, .inl rfl, trivial⟩, ⟨rfl, rfl⟩, ⟨rfl, rfl⟩, ⟨rfl, rfl⟩, ⟨rfl, rfl⟩, trivial⟩
      · subst h4
        exact ⟨hk1, (), ⟨rfl, rfl, rfl, rfl⟩, hs⟩
    · have hk1 := ix_ff h3 (by rw [ePs_len]) hk (by omega)
      rw [hk1, List.drop_length, forFs] at hs
      exact ⟨.inl (pb hs), ⟨.inl rfl, .inl rfl, .inl rfl, .inl rfl, trivial⟩, ⟨rfl, rfl⟩, ⟨rfl, rfl⟩, ⟨rfl, rfl⟩, ⟨rfl, rfl⟩, trivial⟩
end TR
open Go Go.AM Go.Proofs
set_option maxRecDepth 100000
namespace TR
def wrongA (A : BM) : List Arm → Bool
  | [] => false
  | .mk p _ :: r => bif (twF (boundF p) []) || forF A p then true else wrongA A r
def headF (A B C : BM) (m : IM) (k : Int) (t : ByteArray) (ns : List ByteArray) : Bool :=
  bif k == 5 then (slook t m).getD 0 == 0 else bif k == 9 then !has B t else bif k == 12 then !has A t else bif k == 14 then !has C t else bif k == 10 then twF ns [] else false
def wrongF (A B C : BM) (m : IM) (k : Int) (t : ByteArray) (ns : List ByteArray) (ms : List Arm) : Bool := bif headF A B C m k t ns then true else wrongA A ms
theorem wrong_spec (A B C : BM) (m : IM) (k0 n0 : Int) (t0 : ByteArray) (ns0 : List ByteArray) (ts0 : List Ty) (as0 : List Ex) (ms0 : List Arm) (p0 : Int) (hw : wE (.mk k0 n0 t0 ns0 ts0 as0 ms0 p0) ≤ 1048640) :
    AMem Tryd.prog 66 [.ptr 1000000000 0, .p (eE (.mk k0 n0 t0 ns0 ts0 as0 ms0 p0))] (hpR A B C m) (.p (.b (wrongF A B C m k0 t0 ns0 ms0))) (hpR A B C m) := by
  have hl := wE_lens k0 n0 t0 ns0 ts0 as0 ms0 p0
  have htw := twice_spec ns0 (by omega)
  generalize hR : wrongF A B C m k0 t0 ns0 ms0 = R
  rw [wrongF] at hR
  generalize hH : headF A B C m k0 t0 ns0 = H at hR
  rw [headF] at hH
  refine AMem.intro (tyOf_ok Tryd.prog) hmix Tryd.func66 rfl (by rfl) (by kernel_rfl) (by show 2 ≤ _; decide) rfl ?_
  conv => whnf
  refine asplit ?_ ?_ <;> intro h1 <;> conv => whnf
  · replace h1 : (k0 == 5) = true := h1
    rw [h1, cond_true] at hH
    refine alook (mlook_I t0 m) ?_
    conv => whnf
    refine aneed (by kernel_rfl) ?_
    conv => whnf
    refine asplit ?_ ?_ <;> intro g2 <;> conv => whnf
    · replace g2 : ((slook t0 m).getD 0 == 0) = true := g2
      rw [g2] at hH
      subst hH
      exact ⟨.inl (pb hR), ⟨.inl rfl, .inl rfl, .inl rfl, .inl rfl, trivial⟩, ⟨rfl, rfl⟩, ⟨rfl, rfl⟩, ⟨rfl, rfl⟩, ⟨rfl, rfl⟩, trivial⟩
    · replace g2 : ((slook t0 m).getD 0 == 0) = false := g2
      rw [g2] at hH
      subst hH
      rw [cond_false] at hR
      refine loopS (tyOf_ok _) hmix (by kernel_rfl) ms0.length [0, 55, 56, 57] [1000000000, 1000000001, 1000000002, 1000000003, 1000000004] (fun k (s : Unit) => [.ptr 1000000000 0, .p (.sl 12 (eAs ms0)), .p (.i .i64 (eAs ms0).length), .p (.i .i64 (ix k))])
          (fun _ _ => [.cells [.mp 1000000001, .mp 1000000002, .mp 1000000003, .mp 1000000004], .map .ks (eM vB A), .map .ks (eM vB B), .map .ks (eM vB C), .map .ks (eM vI m)]) (fun k _ => wrongA A (ms0.drop k) = R) () ⟨rfl, rfl, rfl, rfl⟩ hR ?_
      intro k _ hk hs
      conv => whnf
      refine asplit ?_ ?_ <;> intro h3 <;> conv => whnf
      · have hk1 := ix_tt h3 (by rw [eAs_len]) hk (by omega)
        obtain ⟨b, hb1⟩ : ∃ b, ms0[k]? = some b := ⟨_, List.getElem?_eq_getElem hk1⟩
        refine aidxk (eAs_get hb1) (by omega) ?_
        have hbw := wE_body (k := k0) (n := n0) (t := t0) (ns := ns0) (ts := ts0) (xs := as0) (p := p0) (List.mem_of_getElem? hb1)
        have hbl := bound_le b.pat
        have c1 := bound_spec b.pat (by omega)
        have c2 := twice_spec (boundF b.pat) (by omega)
        have c3 := foreign_spec A B C m b.pat (by omega)
        rw [drop_cons hb1] at hs
        obtain ⟨bp, ⟨b1, b2, b3, b4, b5, b6, b7, b8⟩⟩ := b
        rw [wrongA] at hs
        simp only [Arm.pat] at c1 c2 c3
        generalize twF (boundF bp) [] = q1 at c2 hs
        generalize boundF bp = q0 at c1 c2
        generalize forF A bp = q3 at c3 hs
        obtain ⟨a1, a2, a3, a4⟩ := bp
        conv => whnf
        refine apc c1 ?_
        conv => whnf
        refine apc c2 ?_
        conv => whnf
        refine asplit ?_ ?_ <;> intro h5 <;> conv => whnf
        · subst h5
          exact ⟨.inl (pb hs), ⟨.inl rfl, .inl rfl, .inl rfl, .inl rfl, trivial⟩, ⟨rfl, rfl⟩, ⟨rfl, rfl⟩, ⟨rfl, rfl⟩, ⟨rfl, rfl⟩, trivial⟩
        · subst h5
          refine amc [1000000000, 1000000001, 1000000002, 1000000003, 1000000004] 10000 c3 ?_
          conv => whnf
          refine asplit ?_ ?_ <;> intro h4 <;> conv => whnf
          · subst h4
            exact ⟨.inl (pb hs), ⟨.inl rfl, .inl rfl, .inl rfl, .inl rfl, trivial⟩, ⟨rfl, rfl⟩, ⟨rfl, rfl⟩, ⟨rfl, rfl⟩, ⟨rfl, rfl⟩, trivial⟩
          · subst h4
            exact ⟨hk1, (), ⟨rfl, rfl, rfl, rfl⟩, hs⟩
      · have hk1 := ix_ff h3 (by rw [eAs_len]) hk (by omega)
        rw [hk1, List.drop_length, wrongA] at hs
        exact ⟨.inl (pb hs), ⟨.inl rfl, .inl rfl, .inl rfl, .inl rfl, trivial⟩, ⟨rfl, rfl⟩, ⟨rfl, rfl⟩, ⟨rfl, rfl⟩, ⟨rfl, rfl⟩, trivial⟩
  replace h1 : (k0 == 5) = false := h1
  rw [h1, cond_false] at hH
  refine asplit ?_ ?_ <;> intro h2 <;> conv => whnf
  · replace h2 : (k0 == 9) = true := h2
    rw [h2, cond_true] at hH
    refine alook (mlook_B t0 B) ?_
    conv => whnf
    refine aneed (by kernel_rfl) ?_
    conv => whnf
    refine asplit ?_ ?_ <;> intro g2 <;> conv => whnf
    · replace g2 : (!has B t0) = true := g2
      rw [g2] at hH
      subst hH
      exact ⟨.inl (pb hR), ⟨.inl rfl, .inl rfl, .inl rfl, .inl rfl, trivial⟩, ⟨rfl, rfl⟩, ⟨rfl, rfl⟩, ⟨rfl, rfl⟩, ⟨rfl, rfl⟩, trivial⟩
    · replace g2 : (!has B t0) = false := g2
      rw [g2] at hH
      subst hH
      rw [cond_false] at hR
      refine loopS (tyOf_ok _) hmix (by kernel_rfl) ms0.length [0, 55, 56, 57] [1000000000, 1000000001, 1000000002, 1000000003, 1000000004] (fun k (s : Unit) => [.ptr 1000000000 0, .p (.sl 12 (eAs ms0)), .p (.i .i64 (eAs ms0).length), .p (.i .i64 (ix k))])
          (fun _ _ => [.cells [.mp 1000000001, .mp 1000000002, .mp 1000000003, .mp 1000000004], .map .ks (eM vB A), .map .ks (eM vB B), .map .ks (eM vB C), .map .ks (eM vI m)]) (fun k _ => wrongA A (ms0.drop k) = R) () ⟨rfl, rfl, rfl, rfl⟩ hR ?_
      intro k _ hk hs
      conv => whnf
      refine asplit ?_ ?_ <;> intro h3 <;> conv => whnf
      · have hk1 := ix_tt h3 (by rw [eAs_len]) hk (by omega)
        obtain ⟨b, hb1⟩ : ∃ b, ms0[k]? = some b := ⟨_, List.getElem?_eq_getElem hk1⟩
        refine aidxk (eAs_get hb1) (by omega) ?_
        have hbw := wE_body (k := k0) (n := n0) (t := t0) (ns := ns0) (ts := ts0) (xs := as0) (p := p0) (List.mem_of_getElem? hb1)
        have hbl := bound_le b.pat
        have c1 := bound_spec b.pat (by omega)
        have c2 := twice_spec (boundF b.pat) (by omega)
        have c3 := foreign_spec A B C m b.pat (by omega)
        rw [drop_cons hb1] at hs
        obtain ⟨bp, ⟨b1, b2, b3, b4, b5, b6, b7, b8⟩⟩ := b
        rw [wrongA] at hs
        simp only [Arm.pat] at c1 c2 c3
        generalize twF (boundF bp) [] = q1 at c2 hs
        generalize boundF bp = q0 at c1 c2
        generalize forF A bp = q3 at c3 hs
        obtain ⟨a1, a2, a3, a4⟩ := bp
        conv => whnf
        refine apc c1 ?_
        conv => whnf
        refine apc c2 ?_
        conv => whnf
        refine asplit ?_ ?_ <;> intro h5 <;> conv => whnf
        · subst h5
          exact ⟨.inl (pb hs), ⟨.inl rfl, .inl rfl, .inl rfl, .inl rfl, trivial⟩, ⟨rfl, rfl⟩, ⟨rfl, rfl⟩, ⟨rfl, rfl⟩, ⟨rfl, rfl⟩, trivial⟩
        · subst h5
          refine amc [1000000000, 1000000001, 1000000002, 1000000003, 1000000004] 10000 c3 ?_
          conv => whnf
          refine asplit ?_ ?_ <;> intro h4 <;> conv => whnf
          · subst h4
            exact ⟨.inl (pb hs), ⟨.inl rfl, .inl rfl, .inl rfl, .inl rfl, trivial⟩, ⟨rfl, rfl⟩, ⟨rfl, rfl⟩, ⟨rfl, rfl⟩, ⟨rfl, rfl⟩, trivial⟩
          · subst h4
            exact ⟨hk1, (), ⟨rfl, rfl, rfl, rfl⟩, hs⟩
      · have hk1 := ix_ff h3 (by rw [eAs_len]) hk (by omega)
        rw [hk1, List.drop_length, wrongA] at hs
        exact ⟨.inl (pb hs), ⟨.inl rfl, .inl rfl, .inl rfl, .inl rfl, trivial⟩, ⟨rfl, rfl⟩, ⟨rfl, rfl⟩, ⟨rfl, rfl⟩, ⟨rfl, rfl⟩, trivial⟩
  replace h2 : (k0 == 9) = false := h2
  rw [h2, cond_false] at hH
  refine asplit ?_ ?_ <;> intro h4 <;> conv => whnf
  · replace h4 : (k0 == 12) = true := h4
    rw [h4, cond_true] at hH
    refine alook (mlook_B t0 A) ?_
    conv => whnf
    refine aneed (by kernel_rfl) ?_
    conv => whnf
    refine asplit ?_ ?_ <;> intro g2 <;> conv => whnf
    · replace g2 : (!has A t0) = true := g2
      rw [g2] at hH
      subst hH
      exact ⟨.inl (pb hR), ⟨.inl rfl, .inl rfl, .inl rfl, .inl rfl, trivial⟩, ⟨rfl, rfl⟩, ⟨rfl, rfl⟩, ⟨rfl, rfl⟩, ⟨rfl, rfl⟩, trivial⟩
    · replace g2 : (!has A t0) = false := g2
      rw [g2] at hH
      subst hH
      rw [cond_false] at hR
      refine loopS (tyOf_ok _) hmix (by kernel_rfl) ms0.length [0, 55, 56, 57] [1000000000, 1000000001, 1000000002, 1000000003, 1000000004] (fun k (s : Unit) => [.ptr 1000000000 0, .p (.sl 12 (eAs ms0)), .p (.i .i64 (eAs ms0).length), .p (.i .i64 (ix k))])
          (fun _ _ => [.cells [.mp 1000000001, .mp 1000000002, .mp 1000000003, .mp 1000000004], .map .ks (eM vB A), .map .ks (eM vB B), .map .ks (eM vB C), .map .ks (eM vI m)]) (fun k _ => wrongA A (ms0.drop k) = R) () ⟨rfl, rfl, rfl, rfl⟩ hR ?_
      intro k _ hk hs
      conv => whnf
      refine asplit ?_ ?_ <;> intro h3 <;> conv => whnf
      · have hk1 := ix_tt h3 (by rw [eAs_len]) hk (by omega)
        obtain ⟨b, hb1⟩ : ∃ b, ms0[k]? = some b := ⟨_, List.getElem?_eq_getElem hk1⟩
        refine aidxk (eAs_get hb1) (by omega) ?_
        have hbw := wE_body (k := k0) (n := n0) (t := t0) (ns := ns0) (ts := ts0) (xs := as0) (p := p0) (List.mem_of_getElem? hb1)
        have hbl := bound_le b.pat
        have c1 := bound_spec b.pat (by omega)
        have c2 := twice_spec (boundF b.pat) (by omega)
        have c3 := foreign_spec A B C m b.pat (by omega)
        rw [drop_cons hb1] at hs
        obtain ⟨bp, ⟨b1, b2, b3, b4, b5, b6, b7, b8⟩⟩ := b
        rw [wrongA] at hs
        simp only [Arm.pat] at c1 c2 c3
        generalize twF (boundF bp) [] = q1 at c2 hs
        generalize boundF bp = q0 at c1 c2
        generalize forF A bp = q3 at c3 hs
        obtain ⟨a1, a2, a3, a4⟩ := bp
        conv => whnf
        refine apc c1 ?_
        conv => whnf
        refine apc c2 ?_
        conv => whnf
        refine asplit ?_ ?_ <;> intro h5 <;> conv => whnf
        · subst h5
          exact ⟨.inl (pb hs), ⟨.inl rfl, .inl rfl, .inl rfl, .inl rfl, trivial⟩, ⟨rfl, rfl⟩, ⟨rfl, rfl⟩, ⟨rfl, rfl⟩, ⟨rfl, rfl⟩, trivial⟩
        · subst h5
          refine amc [1000000000, 1000000001, 1000000002, 1000000003, 1000000004] 10000 c3 ?_
          conv => whnf
          refine asplit ?_ ?_ <;> intro h4 <;> conv => whnf
          · subst h4
            exact ⟨.inl (pb hs), ⟨.inl rfl, .inl rfl, .inl rfl, .inl rfl, trivial⟩, ⟨rfl, rfl⟩, ⟨rfl, rfl⟩, ⟨rfl, rfl⟩, ⟨rfl, rfl⟩, trivial⟩
          · subst h4
            exact ⟨hk1, (), ⟨rfl, rfl, rfl, rfl⟩, hs⟩
      · have hk1 := ix_ff h3 (by rw [eAs_len]) hk (by omega)
        rw [hk1, List.drop_length, wrongA] at hs
        exact ⟨.inl (pb hs), ⟨.inl rfl, .inl rfl, .inl rfl, .inl rfl, trivial⟩, ⟨rfl, rfl⟩, ⟨rfl, rfl⟩, ⟨rfl, rfl⟩, ⟨rfl, rfl⟩, trivial⟩
  replace h4 : (k0 == 12) = false := h4
  rw [h4, cond_false] at hH
  refine asplit ?_ ?_ <;> intro h5 <;> conv => whnf
  · replace h5 : (k0 == 14) = true := h5
    rw [h5, cond_true] at hH
    refine alook (mlook_B t0 C) ?_
    conv => whnf
    refine aneed (by kernel_rfl) ?_
    conv => whnf
    refine asplit ?_ ?_ <;> intro g2 <;> conv => whnf
    · replace g2 : (!has C t0) = true := g2
      rw [g2] at hH
      subst hH
      exact ⟨.inl (pb hR), ⟨.inl rfl, .inl rfl, .inl rfl, .inl rfl, trivial⟩, ⟨rfl, rfl⟩, ⟨rfl, rfl⟩, ⟨rfl, rfl⟩, ⟨rfl, rfl⟩, trivial⟩
    · replace g2 : (!has C t0) = false := g2
      rw [g2] at hH
      subst hH
      rw [cond_false] at hR
      refine loopS (tyOf_ok _) hmix (by kernel_rfl) ms0.length [0, 55, 56, 57] [1000000000, 1000000001, 1000000002, 1000000003, 1000000004] (fun k (s : Unit) => [.ptr 1000000000 0, .p (.sl 12 (eAs ms0)), .p (.i .i64 (eAs ms0).length), .p (.i .i64 (ix k))])
          (fun _ _ => [.cells [.mp 1000000001, .mp 1000000002, .mp 1000000003, .mp 1000000004], .map .ks (eM vB A), .map .ks (eM vB B), .map .ks (eM vB C), .map .ks (eM vI m)]) (fun k _ => wrongA A (ms0.drop k) = R) () ⟨rfl, rfl, rfl, rfl⟩ hR ?_
      intro k _ hk hs
      conv => whnf
      refine asplit ?_ ?_ <;> intro h3 <;> conv => whnf
      · have hk1 := ix_tt h3 (by rw [eAs_len]) hk (by omega)
        obtain ⟨b, hb1⟩ : ∃ b, ms0[k]? = some b := ⟨_, List.getElem?_eq_getElem hk1⟩
        refine aidxk (eAs_get hb1) (by omega) ?_
        have hbw := wE_body (k := k0) (n := n0) (t := t0) (ns := ns0) (ts := ts0) (xs := as0) (p := p0) (List.mem_of_getElem? hb1)
        have hbl := bound_le b.pat
        have c1 := bound_spec b.pat (by omega)
        have c2 := twice_spec (boundF b.pat) (by omega)
        have c3 := foreign_spec A B C m b.pat (by omega)
        rw [drop_cons hb1] at hs
        obtain ⟨bp, ⟨b1, b2, b3, b4, b5, b6, b7, b8⟩⟩ := b
        rw [wrongA] at hs
        simp only [Arm.pat] at c1 c2 c3
        generalize twF (boundF bp) [] = q1 at c2 hs
        generalize boundF bp = q0 at c1 c2
        generalize forF A bp = q3 at c3 hs
        obtain ⟨a1, a2, a3, a4⟩ := bp
        conv => whnf
        refine apc c1 ?_
        conv => whnf
        refine apc c2 ?_
        conv => whnf
        refine asplit ?_ ?_ <;> intro h5 <;> conv => whnf
        · subst h5
          exact ⟨.inl (pb hs), ⟨.inl rfl, .inl rfl, .inl rfl, .inl rfl, trivial⟩, ⟨rfl, rfl⟩, ⟨rfl, rfl⟩, ⟨rfl, rfl⟩, ⟨rfl, rfl⟩, trivial⟩
        · subst h5
          refine amc [1000000000, 1000000001, 1000000002, 1000000003, 1000000004] 10000 c3 ?_
          conv => whnf
          refine asplit ?_ ?_ <;> intro h4 <;> conv => whnf
          · subst h4
            exact ⟨.inl (pb hs), ⟨.inl rfl, .inl rfl, .inl rfl, .inl rfl, trivial⟩, ⟨rfl, rfl⟩, ⟨rfl, rfl⟩, ⟨rfl, rfl⟩, ⟨rfl, rfl⟩, trivial⟩
          · subst h4
            exact ⟨hk1, (), ⟨rfl, rfl, rfl, rfl⟩, hs⟩
      · have hk1 := ix_ff h3 (by rw [eAs_len]) hk (by omega)
        rw [hk1, List.drop_length, wrongA] at hs
        exact ⟨.inl (pb hs), ⟨.inl rfl, .inl rfl, .inl rfl, .inl rfl, trivial⟩, ⟨rfl, rfl⟩, ⟨rfl, rfl⟩, ⟨rfl, rfl⟩, ⟨rfl, rfl⟩, trivial⟩
  replace h5 : (k0 == 14) = false := h5
  rw [h5, cond_false] at hH
  refine asplit ?_ ?_ <;> intro h6 <;> conv => whnf
  · replace h6 : (k0 == 10) = true := h6
    rw [h6, cond_true] at hH
    refine apc htw ?_
    conv => whnf
    refine asplit ?_ ?_ <;> intro g2 <;> conv => whnf
    · replace g2 : (twF ns0 []) = true := g2
      rw [g2] at hH
      subst hH
      exact ⟨.inl (pb hR), ⟨.inl rfl, .inl rfl, .inl rfl, .inl rfl, trivial⟩, ⟨rfl, rfl⟩, ⟨rfl, rfl⟩, ⟨rfl, rfl⟩, ⟨rfl, rfl⟩, trivial⟩
    · replace g2 : (twF ns0 []) = false := g2
      rw [g2] at hH
      subst hH
      rw [cond_false] at hR
      refine loopS (tyOf_ok _) hmix (by kernel_rfl) ms0.length [0, 55, 56, 57] [1000000000, 1000000001, 1000000002, 1000000003, 1000000004] (fun k (s : Unit) => [.ptr 1000000000 0, .p (.sl 12 (eAs ms0)), .p (.i .i64 (eAs ms0).length), .p (.i .i64 (ix k))])
          (fun _ _ => [.cells [.mp 1000000001, .mp 1000000002, .mp 1000000003, .mp 1000000004], .map .ks (eM vB A), .map .ks (eM vB B), .map .ks (eM vB C), .map .ks (eM vI m)]) (fun k _ => wrongA A (ms0.drop k) = R) () ⟨rfl, rfl, rfl, rfl⟩ hR ?_
      intro k _ hk hs
      conv => whnf
      refine asplit ?_ ?_ <;> intro h3 <;> conv => whnf
      · have hk1 := ix_tt h3 (by rw [eAs_len]) hk (by omega)
        obtain ⟨b, hb1⟩ : ∃ b, ms0[k]? = some b := ⟨_, List.getElem?_eq_getElem hk1⟩
        refine aidxk (eAs_get hb1) (by omega) ?_
        have hbw := wE_body (k := k0) (n := n0) (t := t0) (ns := ns0) (ts := ts0) (xs := as0) (p := p0) (List.mem_of_getElem? hb1)
        have hbl := bound_le b.pat
        have c1 := bound_spec b.pat (by omega)
        have c2 := twice_spec (boundF b.pat) (by omega)
        have c3 := foreign_spec A B C m b.pat (by omega)
        rw [drop_cons hb1] at hs
        obtain ⟨bp, ⟨b1, b2, b3, b4, b5, b6, b7, b8⟩⟩ := b
        rw [wrongA] at hs
        simp only [Arm.pat] at c1 c2 c3
        generalize twF (boundF bp) [] = q1 at c2 hs
        generalize boundF bp = q0 at c1 c2
        generalize forF A bp = q3 at c3 hs
        obtain ⟨a1, a2, a3, a4⟩ := bp
        conv => whnf
        refine apc c1 ?_
        conv => whnf
        refine apc c2 ?_
        conv => whnf
        refine asplit ?_ ?_ <;> intro h5 <;> conv => whnf
        · subst h5
          exact ⟨.inl (pb hs), ⟨.inl rfl, .inl rfl, .inl rfl, .inl rfl, trivial⟩, ⟨rfl, rfl⟩, ⟨rfl, rfl⟩, ⟨rfl, rfl⟩, ⟨rfl, rfl⟩, trivial⟩
        · subst h5
          refine amc [1000000000, 1000000001, 1000000002, 1000000003, 1000000004] 10000 c3 ?_
          conv => whnf
          refine asplit ?_ ?_ <;> intro h4 <;> conv => whnf
          · subst h4
            exact ⟨.inl (pb hs), ⟨.inl rfl, .inl rfl, .inl rfl, .inl rfl, trivial⟩, ⟨rfl, rfl⟩, ⟨rfl, rfl⟩, ⟨rfl, rfl⟩, ⟨rfl, rfl⟩, trivial⟩
          · subst h4
            exact ⟨hk1, (), ⟨rfl, rfl, rfl, rfl⟩, hs⟩
      · have hk1 := ix_ff h3 (by rw [eAs_len]) hk (by omega)
        rw [hk1, List.drop_length, wrongA] at hs
        exact ⟨.inl (pb hs), ⟨.inl rfl, .inl rfl, .inl rfl, .inl rfl, trivial⟩, ⟨rfl, rfl⟩, ⟨rfl, rfl⟩, ⟨rfl, rfl⟩, ⟨rfl, rfl⟩, trivial⟩
  replace h6 : (k0 == 10) = false := h6
  rw [h6, cond_false] at hH
  subst hH
  rw [cond_false] at hR
  refine loopS (tyOf_ok _) hmix (by kernel_rfl) ms0.length [0, 55, 56, 57] [1000000000, 1000000001, 1000000002, 1000000003, 1000000004] (fun k (s : Unit) => [.ptr 1000000000 0, .p (.sl 12 (eAs ms0)), .p (.i .i64 (eAs ms0).length), .p (.i .i64 (ix k))])
      (fun _ _ => [.cells [.mp 1000000001, .mp 1000000002, .mp 1000000003, .mp 1000000004], .map .ks (eM vB A), .map .ks (eM vB B), .map .ks (eM vB C), .map .ks (eM vI m)]) (fun k _ => wrongA A (ms0.drop k) = R) () ⟨rfl, rfl, rfl, rfl⟩ hR ?_
  intro k _ hk hs
  conv => whnf
  refine asplit ?_ ?_ <;> intro h3 <;> conv => whnf
  · have hk1 := ix_tt h3 (by rw [eAs_len]) hk (by omega)
    obtain ⟨b, hb1⟩ : ∃ b, ms0[k]? = some b := ⟨_, List.getElem?_eq_getElem hk1⟩
    refine aidxk (eAs_get hb1) (by omega) ?_
    have hbw := wE_body (k := k0) (n := n0) (t := t0) (ns := ns0) (ts := ts0) (xs := as0) (p := p0) (List.mem_of_getElem? hb1)
    have hbl := bound_le b.pat
    have c1 := bound_spec b.pat (by omega)
    have c2 := twice_spec (boundF b.pat) (by omega)
    have c3 := foreign_spec A B C m b.pat (by omega)
    rw [drop_cons hb1] at hs
    obtain ⟨bp, ⟨b1, b2, b3, b4, b5, b6, b7, b8⟩⟩ := b
    rw [wrongA] at hs
    simp only [Arm.pat] at c1 c2 c3
    generalize twF (boundF bp) [] = q1 at c2 hs
    generalize boundF bp = q0 at c1 c2
    generalize forF A bp = q3 at c3 hs
    obtain ⟨a1, a2, a3, a4⟩ := bp
    conv => whnf
    refine apc c1 ?_
    conv => whnf
    refine apc c2 ?_
    conv => whnf
    refine asplit ?_ ?_ <;> intro h5 <;> conv => whnf
    · subst h5
      exact ⟨.inl (pb hs), ⟨.inl rfl, .inl rfl, .inl rfl, .inl rfl, trivial⟩, ⟨rfl, rfl⟩, ⟨rfl, rfl⟩, ⟨rfl, rfl⟩, ⟨rfl, rfl⟩, trivial⟩
    · subst h5
      refine amc [1000000000, 1000000001, 1000000002, 1000000003, 1000000004] 10000 c3 ?_
      conv => whnf
      refine asplit ?_ ?_ <;> intro h4 <;> conv => whnf
      · subst h4
        exact ⟨.inl (pb hs), ⟨.inl rfl, .inl rfl, .inl rfl, .inl rfl, trivial⟩, ⟨rfl, rfl⟩, ⟨rfl, rfl⟩, ⟨rfl, rfl⟩, ⟨rfl, rfl⟩, trivial⟩
      · subst h4
        exact ⟨hk1, (), ⟨rfl, rfl, rfl, rfl⟩, hs⟩
  · have hk1 := ix_ff h3 (by rw [eAs_len]) hk (by omega)
    rw [hk1, List.drop_length, wrongA] at hs
    exact ⟨.inl (pb hs), ⟨.inl rfl, .inl rfl, .inl rfl, .inl rfl, trivial⟩, ⟨rfl, rfl⟩, ⟨rfl, rfl⟩, ⟨rfl, rfl⟩, ⟨rfl, rfl⟩, trivial⟩

/-- visit -/
def namesF (k : Int) (t : ByteArray) (ns : List ByteArray) (i : Nat) : List ByteArray := bif (k == 6) && (i == 1) then [t] else bif k == 10 then ns else []
abbrev Rs := (Int × Bool) × IM
mutual
def resF (A B C : BM) : Ex → IM → Rs
  | .mk k _ t ns _ xs ms p, m => bif wrongF A B C m k t ns ms then ((p, true), m) else
    bif (resFs A B C k t ns 0 xs m).1.2 then resFs A B C k t ns 0 xs m else resFa A B C ms (resFs A B C k t ns 0 xs m).2
def resFs (A B C : BM) (k : Int) (t : ByteArray) (ns : List ByteArray) : Nat → List Ex → IM → Rs
  | _, [], m => ((0, false), m)
  | i, e :: r, m => bif (resF A B C e ((namesF k t ns i).foldl incF m)).1.2 then (((resF A B C e ((namesF k t ns i).foldl incF m)).1.1, true), (namesF k t ns i).foldl decF (resF A B C e ((namesF k t ns i).foldl incF m)).2)
    else resFs A B C k t ns (i + 1) r ((namesF k t ns i).foldl decF (resF A B C e ((namesF k t ns i).foldl incF m)).2)
def resFa (A B C : BM) : List Arm → IM → Rs
  | [], m => ((0, false), m)
  | .mk q e :: r, m => bif (resF A B C e ((boundF q).foldl incF m)).1.2 then (((resF A B C e ((boundF q).foldl incF m)).1.1, true), (boundF q).foldl decF (resF A B C e ((boundF q).foldl incF m)).2)
    else resFa A B C r ((boundF q).foldl decF (resF A B C e ((boundF q).foldl incF m)).2)
end
def undF (A B C : BM) (ns : List ByteArray) (e : Ex) (m : IM) : Rs := ((resF A B C e (ns.foldl incF m)).1, ns.foldl decF (resF A B C e (ns.foldl incF m)).2)
def rsV (r : Rs) : AV := .tup [.p (.i .i64 r.1.1), .p (.b r.1.2)]
def ResS (A B C : BM) (e : Ex) : Prop := ∀ m : IM, AMem Tryd.prog 51 [.ptr 1000000000 0, .p (eE e)] (hpR A B C m) (rsV (resF A B C e m)) (hpR A B C (resF A B C e m).2)
theorem und_of (A B C : BM) (ns : List ByteArray) (e : Ex) (hn : ns.length ≤ 1048640) (ih : ResS A B C e) (m0 : IM) :
    AMem Tryd.prog 67 [.ptr 1000000000 0, .p (.sl 1 (ns.map eStr)), .p (eE e)] (hpR A B C m0) (rsV (undF A B C ns e m0)) (hpR A B C (undF A B C ns e m0).2) := by
  have hv := ih (ns.foldl incF m0)
  rw [undF]
  generalize resF A B C e (ns.foldl incF m0) = R at hv
  obtain ⟨⟨r1, r2⟩, r3⟩ := R
  obtain ⟨k0, n0, t0, ns0, ts0, as0, ms0, p0⟩ := e
  simp only [rsV] at hv ⊢
  refine AMem.intro (tyOf_ok Tryd.prog) hmix Tryd.func67 rfl (by rfl) (by kernel_rfl) (by show 3 ≤ _; decide) rfl ?_
  conv => whnf
  refine loopS (tyOf_ok _) hmix (by kernel_rfl) ns.length [0, 1, 5, 14, 15, 16] [1000000000, 1000000001, 1000000002, 1000000003, 1000000004, 5] (fun k (m : IM) => [.ptr 1000000000 0, .p (.sl 1 (ns.map eStr)), .ptr 5 0, .p (.sl 1 (ns.map eStr)), .p (.i .i64 (ns.map eStr).length), .p (.i .i64 (ix k))])
    (fun k m => [.cells [.mp 1000000001, .mp 1000000002, .mp 1000000003, .mp 1000000004], .map .ks (eM vB A), .map .ks (eM vB B), .map .ks (eM vB C), .map .ks (eM vI m), .cells [.p (.i .i64 k0), .p (.i .i64 n0), .p (.s t0), .p (.sl 1 (ns0.map eStr)), .p (.sl 3 (eTs ts0)), .p (.sl 8 (eEs as0)), .p (.sl 12 (eAs ms0)), .p (.i .i64 p0)]])
    (fun k m => m = (ns.take k).foldl incF m0) m0 ⟨rfl, rfl, rfl, rfl⟩ rfl ?_
  intro k m hk hm
  conv => whnf
  refine asplit ?_ ?_ <;> intro h1 <;> conv => whnf
  · have hk1 := ix_tt h1 (by simp) hk (by omega)
    obtain ⟨b, hb1⟩ : ∃ b, ns[k]? = some b := ⟨_, List.getElem?_eq_getElem hk1⟩
    refine aidxk (x := eStr b) (by simp [hb1]) (by omega) ?_
    conv => whnf
    refine alook (mlook_I b m) ?_
    conv => whnf
    refine ⟨hk1, incF m b, ⟨by rw [incF, ← mput_eM]; rfl, rfl, rfl, rfl⟩, ?_⟩
    rw [take_snoc hb1, List.foldl_append, ← hm]; rfl
  · have hk1 := ix_ff h1 (by simp) hk (by omega)
    have hm2 : m = ns.foldl incF m0 := by rw [hm, hk1, List.take_length]
    subst hm2
    refine amc [1000000000, 1000000001, 1000000002, 1000000003, 1000000004] 10000 hv ?_
    conv => whnf
    refine loopS (tyOf_ok _) hmix (by kernel_rfl) ns.length [0, 10, 11, 34, 35, 36] [1000000000, 1000000001, 1000000002, 1000000003, 1000000004] (fun k (m : IM) => [.ptr 1000000000 0, .p (.i .i64 r1), .p (.b r2), .p (.sl 1 (ns.map eStr)), .p (.i .i64 (ns.map eStr).length), .p (.i .i64 (ix k))])
      (fun k m => [.cells [.mp 1000000001, .mp 1000000002, .mp 1000000003, .mp 1000000004], .map .ks (eM vB A), .map .ks (eM vB B), .map .ks (eM vB C), .map .ks (eM vI m)])
      (fun k m => m = (ns.take k).foldl decF r3) r3 ⟨rfl, rfl, rfl, rfl⟩ rfl ?_
    intro j m3 hj hm3
    conv => whnf
    refine asplit ?_ ?_ <;> intro h2 <;> conv => whnf
    · have hj1 := ix_tt h2 (by simp) hj (by omega)
      obtain ⟨b, hb1⟩ : ∃ b, ns[j]? = some b := ⟨_, List.getElem?_eq_getElem hj1⟩
      refine aidxk (x := eStr b) (by simp [hb1]) (by omega) ?_
      conv => whnf
      refine alook (mlook_I b m3) ?_
      conv => whnf
      refine ⟨hj1, decF m3 b, ⟨by rw [decF, ← mput_eM]; rfl, rfl, rfl, rfl⟩, ?_⟩
      rw [take_snoc hb1, List.foldl_append, ← hm3]; rfl
    · have hj1 := ix_ff h2 (by simp) hj (by omega)
      have hm4 : m3 = ns.foldl decF r3 := by rw [hm3, hj1, List.take_length]
      subst hm4
      exact ⟨.inl rfl, ⟨.inl rfl, .inl rfl, .inl rfl, .inl rfl, trivial⟩, ⟨rfl, rfl⟩, ⟨rfl, rfl⟩, ⟨rfl, rfl⟩, ⟨rfl, rfl⟩, trivial⟩
theorem resF_at {A B C : BM} {k0 : Int} {t0 : ByteArray} {ns0 : List ByteArray} {as0 : List Ex} {k : Nat} {b : Ex} (hb : as0[k]? = some b) (m : IM) : resFs A B C k0 t0 ns0 k (as0.drop k) m =
    bif (undF A B C (namesF k0 t0 ns0 k) b m).1.2 then (((undF A B C (namesF k0 t0 ns0 k) b m).1.1, true), (undF A B C (namesF k0 t0 ns0 k) b m).2) else resFs A B C k0 t0 ns0 (k + 1) (as0.drop (k + 1)) (undF A B C (namesF k0 t0 ns0 k) b m).2 := by
  rw [drop_cons hb, resFs]; rfl
theorem resFa_at {A B C : BM} {ms0 : List Arm} {k : Nat} {b : Arm} (hb : ms0[k]? = some b) (m : IM) : resFa A B C (ms0.drop k) m =
    bif (undF A B C (boundF b.pat) b.body m).1.2 then (((undF A B C (boundF b.pat) b.body m).1.1, true), (undF A B C (boundF b.pat) b.body m).2) else resFa A B C (ms0.drop (k + 1)) (undF A B C (boundF b.pat) b.body m).2 := by
  rw [drop_cons hb]; obtain ⟨p, e⟩ := b; rw [resFa]; rfl
theorem res_all (A B C : BM) (e : Ex) (he : wE e ≤ 1048640) (ih1 : ∀ a ∈ e.args, ResS A B C a) (ih2 : ∀ a ∈ e.arms, ResS A B C a.body) : ResS A B C e := by
  intro m0
  obtain ⟨k0, n0, t0, ns0, ts0, as0, ms0, p0⟩ := e
  have hl := wE_lens k0 n0 t0 ns0 ts0 as0 ms0 p0
  simp only [Ex.args, Ex.arms] at ih1 ih2
  have c0 := wrong_spec A B C m0 k0 n0 t0 ns0 ts0 as0 ms0 p0 he
  generalize hR : resF A B C (Ex.mk k0 n0 t0 ns0 ts0 as0 ms0 p0) m0 = R
  rw [resF] at hR
  generalize wrongF A B C m0 k0 t0 ns0 ms0 = W0 at c0 hR
  refine AMem.intro (tyOf_ok Tryd.prog) hmix Tryd.func51 rfl (by rfl) (by kernel_rfl) (by show 2 ≤ _; decide) rfl ?_
  conv => whnf
  refine amc [1000000000, 1000000001, 1000000002, 1000000003, 1000000004] 10000 c0 ?_
  conv => whnf
  refine asplit ?_ ?_ <;> intro h0 <;> conv => whnf
  · subst h0
    rw [cond_true] at hR
    subst hR
    exact ⟨.inl rfl, ⟨.inl rfl, .inl rfl, .inl rfl, .inl rfl, trivial⟩, ⟨rfl, rfl⟩, ⟨rfl, rfl⟩, ⟨rfl, rfl⟩, ⟨rfl, rfl⟩, trivial⟩
  subst h0
  rw [cond_false] at hR
  generalize hS : resFs A B C k0 t0 ns0 0 as0 m0 = S at hR
  refine loopS (tyOf_ok _) hmix (by kernel_rfl) as0.length [0, 3, 21, 22, 23] [1000000000, 1000000001, 1000000002, 1000000003, 1000000004, 3] (fun k (m : IM) => [.ptr 1000000000 0, .ptr 3 0, .p (.sl 8 (eEs as0)), .p (.i .i64 (eEs as0).length), .p (.i .i64 (ix k))])
      (fun k m => [.cells [.mp 1000000001, .mp 1000000002, .mp 1000000003, .mp 1000000004], .map .ks (eM vB A), .map .ks (eM vB B), .map .ks (eM vB C), .map .ks (eM vI m), .cells [.p (.i .i64 k0), .p (.i .i64 n0), .p (.s t0), .p (.sl 1 (ns0.map eStr)), .p (.sl 3 (eTs ts0)), .p (.sl 8 (eEs as0)), .p (.sl 12 (eAs ms0)), .p (.i .i64 p0)]])
      (fun k m => resFs A B C k0 t0 ns0 k (as0.drop k) m = S) m0 ⟨rfl, rfl, rfl, rfl⟩ hS ?_
  intro k m hk hs
  conv => whnf
  refine asplit ?_ ?_ <;> intro h1 <;> conv => whnf
  · have hk1 := ix_tt h1 (by rw [eEs_len]) hk (by omega)
    obtain ⟨b, hb1⟩ : ∃ b, as0[k]? = some b := ⟨_, List.getElem?_eq_getElem hk1⟩
    refine aidxk (eEs_get hb1) (by omega) ?_
    rw [resF_at hb1] at hs
    have hcc := fun ns (hn : ns.length ≤ 1048640) => und_of A B C ns b hn (ih1 b (List.mem_of_getElem? hb1)) m
    have hnl : (namesF k0 t0 ns0 k).length ≤ 1048640 := by rw [namesF]; cases ((k0 == 6) && (k == 1)) <;> cases k0 == 10 <;> simp <;> omega
    have hc := hcc (namesF k0 t0 ns0 k) hnl
    clear hcc hnl
    generalize undF A B C (namesF k0 t0 ns0 k) b m = U at hc hs
    obtain ⟨⟨u1, u2⟩, u3⟩ := U
    simp only [rsV] at hc hs
    rw [namesF] at hc
    obtain ⟨b1, b2, b3, b4, b5, b6, b7, b8⟩ := b
    conv => whnf
    refine asplit ?_ ?_ <;> intro h2 <;> conv => whnf
    · replace h2 : (k0 == 6) = true := h2
      refine asplit ?_ ?_ <;> intro h3 <;> conv => whnf
      · replace h3 : (ix k == 1) = true := h3
        rw [ix_eq (by omega)] at h3
        have h5 : (k == 1) = true := by simp at h3 ⊢; omega
        rw [h2, h5] at hc
        refine amc [1000000000, 1000000001, 1000000002, 1000000003, 1000000004] 10000 hc ?_
        conv => whnf
        refine asplit ?_ ?_ <;> intro h4 <;> conv => whnf
        · subst h4
          rw [cond_true] at hs
          subst hs
          rw [cond_true] at hR
          subst hR
          exact ⟨.inl rfl, ⟨.inl rfl, .inl rfl, .inl rfl, .inl rfl, trivial⟩, ⟨rfl, rfl⟩, ⟨rfl, rfl⟩, ⟨rfl, rfl⟩, ⟨rfl, rfl⟩, trivial⟩
        · subst h4
          rw [cond_false] at hs
          exact ⟨hk1, u3, ⟨rfl, rfl, rfl, rfl⟩, hs⟩
      · replace h3 : (ix k == 1) = false := h3
        rw [ix_eq (by omega)] at h3
        have h5 : (k == 1) = false := by simp at h3 ⊢; omega
        rw [h2, h5] at hc
        have h6 : (k0 == 10) = false := by simp at h2 ⊢; omega
        rw [h6] at hc
        refine asf h6 ?_
        conv => whnf
        refine amc [1000000000, 1000000001, 1000000002, 1000000003, 1000000004] 10000 hc ?_
        conv => whnf
        refine asplit ?_ ?_ <;> intro h4 <;> conv => whnf
        · subst h4
          rw [cond_true] at hs
          subst hs
          rw [cond_true] at hR
          subst hR
          exact ⟨.inl rfl, ⟨.inl rfl, .inl rfl, .inl rfl, .inl rfl, trivial⟩, ⟨rfl, rfl⟩, ⟨rfl, rfl⟩, ⟨rfl, rfl⟩, ⟨rfl, rfl⟩, trivial⟩
        · subst h4
          rw [cond_false] at hs
          exact ⟨hk1, u3, ⟨rfl, rfl, rfl, rfl⟩, hs⟩
    · replace h2 : (k0 == 6) = false := h2
      rw [h2] at hc
      refine asplit ?_ ?_ <;> intro h3 <;> conv => whnf
      · replace h3 : (k0 == 10) = true := h3
        rw [h3] at hc
        refine amc [1000000000, 1000000001, 1000000002, 1000000003, 1000000004] 10000 hc ?_
        conv => whnf
        refine asplit ?_ ?_ <;> intro h4 <;> conv => whnf
        · subst h4
          rw [cond_true] at hs
          subst hs
          rw [cond_true] at hR
          subst hR
          exact ⟨.inl rfl, ⟨.inl rfl, .inl rfl, .inl rfl, .inl rfl, trivial⟩, ⟨rfl, rfl⟩, ⟨rfl, rfl⟩, ⟨rfl, rfl⟩, ⟨rfl, rfl⟩, trivial⟩
        · subst h4
          rw [cond_false] at hs
          exact ⟨hk1, u3, ⟨rfl, rfl, rfl, rfl⟩, hs⟩
      · replace h3 : (k0 == 10) = false := h3
        rw [h3] at hc
        refine amc [1000000000, 1000000001, 1000000002, 1000000003, 1000000004] 10000 hc ?_
        conv => whnf
        refine asplit ?_ ?_ <;> intro h4 <;> conv => whnf
        · subst h4
          rw [cond_true] at hs
          subst hs
          rw [cond_true] at hR
          subst hR
          exact ⟨.inl rfl, ⟨.inl rfl, .inl rfl, .inl rfl, .inl rfl, trivial⟩, ⟨rfl, rfl⟩, ⟨rfl, rfl⟩, ⟨rfl, rfl⟩, ⟨rfl, rfl⟩, trivial⟩
        · subst h4
          rw [cond_false] at hs
          exact ⟨hk1, u3, ⟨rfl, rfl, rfl, rfl⟩, hs⟩
  · have hk1 := ix_ff h1 (by rw [eEs_len]) hk (by omega)
    rw [hk1, List.drop_length, resFs] at hs
    subst hs
    rw [cond_false] at hR
    refine loopS (tyOf_ok _) hmix (by kernel_rfl) ms0.length [0, 56, 57, 58] [1000000000, 1000000001, 1000000002, 1000000003, 1000000004] (fun k (m : IM) => [.ptr 1000000000 0, .p (.sl 12 (eAs ms0)), .p (.i .i64 (eAs ms0).length), .p (.i .i64 (ix k))])
        (fun k m => [.cells [.mp 1000000001, .mp 1000000002, .mp 1000000003, .mp 1000000004], .map .ks (eM vB A), .map .ks (eM vB B), .map .ks (eM vB C), .map .ks (eM vI m)])
        (fun k m => resFa A B C (ms0.drop k) m = R) m ⟨rfl, rfl, rfl, rfl⟩ hR ?_
    intro j m3 hj hs
    conv => whnf
    refine asplit ?_ ?_ <;> intro h2 <;> conv => whnf
    · have hj1 := ix_tt h2 (by rw [eAs_len]) hj (by omega)
      obtain ⟨b, hb1⟩ : ∃ b, ms0[j]? = some b := ⟨_, List.getElem?_eq_getElem hj1⟩
      refine aidxk (eAs_get hb1) (by omega) ?_
      rw [resFa_at hb1] at hs
      have hbw := wE_body (k := k0) (n := n0) (t := t0) (ns := ns0) (ts := ts0) (xs := as0) (p := p0) (List.mem_of_getElem? hb1)
      have hbl := bound_le b.pat
      have c1 := bound_spec b.pat (by omega)
      have hc := und_of A B C (boundF b.pat) b.body (by omega) (ih2 b (List.mem_of_getElem? hb1)) m3
      generalize undF A B C (boundF b.pat) b.body m3 = U at hc hs
      obtain ⟨⟨u1, u2⟩, u3⟩ := U
      simp only [rsV] at hc hs
      generalize boundF b.pat = bp at hc c1
      obtain ⟨⟨a1, a2, a3, a4⟩, ⟨b1, b2, b3, b4, b5, b6, b7, b8⟩⟩ := b
      conv => whnf
      refine apc c1 ?_
      conv => whnf
      refine amc [1000000000, 1000000001, 1000000002, 1000000003, 1000000004] 10000 hc ?_
      conv => whnf
      refine aneed (by kernel_rfl) ?_
      conv => whnf
      refine asplit ?_ ?_ <;> intro h4 <;> conv => whnf
      · subst h4
        rw [cond_true] at hs
        subst hs
        exact ⟨.inl rfl, ⟨.inl rfl, .inl rfl, .inl rfl, .inl rfl, trivial⟩, ⟨rfl, rfl⟩, ⟨rfl, rfl⟩, ⟨rfl, rfl⟩, ⟨rfl, rfl⟩, trivial⟩
      · subst h4
        rw [cond_false] at hs
        exact ⟨hj1, u3, ⟨rfl, rfl, rfl, rfl⟩, hs⟩
    · have hj1 := ix_ff h2 (by rw [eAs_len]) hj (by omega)
      rw [hj1, List.drop_length, resFa] at hs
      subst hs
      exact ⟨.inl rfl, ⟨.inl rfl, .inl rfl, .inl rfl, .inl rfl, trivial⟩, ⟨rfl, rfl⟩, ⟨rfl, rfl⟩, ⟨rfl, rfl⟩, ⟨rfl, rfl⟩, trivial⟩
theorem res_spec (A B C : BM) (e : Ex) : wE e ≤ 1048640 → ResS A B C e :=
  Ex.ind (Q := fun e => wE e ≤ 1048640 → ResS A B C e) (fun k n t ns ts xs ms p h1 h2 h => res_all A B C (.mk k n t ns ts xs ms p) h (fun a ha => h1 a ha (by have := wE_args (k := k) (n := n) (t := t) (ns := ns) (ts := ts) (ms := ms) (p := p) (show a ∈ xs from ha); omega))
    (fun a ha => h2 a ha (by have := wE_body (k := k) (n := n) (t := t) (ns := ns) (ts := ts) (xs := xs) (p := p) (show a ∈ ms from ha); omega))) e
end TR
open Go Go.AM Go.Proofs
set_option maxRecDepth 100000
namespace TR
def hp0 (A B C : BM) : Heap := [(1000000000, .cells [.mp 1000000001, .mp 1000000002, .mp 1000000003, .c (.map none)]), (1000000001, .map .ks (eM vB A)), (1000000002, .map .ks (eM vB B)), (1000000003, .map .ks (eM vB C))]
def hp1 (A B C : BM) (m : IM) : Heap := [(1000000000, .cells [.mp 1000000001, .mp 1000000002, .mp 1000000003, .mp 11]), (1000000001, .map .ks (eM vB A)), (1000000002, .map .ks (eM vB B)), (1000000003, .map .ks (eM vB C)), (11, .map .ks (eM vI m))]
theorem exprM_spec (A B C : BM) (l : List ByteArray) (e : Ex) (hl : l.length ≤ 2097152) (he : wE e ≤ 1048640) : AMem Tryd.prog 33 [.ptr 1000000000 0, .p (.sl 1 (l.map eStr)), .p (eE e)] (hp0 A B C)
    (rsV (resF A B C e (l.foldl incF []))) (hp1 A B C (resF A B C e (l.foldl incF [])).2) := by
  have hv := res_spec A B C e he (l.foldl incF [])
  generalize resF A B C e (l.foldl incF []) = R at hv
  obtain ⟨⟨r1, r2⟩, r3⟩ := R
  obtain ⟨k0, n0, t0, ns0, ts0, as0, ms0, p0⟩ := e
  simp only [rsV] at hv ⊢
  refine AMem.intro (tyOf_ok Tryd.prog) hmix Tryd.func33 rfl (by rfl) (by kernel_rfl) (by show 3 ≤ _; decide) rfl ?_
  conv => whnf
  refine loopS (tyOf_ok _) hmix (by kernel_rfl) l.length [0, 5, 14, 15, 16] [1000000000, 1000000001, 1000000002, 1000000003, 11, 5] (fun k (m : IM) => [.ptr 1000000000 0, .ptr 5 0, .p (.sl 1 (l.map eStr)), .p (.i .i64 (l.map eStr).length), .p (.i .i64 (ix k))])
    (fun k m => [.cells [.mp 1000000001, .mp 1000000002, .mp 1000000003, .mp 11], .map .ks (eM vB A), .map .ks (eM vB B), .map .ks (eM vB C), .map .ks (eM vI m), .cells [.p (.i .i64 k0), .p (.i .i64 n0), .p (.s t0), .p (.sl 1 (ns0.map eStr)), .p (.sl 3 (eTs ts0)), .p (.sl 8 (eEs as0)), .p (.sl 12 (eAs ms0)), .p (.i .i64 p0)]])
    (fun k m => m = (l.take k).foldl incF []) [] ⟨rfl, rfl, rfl, rfl⟩ rfl ?_
  intro k m hk hm
  conv => whnf
  refine asplit ?_ ?_ <;> intro h1 <;> conv => whnf
  · have hk1 := ix_tt h1 (by simp) hk (by omega)
    obtain ⟨b, hb1⟩ : ∃ b, l[k]? = some b := ⟨_, List.getElem?_eq_getElem hk1⟩
    refine aidxk (x := eStr b) (by simp [hb1]) (by omega) ?_
    conv => whnf
    refine alook (mlook_I b m) ?_
    conv => whnf
    refine ⟨hk1, incF m b, ⟨by rw [incF, ← mput_eM]; rfl, rfl, rfl, rfl⟩, ?_⟩
    rw [take_snoc hb1, List.foldl_append, ← hm]; rfl
  · have hk1 := ix_ff h1 (by simp) hk (by omega)
    have hm2 : m = l.foldl incF [] := by rw [hm, hk1, List.take_length]
    subst hm2
    refine amc [1000000000, 1000000001, 1000000002, 1000000003, 11] 10000 hv ?_
    conv => whnf
    exact ⟨.inl rfl, ⟨.inl rfl, .inl rfl, .inl rfl, .inl rfl, trivial⟩, ⟨rfl, rfl⟩, ⟨rfl, rfl⟩, ⟨rfl, rfl⟩, ⟨rfl, rfl⟩, trivial⟩
/-- scope.Expr -/
def exprF (p : Pg) (l : List ByteArray) (e : Ex) : Int × Bool := (resF (setF (mkN p.datas)) (setF (caN p)) (setF (p.actors.map (·.name))) e (l.foldl incF [])).1
theorem expr_spec (p : Pg) (hp : wPg p ≤ 1048576) (l : List ByteArray) (e : Ex) (hl : l.length ≤ 2097152) (he : wE e ≤ 1048640) : APure Tryd.prog 12 [.p (ePg p), .p (.sl 1 (l.map eStr)), .p (eE e)]
    (.tup [.p (.i .i64 (bif (exprF p l e).2 then 11 else 0)), .p (.i .i64 (bif (exprF p l e).2 then (exprF p l e).1 else 0))]) := by
  have h1 := newRes_spec p hp
  rw [exprF]
  generalize setF (mkN p.datas) = A at *
  generalize setF (caN p) = B at *
  generalize setF (p.actors.map (·.name)) = C at *
  have h2 := exprM_spec A B C l e hl he
  generalize resF A B C e (l.foldl incF []) = R at h2
  obtain ⟨⟨r1, r2⟩, r3⟩ := R
  have h3 := told_spec r1 r2
  simp only [rsV] at h2 ⊢
  generalize (bif r2 then (11 : Int) else 0) = q1 at *
  generalize (bif r2 then (r1 : Int) else 0) = q2 at *
  clear hp
  obtain ⟨nm, ver, us, ds, ts, is, fs, acs⟩ := p
  obtain ⟨k0, n0, t0, ns0, ts0, as0, ms0, p0⟩ := e
  refine APure.intro (tyOf_ok Tryd.prog) hmix Tryd.func12 rfl (by rfl) (by kernel_rfl) (by show 3 ≤ _; decide) rfl ?_
  conv => whnf
  refine amc [] 100000 h1 ?_
  conv => whnf
  refine amc [100013, 110006, 120006, 130006] 200000 h2 ?_
  conv => whnf
  refine apc h3 ?_
  conv => whnf
  refine aneed (by kernel_rfl) ?_
  conv => whnf
  exact .inl rfl
end TR
open Go Go.AM Go.Proofs
set_option maxRecDepth 100000
namespace TR
/-! the plain law: more names in scope -/
def Bd (c : Nat) (m : IM) : Prop := ∀ s, 0 ≤ bv m s ∧ bv m s ≤ c
theorem Bd.up {c d : Nat} {m : IM} (h : Bd c m) (hc : c ≤ d) : Bd d m := fun s => ⟨(h s).1, by have := (h s).2; omega⟩
theorem incs_bv : ∀ (ns : List ByteArray) (c : Nat) (m : IM), Bd c m → c + ns.length ≤ 2 ^ 40 → ∀ x, bv (ns.foldl incF m) x = bv m x + cnt x ns
  | [], c, m, h, hc, x => by simp [cnt]
  | s :: r, c, m, h, hc, x => by
    simp only [List.length_cons] at hc
    have h1 : Bd (c + 1) (incF m s) := fun y => by
      rw [bv_inc]; have := h y; have := h s
      split
      · rw [wrap64 (by omega) (by omega)]; omega
      · omega
    rw [List.foldl_cons, incs_bv r (c + 1) (incF m s) h1 (by omega) x, bv_inc, cnt]
    have := h s
    by_cases q : x = s
    · subst q; simp [(beq_bytes x x).2 rfl]; rw [wrap64 (by omega) (by omega)]; omega
    · simp [q, beq_no (fun h => q h.symm)]
theorem decs_bv : ∀ (ns : List ByteArray) (m : IM), (∀ x, (cnt x ns : Int) ≤ bv m x ∧ bv m x ≤ 2 ^ 40) → ∀ x, bv (ns.foldl decF m) x = bv m x - cnt x ns
  | [], m, h, x => by simp [cnt]
  | s :: r, m, h, x => by
    have hs := h s
    have h1 : ∀ y, (cnt y r : Int) ≤ bv (decF m s) y ∧ bv (decF m s) y ≤ 2 ^ 40 := fun y => by
      rw [bv_dec]; have := h y
      rw [cnt] at this hs
      by_cases q : y = s
      · subst q; simp [(beq_bytes y y).2 rfl] at hs ⊢; rw [wrap64 (by omega) (by omega)]; omega
      · simp [q, beq_no (fun h => q h.symm)] at this ⊢; omega
    rw [List.foldl_cons, decs_bv r (decF m s) h1 x, bv_dec, cnt]
    rw [cnt] at hs
    by_cases q : x = s
    · subst q; simp [(beq_bytes x x).2 rfl] at hs ⊢; rw [wrap64 (by omega) (by omega)]; omega
    · simp [q, beq_no (fun h => q h.symm)]
theorem incs_Bd {ns : List ByteArray} {c : Nat} {m : IM} (h : Bd c m) (hc : c + ns.length ≤ 2 ^ 40) : Bd (c + ns.length) (ns.foldl incF m) := fun x => by
  rw [incs_bv ns c m h hc x]; have := h x; have := cnt_le x ns; omega
theorem und_keep {A B C : BM} {ns : List ByteArray} {e : Ex} {c : Nat} {m : IM} (h : Bd c m) (hc : c + ns.length ≤ 2 ^ 40) (hk : ∀ m, Bd (c + ns.length) m → ∀ s, bv (resF A B C e m).2 s = bv m s) : ∀ s, bv (undF A B C ns e m).2 s = bv m s := by
  intro s
  rw [undF]
  have h1 := incs_Bd h hc
  have h2 := hk _ h1
  have h3 := incs_bv ns c m h hc
  rw [decs_bv ns _ (fun x => by rw [h2 x, h3 x]; have := h x; have := cnt_le x ns; omega) s, h2 s, h3 s]; omega
theorem names_len (k : Int) (t : ByteArray) (ns : List ByteArray) (i : Nat) : (namesF k t ns i).length ≤ 1 + ns.length := by rw [namesF]; cases ((k == 6) && (i == 1)) <;> cases k == 10 <;> simp
theorem resFs_cons (A B C : BM) (k : Int) (t : ByteArray) (ns : List ByteArray) (i : Nat) (e : Ex) (r : List Ex) (m : IM) : resFs A B C k t ns i (e :: r) m =
    bif (undF A B C (namesF k t ns i) e m).1.2 then (((undF A B C (namesF k t ns i) e m).1.1, true), (undF A B C (namesF k t ns i) e m).2) else resFs A B C k t ns (i + 1) r (undF A B C (namesF k t ns i) e m).2 := by rw [resFs]; rfl
theorem resFa_cons (A B C : BM) (b : Arm) (r : List Arm) (m : IM) : resFa A B C (b :: r) m =
    bif (undF A B C (boundF b.pat) b.body m).1.2 then (((undF A B C (boundF b.pat) b.body m).1.1, true), (undF A B C (boundF b.pat) b.body m).2) else resFa A B C r (undF A B C (boundF b.pat) b.body m).2 := by obtain ⟨p, e⟩ := b; rw [resFa]; rfl
/-- the pair of runs -/
structure Pair (c : Nat) (m m' : IM) : Prop where
  l : Bd c m
  r : Bd c m'
  le : ∀ s, bv m s ≤ bv m' s
def Good (A B C : BM) (c : Nat) (f : IM → Rs) : Prop := ∀ m m', Pair c m m' → (∀ s, bv (f m).2 s = bv m s) ∧ (∀ s, bv (f m').2 s = bv m' s) ∧ ((f m).1.2 = false → (f m').1.2 = false)
theorem Pair.of_eq {c : Nat} {m m' n n' : IM} (h : Pair c m m') (h1 : ∀ s, bv n s = bv m s) (h2 : ∀ s, bv n' s = bv m' s) : Pair c n n' :=
  ⟨fun s => by rw [h1]; exact h.l s, fun s => by rw [h2]; exact h.r s, fun s => by rw [h1, h2]; exact h.le s⟩
theorem und_good {A B C : BM} {ns : List ByteArray} {e : Ex} {c : Nat} (hc : c + ns.length ≤ 2 ^ 40) (h : Good A B C (c + ns.length) (resF A B C e)) : Good A B C c (undF A B C ns e) := by
  intro m m' hp
  have self : ∀ m, Bd (c + ns.length) m → ∀ s, bv (resF A B C e m).2 s = bv m s := fun m hm => (h m m ⟨hm, hm, fun _ => Int.le_refl _⟩).1
  refine ⟨und_keep hp.l hc self, und_keep hp.r hc self, ?_⟩
  exact (h _ _ ⟨incs_Bd hp.l hc, incs_Bd hp.r hc, fun s => by rw [incs_bv ns c m hp.l hc, incs_bv ns c m' hp.r hc]; have := hp.le s; omega⟩).2.2
theorem step_good {A B C : BM} {c : Nat} {f g : IM → Rs} (hf : Good A B C c f) (hg : Good A B C c g) : Good A B C c (fun m => bif (f m).1.2 then (((f m).1.1, true), (f m).2) else g (f m).2) := by
  intro m m' hp
  obtain ⟨f1, f2, f3⟩ := hf m m' hp
  obtain ⟨g1, g2, g3⟩ := hg _ _ (hp.of_eq f1 f2)
  refine ⟨fun s => ?_, fun s => ?_, ?_⟩
  · simp only; cases (f m).1.2 with | true => exact f1 s | false => simp only [cond_false]; rw [g1, f1]
  · simp only; cases (f m').1.2 with | true => exact f2 s | false => simp only [cond_false]; rw [g2, f2]
  · simp only; cases hq : (f m).1.2 with
    | true => intro h; cases h
    | false => simp only [cond_false]; rw [f3 hq]; exact g3
theorem id_good {A B C : BM} {c : Nat} (q : Int × Bool) : Good A B C c (fun m => (q, m)) := fun _ _ _ => ⟨fun _ => rfl, fun _ => rfl, id⟩
theorem resFs_good {A B C : BM} {k : Int} {t : ByteArray} {ns : List ByteArray} {c : Nat} : ∀ (xs : List Ex) (i : Nat), (∀ e ∈ xs, ∀ j, Good A B C c (undF A B C (namesF k t ns j) e)) → Good A B C c (resFs A B C k t ns i xs)
  | [], i, _ => by simp only [resFs]; exact id_good (0, false)
  | e :: r, i, h => by
    have h1 := h e (by simp) i
    have h2 := resFs_good r (i + 1) (fun x hx => h x (by simp [hx]))
    have := step_good h1 h2
    intro m m' hp
    rw [resFs_cons, resFs_cons]; exact this m m' hp
theorem resFa_good {A B C : BM} {c : Nat} : ∀ (xs : List Arm), (∀ b ∈ xs, Good A B C c (undF A B C (boundF b.pat) b.body)) → Good A B C c (resFa A B C xs)
  | [], _ => by simp only [resFa]; exact id_good (0, false)
  | e :: r, h => by
    have h1 := h e (by simp)
    have h2 := resFa_good r (fun x hx => h x (by simp [hx]))
    have := step_good h1 h2
    intro m m' hp
    rw [resFa_cons, resFa_cons]; exact this m m' hp
theorem wrong_mono {A B C : BM} {m m' : IM} {c : Nat} {k : Int} {t : ByteArray} {ns : List ByteArray} {ms : List Arm} (hp : Pair c m m') (h : wrongF A B C m k t ns ms = false) : wrongF A B C m' k t ns ms = false := by
  rw [wrongF] at h ⊢
  have h1 : headF A B C m k t ns = false := by cases hq : headF A B C m k t ns with | false => rfl | true => rw [hq] at h; cases h
  have h2 : headF A B C m' k t ns = false := by
    rw [headF] at h1 ⊢
    cases hk : k == 5 with
    | false => rw [hk] at h1; exact h1
    | true =>
      rw [hk] at h1
      simp only [cond_true, beq_eq_false_iff_ne] at h1 ⊢
      have := hp.le t; have := (hp.l t).1
      rw [show (slook t m).getD 0 = bv m t from rfl] at h1
      rw [show (slook t m').getD 0 = bv m' t from rfl]; omega
  rw [h1] at h; rw [h2]; exact h
theorem res_good (A B C : BM) (e : Ex) : ∀ c, c + wE e ≤ 2 ^ 40 → Good A B C c (resF A B C e) := by
  induction e using Ex.ind with
  | h k n t ns ts xs ms p ih1 ih2 =>
  intro c hc
  have hl := wE_mk k n t ns ts xs ms p
  have hns := wSs_len ns
  have g1 : Good A B C c (resFs A B C k t ns 0 xs) := resFs_good xs 0 (fun e he j => by
    have h1 := names_len k t ns j
    have h2 := wEs_mem he
    exact und_good (by omega) (ih1 e he _ (by omega)))
  have g2 : Good A B C c (resFa A B C ms) := resFa_good ms (fun b hb => by
    have h1 := bound_le b.pat
    have h2 := wE_body (k := k) (n := n) (t := t) (ns := ns) (ts := ts) (xs := xs) (p := p) hb
    exact und_good (by omega) (ih2 b hb _ (by omega)))
  have g3 : Good A B C c (fun m => bif (resFs A B C k t ns 0 xs m).1.2 then resFs A B C k t ns 0 xs m else resFa A B C ms (resFs A B C k t ns 0 xs m).2) := by
    intro m m' hp
    obtain ⟨f1, f2, f3⟩ := g1 m m' hp
    obtain ⟨h1, h2, h3⟩ := g2 _ _ (hp.of_eq f1 f2)
    refine ⟨fun s => ?_, fun s => ?_, ?_⟩
    · simp only; cases (resFs A B C k t ns 0 xs m).1.2 with | true => exact f1 s | false => simp only [cond_false]; rw [h1, f1]
    · simp only; cases (resFs A B C k t ns 0 xs m').1.2 with | true => exact f2 s | false => simp only [cond_false]; rw [h2, f2]
    · simp only; cases hq : (resFs A B C k t ns 0 xs m).1.2 with
      | true => intro h; simp only [cond_true] at h; rw [hq] at h; cases h
      | false => simp only [cond_false]; rw [f3 hq]; exact h3
  intro m m' hp
  obtain ⟨f1, f2, f3⟩ := g3 m m' hp
  rw [resF, resF]
  refine ⟨fun s => ?_, fun s => ?_, ?_⟩
  · cases wrongF A B C m k t ns ms with | true => rfl | false => exact f1 s
  · cases wrongF A B C m' k t ns ms with | true => rfl | false => exact f2 s
  · cases hq : wrongF A B C m k t ns ms with
    | true => intro h; cases h
    | false => simp only [cond_false]; rw [wrong_mono hp hq]; exact f3
theorem cnt_app (s : ByteArray) : ∀ (l r : List ByteArray), cnt s l ≤ cnt s (l ++ r)
  | [], r => by simp [cnt]
  | a :: l, r => by have := cnt_app s l r; simp only [List.cons_append, cnt]; omega
theorem expr_more (p : Pg) (l : List ByteArray) (more : ByteArray) (e : Ex) (hl : l.length ≤ 2097152) (he : wE e ≤ 2097152) (h : (exprF p l e).2 = false) : (exprF p (l ++ [more]) e).2 = false := by
  have h0 : Bd 0 ([] : IM) := fun s => by simp [bv, slook]
  have h1 := incs_Bd (ns := l ++ [more]) h0 (by simp; omega)
  have h2 := incs_Bd (ns := l) h0 (by simp; omega)
  simp only [List.length_append, List.length_cons, List.length_nil] at h1
  refine (res_good _ _ _ e (0 + (l.length + 1)) (by omega) _ _ ⟨h2.up (by omega), h1, fun s => ?_⟩).2.2 h
  rw [incs_bv l 0 _ h0 (by omega), incs_bv (l ++ [more]) 0 _ h0 (by simp; omega)]
  have := cnt_app s l [more]
  omega
end TR
open Go Go.AM Go.Proofs
set_option maxRecDepth 100000
namespace TR
def p0 : Pg := ⟨⟨#[]⟩, 0, [], [], [], [], [], []⟩
def e1 : Ex := .mk 5 0 ⟨#[121]⟩ [] [] [] [] 7
theorem scopes_spec : APure Tryd.prog 10 [] (.p (.b true)) := by
  have h := expr_spec p0 (by decide +kernel) [⟨#[120]⟩] e1 (by decide) (by decide +kernel)
  rw [show exprF p0 [⟨#[120]⟩] e1 = (7, true) by rfl] at h
  refine APure.intro (tyOf_ok Tryd.prog) hmix Tryd.func10 rfl (by rfl) (by kernel_rfl) (by show 0 ≤ _; decide) rfl ?_
  conv => whnf
  refine apc h ?_
  conv => whnf
  exact .inl rfl
end TR
