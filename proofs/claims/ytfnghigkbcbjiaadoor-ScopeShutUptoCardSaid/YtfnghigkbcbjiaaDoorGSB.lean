/-
  DERIVED. Contracts of the functions that the law reaches, and the law itself, for every input. No conditions.
-/
import Derived.Test.YtfnghigkbcbjiaaDoorGSA
import Derived.Test.YtfnghigkbcbjiaaDoorTS1
import Derived.Test.YtfnghigkbcbjiaaDoorGLD
open Go Go.AM Go.Proofs Go.RowKit TR
set_option maxRecDepth 100000
namespace GL
mutual
def rngT : Ty → Prop
  | .mk k _ xs => i64R k ∧ rngTs xs
def rngTs : List Ty → Prop
  | [] => True
  | t :: r => rngT t ∧ rngTs r
end
mutual
def rngP : Pt → Prop
  | .mk k n _ xs => i64R k ∧ i64R n ∧ rngPs xs
def rngPs : List Pt → Prop
  | [] => True
  | t :: r => rngP t ∧ rngPs r
end
mutual
def rngE : Ex → Prop
  | .mk k n _ _ ts xs ms _ => i64R k ∧ i64R n ∧ rngTs ts ∧ rngEs xs ∧ rngAs ms
def rngEs : List Ex → Prop
  | [] => True
  | t :: r => rngE t ∧ rngEs r
def rngAs : List Arm → Prop
  | [] => True
  | .mk p e :: r => rngP p ∧ rngE e ∧ rngAs r
end
theorem rngTs_mem : ∀ {l : List Ty}, rngTs l → ∀ t ∈ l, rngT t
  | [], _, t, h => by cases h
  | x :: r, h, t, ht => by
    rw [rngTs] at h
    rcases List.mem_cons.1 ht with rfl | ht
    · exact h.1
    · exact rngTs_mem h.2 t ht
theorem rngPs_mem : ∀ {l : List Pt}, rngPs l → ∀ t ∈ l, rngP t
  | [], _, t, h => by cases h
  | x :: r, h, t, ht => by
    rw [rngPs] at h
    rcases List.mem_cons.1 ht with rfl | ht
    · exact h.1
    · exact rngPs_mem h.2 t ht
theorem rngEs_mem : ∀ {l : List Ex}, rngEs l → ∀ t ∈ l, rngE t
  | [], _, t, h => by cases h
  | x :: r, h, t, ht => by
    rw [rngEs] at h
    rcases List.mem_cons.1 ht with rfl | ht
    · exact h.1
    · exact rngEs_mem h.2 t ht
theorem rngAs_mem : ∀ {l : List Arm}, rngAs l → ∀ t ∈ l, rngP t.pat ∧ rngE t.body
  | [], _, t, h => by cases h
  | .mk p e :: r, h, t, ht => by
    rw [rngAs] at h
    rcases List.mem_cons.1 ht with rfl | ht
    · exact ⟨h.1, h.2.1⟩
    · exact rngAs_mem h.2.2 t ht
theorem nat64 {n : Nat} (h : n ≤ 4611686018427387904) : i64R n := ⟨by omega, by omega⟩
mutual
def tmF : Ty → ByteArray
  | .mk k n xs => tmFs xs (numsF [k, xs.length] ++ textsF [n])
def tmFs : List Ty → ByteArray → ByteArray
  | [], s => s
  | t :: r, s => tmFs r (s ++ tmF t)
end
mutual
def pmF : Pt → ByteArray
  | .mk k m n xs => pmFs xs (numsF [k, m, xs.length] ++ textsF [n])
def pmFs : List Pt → ByteArray → ByteArray
  | [], s => s
  | t :: r, s => pmFs r (s ++ pmF t)
end
mutual
def emF : Ex → ByteArray
  | .mk k m n ns ts xs ms _ => emFa ms (emFs xs (tmFs ts ((numsF [k, m, ns.length, ts.length, xs.length, ms.length] ++ textsF [n]) ++ textsF ns)))
def emFs : List Ex → ByteArray → ByteArray
  | [], s => s
  | t :: r, s => emFs r (s ++ emF t)
def emFa : List Arm → ByteArray → ByteArray
  | [], s => s
  | .mk p e :: r, s => emFa r (s ++ (pmF p ++ emF e))
end
theorem text1 (n : ByteArray) (h : n.size ≤ 1048640) : (textsF [n]).size ≤ 23 * n.size + 23 := by
  have := texts_size [n] (by rw [ws_cons]; simp only [List.map_nil, PV.wts]; omega)
  rw [ws_cons] at this; simp only [List.map_nil, PV.wts] at this; omega
mutual
theorem tm_size : ∀ (t : Ty), rngT t → wT t ≤ 1048640 → (tmF t).size ≤ 23 * wT t
  | .mk k n xs, h, hw => by
    rw [rngT] at h
    rw [wT_mk] at hw ⊢
    have hl := wTs_len xs
    have h1 := tms_size xs (numsF [k, xs.length] ++ textsF [n]) h.2 (by omega)
    have h2 := nums_size [k, (xs.length : Int)] (fun x hx => by
      simp only [List.mem_cons, List.not_mem_nil, or_false] at hx
      rcases hx with rfl | rfl
      · exact h.1
      · exact nat64 (by omega))
    have h3 := text1 n (by omega)
    rw [ba_size] at h1
    simp only [List.length_cons, List.length_nil] at h2
    rw [tmF]; omega
theorem tms_size : ∀ (l : List Ty) (s : ByteArray), rngTs l → PV.wts (eTs l) ≤ 1048640 → (tmFs l s).size ≤ s.size + 23 * PV.wts (eTs l)
  | [], s, _, _ => by rw [tmFs]; omega
  | t :: r, s, h, hw => by
    rw [rngTs] at h
    simp only [eTs, PV.wts] at hw ⊢
    have e : PV.wt (eT t) = wT t := rfl
    rw [e] at hw ⊢
    have h1 := tm_size t h.1 (by omega)
    have h2 := tms_size r (s ++ tmF t) h.2 (by omega)
    rw [ba_size] at h2
    rw [tmFs]; omega
end
mutual
theorem pm_size : ∀ (t : Pt), rngP t → wP t ≤ 1048640 → (pmF t).size ≤ 23 * wP t
  | .mk k m n xs, h, hw => by
    rw [rngP] at h
    rw [wP_mk] at hw ⊢
    have hl := wPs_len xs
    have h1 := pms_size xs (numsF [k, m, xs.length] ++ textsF [n]) h.2.2 (by omega)
    have h2 := nums_size [k, m, (xs.length : Int)] (fun x hx => by
      simp only [List.mem_cons, List.not_mem_nil, or_false] at hx
      rcases hx with rfl | rfl | rfl
      · exact h.1
      · exact h.2.1
      · exact nat64 (by omega))
    have h3 := text1 n (by omega)
    rw [ba_size] at h1
    simp only [List.length_cons, List.length_nil] at h2
    rw [pmF]; omega
theorem pms_size : ∀ (l : List Pt) (s : ByteArray), rngPs l → PV.wts (ePs l) ≤ 1048640 → (pmFs l s).size ≤ s.size + 23 * PV.wts (ePs l)
  | [], s, _, _ => by rw [pmFs]; omega
  | t :: r, s, h, hw => by
    rw [rngPs] at h
    simp only [ePs, PV.wts] at hw ⊢
    have e : PV.wt (eP t) = wP t := rfl
    rw [e] at hw ⊢
    have h1 := pm_size t h.1 (by omega)
    have h2 := pms_size r (s ++ pmF t) h.2 (by omega)
    rw [ba_size] at h2
    rw [pmFs]; omega
end
mutual
theorem em_size : ∀ (t : Ex), rngE t → wE t ≤ 1048640 → (emF t).size ≤ 23 * wE t
  | .mk k m n ns ts xs ms p, h, hw => by
    rw [rngE] at h
    rw [wE_mk] at hw ⊢
    have l1 := wSs_len ns
    have l2 := wTs_len ts
    have l3 := wEs_len xs
    have l4 := wAs_len ms
    have h2 := nums_size [k, m, (ns.length : Int), ts.length, xs.length, ms.length] (fun x hx => by
      simp only [List.mem_cons, List.not_mem_nil, or_false] at hx
      rcases hx with rfl | rfl | rfl | rfl | rfl | rfl
      · exact h.1
      · exact h.2.1
      · exact nat64 (by omega)
      · exact nat64 (by omega)
      · exact nat64 (by omega)
      · exact nat64 (by omega))
    have h3 := text1 n (by omega)
    have h4 := texts_size ns (by omega)
    have h5 := tms_size ts ((numsF [k, m, ns.length, ts.length, xs.length, ms.length] ++ textsF [n]) ++ textsF ns) h.2.2.1 (by omega)
    have h6 := ems_size xs (tmFs ts ((numsF [k, m, ns.length, ts.length, xs.length, ms.length] ++ textsF [n]) ++ textsF ns)) h.2.2.2.1 (by omega)
    have h7 := ema_size ms (emFs xs (tmFs ts ((numsF [k, m, ns.length, ts.length, xs.length, ms.length] ++ textsF [n]) ++ textsF ns))) h.2.2.2.2 (by omega)
    rw [ba_size, ba_size] at h5
    simp only [List.length_cons, List.length_nil] at h2
    rw [emF]; omega
theorem ems_size : ∀ (l : List Ex) (s : ByteArray), rngEs l → PV.wts (eEs l) ≤ 1048640 → (emFs l s).size ≤ s.size + 23 * PV.wts (eEs l)
  | [], s, _, _ => by rw [emFs]; omega
  | t :: r, s, h, hw => by
    rw [rngEs] at h
    simp only [eEs, PV.wts] at hw ⊢
    have e : PV.wt (eE t) = wE t := rfl
    rw [e] at hw ⊢
    have h1 := em_size t h.1 (by omega)
    have h2 := ems_size r (s ++ emF t) h.2 (by omega)
    rw [ba_size] at h2
    rw [emFs]; omega
theorem ema_size : ∀ (l : List Arm) (s : ByteArray), rngAs l → PV.wts (eAs l) ≤ 1048640 → (emFa l s).size ≤ s.size + 23 * PV.wts (eAs l)
  | [], s, _, _ => by rw [emFa]; omega
  | .mk p t :: r, s, h, hw => by
    rw [rngAs] at h
    simp only [eAs, PV.wts] at hw ⊢
    have e : PV.wt (eA (.mk p t)) = wA (.mk p t) := rfl
    rw [e, wA_mk] at hw ⊢
    have h0 := pm_size p h.1 (by omega)
    have h1 := em_size t h.2.1 (by omega)
    have h2 := ema_size r (s ++ (pmF p ++ emF t)) h.2.2 (by omega)
    rw [ba_size, ba_size] at h2
    rw [emFa]; omega
end
theorem tm_spec (tab : List Value) (hI : ItoS tab) (t : Ty) : rngT t → wT t ≤ 1048640 → AMem Tryd.prog 59 [.p (eT t)] (gP tab) (.p (.s (tmF t))) (gP tab) := by
  induction t using Ty.ind with
  | h k n xs ih =>
  intro hr hw
  rw [rngT] at hr
  have hwk := wT_mk k n xs
  have hl := wTs_len xs
  have hxl := eTs_len xs
  have c1 := nums_spec tab hI [k, xs.length] (by simp) (fun x hx => by
      simp only [List.mem_cons, List.not_mem_nil, or_false] at hx
      rcases hx with rfl | rfl
      · exact hr.1
      · exact nat64 (by omega))
  have s1 := nums_size [k, xs.length] (fun x hx => by
      simp only [List.mem_cons, List.not_mem_nil, or_false] at hx
      rcases hx with rfl | rfl
      · exact hr.1
      · exact nat64 (by omega))
  have c2 := texts_spec tab hI [n] (by rw [ws_cons]; simp only [List.map_nil, PV.wts]; omega)
  have s2 := text1 n (by omega)
  have hR : tmFs xs (numsF [k, xs.length] ++ textsF [n]) = tmF (.mk k n xs) := by rw [tmF]
  simp only [List.length_cons, List.length_nil] at s1
  rw [← hxl] at c1
  rw [← hxl] at s1 hR
  generalize tmF (.mk k n xs) = R at *
  generalize numsF [k, (eTs xs).length] = u at *
  generalize textsF [n] = v at *
  unfold gP at *
  generalize wT (.mk k n xs) = W0 at *
  refine AMem.intro (tyOf_ok Tryd.prog) hmix Tryd.func59 rfl (by rfl) (by kernel_rfl) (by show 1 ≤ _; decide) rfl ?_
  conv => whnf
  refine amr [1000000000] 50 c1 ?_
  conv => whnf
  refine amr [1000000000] 60 c2 ?_
  conv => whnf
  refine aneed (by show u.size + v.size ≤ _; omega) ?_
  conv => whnf
  refine aneed (by kernel_rfl) ?_
  conv => whnf
  refine loopS (tyOf_ok _) hmix (by kernel_rfl) xs.length [3, 19, 20, 21] [1000000000] (fun j (s : ByteArray) => [.p (.s s), .p (.sl 3 (eTs xs)), .p (.i .i64 (eTs xs).length), .p (.i .i64 (ix j))]) (fun _ _ => [.glob 5 tab]) (fun j s => s.size + 23 * PV.wts (eTs (xs.drop j)) ≤ 24117248 * 23 ∧ tmFs (xs.drop j) s = R) (u ++ v) ⟨rfl, rfl, rfl, rfl⟩ ⟨by rw [ba_size, List.drop_zero]; omega, hR⟩ ?_
  rintro j s hj ⟨hs1, hs2⟩
  conv => whnf
  refine asplit ?_ ?_ <;> intro h1 <;> conv => whnf
  · have hj1 := ix_tt h1 (by rw [hxl]) hj (by omega)
    obtain ⟨b, hb1⟩ : ∃ b, xs[j]? = some b := ⟨_, List.getElem?_eq_getElem hj1⟩
    have hbm := List.mem_of_getElem? hb1
    have hbw := wTs_mem hbm
    have c := ih b hbm (rngTs_mem hr.2 b hbm) (by omega)
    have hsz := tm_size b (rngTs_mem hr.2 b hbm) (by omega)
    rw [drop_cons hb1, eTs] at hs1
    simp only [PV.wts] at hs1
    rw [show PV.wt (eT b) = wT b from rfl] at hs1
    rw [drop_cons hb1, tmFs] at hs2
    refine aidxk (eTs_get hb1) (by omega) ?_
    generalize tmF b = y at *
    generalize wT b = wb at *
    obtain ⟨bk, bn, bx⟩ := b
    conv => whnf
    refine amc [1000000000] 50 c ?_
    conv => whnf
    refine aneed (by show s.size + y.size ≤ _; omega) ?_
    conv => whnf
    exact ⟨hj1, s ++ y, ⟨rfl, rfl, rfl, rfl⟩, by rw [ba_size]; omega, hs2⟩
  · have hj1 := ix_ff h1 (by rw [hxl]) hj (by omega)
    rw [hj1, List.drop_length, tmFs] at hs2
    subst hs2
    exact ⟨.inl rfl, ⟨rfl, rfl⟩, trivial⟩
theorem pm_spec (tab : List Value) (hI : ItoS tab) (t : Pt) : rngP t → wP t ≤ 1048640 → AMem Tryd.prog 60 [.p (eP t)] (gP tab) (.p (.s (pmF t))) (gP tab) := by
  induction t using Pt.ind with
  | h k m n xs ih =>
  intro hr hw
  rw [rngP] at hr
  have hwk := wP_mk k m n xs
  have hl := wPs_len xs
  have hxl := ePs_len xs
  have c1 := nums_spec tab hI [k, m, xs.length] (by simp) (fun x hx => by
      simp only [List.mem_cons, List.not_mem_nil, or_false] at hx
      rcases hx with rfl | rfl | rfl
      · exact hr.1
      · exact hr.2.1
      · exact nat64 (by omega))
  have s1 := nums_size [k, m, xs.length] (fun x hx => by
      simp only [List.mem_cons, List.not_mem_nil, or_false] at hx
      rcases hx with rfl | rfl | rfl
      · exact hr.1
      · exact hr.2.1
      · exact nat64 (by omega))
  have c2 := texts_spec tab hI [n] (by rw [ws_cons]; simp only [List.map_nil, PV.wts]; omega)
  have s2 := text1 n (by omega)
  have hR : pmFs xs (numsF [k, m, xs.length] ++ textsF [n]) = pmF (.mk k m n xs) := by rw [pmF]
  simp only [List.length_cons, List.length_nil] at s1
  rw [← hxl] at c1
  rw [← hxl] at s1 hR
  generalize pmF (.mk k m n xs) = R at *
  generalize numsF [k, m, (ePs xs).length] = u at *
  generalize textsF [n] = v at *
  unfold gP at *
  generalize wP (.mk k m n xs) = W0 at *
  refine AMem.intro (tyOf_ok Tryd.prog) hmix Tryd.func60 rfl (by rfl) (by kernel_rfl) (by show 1 ≤ _; decide) rfl ?_
  conv => whnf
  refine amr [1000000000] 50 c1 ?_
  conv => whnf
  refine amr [1000000000] 60 c2 ?_
  conv => whnf
  refine aneed (by show u.size + v.size ≤ _; omega) ?_
  conv => whnf
  refine aneed (by kernel_rfl) ?_
  conv => whnf
  refine loopS (tyOf_ok _) hmix (by kernel_rfl) xs.length [3, 21, 22, 23] [1000000000] (fun j (s : ByteArray) => [.p (.s s), .p (.sl 4 (ePs xs)), .p (.i .i64 (ePs xs).length), .p (.i .i64 (ix j))]) (fun _ _ => [.glob 5 tab]) (fun j s => s.size + 23 * PV.wts (ePs (xs.drop j)) ≤ 24117248 * 23 ∧ pmFs (xs.drop j) s = R) (u ++ v) ⟨rfl, rfl, rfl, rfl⟩ ⟨by rw [ba_size, List.drop_zero]; omega, hR⟩ ?_
  rintro j s hj ⟨hs1, hs2⟩
  conv => whnf
  refine asplit ?_ ?_ <;> intro h1 <;> conv => whnf
  · have hj1 := ix_tt h1 (by rw [hxl]) hj (by omega)
    obtain ⟨b, hb1⟩ : ∃ b, xs[j]? = some b := ⟨_, List.getElem?_eq_getElem hj1⟩
    have hbm := List.mem_of_getElem? hb1
    have hbw := wPs_mem hbm
    have c := ih b hbm (rngPs_mem hr.2.2 b hbm) (by omega)
    have hsz := pm_size b (rngPs_mem hr.2.2 b hbm) (by omega)
    rw [drop_cons hb1, ePs] at hs1
    simp only [PV.wts] at hs1
    rw [show PV.wt (eP b) = wP b from rfl] at hs1
    rw [drop_cons hb1, pmFs] at hs2
    refine aidxk (ePs_get hb1) (by omega) ?_
    generalize pmF b = y at *
    generalize wP b = wb at *
    obtain ⟨bk, bm, bn, bx⟩ := b
    conv => whnf
    refine amc [1000000000] 50 c ?_
    conv => whnf
    refine aneed (by show s.size + y.size ≤ _; omega) ?_
    conv => whnf
    exact ⟨hj1, s ++ y, ⟨rfl, rfl, rfl, rfl⟩, by rw [ba_size]; omega, hs2⟩
  · have hj1 := ix_ff h1 (by rw [hxl]) hj (by omega)
    rw [hj1, List.drop_length, pmFs] at hs2
    subst hs2
    exact ⟨.inl rfl, ⟨rfl, rfl⟩, trivial⟩
end GL
open Go Go.AM Go.Proofs Go.RowKit TR
set_option maxRecDepth 100000
namespace GL
def MarkS (tab : List Value) (e : Ex) : Prop := AMem Tryd.prog 40 [.p (eE e)] (gP tab) (.p (.s (emF e))) (gP tab)
theorem em_of (tab : List Value) (hI : ItoS tab) (k m : Int) (n : ByteArray) (ns : List ByteArray) (ts : List Ty) (xs : List Ex) (ms : List Arm) (p : Int) (hr : rngE (.mk k m n ns ts xs ms p)) (hw : wE (.mk k m n ns ts xs ms p) ≤ 1048640)
    (ih1 : ∀ a ∈ xs, MarkS tab a) (ih2 : ∀ a ∈ ms, MarkS tab a.body) : MarkS tab (.mk k m n ns ts xs ms p) := by
  rw [rngE] at hr
  have hwk := wE_mk k m n ns ts xs ms p
  have l1 := wSs_len ns
  have l2 := wTs_len ts
  have l3 := wEs_len xs
  have l4 := wAs_len ms
  have z1 : (ns.map eStr).length = ns.length := by simp
  have z2 := eTs_len ts
  have z3 := eEs_len xs
  have z4 := eAs_len ms
  have hrg : ∀ x ∈ [k, m, (ns.length : Int), ts.length, xs.length, ms.length], i64R x := fun x hx => by
    simp only [List.mem_cons, List.not_mem_nil, or_false] at hx
    rcases hx with rfl | rfl | rfl | rfl | rfl | rfl
    · exact hr.1
    · exact hr.2.1
    · exact nat64 (by omega)
    · exact nat64 (by omega)
    · exact nat64 (by omega)
    · exact nat64 (by omega)
  have c1 := nums_spec tab hI [k, m, (ns.length : Int), ts.length, xs.length, ms.length] (by simp) hrg
  have s1 := nums_size [k, m, (ns.length : Int), ts.length, xs.length, ms.length] hrg
  have c2 := texts_spec tab hI [n] (by rw [ws_cons]; simp only [List.map_nil, PV.wts]; omega)
  have s2 := text1 n (by omega)
  have c3 := texts_spec tab hI ns (by omega)
  have s3 := texts_size ns (by omega)
  have hR : emFa ms (emFs xs (tmFs ts ((numsF [k, m, ns.length, ts.length, xs.length, ms.length] ++ textsF [n]) ++ textsF ns))) = emF (.mk k m n ns ts xs ms p) := by rw [emF]
  unfold MarkS
  simp only [List.length_cons, List.length_nil] at s1
  rw [← z1, ← z2, ← z3, ← z4] at c1
  rw [← z1, ← z2, ← z3, ← z4] at s1 hR
  generalize emF (.mk k m n ns ts xs ms p) = R at *
  generalize numsF [k, m, ((ns.map eStr).length : Int), (eTs ts).length, (eEs xs).length, (eAs ms).length] = u at *
  generalize textsF [n] = v at *
  generalize textsF ns = v2 at *
  unfold gP at *
  generalize wE (.mk k m n ns ts xs ms p) = W0 at *
  clear hrg
  refine AMem.intro (tyOf_ok Tryd.prog) hmix Tryd.func40 rfl (by rfl) (by kernel_rfl) (by show 1 ≤ _; decide) rfl ?_
  conv => whnf
  refine amr [1000000000] 50 c1 ?_
  conv => whnf
  refine amr [1000000000] 60 c2 ?_
  conv => whnf
  refine aneed (by show u.size + v.size ≤ _; omega) ?_
  conv => whnf
  refine amr [1000000000] 70 c3 ?_
  conv => whnf
  refine aneed (by rw [ba_size]; omega) ?_
  conv => whnf
  refine aneed (by kernel_rfl) ?_
  conv => whnf
  refine loopS (tyOf_ok _) hmix (by kernel_rfl) ts.length [1, 3, 38, 39, 40] [1000000000, 1] (fun j (s : ByteArray) => [.ptr 1 0, .p (.s s), .p (.sl 3 (eTs ts)), .p (.i .i64 (eTs ts).length), .p (.i .i64 (ix j))]) (fun _ _ => [.glob 5 tab, .cells [.p (.i .i64 k), .p (.i .i64 m), .p (.s n), .p (.sl 1 (ns.map eStr)), .p (.sl 3 (eTs ts)), .p (.sl 8 (eEs xs)), .p (.sl 12 (eAs ms)), .p (.i .i64 p)]]) (fun j s => s.size + 23 * PV.wts (eTs (ts.drop j)) ≤ 1073741824 ∧ emFa ms (emFs xs (tmFs (ts.drop j) s)) = R) (u ++ v ++ v2) ⟨rfl, rfl, rfl, rfl⟩ ⟨by rw [ba_size, ba_size, List.drop_zero]; omega, hR⟩ ?_
  clear c1 c2 c3 hR
  rintro j s hj ⟨hs1, hs2⟩
  conv => whnf
  refine asplit ?_ ?_ <;> intro h1 <;> conv => whnf
  · have hj1 := ix_tt h1 (by rw [z2]) hj (by omega)
    obtain ⟨b, hb1⟩ : ∃ b, ts[j]? = some b := ⟨_, List.getElem?_eq_getElem hj1⟩
    have hbm := List.mem_of_getElem? hb1
    have hbw := wTs_mem hbm
    have c := tm_spec tab hI b (rngTs_mem hr.2.2.1 b hbm) (by omega)
    have hsz := tm_size b (rngTs_mem hr.2.2.1 b hbm) (by omega)
    rw [drop_cons hb1, eTs] at hs1
    simp only [PV.wts] at hs1
    rw [show PV.wt (eT b) = wT b from rfl] at hs1
    rw [drop_cons hb1, tmFs] at hs2
    unfold gP at c
    refine aidxk (eTs_get hb1) (by omega) ?_
    generalize tmF b = y at *
    generalize wT b = wb at *
    obtain ⟨bk, bn, bx⟩ := b
    conv => whnf
    refine amc [1000000000] 500 c ?_
    conv => whnf
    refine aneed (by show s.size + y.size ≤ _; omega) ?_
    conv => whnf
    exact ⟨hj1, s ++ y, ⟨rfl, rfl, rfl, rfl⟩, by rw [ba_size]; omega, hs2⟩
  have hj1 := ix_ff h1 (by rw [z2]) hj (by omega)
  rw [hj1, List.drop_length, tmFs] at hs2
  rw [hj1, List.drop_length] at hs1
  simp only [eTs, PV.wts] at hs1
  refine loopS (tyOf_ok _) hmix (by kernel_rfl) xs.length [1, 3, 50, 51, 52] [1000000000, 1] (fun j (s : ByteArray) => [.ptr 1 0, .p (.s s), .p (.sl 8 (eEs xs)), .p (.i .i64 (eEs xs).length), .p (.i .i64 (ix j))]) (fun _ _ => [.glob 5 tab, .cells [.p (.i .i64 k), .p (.i .i64 m), .p (.s n), .p (.sl 1 (ns.map eStr)), .p (.sl 3 (eTs ts)), .p (.sl 8 (eEs xs)), .p (.sl 12 (eAs ms)), .p (.i .i64 p)]]) (fun j s => s.size + 23 * PV.wts (eEs (xs.drop j)) ≤ 1273741824 ∧ emFa ms (emFs (xs.drop j) s) = R) s ⟨rfl, rfl, rfl, rfl⟩ ⟨by rw [List.drop_zero]; omega, hs2⟩ ?_
  clear hs1 hs2 h1 hj hj1
  clear s
  rintro j s hj ⟨hs1, hs2⟩
  conv => whnf
  refine asplit ?_ ?_ <;> intro h1 <;> conv => whnf
  · have hj1 := ix_tt h1 (by rw [z3]) hj (by omega)
    obtain ⟨b, hb1⟩ : ∃ b, xs[j]? = some b := ⟨_, List.getElem?_eq_getElem hj1⟩
    have hbm := List.mem_of_getElem? hb1
    have hbw := wEs_mem hbm
    have c := ih1 b hbm
    have hsz := em_size b (rngEs_mem hr.2.2.2.1 b hbm) (by omega)
    rw [drop_cons hb1, eEs] at hs1
    simp only [PV.wts] at hs1
    rw [show PV.wt (eE b) = wE b from rfl] at hs1
    rw [drop_cons hb1, emFs] at hs2
    unfold MarkS gP at c
    refine aidxk (eEs_get hb1) (by omega) ?_
    generalize emF b = y at *
    generalize wE b = wb at *
    obtain ⟨b1, b2, b3, b4, b5, b6, b7, b8⟩ := b
    conv => whnf
    refine amc [1000000000] 500 c ?_
    conv => whnf
    refine aneed (by show s.size + y.size ≤ _; omega) ?_
    conv => whnf
    exact ⟨hj1, s ++ y, ⟨rfl, rfl, rfl, rfl⟩, by rw [ba_size]; omega, hs2⟩
  have hj1 := ix_ff h1 (by rw [z3]) hj (by omega)
  rw [hj1, List.drop_length, emFs] at hs2
  rw [hj1, List.drop_length] at hs1
  simp only [eEs, PV.wts] at hs1
  refine loopS (tyOf_ok _) hmix (by kernel_rfl) ms.length [3, 62, 63, 64] [1000000000] (fun j (s : ByteArray) => [.p (.s s), .p (.sl 12 (eAs ms)), .p (.i .i64 (eAs ms).length), .p (.i .i64 (ix j))]) (fun _ _ => [.glob 5 tab]) (fun j s => s.size + 23 * PV.wts (eAs (ms.drop j)) ≤ 1473741824 ∧ emFa (ms.drop j) s = R) s ⟨rfl, rfl, rfl, rfl⟩ ⟨by rw [List.drop_zero]; omega, hs2⟩ ?_
  clear hs1 hs2 h1 hj hj1
  clear s
  rintro j s hj ⟨hs1, hs2⟩
  conv => whnf
  refine asplit ?_ ?_ <;> intro h1 <;> conv => whnf
  · have hj1 := ix_tt h1 (by rw [z4]) hj (by omega)
    obtain ⟨b, hb1⟩ : ∃ b, ms[j]? = some b := ⟨_, List.getElem?_eq_getElem hj1⟩
    have hbm := List.mem_of_getElem? hb1
    have hbw := wAs_mem hbm
    have hbr := rngAs_mem hr.2.2.2.2 b hbm
    have c := ih2 b hbm
    have hq := wA_body b
    have d := pm_spec tab hI b.pat hbr.1 (by omega)
    have hsz := em_size b.body hbr.2 (by omega)
    have hsz2 := pm_size b.pat hbr.1 (by omega)
    rw [drop_cons hb1] at hs1 hs2
    refine aidxk (eAs_get hb1) (by omega) ?_
    obtain ⟨pt, bd⟩ := b
    rw [emFa] at hs2
    rw [eAs] at hs1
    simp only [PV.wts] at hs1
    rw [show PV.wt (eA (.mk pt bd)) = wA (.mk pt bd) from rfl, wA_mk] at hs1
    simp only [Arm.pat, Arm.body] at c d hsz hsz2
    unfold MarkS gP at c
    unfold gP at d
    generalize emF bd = y at *
    generalize pmF pt = y2 at *
    generalize wE bd = wb at *
    generalize wP pt = wb2 at *
    obtain ⟨p1, p2, p3, p4⟩ := pt
    obtain ⟨b1, b2, b3, b4, b5, b6, b7, b8⟩ := bd
    conv => whnf
    refine amr [1000000000] 500 d ?_
    conv => whnf
    refine amr [1000000000] 600 c ?_
    conv => whnf
    refine aneed (by show y2.size + y.size ≤ _; omega) ?_
    conv => whnf
    refine aneed (by rw [ba_size]; omega) ?_
    conv => whnf
    refine aneed (by kernel_rfl) ?_
    conv => whnf
    exact ⟨hj1, s ++ (y2 ++ y), ⟨rfl, rfl, rfl, rfl⟩, by rw [ba_size, ba_size]; omega, hs2⟩
  · have hj1 := ix_ff h1 (by rw [z4]) hj (by omega)
    rw [hj1, List.drop_length, emFa] at hs2
    subst hs2
    exact ⟨.inl rfl, ⟨rfl, rfl⟩, trivial⟩
theorem em_spec (tab : List Value) (hI : ItoS tab) (e : Ex) : rngE e → wE e ≤ 1048640 → MarkS tab e := by
  induction e using Ex.ind with
  | h k n t ns ts xs ms p ih1 ih2 =>
  intro hr hw
  have hr2 := hr
  rw [rngE] at hr2
  exact em_of tab hI k n t ns ts xs ms p hr hw (fun x hx => ih1 x hx (rngEs_mem hr2.2.2.2.1 x hx) (by have := wE_args (k := k) (n := n) (t := t) (ns := ns) (ts := ts) (ms := ms) (p := p) hx; omega))
    (fun a ha => ih2 a ha (rngAs_mem hr2.2.2.2.2 a ha).2 (by have := wE_body (k := k) (n := n) (t := t) (ns := ns) (ts := ts) (xs := xs) (p := p) ha; omega))
end GL
open Go Go.AM Go.Proofs Go.RowKit TR
set_option maxRecDepth 100000
namespace GL
def hJ2 (tab ptab : List Value) (e : Int) : Heap := [(1000000000, .cells [.p (.i .i64 e)]), (1000000001, .glob 0 tab), (1000000002, .glob 5 ptab)]
def zeroX : Ex := .mk 0 0 ⟨#[]⟩ [] [] [] [] 0
def zeroQ (x : Ex) : Bool := (emF x).toList == (emF zeroX).toList
theorem fun_false (S G C : ByteArray → Bool) (tab ptab : List Value) (hW : World3 S G C tab) (hI : ItoS ptab) (f : LFu) (hw : wlFu f ≤ 1048640) (hr : rngE f.body) (e : Int) :
    AMem Tryd.prog 24 [.ptr 1000000000 0, .p (elFu f), .p (.b false)] (hJ2 tab ptab e) (.tup []) (hJ2 tab ptab (trfJ S G zeroQ e f)) := by
  rw [wlFu_eq] at hw
  have l1 := wSs_len f.ps
  have l2 := wSs_len f.ns
  have hs := hW.s f.name
  generalize hR : trfJ S G zeroQ e f = R
  have c1 := fun e => list_spec S tab hW.s f.ps e (by omega)
  have c2 := fun e => list_spec S tab hW.s f.ns e (by omega)
  have c3 := fun e => types_spec S G tab hW.s hW.g f.ts (by omega) e
  have c4 := fun e => types_spec S G tab hW.s hW.g [f.out] (by simp only [eTs, PV.wts]; unfold wT at hw; omega) e
  have c5 := em_spec ptab hI f.body hr (by omega)
  have c6 := em_spec ptab hI zeroX (by rw [zeroX, rngE]; exact ⟨⟨by decide, by decide⟩, ⟨by decide, by decide⟩, by rw [rngTs]; trivial, by rw [rngEs]; trivial, by rw [rngAs]; trivial⟩) (by decide +kernel)
  rw [trfJ, headJ] at hR
  have htl := eTs_len f.ts
  unfold MarkS gP at *
  unfold hJ hJ2 at *
  obtain ⟨nm, ps, ns, ts, ⟨ok, on, oa⟩, ⟨b1, b2, b3, b4, b5, b6, b7, b8⟩⟩ := f
  simp only at *
  rw [zeroQ] at hR
  generalize emF (.mk b1 b2 b3 b4 b5 b6 b7 b8) = mb at *
  generalize emF zeroX = mz at *
  rw [← htl, show (ns.length : Int) = (ns.map eStr).length by simp] at hR
  clear hw l1 l2 htl
  generalize typFs S G [.mk ok on oa] 1 = F4 at *
  generalize typFs S G ts 1 = F3 at *
  generalize listF S ns = F2 at *
  generalize listF S ps = F1 at *
  generalize S nm = SN at *
  refine AMem.intro (tyOf_ok Tryd.prog) hmix Tryd.func24 rfl (by rfl) (by kernel_rfl) (by show 3 ≤ _; decide) rfl ?_
  conv => whnf
  refine amc [1000000001] 50 hs ?_
  conv => whnf
  refine asplit ?_ ?_ <;> intro g1 <;> conv => whnf
  · rw [g1] at hR
    refine amc [1000000000] 60 (form_spec e (((ns.map eStr).length : Int) == ((eTs ts).length : Int))) ?_
    conv => whnf
    replace hR : mustF (F4 (F3 (F2 (F1 (mustF e (((ns.map eStr).length : Int) == ((eTs ts).length : Int)) 3))))) (mb.toList == mz.toList) 3 = R := hR
    generalize mustF e (((ns.map eStr).length : Int) == ((eTs ts).length : Int)) 3 = e1 at *
    refine amc [1000000000, 1000000001] 70 (c1 e1) ?_
    conv => whnf
    generalize F1 e1 = e2 at *
    refine amc [1000000000, 1000000001] 80 (c2 e2) ?_
    conv => whnf
    generalize F2 e2 = e3 at *
    refine amc [1000000000, 1000000001] 90 (c3 e3) ?_
    conv => whnf
    generalize F3 e3 = e4 at *
    refine amc [1000000000, 1000000001] 100 (c4 e4) ?_
    conv => whnf
    generalize F4 e4 = e5 at *
    refine amr [1000000002] 110 c5 ?_
    conv => whnf
    refine amr [1000000002] 120 c6 ?_
    conv => whnf
    have c7 := form_spec e5 (mb.toList == mz.toList)
    rw [hR] at c7
    refine amc [1000000000] 130 c7 ?_
    conv => whnf
    exact ⟨.inl rfl, ⟨.inl rfl, trivial⟩, ⟨rfl, rfl⟩, ⟨rfl, rfl⟩, trivial⟩
  · rw [g1] at hR
    refine amc [1000000000] 60 (form_spec e (false)) ?_
    conv => whnf
    replace hR : mustF (F4 (F3 (F2 (F1 (mustF e (false) 3))))) (mb.toList == mz.toList) 3 = R := hR
    generalize mustF e (false) 3 = e1 at *
    refine amc [1000000000, 1000000001] 70 (c1 e1) ?_
    conv => whnf
    generalize F1 e1 = e2 at *
    refine amc [1000000000, 1000000001] 80 (c2 e2) ?_
    conv => whnf
    generalize F2 e2 = e3 at *
    refine amc [1000000000, 1000000001] 90 (c3 e3) ?_
    conv => whnf
    generalize F3 e3 = e4 at *
    refine amc [1000000000, 1000000001] 100 (c4 e4) ?_
    conv => whnf
    generalize F4 e4 = e5 at *
    refine amr [1000000002] 110 c5 ?_
    conv => whnf
    refine amr [1000000002] 120 c6 ?_
    conv => whnf
    have c7 := form_spec e5 (mb.toList == mz.toList)
    rw [hR] at c7
    refine amc [1000000000] 130 c7 ?_
    conv => whnf
    exact ⟨.inl rfl, ⟨.inl rfl, trivial⟩, ⟨rfl, rfl⟩, ⟨rfl, rfl⟩, trivial⟩
end GL
open Go Go.AM Go.Proofs Go.RowKit TR
set_option maxRecDepth 100000
namespace GL
def TrfS2 (S G : ByteArray → Bool) (Q : Ex → Bool) (tab ptab : List Value) (f : LFu) : Prop := ∀ e, AMem Tryd.prog 24 [.ptr 1000000000 0, .p (elFu f), .p (.b false)] (hJ2 tab ptab e) (.tup []) (hJ2 tab ptab (trfJ S G Q e f))
theorem right2_spec (S G C B : ByteArray → Bool) (tab ptab : List Value) (hW : World3 S G C tab) (hB : ConB B) (Q : Ex → Bool) (p : LPg) (hp : wlPg p ≤ 1048640) (hT : ∀ t ∈ p.traits, ∀ f ∈ t.funcs, TrfS2 S G Q tab ptab f) :
    AMem Tryd.prog 5 [.p (elPg p)] (glob2H 0 tab 5 ptab) (.p (.i .i64 (rightF S G C B Q p))) (glob2H 0 tab 5 ptab) := by
  have hwp := wlPg_eq p
  have n1 := l_wts elUse (fun x => by rw [wlUse_eq]; omega) p.uses
  have n2 := l_wts elDt (fun x => by rw [wlDt_eq]; omega) p.datas
  have n3 := l_wts elTr (fun x => by rw [wlTr_eq]; omega) p.traits
  have n4 := l_wts elIm (fun x => by rw [wlIm_eq]; omega) p.impls
  have n5 := l_wts elFu (fun x => by have := wlFu_eq x; unfold wlFu at this; omega) p.funcs
  have n6 := l_wts elAc (fun x => by rw [wlAc_eq]; omega) p.actors
  have m2 := fun x => l_mem elDt (x := x) (l := p.datas)
  have m3 := fun x => l_mem elTr (x := x) (l := p.traits)
  have m4 := fun x => l_mem elIm (x := x) (l := p.impls)
  have m5 := fun x => l_mem elFu (x := x) (l := p.funcs)
  have m6 := fun x => l_mem elAc (x := x) (l := p.actors)
  have hLL : lensL p = [((p.uses.map elUse).length : Int), (p.datas.map elDt).length, (p.traits.map elTr).length, (p.impls.map elIm).length, (p.funcs.map elFu).length, (p.actors.map elAc).length] := by simp [lensL]
  rw [rightF, hLL]
  obtain ⟨nm, ver, us, ds, ts, is, fs, acs⟩ := p
  simp only at *
  generalize hx1 : lensF [((us.map elUse).length : Int), (ds.map elDt).length, (ts.map elTr).length, (is.map elIm).length, (fs.map elFu).length, (acs.map elAc).length] 0 = x1
  generalize hx2 : mustF x1 (S nm && plainF ver) 3 = x2
  generalize hx3 : us.foldl (useJ S) x2 = x3
  generalize hx4 : ds.foldl (dtJ S G) x3 = x4
  generalize hx5 : ts.foldl (trJ S G Q) x4 = x5
  generalize hx6 : is.foldl (imJ S G C B) x5 = x6
  generalize hx7 : fs.foldl (fuJ S G C) x6 = x7
  generalize hx8 : acs.foldl (acJ S G C) x7 = x8
  unfold glob2H
  refine AMem.introS (tyOf_ok Tryd.prog) Tryd.func5 rfl (by rfl) (by show 1 ≤ _; decide) rfl ?_
  refine AWp.cut (tyOf_ok Tryd.prog) hmix (by kernel_rfl) 3 [1, 3] [25, 1000000000, 1000000001, 1] (fun _ : Unit => [.ptr 1 0, .ptr 25 0]) (fun _ => [.cells [.p (.i .i64 x1)], .glob 0 tab, .glob 5 ptab, .cells [.p (.s nm), .p (.i .i64 ver), .p (.sl 3 (us.map elUse)), .p (.sl 3 (ds.map elDt)), .p (.sl 2 (ts.map elTr)), .p (.sl 3 (is.map elIm)), .p (.sl 15 (fs.map elFu)), .p (.sl 14 (acs.map elAc))]]) (fun _ => True) ?_ ?_
  · conv => whnf
    refine loopS (tyOf_ok _) hmix (by kernel_rfl) 6 [1, 3, 44, 45, 46] [25, 1000000000, 1000000001, 1] (fun j _ => [.ptr 1 0, .ptr 25 0, .so 1 [.i .i64 (us.map elUse).length, .i .i64 (ds.map elDt).length, .i .i64 (ts.map elTr).length, .i .i64 (is.map elIm).length, .i .i64 (fs.map elFu).length, .i .i64 (acs.map elAc).length], .p (.i .i64 6), .p (.i .i64 (ix j))]) (fun j x => [.cells [.p (.i .i64 x)], .glob 0 tab, .glob 5 ptab, .cells [.p (.s nm), .p (.i .i64 ver), .p (.sl 3 (us.map elUse)), .p (.sl 3 (ds.map elDt)), .p (.sl 2 (ts.map elTr)), .p (.sl 3 (is.map elIm)), .p (.sl 15 (fs.map elFu)), .p (.sl 14 (acs.map elAc))]]) (fun j x => lensF ([((us.map elUse).length : Int), (ds.map elDt).length, (ts.map elTr).length, (is.map elIm).length, (fs.map elFu).length, (acs.map elAc).length].drop j) x = x1) 0 ⟨rfl, rfl, rfl, rfl⟩ hx1 ?_
    generalize ((us.map elUse).length : Int) = l1
    generalize ((ds.map elDt).length : Int) = l2
    generalize ((ts.map elTr).length : Int) = l3
    generalize ((is.map elIm).length : Int) = l4
    generalize ((fs.map elFu).length : Int) = l5
    generalize ((acs.map elAc).length : Int) = l6
    intro j x hj hn
    conv => whnf
    refine asplit ?_ ?_ <;> intro h1 <;> conv => whnf
    · have hj1 := ix_tt h1 (n := 6) rfl hj (by omega)
      obtain ⟨b, hb1⟩ : ∃ b, [l1, l2, l3, l4, l5, l6][j]? = some b := ⟨_, List.getElem?_eq_getElem (by simpa using hj1)⟩
      rw [drop_cons hb1, lensF, List.foldl_cons] at hn
      refine aidxk (x := .i .i64 b) (show (([l1, l2, l3, l4, l5, l6] : List Int).map (PV.i .i64))[j]? = _ by rw [List.getElem?_map, hb1]; rfl) (by omega) ?_
      conv => whnf
      have c := few_spec x (decide (b ≤ 40))
      generalize mustF x (decide (b ≤ 40)) 2 = y at *
      refine amc [25] 500 c ?_
      conv => whnf
      exact ⟨hj1, y, ⟨rfl, rfl, rfl, rfl⟩, hn⟩
    · have hj1 := ix_ff h1 (n := 6) rfl hj (by omega)
      rw [hj1] at hn
      have : x = x1 := hn
      subst this
      exact ⟨(), ⟨rfl, rfl, rfl, rfl⟩, trivial⟩
  intro _ _
  clear hx1
  refine AWp.cut (tyOf_ok Tryd.prog) hmix (by kernel_rfl) 1 [1, 3] [25, 1000000000, 1000000001, 1] (fun _ : Unit => [.ptr 1 0, .ptr 25 0]) (fun _ => [.cells [.p (.i .i64 x2)], .glob 0 tab, .glob 5 ptab, .cells [.p (.s nm), .p (.i .i64 ver), .p (.sl 3 (us.map elUse)), .p (.sl 3 (ds.map elDt)), .p (.sl 2 (ts.map elTr)), .p (.sl 3 (is.map elIm)), .p (.sl 15 (fs.map elFu)), .p (.sl 14 (acs.map elAc))]]) (fun _ => True) ?_ ?_
  · conv => whnf
    have hs := hW.s nm
    generalize S nm = SN at *
    refine amc [1000000000] 50 hs ?_
    conv => whnf
    refine asplit ?_ ?_ <;> intro g1 <;> conv => whnf
    · refine apc (plain_spec ver) ?_
      conv => whnf
      have c := form_spec x1 (plainF ver)
      rw [show mustF x1 (plainF ver) 3 = x2 by rw [← hx2, g1]; rfl] at c
      refine amc [25] 60 c ?_
      conv => whnf
      exact ⟨(), ⟨rfl, rfl, rfl, rfl⟩, trivial⟩
    · have c := form_spec x1 (false)
      rw [show mustF x1 (false) 3 = x2 by rw [← hx2, g1]; rfl] at c
      refine amc [25] 60 c ?_
      conv => whnf
      exact ⟨(), ⟨rfl, rfl, rfl, rfl⟩, trivial⟩
  intro _ _
  clear hx2
  refine AWp.cut (tyOf_ok Tryd.prog) hmix (by kernel_rfl) 1 [1, 3] [25, 1000000000, 1000000001, 1] (fun _ : Unit => [.ptr 1 0, .ptr 25 0]) (fun _ => [.cells [.p (.i .i64 x3)], .glob 0 tab, .glob 5 ptab, .cells [.p (.s nm), .p (.i .i64 ver), .p (.sl 3 (us.map elUse)), .p (.sl 3 (ds.map elDt)), .p (.sl 2 (ts.map elTr)), .p (.sl 3 (is.map elIm)), .p (.sl 15 (fs.map elFu)), .p (.sl 14 (acs.map elAc))]]) (fun _ => True) ?_ ?_
  · conv => whnf
    refine loopS (tyOf_ok _) hmix (by kernel_rfl) us.length [1, 3, 66, 67, 68] [25, 1000000000, 1000000001, 1] (fun j _ => [.ptr 1 0, .ptr 25 0, .p (.sl 3 (us.map elUse)), .p (.i .i64 (us.map elUse).length), .p (.i .i64 (ix j))]) (fun j x => [.cells [.p (.i .i64 x)], .glob 0 tab, .glob 5 ptab, .cells [.p (.s nm), .p (.i .i64 ver), .p (.sl 3 (us.map elUse)), .p (.sl 3 (ds.map elDt)), .p (.sl 2 (ts.map elTr)), .p (.sl 3 (is.map elIm)), .p (.sl 15 (fs.map elFu)), .p (.sl 14 (acs.map elAc))]]) (fun j x => (us.drop j).foldl (useJ S) x = x3) x2 ⟨rfl, rfl, rfl, rfl⟩ hx3 ?_
    intro j x hj hn
    conv => whnf
    refine asplit ?_ ?_ <;> intro h1 <;> conv => whnf
    · have hj1 := ix_tt h1 (by simp) hj (by omega)
      obtain ⟨b, hb1⟩ : ∃ b, us[j]? = some b := ⟨_, List.getElem?_eq_getElem hj1⟩
      have hbm := List.mem_of_getElem? hb1
      rw [drop_cons hb1, List.foldl_cons] at hn
      refine aidxk (x := elUse b) (by simp [hb1]) (by omega) ?_
      rw [useJ] at hn
      have hs := hW.s b.name
      obtain ⟨bn, bl, bh⟩ := b
      simp only at hn hs
      generalize S bn = SN at *
      have p1 := plain_spec bl
      have p2 := plain_spec bh
      generalize plainF bl = P1 at *
      generalize plainF bh = P2 at *
      conv => whnf
      refine amc [1000000000] 50 hs ?_
      conv => whnf
      refine asplit ?_ ?_ <;> intro g1 <;> conv => whnf
      · refine apc p1 ?_
        conv => whnf
        refine asplit ?_ ?_ <;> intro g2 <;> conv => whnf
        · refine apc p2 ?_
          conv => whnf
          refine asplit ?_ ?_ <;> intro g3 <;> conv => whnf
          · rw [g1, g2, g3] at hn
            have c := form_spec x (decide (bl ≤ bh))
            replace hn : (us.drop (j + 1)).foldl (useJ S) (mustF x (decide (bl ≤ bh)) 3) = x3 := hn
            generalize mustF x (decide (bl ≤ bh)) 3 = y at *
            refine amc [25] 60 c ?_
            conv => whnf
            exact ⟨hj1, y, ⟨rfl, rfl, rfl, rfl⟩, hn⟩
          · rw [g1, g2, g3] at hn
            have c := form_spec x (false)
            replace hn : (us.drop (j + 1)).foldl (useJ S) (mustF x (false) 3) = x3 := hn
            generalize mustF x (false) 3 = y at *
            refine amc [25] 60 c ?_
            conv => whnf
            exact ⟨hj1, y, ⟨rfl, rfl, rfl, rfl⟩, hn⟩
        · rw [g1, g2] at hn
          have c := form_spec x (false)
          replace hn : (us.drop (j + 1)).foldl (useJ S) (mustF x (false) 3) = x3 := hn
          generalize mustF x (false) 3 = y at *
          refine amc [25] 60 c ?_
          conv => whnf
          exact ⟨hj1, y, ⟨rfl, rfl, rfl, rfl⟩, hn⟩
      · rw [g1] at hn
        have c := form_spec x (false)
        replace hn : (us.drop (j + 1)).foldl (useJ S) (mustF x (false) 3) = x3 := hn
        generalize mustF x (false) 3 = y at *
        refine amc [25] 60 c ?_
        conv => whnf
        exact ⟨hj1, y, ⟨rfl, rfl, rfl, rfl⟩, hn⟩
    · have hj1 := ix_ff h1 (by simp) hj (by omega)
      rw [hj1, List.drop_length, List.foldl_nil] at hn
      subst hn
      exact ⟨(), ⟨rfl, rfl, rfl, rfl⟩, trivial⟩
  intro _ _
  clear hx3
  refine AWp.cut (tyOf_ok Tryd.prog) hmix (by kernel_rfl) 1 [1, 3] [25, 1000000000, 1000000001, 1] (fun _ : Unit => [.ptr 1 0, .ptr 25 0]) (fun _ => [.cells [.p (.i .i64 x4)], .glob 0 tab, .glob 5 ptab, .cells [.p (.s nm), .p (.i .i64 ver), .p (.sl 3 (us.map elUse)), .p (.sl 3 (ds.map elDt)), .p (.sl 2 (ts.map elTr)), .p (.sl 3 (is.map elIm)), .p (.sl 15 (fs.map elFu)), .p (.sl 14 (acs.map elAc))]]) (fun _ => True) ?_ ?_
  · conv => whnf
    refine loopS (tyOf_ok _) hmix (by kernel_rfl) ds.length [1, 3, 96, 97, 98] [25, 1000000000, 1000000001, 1] (fun j _ => [.ptr 1 0, .ptr 25 0, .p (.sl 3 (ds.map elDt)), .p (.i .i64 (ds.map elDt).length), .p (.i .i64 (ix j))]) (fun j x => [.cells [.p (.i .i64 x)], .glob 0 tab, .glob 5 ptab, .cells [.p (.s nm), .p (.i .i64 ver), .p (.sl 3 (us.map elUse)), .p (.sl 3 (ds.map elDt)), .p (.sl 2 (ts.map elTr)), .p (.sl 3 (is.map elIm)), .p (.sl 15 (fs.map elFu)), .p (.sl 14 (acs.map elAc))]]) (fun j x => (ds.drop j).foldl (dtJ S G) x = x4) x3 ⟨rfl, rfl, rfl, rfl⟩ hx4 ?_
    intro j x hj hn
    conv => whnf
    refine asplit ?_ ?_ <;> intro h1 <;> conv => whnf
    · have hj1 := ix_tt h1 (by simp) hj (by omega)
      obtain ⟨b, hb1⟩ : ∃ b, ds[j]? = some b := ⟨_, List.getElem?_eq_getElem hj1⟩
      have hbm := List.mem_of_getElem? hb1
      rw [drop_cons hb1, List.foldl_cons] at hn
      refine aidxk (x := elDt b) (by simp [hb1]) (by omega) ?_
      rw [dtJ] at hn
      have hbw := m2 _ hbm
      rw [wlDt_eq] at hbw
      have q1 := wSs_len b.ps
      have q2 := l_wts elMk (fun x => by rw [wlMk_eq]; omega) b.makes
      have q3 := fun x => l_mem elMk (x := x) (l := b.makes)
      have hs := data_spec G b.name (hW.g b.name)
      have c1 := fun e => list_spec S tab hW.s b.ps e (by omega)
      obtain ⟨bn, bp, bm⟩ := b
      simp only at *
      rw [show (bm.length : Int) = (bm.map elMk).length by simp] at hn
      generalize dataF G bn = SN at *
      generalize listF S bp = F1 at *
      conv => whnf
      refine apc hs ?_
      conv => whnf
      refine asplit ?_ ?_ <;> intro g1 <;> conv => whnf
      · rw [g1] at hn
        have c := form_spec x (decide (((bm.map elMk).length : Int) > 0))
        replace hn : (ds.drop (j + 1)).foldl (dtJ S G) (bm.foldl (mkJ S G) (mustF (F1 (mustF x (decide (((bm.map elMk).length : Int) > 0)) 3)) (decide (((bm.map elMk).length : Int) ≤ 12)) 2)) = x4 := hn
        generalize mustF x (decide (((bm.map elMk).length : Int) > 0)) 3 = y at *
        refine amc [25] 60 c ?_
        conv => whnf
        refine amc [25, 1000000000] 70 (c1 y) ?_
        conv => whnf
        generalize F1 y = y1 at *
        have c2 := few_spec y1 (decide (((bm.map elMk).length : Int) ≤ 12))
        generalize mustF y1 (decide (((bm.map elMk).length : Int) ≤ 12)) 2 = y2 at *
        refine amc [25] 80 c2 ?_
        conv => whnf
        refine loopS (tyOf_ok _) hmix (by kernel_rfl) bm.length [1, 3, 96, 97, 98, 124, 125, 126] [25, 1000000000, 1000000001, 1] (fun i _ => [.ptr 1 0, .ptr 25 0, .p (.sl 3 (ds.map elDt)), .p (.i .i64 (ds.map elDt).length), .p (.i .i64 (ix j)), .p (.sl 2 (bm.map elMk)), .p (.i .i64 (bm.map elMk).length), .p (.i .i64 (ix i))]) (fun i x => [.cells [.p (.i .i64 x)], .glob 0 tab, .glob 5 ptab, .cells [.p (.s nm), .p (.i .i64 ver), .p (.sl 3 (us.map elUse)), .p (.sl 3 (ds.map elDt)), .p (.sl 2 (ts.map elTr)), .p (.sl 3 (is.map elIm)), .p (.sl 15 (fs.map elFu)), .p (.sl 14 (acs.map elAc))]]) (fun i x => (ds.drop (j + 1)).foldl (dtJ S G) ((bm.drop i).foldl (mkJ S G) x) = x4) y2 ⟨rfl, rfl, rfl, rfl⟩ hn ?_
        clear hn
        intro i z hi hn
        conv => whnf
        refine asplit ?_ ?_ <;> intro h2 <;> conv => whnf
        · have hi1 := ix_tt h2 (by simp) hi (by omega)
          obtain ⟨a, ha1⟩ : ∃ a, bm[i]? = some a := ⟨_, List.getElem?_eq_getElem hi1⟩
          have ham := q3 _ (List.mem_of_getElem? ha1)
          rw [wlMk_eq] at ham
          rw [drop_cons ha1, List.foldl_cons, mkJ] at hn
          refine aidxk (x := elMk a) (by simp [ha1]) (by omega) ?_
          have d1 := hW.g a.name
          have d2 := fun e => types_spec S G tab hW.s hW.g a.ts (by omega) e
          obtain ⟨an, at1⟩ := a
          simp only at *
          rw [show (at1.length : Int) = (eTs at1).length by rw [eTs_len]] at hn
          generalize G an = GN at *
          generalize typFs S G at1 1 = F2 at *
          conv => whnf
          refine apc d1 ?_
          conv => whnf
          have c := form_spec z GN
          generalize mustF z GN 3 = z1 at *
          refine amc [25] 60 c ?_
          conv => whnf
          have c := few_spec z1 (decide (((eTs at1).length : Int) ≤ 6))
          generalize mustF z1 (decide (((eTs at1).length : Int) ≤ 6)) 2 = z2 at *
          refine amc [25] 70 c ?_
          conv => whnf
          have d2 := d2 z2
          unfold hJ at d2
          generalize F2 z2 = z3 at *
          refine amc [25, 1000000000] 80 d2 ?_
          conv => whnf
          exact ⟨hi1, z3, ⟨rfl, rfl, rfl, rfl⟩, hn⟩
        · have hi1 := ix_ff h2 (by simp) hi (by omega)
          rw [hi1, List.drop_length, List.foldl_nil] at hn
          exact ⟨hj1, z, ⟨rfl, rfl, rfl, rfl⟩, hn⟩
      · rw [g1] at hn
        have c := form_spec x (false)
        replace hn : (ds.drop (j + 1)).foldl (dtJ S G) (bm.foldl (mkJ S G) (mustF (F1 (mustF x (false) 3)) (decide (((bm.map elMk).length : Int) ≤ 12)) 2)) = x4 := hn
        generalize mustF x (false) 3 = y at *
        refine amc [25] 60 c ?_
        conv => whnf
        refine amc [25, 1000000000] 70 (c1 y) ?_
        conv => whnf
        generalize F1 y = y1 at *
        have c2 := few_spec y1 (decide (((bm.map elMk).length : Int) ≤ 12))
        generalize mustF y1 (decide (((bm.map elMk).length : Int) ≤ 12)) 2 = y2 at *
        refine amc [25] 80 c2 ?_
        conv => whnf
        refine loopS (tyOf_ok _) hmix (by kernel_rfl) bm.length [1, 3, 96, 97, 98, 124, 125, 126] [25, 1000000000, 1000000001, 1] (fun i _ => [.ptr 1 0, .ptr 25 0, .p (.sl 3 (ds.map elDt)), .p (.i .i64 (ds.map elDt).length), .p (.i .i64 (ix j)), .p (.sl 2 (bm.map elMk)), .p (.i .i64 (bm.map elMk).length), .p (.i .i64 (ix i))]) (fun i x => [.cells [.p (.i .i64 x)], .glob 0 tab, .glob 5 ptab, .cells [.p (.s nm), .p (.i .i64 ver), .p (.sl 3 (us.map elUse)), .p (.sl 3 (ds.map elDt)), .p (.sl 2 (ts.map elTr)), .p (.sl 3 (is.map elIm)), .p (.sl 15 (fs.map elFu)), .p (.sl 14 (acs.map elAc))]]) (fun i x => (ds.drop (j + 1)).foldl (dtJ S G) ((bm.drop i).foldl (mkJ S G) x) = x4) y2 ⟨rfl, rfl, rfl, rfl⟩ hn ?_
        clear hn
        intro i z hi hn
        conv => whnf
        refine asplit ?_ ?_ <;> intro h2 <;> conv => whnf
        · have hi1 := ix_tt h2 (by simp) hi (by omega)
          obtain ⟨a, ha1⟩ : ∃ a, bm[i]? = some a := ⟨_, List.getElem?_eq_getElem hi1⟩
          have ham := q3 _ (List.mem_of_getElem? ha1)
          rw [wlMk_eq] at ham
          rw [drop_cons ha1, List.foldl_cons, mkJ] at hn
          refine aidxk (x := elMk a) (by simp [ha1]) (by omega) ?_
          have d1 := hW.g a.name
          have d2 := fun e => types_spec S G tab hW.s hW.g a.ts (by omega) e
          obtain ⟨an, at1⟩ := a
          simp only at *
          rw [show (at1.length : Int) = (eTs at1).length by rw [eTs_len]] at hn
          generalize G an = GN at *
          generalize typFs S G at1 1 = F2 at *
          conv => whnf
          refine apc d1 ?_
          conv => whnf
          have c := form_spec z GN
          generalize mustF z GN 3 = z1 at *
          refine amc [25] 60 c ?_
          conv => whnf
          have c := few_spec z1 (decide (((eTs at1).length : Int) ≤ 6))
          generalize mustF z1 (decide (((eTs at1).length : Int) ≤ 6)) 2 = z2 at *
          refine amc [25] 70 c ?_
          conv => whnf
          have d2 := d2 z2
          unfold hJ at d2
          generalize F2 z2 = z3 at *
          refine amc [25, 1000000000] 80 d2 ?_
          conv => whnf
          exact ⟨hi1, z3, ⟨rfl, rfl, rfl, rfl⟩, hn⟩
        · have hi1 := ix_ff h2 (by simp) hi (by omega)
          rw [hi1, List.drop_length, List.foldl_nil] at hn
          exact ⟨hj1, z, ⟨rfl, rfl, rfl, rfl⟩, hn⟩
    · have hj1 := ix_ff h1 (by simp) hj (by omega)
      rw [hj1, List.drop_length, List.foldl_nil] at hn
      subst hn
      exact ⟨(), ⟨rfl, rfl, rfl, rfl⟩, trivial⟩
  intro _ _
  clear hx4
  refine AWp.cut (tyOf_ok Tryd.prog) hmix (by kernel_rfl) 1 [1, 3] [25, 1000000000, 1000000001, 1] (fun _ : Unit => [.ptr 1 0, .ptr 25 0]) (fun _ => [.cells [.p (.i .i64 x5)], .glob 0 tab, .glob 5 ptab, .cells [.p (.s nm), .p (.i .i64 ver), .p (.sl 3 (us.map elUse)), .p (.sl 3 (ds.map elDt)), .p (.sl 2 (ts.map elTr)), .p (.sl 3 (is.map elIm)), .p (.sl 15 (fs.map elFu)), .p (.sl 14 (acs.map elAc))]]) (fun _ => True) ?_ ?_
  · conv => whnf
    refine loopS (tyOf_ok _) hmix (by kernel_rfl) ts.length [1, 3, 148, 149, 150] [25, 1000000000, 1000000001, 1] (fun j _ => [.ptr 1 0, .ptr 25 0, .p (.sl 2 (ts.map elTr)), .p (.i .i64 (ts.map elTr).length), .p (.i .i64 (ix j))]) (fun j x => [.cells [.p (.i .i64 x)], .glob 0 tab, .glob 5 ptab, .cells [.p (.s nm), .p (.i .i64 ver), .p (.sl 3 (us.map elUse)), .p (.sl 3 (ds.map elDt)), .p (.sl 2 (ts.map elTr)), .p (.sl 3 (is.map elIm)), .p (.sl 15 (fs.map elFu)), .p (.sl 14 (acs.map elAc))]]) (fun j x => (ts.drop j).foldl (trJ S G Q) x = x5) x4 ⟨rfl, rfl, rfl, rfl⟩ hx5 ?_
    intro j x hj hn
    conv => whnf
    refine asplit ?_ ?_ <;> intro h1 <;> conv => whnf
    · have hj1 := ix_tt h1 (by simp) hj (by omega)
      obtain ⟨b, hb1⟩ : ∃ b, ts[j]? = some b := ⟨_, List.getElem?_eq_getElem hj1⟩
      have hbm := List.mem_of_getElem? hb1
      rw [drop_cons hb1, List.foldl_cons] at hn
      refine aidxk (x := elTr b) (by simp [hb1]) (by omega) ?_
      rw [trJ] at hn
      have hbw := m3 _ hbm
      rw [wlTr_eq] at hbw
      have q2 := l_wts elFu (fun x => by have := wlFu_eq x; unfold wlFu at this; omega) b.funcs
      have hs := hW.g b.name
      have hT := hT b hbm
      obtain ⟨bn, bm⟩ := b
      simp only at *
      rw [show (bm.length : Int) = (bm.map elFu).length by simp] at hn
      generalize G bn = SN at *
      conv => whnf
      refine apc hs ?_
      conv => whnf
      have c := form_spec x SN
      generalize mustF x SN 3 = y at *
      refine amc [25] 60 c ?_
      conv => whnf
      have c2 := few_spec y (decide (((bm.map elFu).length : Int) ≤ 12))
      generalize mustF y (decide (((bm.map elFu).length : Int) ≤ 12)) 2 = y2 at *
      refine amc [25] 80 c2 ?_
      conv => whnf
      refine loopS (tyOf_ok _) hmix (by kernel_rfl) bm.length [1, 3, 148, 149, 150, 166, 167, 168] [25, 1000000000, 1000000001, 1] (fun i _ => [.ptr 1 0, .ptr 25 0, .p (.sl 2 (ts.map elTr)), .p (.i .i64 (ts.map elTr).length), .p (.i .i64 (ix j)), .p (.sl 15 (bm.map elFu)), .p (.i .i64 (bm.map elFu).length), .p (.i .i64 (ix i))]) (fun i x => [.cells [.p (.i .i64 x)], .glob 0 tab, .glob 5 ptab, .cells [.p (.s nm), .p (.i .i64 ver), .p (.sl 3 (us.map elUse)), .p (.sl 3 (ds.map elDt)), .p (.sl 2 (ts.map elTr)), .p (.sl 3 (is.map elIm)), .p (.sl 15 (fs.map elFu)), .p (.sl 14 (acs.map elAc))]]) (fun i x => (ts.drop (j + 1)).foldl (trJ S G Q) ((bm.drop i).foldl (trfJ S G Q) x) = x5) y2 ⟨rfl, rfl, rfl, rfl⟩ hn ?_
      clear hn
      intro i z hi hn
      conv => whnf
      refine asplit ?_ ?_ <;> intro h2 <;> conv => whnf
      · have hi1 := ix_tt h2 (by simp) hi (by omega)
        obtain ⟨a, ha1⟩ : ∃ a, bm[i]? = some a := ⟨_, List.getElem?_eq_getElem hi1⟩
        have ham := List.mem_of_getElem? ha1
        rw [drop_cons ha1, List.foldl_cons] at hn
        refine aidxk (x := elFu a) (by simp [ha1]) (by omega) ?_
        have c := hT a ham z
        unfold hJ2 at c
      
        generalize trfJ S G Q z a = y at *
        obtain ⟨nm, ps, ns, tz, ⟨ok, on, oa⟩, ⟨b1, b2, b3, b4, b5, b6, b7, b8⟩⟩ := a
        conv => whnf
        refine amc [25, 1000000000, 1000000001] 600 c ?_
        conv => whnf
        exact ⟨hi1, y, ⟨rfl, rfl, rfl, rfl⟩, hn⟩
      · have hi1 := ix_ff h2 (by simp) hi (by omega)
        rw [hi1, List.drop_length, List.foldl_nil] at hn
        exact ⟨hj1, z, ⟨rfl, rfl, rfl, rfl⟩, hn⟩
    · have hj1 := ix_ff h1 (by simp) hj (by omega)
      rw [hj1, List.drop_length, List.foldl_nil] at hn
      subst hn
      exact ⟨(), ⟨rfl, rfl, rfl, rfl⟩, trivial⟩
  intro _ _
  clear hx5
  refine AWp.cut (tyOf_ok Tryd.prog) hmix (by kernel_rfl) 1 [1, 3] [25, 1000000000, 1000000001, 1] (fun _ : Unit => [.ptr 1 0, .ptr 25 0]) (fun _ => [.cells [.p (.i .i64 x6)], .glob 0 tab, .glob 5 ptab, .cells [.p (.s nm), .p (.i .i64 ver), .p (.sl 3 (us.map elUse)), .p (.sl 3 (ds.map elDt)), .p (.sl 2 (ts.map elTr)), .p (.sl 3 (is.map elIm)), .p (.sl 15 (fs.map elFu)), .p (.sl 14 (acs.map elAc))]]) (fun _ => True) ?_ ?_
  · conv => whnf
    refine loopS (tyOf_ok _) hmix (by kernel_rfl) is.length [1, 3, 178, 179, 180] [25, 1000000000, 1000000001, 1] (fun j _ => [.ptr 1 0, .ptr 25 0, .p (.sl 3 (is.map elIm)), .p (.i .i64 (is.map elIm).length), .p (.i .i64 (ix j))]) (fun j x => [.cells [.p (.i .i64 x)], .glob 0 tab, .glob 5 ptab, .cells [.p (.s nm), .p (.i .i64 ver), .p (.sl 3 (us.map elUse)), .p (.sl 3 (ds.map elDt)), .p (.sl 2 (ts.map elTr)), .p (.sl 3 (is.map elIm)), .p (.sl 15 (fs.map elFu)), .p (.sl 14 (acs.map elAc))]]) (fun j x => (is.drop j).foldl (imJ S G C B) x = x6) x5 ⟨rfl, rfl, rfl, rfl⟩ hx6 ?_
    intro j x hj hn
    conv => whnf
    refine asplit ?_ ?_ <;> intro h1 <;> conv => whnf
    · have hj1 := ix_tt h1 (by simp) hj (by omega)
      obtain ⟨b, hb1⟩ : ∃ b, is[j]? = some b := ⟨_, List.getElem?_eq_getElem hj1⟩
      have hbm := List.mem_of_getElem? hb1
      rw [drop_cons hb1, List.foldl_cons] at hn
      refine aidxk (x := elIm b) (by simp [hb1]) (by omega) ?_
      rw [imJ] at hn
      have hbw := m4 _ hbm
      rw [wlIm_eq] at hbw
      have q2 := l_wts elFu (fun x => by have := wlFu_eq x; unfold wlFu at this; omega) b.funcs
      have q3 := fun x => l_mem elFu (x := x) (l := b.funcs)
      have hs := hW.g b.tr
      have ht := hW.g b.fo
      have hu := hB b.fo
      obtain ⟨bn, bo, bm⟩ := b
      simp only at *
      rw [show (bm.length : Int) = (bm.map elFu).length by simp] at hn
      generalize G bn = SN at *
      generalize G bo = ON at *
      generalize B bo = BN at *
      conv => whnf
      refine apc hs ?_
      conv => whnf
      refine asplit ?_ ?_ <;> intro g1 <;> conv => whnf
      · refine apc ht ?_
        conv => whnf
        refine asplit ?_ ?_ <;> intro g2 <;> conv => whnf
        · rw [g1, g2] at hn
          have c := form_spec x (true)
          replace hn : (is.drop (j + 1)).foldl (imJ S G C B) (bm.foldl (fuJ S G C) (mustF (mustF x (true) 3) (decide (((bm.map elFu).length : Int) ≤ 12)) 2)) = x6 := hn
          generalize mustF x (true) 3 = y at *
          refine amc [25] 60 c ?_
          conv => whnf
          have c2 := few_spec y (decide (((bm.map elFu).length : Int) ≤ 12))
          generalize mustF y (decide (((bm.map elFu).length : Int) ≤ 12)) 2 = y2 at *
          refine amc [25] 80 c2 ?_
          conv => whnf
          refine loopS (tyOf_ok _) hmix (by kernel_rfl) bm.length [1, 3, 178, 179, 180, 207, 208, 209] [25, 1000000000, 1000000001, 1] (fun i _ => [.ptr 1 0, .ptr 25 0, .p (.sl 3 (is.map elIm)), .p (.i .i64 (is.map elIm).length), .p (.i .i64 (ix j)), .p (.sl 15 (bm.map elFu)), .p (.i .i64 (bm.map elFu).length), .p (.i .i64 (ix i))]) (fun i x => [.cells [.p (.i .i64 x)], .glob 0 tab, .glob 5 ptab, .cells [.p (.s nm), .p (.i .i64 ver), .p (.sl 3 (us.map elUse)), .p (.sl 3 (ds.map elDt)), .p (.sl 2 (ts.map elTr)), .p (.sl 3 (is.map elIm)), .p (.sl 15 (fs.map elFu)), .p (.sl 14 (acs.map elAc))]]) (fun i x => (is.drop (j + 1)).foldl (imJ S G C B) ((bm.drop i).foldl (fuJ S G C) x) = x6) y2 ⟨rfl, rfl, rfl, rfl⟩ hn ?_
          clear hn
          intro i z hi hn
          conv => whnf
          refine asplit ?_ ?_ <;> intro h2 <;> conv => whnf
          · have hi1 := ix_tt h2 (by simp) hi (by omega)
            obtain ⟨a, ha1⟩ : ∃ a, bm[i]? = some a := ⟨_, List.getElem?_eq_getElem hi1⟩
            have ham := List.mem_of_getElem? ha1
            rw [drop_cons ha1, List.foldl_cons] at hn
            refine aidxk (x := elFu a) (by simp [ha1]) (by omega) ?_
            have c := fun_true S G C tab hW a (by have := q3 a ham; unfold wlFu; omega) z
            unfold hJ at c
            rw [← fuJ] at c
            generalize fuJ S G C z a = y at *
            obtain ⟨nm, ps, ns, tz, ⟨ok, on, oa⟩, ⟨b1, b2, b3, b4, b5, b6, b7, b8⟩⟩ := a
            conv => whnf
            refine amc [25, 1000000000] 600 c ?_
            conv => whnf
            exact ⟨hi1, y, ⟨rfl, rfl, rfl, rfl⟩, hn⟩
          · have hi1 := ix_ff h2 (by simp) hi (by omega)
            rw [hi1, List.drop_length, List.foldl_nil] at hn
            exact ⟨hj1, z, ⟨rfl, rfl, rfl, rfl⟩, hn⟩
        · refine apc hu ?_
          conv => whnf
          rw [g1, g2] at hn
          have c := form_spec x (BN)
          replace hn : (is.drop (j + 1)).foldl (imJ S G C B) (bm.foldl (fuJ S G C) (mustF (mustF x (BN) 3) (decide (((bm.map elFu).length : Int) ≤ 12)) 2)) = x6 := hn
          generalize mustF x (BN) 3 = y at *
          refine amc [25] 60 c ?_
          conv => whnf
          have c2 := few_spec y (decide (((bm.map elFu).length : Int) ≤ 12))
          generalize mustF y (decide (((bm.map elFu).length : Int) ≤ 12)) 2 = y2 at *
          refine amc [25] 80 c2 ?_
          conv => whnf
          refine loopS (tyOf_ok _) hmix (by kernel_rfl) bm.length [1, 3, 178, 179, 180, 207, 208, 209] [25, 1000000000, 1000000001, 1] (fun i _ => [.ptr 1 0, .ptr 25 0, .p (.sl 3 (is.map elIm)), .p (.i .i64 (is.map elIm).length), .p (.i .i64 (ix j)), .p (.sl 15 (bm.map elFu)), .p (.i .i64 (bm.map elFu).length), .p (.i .i64 (ix i))]) (fun i x => [.cells [.p (.i .i64 x)], .glob 0 tab, .glob 5 ptab, .cells [.p (.s nm), .p (.i .i64 ver), .p (.sl 3 (us.map elUse)), .p (.sl 3 (ds.map elDt)), .p (.sl 2 (ts.map elTr)), .p (.sl 3 (is.map elIm)), .p (.sl 15 (fs.map elFu)), .p (.sl 14 (acs.map elAc))]]) (fun i x => (is.drop (j + 1)).foldl (imJ S G C B) ((bm.drop i).foldl (fuJ S G C) x) = x6) y2 ⟨rfl, rfl, rfl, rfl⟩ hn ?_
          clear hn
          intro i z hi hn
          conv => whnf
          refine asplit ?_ ?_ <;> intro h2 <;> conv => whnf
          · have hi1 := ix_tt h2 (by simp) hi (by omega)
            obtain ⟨a, ha1⟩ : ∃ a, bm[i]? = some a := ⟨_, List.getElem?_eq_getElem hi1⟩
            have ham := List.mem_of_getElem? ha1
            rw [drop_cons ha1, List.foldl_cons] at hn
            refine aidxk (x := elFu a) (by simp [ha1]) (by omega) ?_
            have c := fun_true S G C tab hW a (by have := q3 a ham; unfold wlFu; omega) z
            unfold hJ at c
            rw [← fuJ] at c
            generalize fuJ S G C z a = y at *
            obtain ⟨nm, ps, ns, tz, ⟨ok, on, oa⟩, ⟨b1, b2, b3, b4, b5, b6, b7, b8⟩⟩ := a
            conv => whnf
            refine amc [25, 1000000000] 600 c ?_
            conv => whnf
            exact ⟨hi1, y, ⟨rfl, rfl, rfl, rfl⟩, hn⟩
          · have hi1 := ix_ff h2 (by simp) hi (by omega)
            rw [hi1, List.drop_length, List.foldl_nil] at hn
            exact ⟨hj1, z, ⟨rfl, rfl, rfl, rfl⟩, hn⟩
      · rw [g1] at hn
        have c := form_spec x (false)
        replace hn : (is.drop (j + 1)).foldl (imJ S G C B) (bm.foldl (fuJ S G C) (mustF (mustF x (false) 3) (decide (((bm.map elFu).length : Int) ≤ 12)) 2)) = x6 := hn
        generalize mustF x (false) 3 = y at *
        refine amc [25] 60 c ?_
        conv => whnf
        have c2 := few_spec y (decide (((bm.map elFu).length : Int) ≤ 12))
        generalize mustF y (decide (((bm.map elFu).length : Int) ≤ 12)) 2 = y2 at *
        refine amc [25] 80 c2 ?_
        conv => whnf
        refine loopS (tyOf_ok _) hmix (by kernel_rfl) bm.length [1, 3, 178, 179, 180, 207, 208, 209] [25, 1000000000, 1000000001, 1] (fun i _ => [.ptr 1 0, .ptr 25 0, .p (.sl 3 (is.map elIm)), .p (.i .i64 (is.map elIm).length), .p (.i .i64 (ix j)), .p (.sl 15 (bm.map elFu)), .p (.i .i64 (bm.map elFu).length), .p (.i .i64 (ix i))]) (fun i x => [.cells [.p (.i .i64 x)], .glob 0 tab, .glob 5 ptab, .cells [.p (.s nm), .p (.i .i64 ver), .p (.sl 3 (us.map elUse)), .p (.sl 3 (ds.map elDt)), .p (.sl 2 (ts.map elTr)), .p (.sl 3 (is.map elIm)), .p (.sl 15 (fs.map elFu)), .p (.sl 14 (acs.map elAc))]]) (fun i x => (is.drop (j + 1)).foldl (imJ S G C B) ((bm.drop i).foldl (fuJ S G C) x) = x6) y2 ⟨rfl, rfl, rfl, rfl⟩ hn ?_
        clear hn
        intro i z hi hn
        conv => whnf
        refine asplit ?_ ?_ <;> intro h2 <;> conv => whnf
        · have hi1 := ix_tt h2 (by simp) hi (by omega)
          obtain ⟨a, ha1⟩ : ∃ a, bm[i]? = some a := ⟨_, List.getElem?_eq_getElem hi1⟩
          have ham := List.mem_of_getElem? ha1
          rw [drop_cons ha1, List.foldl_cons] at hn
          refine aidxk (x := elFu a) (by simp [ha1]) (by omega) ?_
          have c := fun_true S G C tab hW a (by have := q3 a ham; unfold wlFu; omega) z
          unfold hJ at c
          rw [← fuJ] at c
          generalize fuJ S G C z a = y at *
          obtain ⟨nm, ps, ns, tz, ⟨ok, on, oa⟩, ⟨b1, b2, b3, b4, b5, b6, b7, b8⟩⟩ := a
          conv => whnf
          refine amc [25, 1000000000] 600 c ?_
          conv => whnf
          exact ⟨hi1, y, ⟨rfl, rfl, rfl, rfl⟩, hn⟩
        · have hi1 := ix_ff h2 (by simp) hi (by omega)
          rw [hi1, List.drop_length, List.foldl_nil] at hn
          exact ⟨hj1, z, ⟨rfl, rfl, rfl, rfl⟩, hn⟩
    · have hj1 := ix_ff h1 (by simp) hj (by omega)
      rw [hj1, List.drop_length, List.foldl_nil] at hn
      subst hn
      exact ⟨(), ⟨rfl, rfl, rfl, rfl⟩, trivial⟩
  intro _ _
  clear hx6
  refine AWp.cut (tyOf_ok Tryd.prog) hmix (by kernel_rfl) 1 [1, 3] [25, 1000000000, 1000000001, 1] (fun _ : Unit => [.ptr 1 0, .ptr 25 0]) (fun _ => [.cells [.p (.i .i64 x7)], .glob 0 tab, .glob 5 ptab, .cells [.p (.s nm), .p (.i .i64 ver), .p (.sl 3 (us.map elUse)), .p (.sl 3 (ds.map elDt)), .p (.sl 2 (ts.map elTr)), .p (.sl 3 (is.map elIm)), .p (.sl 15 (fs.map elFu)), .p (.sl 14 (acs.map elAc))]]) (fun _ => True) ?_ ?_
  · conv => whnf
    refine loopS (tyOf_ok _) hmix (by kernel_rfl) fs.length [1, 3, 219, 220, 221] [25, 1000000000, 1000000001, 1] (fun j _ => [.ptr 1 0, .ptr 25 0, .p (.sl 15 (fs.map elFu)), .p (.i .i64 (fs.map elFu).length), .p (.i .i64 (ix j))]) (fun j x => [.cells [.p (.i .i64 x)], .glob 0 tab, .glob 5 ptab, .cells [.p (.s nm), .p (.i .i64 ver), .p (.sl 3 (us.map elUse)), .p (.sl 3 (ds.map elDt)), .p (.sl 2 (ts.map elTr)), .p (.sl 3 (is.map elIm)), .p (.sl 15 (fs.map elFu)), .p (.sl 14 (acs.map elAc))]]) (fun j x => (fs.drop j).foldl (fuJ S G C) x = x7) x6 ⟨rfl, rfl, rfl, rfl⟩ hx7 ?_
    intro j x hj hn
    conv => whnf
    refine asplit ?_ ?_ <;> intro h1 <;> conv => whnf
    · have hj1 := ix_tt h1 (by simp) hj (by omega)
      obtain ⟨b, hb1⟩ : ∃ b, fs[j]? = some b := ⟨_, List.getElem?_eq_getElem hj1⟩
      have hbm := List.mem_of_getElem? hb1
      rw [drop_cons hb1, List.foldl_cons] at hn
      refine aidxk (x := elFu b) (by simp [hb1]) (by omega) ?_
      have c := fun_true S G C tab hW b (by have := m5 b hbm; unfold wlFu; omega) x
      unfold hJ at c
      rw [← fuJ] at c
      generalize fuJ S G C x b = y at *
      obtain ⟨nm, ps, ns, tz, ⟨ok, on, oa⟩, ⟨b1, b2, b3, b4, b5, b6, b7, b8⟩⟩ := b
      conv => whnf
      refine amc [25, 1000000000] 600 c ?_
      conv => whnf
      exact ⟨hj1, y, ⟨rfl, rfl, rfl, rfl⟩, hn⟩
    · have hj1 := ix_ff h1 (by simp) hj (by omega)
      rw [hj1, List.drop_length, List.foldl_nil] at hn
      subst hn
      exact ⟨(), ⟨rfl, rfl, rfl, rfl⟩, trivial⟩
  intro _ _
  clear hx7
  refine AWp.cut (tyOf_ok Tryd.prog) hmix (by kernel_rfl) 1 [1, 3] [25, 1000000000, 1000000001, 1] (fun _ : Unit => [.ptr 1 0, .ptr 25 0]) (fun _ => [.cells [.p (.i .i64 x8)], .glob 0 tab, .glob 5 ptab, .cells [.p (.s nm), .p (.i .i64 ver), .p (.sl 3 (us.map elUse)), .p (.sl 3 (ds.map elDt)), .p (.sl 2 (ts.map elTr)), .p (.sl 3 (is.map elIm)), .p (.sl 15 (fs.map elFu)), .p (.sl 14 (acs.map elAc))]]) (fun _ => True) ?_ ?_
  · conv => whnf
    refine loopS (tyOf_ok _) hmix (by kernel_rfl) acs.length [1, 3, 230, 231, 232] [25, 1000000000, 1000000001, 1] (fun j _ => [.ptr 1 0, .ptr 25 0, .p (.sl 14 (acs.map elAc)), .p (.i .i64 (acs.map elAc).length), .p (.i .i64 (ix j))]) (fun j x => [.cells [.p (.i .i64 x)], .glob 0 tab, .glob 5 ptab, .cells [.p (.s nm), .p (.i .i64 ver), .p (.sl 3 (us.map elUse)), .p (.sl 3 (ds.map elDt)), .p (.sl 2 (ts.map elTr)), .p (.sl 3 (is.map elIm)), .p (.sl 15 (fs.map elFu)), .p (.sl 14 (acs.map elAc))]]) (fun j x => (acs.drop j).foldl (acJ S G C) x = x8) x7 ⟨rfl, rfl, rfl, rfl⟩ hx8 ?_
    intro j x hj hn
    conv => whnf
    refine asplit ?_ ?_ <;> intro h1 <;> conv => whnf
    · have hj1 := ix_tt h1 (by simp) hj (by omega)
      obtain ⟨b, hb1⟩ : ∃ b, acs[j]? = some b := ⟨_, List.getElem?_eq_getElem hj1⟩
      have hbm := List.mem_of_getElem? hb1
      rw [drop_cons hb1, List.foldl_cons] at hn
      refine aidxk (x := elAc b) (by simp [hb1]) (by omega) ?_
      rw [acJ] at hn
      have hbw := m6 _ hbm
      rw [wlAc_eq] at hbw
      have q1 := wSs_len b.ns
      have hs := hW.g b.name
      have c1 := fun e => list_spec S tab hW.s b.ns e (by omega)
      have c2 := fun e => types_spec S G tab hW.s hW.g b.ts (by omega) e
      have c3 := fun e => types_spec S G tab hW.s hW.g [b.msg] (by simp only [eTs, PV.wts]; unfold wT at hbw; omega) e
      have c4 := fun e => body_spec S G C tab hW b.body (by omega) true e
      unfold hJ at *
      obtain ⟨bn, bp, bt, ⟨ok, on, oa⟩, ⟨b1, b2, b3, b4, b5, b6, b7, b8⟩⟩ := b
      simp only at *
      rw [show (bp.length : Int) = (bp.map eStr).length by simp, show (bt.length : Int) = (eTs bt).length by rw [eTs_len]] at hn
      generalize bodyF S G C (.mk b1 b2 b3 b4 b5 b6 b7 b8) true = F4 at *
      generalize typFs S G [.mk ok on oa] 1 = F3 at *
      generalize typFs S G bt 1 = F2 at *
      generalize listF S bp = F1 at *
      generalize G bn = SN at *
      conv => whnf
      refine apc hs ?_
      conv => whnf
      refine asplit ?_ ?_ <;> intro g1 <;> conv => whnf
      · rw [g1] at hn
        have c := form_spec x (((bp.map eStr).length : Int) == ((eTs bt).length : Int))
        replace hn : (acs.drop (j + 1)).foldl (acJ S G C) (F4 (F3 (F2 (F1 (mustF x (((bp.map eStr).length : Int) == ((eTs bt).length : Int)) 3))))) = x8 := hn
        generalize mustF x (((bp.map eStr).length : Int) == ((eTs bt).length : Int)) 3 = y at *
        refine amc [25] 60 c ?_
        conv => whnf
        refine amc [25, 1000000000] 70 (c1 y) ?_
        conv => whnf
        generalize F1 y = y1 at *
        refine amc [25, 1000000000] 80 (c2 y1) ?_
        conv => whnf
        generalize F2 y1 = y2 at *
        refine amc [25, 1000000000] 90 (c3 y2) ?_
        conv => whnf
        generalize F3 y2 = y3 at *
        refine amc [25, 1000000000] 95 (c4 y3) ?_
        conv => whnf
        generalize F4 y3 = y4 at *
        exact ⟨hj1, y4, ⟨rfl, rfl, rfl, rfl⟩, hn⟩
      · rw [g1] at hn
        have c := form_spec x (false)
        replace hn : (acs.drop (j + 1)).foldl (acJ S G C) (F4 (F3 (F2 (F1 (mustF x (false) 3))))) = x8 := hn
        generalize mustF x (false) 3 = y at *
        refine amc [25] 60 c ?_
        conv => whnf
        refine amc [25, 1000000000] 70 (c1 y) ?_
        conv => whnf
        generalize F1 y = y1 at *
        refine amc [25, 1000000000] 80 (c2 y1) ?_
        conv => whnf
        generalize F2 y1 = y2 at *
        refine amc [25, 1000000000] 90 (c3 y2) ?_
        conv => whnf
        generalize F3 y2 = y3 at *
        refine amc [25, 1000000000] 95 (c4 y3) ?_
        conv => whnf
        generalize F4 y3 = y4 at *
        exact ⟨hj1, y4, ⟨rfl, rfl, rfl, rfl⟩, hn⟩
    · have hj1 := ix_ff h1 (by simp) hj (by omega)
      rw [hj1, List.drop_length, List.foldl_nil] at hn
      subst hn
      exact ⟨(), ⟨rfl, rfl, rfl, rfl⟩, trivial⟩
  intro _ _
  refine AWp.fin (tyOf_ok Tryd.prog) hmix (by kernel_rfl) ?_
  conv => whnf
  exact ⟨.inl rfl, ⟨rfl, rfl⟩, ⟨rfl, rfl⟩, trivial⟩
end GL
open Go Go.AM Go.Proofs Go.RowKit TR
set_option maxRecDepth 100000
namespace GL
/-! a program, told as the texts of the scopes tell it -/
def toFu (f : LFu) : Fu := ⟨f.name, f.ps.map eStr, f.ns.map eStr, eTs f.ts, f.out.kind, f.out.name, eTs f.out.args, f.body⟩
def toIm (m : LIm) : Im := ⟨m.tr, m.fo, m.funcs.map toFu⟩
def toMk (m : LMk) : Mk := ⟨m.name, eTs m.ts⟩
def toDt (m : LDt) : Dt := ⟨m.name, m.ps.map eStr, m.makes.map toMk⟩
def toTr (m : LTr) : Tr := ⟨m.name, m.funcs.map toFu⟩
def toAc (f : LAc) : Ac := ⟨f.name, f.ns.map eStr, eTs f.ts, f.msg.kind, f.msg.name, eTs f.msg.args, f.body⟩
def toPg (p : LPg) : Pg := ⟨p.name, p.ver, p.uses.map elUse, p.datas.map toDt, p.traits.map toTr, p.impls.map toIm, p.funcs.map toFu, p.actors.map toAc⟩
theorem toFu_eq (f : LFu) : eFu (toFu f) = elFu f := by obtain ⟨a, b, c, d, ⟨k, n, x⟩, g⟩ := f; rfl
theorem toAc_eq (f : LAc) : eAc (toAc f) = elAc f := by obtain ⟨a, c, d, ⟨k, n, x⟩, g⟩ := f; rfl
theorem map_to {α β : Type} (f : α → β) (e : β → PV) (e' : α → PV) (h : ∀ a, e (f a) = e' a) (l : List α) : (l.map f).map e = l.map e' := by
  rw [List.map_map]; exact List.map_congr_left (fun a _ => h a)
theorem toIm_eq (m : LIm) : eIm (toIm m) = elIm m := by rw [eIm, elIm, toIm, map_to toFu eFu elFu toFu_eq]
theorem toTr_eq (m : LTr) : eTr (toTr m) = elTr m := by rw [eTr, elTr, toTr, map_to toFu eFu elFu toFu_eq]
theorem toMk_eq (m : LMk) : eMk (toMk m) = elMk m := rfl
theorem toDt_eq (m : LDt) : eDt (toDt m) = elDt m := by rw [eDt, elDt, toDt, map_to toMk eMk elMk toMk_eq]
theorem toPg_eq (p : LPg) : ePg (toPg p) = elPg p := by
  rw [ePg, elPg, toPg]
  simp only [map_to toDt eDt elDt toDt_eq, map_to toTr eTr elTr toTr_eq, map_to toIm eIm elIm toIm_eq, map_to toFu eFu elFu toFu_eq, map_to toAc eAc elAc toAc_eq]
theorem toPg_w (p : LPg) : wPg (toPg p) = wlPg p := by rw [wPg, wlPg, toPg_eq]
theorem body_mem {p : LPg} {b : Ex} (h : b ∈ bodiesF (toPg p)) : (∃ t ∈ p.impls, ∃ f ∈ t.funcs, b = f.body) ∨ (∃ f ∈ p.funcs, b = f.body) ∨ (∃ f ∈ p.actors, b = f.body) := by
  rw [bodiesF, List.mem_append] at h
  rcases h with h | h
  · obtain ⟨f, hf, rfl⟩ := List.mem_map.1 h
    rw [funsF, List.mem_append] at hf
    rcases hf with hf | hf
    · rw [imF, List.mem_flatMap] at hf
      obtain ⟨m, hm, hf⟩ := hf
      obtain ⟨m', hm', rfl⟩ := List.mem_map.1 hm
      obtain ⟨f', hf', rfl⟩ := List.mem_map.1 hf
      exact .inl ⟨m', hm', f', hf', rfl⟩
    · obtain ⟨f', hf', rfl⟩ := List.mem_map.1 hf
      exact .inr (.inl ⟨f', hf', rfl⟩)
  · obtain ⟨f, hf, rfl⟩ := List.mem_map.1 h
    obtain ⟨f', hf', rfl⟩ := List.mem_map.1 hf
    exact .inr (.inr ⟨f', hf', rfl⟩)
/-! plain: where no name is unknown, what is free stands outside -/
def Shut (A B C : BM) (c : Nat) (e : Ex) : Prop := ∀ m, Bd c m → (resF A B C e m).1.2 = false → ∀ s, fvB s e = true → bv m s ≠ 0
theorem self_keep {A B C : BM} {c : Nat} {f : IM → Rs} (h : Good A B C c f) {m : IM} (hm : Bd c m) : ∀ s, bv (f m).2 s = bv m s := (h m m ⟨hm, hm, fun _ => Int.le_refl _⟩).1
theorem und_shut {A B C : BM} {ns : List ByteArray} {e : Ex} {c : Nat} (hc : c + ns.length ≤ 2 ^ 40) (h : Shut A B C (c + ns.length) e) {m : IM} (hm : Bd c m) (ho : (undF A B C ns e m).1.2 = false) (s : ByteArray) (hs : fvB s e = true) (hn : ns.contains s = false) : bv m s ≠ 0 := by
  have h1 := h _ (incs_Bd hm hc) ho s hs
  rw [incs_bv ns c m hm hc s, (cnt_pos s ns).2 hn] at h1
  simpa using h1
theorem resFs_shut {A B C : BM} {k : Int} {t : ByteArray} {ns : List ByteArray} {c : Nat} : ∀ (xs : List Ex) (i : Nat), (∀ e ∈ xs, ∀ j, Good A B C c (undF A B C (namesF k t ns j) e)) → (∀ e ∈ xs, ∀ j m, Bd c m → (undF A B C (namesF k t ns j) e m).1.2 = false → ∀ s, fvB s e = true → (namesF k t ns j).contains s = false → bv m s ≠ 0) →
    ∀ m, Bd c m → (resFs A B C k t ns i xs m).1.2 = false → ∀ (j : Nat) e, xs[j]? = some e → ∀ s, fvB s e = true → (namesF k t ns (i + j)).contains s = false → bv m s ≠ 0
  | [], i, _, _, m, _, _, j, e, he => by simp at he
  | x :: r, i, hg, hs, m, hm, ho, j, e, he => by
    rw [resFs_cons] at ho
    cases hu : (undF A B C (namesF k t ns i) x m).1.2 with
    | true => rw [hu, cond_true] at ho; cases ho
    | false =>
    rw [hu, cond_false] at ho
    have hk := self_keep (hg x (by simp) i) hm
    cases j with
    | zero =>
      simp only [List.getElem?_cons_zero, Option.some.injEq] at he
      subst he
      exact hs x (by simp) i m hm hu
    | succ j =>
      simp only [List.getElem?_cons_succ] at he
      have h2 := resFs_shut r (i + 1) (fun y hy => hg y (by simp [hy])) (fun y hy => hs y (by simp [hy])) _ (fun s => by rw [hk s]; exact hm s) ho j e he
      intro s h3 h4
      have := h2 s h3 (by rw [show i + 1 + j = i + (j + 1) by omega]; exact h4)
      rw [hk s] at this; exact this
theorem resFa_shut {A B C : BM} {c : Nat} : ∀ (xs : List Arm), (∀ b ∈ xs, Good A B C c (undF A B C (boundF b.pat) b.body)) → (∀ b ∈ xs, ∀ m, Bd c m → (undF A B C (boundF b.pat) b.body m).1.2 = false → ∀ s, fvB s b.body = true → (boundF b.pat).contains s = false → bv m s ≠ 0) →
    ∀ m, Bd c m → (resFa A B C xs m).1.2 = false → ∀ s, fvA s xs = true → bv m s ≠ 0
  | [], _, _, m, _, _, s, h => by simp [fvA] at h
  | x :: r, hg, hs, m, hm, ho, s, h => by
    rw [resFa_cons] at ho
    cases hu : (undF A B C (boundF x.pat) x.body m).1.2 with
    | true => rw [hu, cond_true] at ho; cases ho
    | false =>
    rw [hu, cond_false] at ho
    have hk := self_keep (hg x (by simp)) hm
    obtain ⟨p, e⟩ := x
    rw [fvA, Bool.or_eq_true, Bool.and_eq_true, Bool.not_eq_true'] at h
    rcases h with ⟨h1, h2⟩ | h
    · exact hs (.mk p e) (by simp) m hm hu s h2 h1
    · have := resFa_shut r (fun y hy => hg y (by simp [hy])) (fun y hy => hs y (by simp [hy])) _ (fun s => by rw [hk s]; exact hm s) ho s h
      rw [hk s] at this; exact this
theorem res_shut (A B C : BM) (e : Ex) : wfE e → ∀ c, c + wE e ≤ 2 ^ 40 → Shut A B C c e := by
  induction e using Ex.ind with
  | h k n t ns ts xs ms p ih1 ih2 =>
  intro hw c hc m hm ho s hs
  rw [wfE] at hw
  obtain ⟨w1, _, w3, w4⟩ := hw
  have hl := wE_mk k n t ns ts xs ms p
  have hns := wSs_len ns
  have gs : ∀ e ∈ xs, ∀ j, Good A B C c (undF A B C (namesF k t ns j) e) := fun e he j => by
    have h1 := names_len k t ns j
    have h2 := wEs_mem he
    exact und_good (by omega) (res_good A B C e _ (by omega))
  have ss : ∀ e ∈ xs, ∀ j m, Bd c m → (undF A B C (namesF k t ns j) e m).1.2 = false → ∀ s, fvB s e = true → (namesF k t ns j).contains s = false → bv m s ≠ 0 := fun e he j m hm ho => by
    have h1 := names_len k t ns j
    have h2 := wEs_mem he
    exact und_shut (by omega) (ih1 e he (wfEs_mem w3 e he) _ (by omega)) hm ho
  have ga : ∀ b ∈ ms, Good A B C c (undF A B C (boundF b.pat) b.body) := fun b hb => by
    have h1 := bound_le b.pat
    have h2 := wE_body (k := k) (n := n) (t := t) (ns := ns) (ts := ts) (xs := xs) (p := p) hb
    exact und_good (by omega) (res_good A B C b.body _ (by omega))
  have sa : ∀ b ∈ ms, ∀ m, Bd c m → (undF A B C (boundF b.pat) b.body m).1.2 = false → ∀ s, fvB s b.body = true → (boundF b.pat).contains s = false → bv m s ≠ 0 := fun b hb m hm ho => by
    have h1 := bound_le b.pat
    have h2 := wE_body (k := k) (n := n) (t := t) (ns := ns) (ts := ts) (xs := xs) (p := p) hb
    exact und_shut (by omega) (ih2 b hb (wfAs_mem w4 b hb) _ (by omega)) hm ho
  rw [resF] at ho
  cases hwr : wrongF A B C m k t ns ms with
  | true => rw [hwr, cond_true] at ho; cases ho
  | false =>
  rw [hwr, cond_false] at ho
  cases hX : (resFs A B C k t ns 0 xs m).1.2 with
  | true => rw [hX, cond_true, hX] at ho; cases ho
  | false =>
  rw [hX, cond_false] at ho
  have hkx := self_keep (resFs_good (A := A) (B := B) (C := C) xs 0 gs) hm
  have hA := resFa_shut ms ga sa _ (fun s => by rw [hkx s]; exact hm s) ho
  have hS := resFs_shut xs 0 gs ss m hm hX
  rw [fvB, w1, show decide ((xs.length : Int) < 0) = false from decide_eq_false (by omega), show decide ((xs.length : Int) < xs.length) = false from decide_eq_false (by omega), cond_false, cond_false, Bool.or_eq_true] at hs
  rcases hs with hs | hs
  · cases q5 : k == 5 with
    | true =>
      rw [q5, cond_true, beq_bytes] at hs
      subst hs
      rw [wrongF, headF, q5, cond_true] at hwr
      cases hq : (slook t m).getD 0 == 0 with
      | true => rw [hq, cond_true] at hwr; cases hwr
      | false => exact by simpa [bv] using hq
    | false =>
    rw [q5, cond_false] at hs
    cases q6 : k == 6 with
    | true =>
      rw [q6, cond_true] at hs
      match xs, hs, hS with
      | a :: b :: _, hs, hS =>
        rw [fvLet, Bool.or_eq_true, Bool.and_eq_true, Bool.not_eq_true'] at hs
        rcases hs with hs | ⟨h1, h2⟩
        · refine hS 0 a rfl s hs ?_
          rw [namesF, q6, show (k == 10) = false by rw [eq_of_beq q6]; rfl]; rfl
        · refine hS 1 b rfl s h2 ?_
          rw [namesF, q6]
          show ([t] : List ByteArray).contains s = false
          rw [one_cont]; exact h1
    | false =>
    rw [q6, cond_false] at hs
    cases q10 : k == 10 with
    | true =>
      rw [q10, cond_true] at hs
      match xs, hs, hS with
      | a :: _, hs, hS =>
        rw [fvFun, Bool.and_eq_true, Bool.not_eq_true'] at hs
        refine hS 0 a rfl s hs.2 ?_
        rw [namesF, q6, q10]; exact hs.1
    | false =>
    rw [q10, cond_false, Int.toNat_natCast] at hs
    obtain ⟨e, he, hf⟩ := (fvN_ex s xs.length xs).1 hs
    rw [List.take_length] at he
    obtain ⟨j, hj⟩ := List.mem_iff_getElem?.1 he
    refine hS j e hj s hf ?_
    rw [namesF, q6, q10]; simp
  · cases hq : (k == 13 || k == 18) with
    | true =>
      rw [hq, cond_true] at hs
      have := hA s hs
      rw [hkx s] at this; exact this
    | false => rw [hq, cond_false] at hs; cases hs
theorem cnt_mem (s : ByteArray) (l : List ByteArray) (h : cnt s l ≠ 0) : l.contains s = true := by
  cases hq : l.contains s with
  | true => rfl
  | false => exact absurd ((cnt_pos s l).2 hq) h
theorem scope_shut (p : Pg) (l : List ByteArray) (e : Ex) (hl : l.length ≤ 2097152) (he : wE e ≤ 2097152) (hw : wfE e) (h : (TR.exprF p l e).2 = false) (s : ByteArray) (hs : s ∈ freeF e) : l.contains s = true := by
  have h0 : Bd 0 ([] : IM) := fun s => by simp [bv, slook]
  have h1 := incs_Bd (ns := l) h0 (by omega)
  have h2 := res_shut _ _ _ e hw (0 + l.length) (by omega) _ h1 h s ((mem_free e he s).1 hs)
  rw [incs_bv l 0 _ h0 (by omega)] at h2
  exact cnt_mem s l (fun q => h2 (by rw [q]; simp [bv, slook]))
end GL
open Go Go.AM Go.Proofs Go.RowKit TR
set_option maxRecDepth 100000
namespace GL
def lH (l : List ByteArray) : Heap := [(1000000000, .cells [.p (.sl 1 (l.map eStr))])]
theorem shutFn (l : List ByteArray) (hl : l.length ≤ 4194304) (s : ByteArray) : AMem Tryd.prog 15 [.p (.s s), .ptr 1000000000 0] (lH l) (.p (.b (!l.contains s))) (lH l) := by
  have h := contS_spec l s hl
  generalize l.contains s = b at *
  unfold lH
  refine AMem.intro (tyOf_ok Tryd.prog) hmix Tryd.func15 rfl (by rfl) (by kernel_rfl) (by show 2 ≤ _; decide) rfl ?_
  conv => whnf
  refine apc h ?_
  conv => whnf
  exact ⟨.inl rfl, ⟨.inl rfl, trivial⟩, trivial⟩
def outI (l : List ByteArray) : List ByteArray → Nat → Int
  | [], _ => -1
  | s :: r, k => bif !l.contains s then (k : Int) else outI l r (k + 1)
theorem outI_ge (l : List ByteArray) : ∀ (x : List ByteArray) (k : Nat), decide (outI l x k ≥ 0) = x.any (fun s => !l.contains s)
  | [], k => rfl
  | s :: r, k => by
    rw [outI, List.any_cons]
    cases h : (!l.contains s) with
    | true => rw [cond_true, Bool.true_or]; exact decide_eq_true (by omega)
    | false => rw [cond_false, Bool.false_or]; exact outI_ge l r (k + 1)
theorem shutIdx (l : List ByteArray) (hl : l.length ≤ 4194304) (x : List ByteArray) (hx : x.length ≤ 4194304) : AMem Tryd.prog 34 [.p (.sl 1 (x.map eStr)), .fn 15 [] [.ptr 1000000000 0]] (lH l) (.p (.i .i64 (outI l x 0))) (lH l) := by
  have h := shutFn l hl
  generalize hR : outI l x 0 = R
  unfold lH at *
  refine AMem.intro (tyOf_ok Tryd.prog) hmix Tryd.func34 rfl (by rfl) (by kernel_rfl) (by show 2 ≤ _; decide) rfl ?_
  conv => whnf
  refine loopS (tyOf_ok _) hmix (by kernel_rfl) x.length [0, 1, 7, 8] [1000000000] (fun k (_ : Unit) => [.p (.sl 1 (x.map eStr)), .fn 15 [] [.ptr 1000000000 0], .p (.i .i64 (x.map eStr).length), .p (.i .i64 (ix k))]) (fun _ _ => [.cells [.p (.sl 1 (l.map eStr))]]) (fun k _ => outI l (x.drop k) k = R) () ⟨rfl, rfl, rfl, rfl⟩ hR ?_
  intro k _ hk hs
  conv => whnf
  refine asplit ?_ ?_ <;> intro h1 <;> conv => whnf
  · have hk1 := ix_tt h1 (by simp) hk (by omega)
    obtain ⟨b, hb1⟩ : ∃ b, x[k]? = some b := ⟨_, List.getElem?_eq_getElem hk1⟩
    rw [drop_cons hb1, outI] at hs
    refine aidxk (x := eStr b) (by simp [hb1]) (by omega) ?_
    have c := h b
    generalize l.contains b = q at *
    conv => whnf
    refine amc [1000000000] 50 c ?_
    conv => whnf
    refine asplit ?_ ?_ <;> intro h2 <;> conv => whnf
    · rw [h2, cond_true] at hs
      exact ⟨.inl (pi (by rw [ix_eq (by omega)]; exact hs)), ⟨.inl rfl, trivial⟩, trivial⟩
    · rw [h2, cond_false] at hs
      exact ⟨hk1, (), ⟨rfl, rfl, rfl, rfl⟩, hs⟩
  · have hk1 := ix_ff h1 (by simp) hk (by omega)
    rw [hk1, List.drop_length, outI] at hs
    exact ⟨.inl (pi hs), ⟨.inl rfl, trivial⟩, trivial⟩
theorem shutAny (l : List ByteArray) (hl : l.length ≤ 4194304) (x : List ByteArray) (hx : x.length ≤ 4194304) : AMem Tryd.prog 13 [.p (.sl 1 (x.map eStr)), .fn 15 [] [.ptr 1000000000 0]] (lH l) (.p (.b (x.any (fun s => !l.contains s)))) (lH l) := by
  have h := shutIdx l hl x hx
  rw [← outI_ge l x 0]
  generalize outI l x 0 = i at *
  unfold lH at *
  refine AMem.intro (tyOf_ok Tryd.prog) hmix Tryd.func13 rfl (by rfl) (by kernel_rfl) (by show 2 ≤ _; decide) rfl ?_
  conv => whnf
  refine amc [1000000000] 50 h ?_
  conv => whnf
  exact ⟨.inl rfl, ⟨.inl rfl, trivial⟩, trivial⟩
theorem shut_spec (S G C B : ByteArray → Bool) (tab ptab : List Value) (hW : World3 S G C tab) (hB : ConB B) (hI : ItoS ptab) (p : LPg) (l : List ByteArray) (hp : wlPg p ≤ 1048576) (hl : l.length ≤ 1048576) (hr : ∀ t ∈ p.traits, ∀ f ∈ t.funcs, rngE f.body) :
    AMem Tryd.prog 4 [.p (elPg p), .p (.sl 1 (l.map eStr))] (glob2H 0 tab 5 ptab) (.p (.b true)) (glob2H 0 tab 5 ptab) := by
  have hwp : wPg (toPg p) ≤ 1048576 := by rw [toPg_w]; exact hp
  have h1 := TR.small_spec (toPg p) hwp
  have h2 := bodiesOf_spec (toPg p) hwp
  have hBm := fun e (h : e ∈ bodiesF (toPg p)) => bodies_mem h
  have hBl : (bodiesF (toPg p)).length ≤ 2097152 := by
    have := fus_len (funsF (toPg p)); have := funsF_wts (toPg p); have := acs_len (toPg p).actors; have := wPg_eq (toPg p)
    simp [bodiesF]; omega
  have hX := fun e (he : wE e ≤ 1048640) => TR.expr_spec (toPg p) hwp l e (by omega) he
  have hfu : ∀ t ∈ p.traits, ∀ f ∈ t.funcs, TrfS2 S G zeroQ tab ptab f := fun t ht f hf e => fun_false S G C tab ptab hW hI f (by
    have e1 := l_mem elTr ht
    have e2 := l_mem elFu hf
    rw [wlTr_eq] at e1
    have e3 := wlPg_eq p
    unfold wlFu; omega) (hr t ht f hf) e
  have h3 := right2_spec S G C B tab ptab hW hB zeroQ p (by omega) hfu
  have h0 : rightF S G C B zeroQ p = 0 → ∀ b ∈ bodiesF (toPg p), wfE b := fun h b hb => by
    have q := right0 h
    rcases body_mem hb with ⟨t, ht, f, hf, rfl⟩ | ⟨f, hf, rfl⟩ | ⟨f, hf, rfl⟩
    · exact q.1 t ht f hf
    · exact q.2.1 f hf
    · exact q.2.2 f hf
  have hS := fun e (he : wE e ≤ 1048640) hw h s => scope_shut (toPg p) l e (by omega) (by omega) hw h s
  rw [toPg_eq] at h1 h2 hX
  rw [toPg_w] at hBm
  generalize bodiesF (toPg p) = Bs at *
  generalize TR.exprF (toPg p) l = F1 at *
  generalize decide (sumB Bs 0 ≤ 400) = sm at h1
  generalize wlPg p = W0 at *
  generalize rightF S G C B zeroQ p = r at *
  clear hfu hr hwp
  obtain ⟨nm, ver, us, ds, ts, is, fs, acs⟩ := p
  unfold glob2H at *
  refine AMem.intro (tyOf_ok Tryd.prog) hmix Tryd.func4 rfl (by rfl) (by kernel_rfl) (by show 2 ≤ _; decide) rfl ?_
  conv => whnf
  refine apc h1 ?_
  conv => whnf
  refine asplit ?_ ?_ <;> intro g1 <;> conv => whnf
  · exact ⟨.inl rfl, ⟨rfl, rfl⟩, ⟨rfl, rfl⟩, trivial⟩
  refine apc scopes_spec ?_
  conv => whnf
  refine apc h2 ?_
  conv => whnf
  refine loopS (tyOf_ok _) hmix (by kernel_rfl) Bs.length [2, 3, 15, 16, 17] [1000000000, 1000000001, 2, 3] (fun k (s : Unit) => [.ptr 2 0, .ptr 3 0, .p (.sl 8 (eEs Bs)), .p (.i .i64 (eEs Bs).length), .p (.i .i64 (ix k))])
    (fun _ _ => [.glob 0 tab, .glob 5 ptab, .cells [.p (.s nm), .p (.i .i64 ver), .p (.sl 3 (us.map elUse)), .p (.sl 3 (ds.map elDt)), .p (.sl 2 (ts.map elTr)), .p (.sl 3 (is.map elIm)), .p (.sl 15 (fs.map elFu)), .p (.sl 14 (acs.map elAc))], .cells [.p (.sl 1 (l.map eStr))]]) (fun k _ => True) () ⟨rfl, rfl, rfl, rfl⟩ trivial ?_
  intro k _ hk _
  conv => whnf
  refine asplit ?_ ?_ <;> intro h4 <;> conv => whnf
  · have hk1 := ix_tt h4 (by rw [eEs_len]) hk (by omega)
    obtain ⟨b, hb1⟩ : ∃ b, Bs[k]? = some b := ⟨_, List.getElem?_eq_getElem hk1⟩
    have hbm := List.mem_of_getElem? hb1
    have hbw := hBm b hbm
    have c1 := hX b (by omega)
    have c2 := free_spec b (by omega)
    have c3 := shutAny l (by omega) (freeF b) (by have := free_len b; omega)
    have c4 := hS b (by omega)
    have c5 := fun h => h0 h b hbm
    refine aidxk (eEs_get hb1) (by omega) ?_
    generalize F1 b = f1 at *
    generalize freeF b = fr at *
    obtain ⟨f1a, f1b⟩ := f1
    obtain ⟨b1, b2, b3, b4, b5, b6, b7, b8⟩ := b
    unfold lH at c3
    conv => whnf
    refine amc [1000000000, 1000000001] 50 h3 ?_
    conv => whnf
    refine asplit ?_ ?_ <;> intro h5 <;> conv => whnf
    · exact ⟨.inl rfl, ⟨rfl, rfl⟩, ⟨rfl, rfl⟩, trivial⟩
    have hr0 : r = 0 := by simpa using h5
    have hwf := c5 hr0
    refine apc c1 ?_
    conv => whnf
    cases f1b with
    | true =>
      conv => whnf
      exact ⟨hk1, (), ⟨rfl, rfl, rfl, rfl⟩, trivial⟩
    | false =>
      have hany : fr.any (fun s => !l.contains s) = false := by
        rw [List.any_eq_false]
        intro s hs
        rw [c4 hwf rfl s hs]; simp
      rw [hany] at c3
      conv => whnf
      refine apc c2 ?_
      conv => whnf
      refine amc [3] 5000 c3 ?_
      conv => whnf
      exact ⟨hk1, (), ⟨rfl, rfl, rfl, rfl⟩, trivial⟩
  · exact ⟨.inl rfl, ⟨rfl, rfl⟩, ⟨rfl, rfl⟩, trivial⟩
end GL
