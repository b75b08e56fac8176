/-
  DERIVED. Contracts of the functions that the law reaches, and the law itself, for every input. No conditions.
-/
import Derived.Test.YtiidmganghfnjaaT7
open Go Go.AM Go.Proofs
namespace TK
def onF (ds : List Dd) (i : Int) : List Dd := ds.filter fun d => d.line == i
theorem onF_cons (x : Dd) (r : List Dd) (i : Int) : onF (x :: r) i = bif x.line == i then x :: onF r i else onF r i := by
  unfold onF; rw [List.filter_cons]; cases x.line == i <;> rfl
theorem on_spec (n : Net) (hn : okN n) (w : Nat) (ds : List Dd) (hw : n.who[w]? = some ds) (hd : ds.length ≤ 40) (i : Int) (wi : Int) (hwi : wi = w) : APure Try.prog 16 [.p (eN n), .p (.i .i64 wi), .p (.i .i64 i)] (.so 3 ((onF ds i).map eDd)) := by
  subst hwi
  obtain ⟨lines, who⟩ := n
  simp only at hw
  refine APure.intro (tyOf_ok Try.prog) hmix Try.func16 rfl (by rfl) (by kernel_rfl) (by show 3 ≤ _; decide) rfl ?_
  conv => whnf
  refine aidxn (x := eW ds) (by simp [hw]) ?_
  conv => whnf
  refine lp_nil 7 2 rfl ?_
  refine loopS (tyOf_ok _) hmix (by kernel_rfl) ds.length [2, 7, 14, 15, 16] [] (fun k s => [.p (.i .i64 i), .so 3 s, .p (.sl 3 (ds.map eDd)), .p (.i .i64 (ds.map eDd).length), .p (.i .i64 (ix k))])
    (fun _ _ => []) (fun k s => s.length ≤ k ∧ (onF ds i).map eDd = s ++ (onF (ds.drop k) i).map eDd) [] ⟨rfl, rfl, rfl, rfl⟩ ⟨Nat.le_refl _, rfl⟩ ?_
  rintro k s hk ⟨hsl, hs⟩
  conv => whnf
  refine asplit ?_ ?_ <;> intro g1 <;> conv => whnf
  · have hk1 := ix_tt g1 (by simp) hk (by omega)
    obtain ⟨x, hx⟩ : ∃ x, ds[k]? = some x := ⟨ds[k], by simp [hk1]⟩
    rw [drop_cons hx, onF_cons] at hs
    refine aidxk (x := eDd x) (by simp [hx]) (by omega) ?_
    obtain ⟨xl, xs, xm⟩ := x
    conv => whnf
    refine asplit ?_ ?_ <;> intro g2 <;> conv => whnf
    · refine aneed (show (s.length + 1) * 24 ≤ 140737488355328 by omega) ?_
      conv => whnf
      simp only at g2
      refine ⟨hk1, _, ⟨rfl, rfl, rfl, rfl⟩, by simp; omega, ?_⟩
      simp only [g2, cond_true] at hs
      rw [hs]; simp [eDd]
    · simp only at g2
      refine ⟨hk1, _, ⟨rfl, rfl, rfl, rfl⟩, by omega, ?_⟩
      simp only [g2, cond_false] at hs
      exact hs
  · have hk1 := ix_ff g1 (by simp) hk (by omega)
    rw [List.drop_eq_nil_of_le (by omega)] at hs
    simp only [onF, List.filter_nil, List.map_nil, List.append_nil] at hs
    have : s = (onF ds i).map eDd := hs.symm
    subst this
    exact .inl rfl

def eqDd : List Dd → List Dd → Bool
  | [], [] => true
  | x :: r, y :: r' => meetF x y && eqDd r r'
  | _, _ => false
theorem eqDd_len : ∀ (a b : List Dd), a.length ≠ b.length → eqDd a b = false
  | [], [], h => absurd rfl h
  | [], _ :: _, _ => rfl
  | _ :: _, [], _ => rfl
  | x :: r, y :: r', h => by rw [eqDd, eqDd_len r r' (by simpa using h), Bool.and_false]
theorem equalFuncD_spec (xs ys : List Dd) (hx : xs.length < 9223372036854775807) :
    APure Try.prog 15 [.p (.sl 3 (xs.map eDd)), .p (.sl 3 (ys.map eDd)), .fn 17 [] []] (.p (.b (eqDd xs ys))) := by
  refine APure.intro (tyOf_ok Try.prog) hmix Try.func15 rfl (by rfl) (by kernel_rfl) (by show 3 ≤ _; decide) rfl ?_
  conv => whnf
  refine asplit ?_ ?_ <;> intro h1 <;> conv => whnf
  · exact .inl (pb (eqDd_len xs ys (by simp at h1; omega)).symm)
  have hlen : xs.length = ys.length := by simp at h1; omega
  refine loopS (tyOf_ok _) hmix (by kernel_rfl) xs.length [1, 2, 15, 16, 17] [] (fun k _ => [.p (.sl 3 (ys.map eDd)), .fn 17 [] [], .p (.sl 3 (xs.map eDd)), .p (.i .i64 (xs.map eDd).length), .p (.i .i64 (ix k))])
    (fun _ _ => []) (fun k _ => eqDd xs ys = eqDd (xs.drop k) (ys.drop k)) () ⟨rfl, rfl, rfl, rfl⟩ rfl ?_
  intro k _ hk hs
  conv => whnf
  refine asplit ?_ ?_ <;> intro h2 <;> conv => whnf
  · have hk1 := ix_tt h2 (by simp) hk hx
    obtain ⟨a, ha⟩ : ∃ b, xs[k]? = some b := ⟨xs[k], by simp [hk1]⟩
    obtain ⟨b, hb⟩ : ∃ b, ys[k]? = some b := ⟨ys[k], by simp [← hlen, hk1]⟩
    have hc := meet_spec a b
    rw [drop_cons ha, drop_cons hb, eqDd] at hs
    generalize meetF a b = r at hc hs
    refine aidxk (x := eDd a) (by simp [ha]) (by omega) ?_
    obtain ⟨ak, an, ax⟩ := a
    conv => whnf
    refine aidxk (x := eDd b) (by simp [hb]) (by omega) ?_
    obtain ⟨bk, bn, bx⟩ := b
    conv => whnf
    refine apc hc ?_
    conv => whnf
    refine asplit ?_ ?_ <;> intro h3 <;> conv => whnf
    · simp only [Bool.not_eq_true'] at h3
      exact .inl (pb (by rw [hs, h3]; rfl))
    · simp only [Bool.not_eq_false'] at h3
      exact ⟨hk1, (), ⟨rfl, rfl, rfl, rfl⟩, by rw [hs, h3]; rfl⟩
  · have hk1 := ix_ff h2 (by simp) hk hx
    have e1 : xs.drop k = [] := List.drop_eq_nil_of_le (by omega)
    have e2 : ys.drop k = [] := List.drop_eq_nil_of_le (by omega)
    exact .inl (pb (by rw [hs, e1, e2]; rfl))

def dlB (n : Net) (k : Int) (l : Ln) : Bool := eqDd (onF (wAt n.who l.a) k) (onF (wAt n.who l.b) k)
def dlF (n : Net) : List Ln → Nat → Int
  | [], _ => -1
  | l :: r, k => bif dlB n k l then dlF n r (k + 1) else k
def dualF (n : Net) : Int × Int := bif chkF n != 0 then (0, chkF n) else (dlF n n.lines 0, 0)
theorem dual_spec (n : Net) (hn : okN n) : APure Try.prog 11 [.p (eN n)] (.tup [.p (.i .i64 (dualF n).1), .p (.i .i64 (dualF n).2)]) := by
  have hck := check_spec n hn
  have hv0 : chkF n = 0 → Valid n := chk_ok
  have hdf : dualF n = bif chkF n != 0 then (0, chkF n) else (dlF n n.lines 0, 0) := rfl
  have on' := on_spec n hn
  generalize chkF n = ck at hck hv0 hdf
  obtain ⟨lines, who⟩ := n
  refine APure.intro (tyOf_ok Try.prog) hmix Try.func11 rfl (by rfl) (by kernel_rfl) (by show 1 ≤ _; decide) rfl ?_
  conv => whnf
  refine apc hck ?_
  conv => whnf
  refine asplit ?_ ?_ <;> intro h1 <;> conv => whnf
  · rw [hdf, h1]; exact .inl rfl
  obtain ⟨hv8, hv12, hv3, hv4⟩ := hv0 (by simpa using h1)
  rw [hdf, h1, cond_false]
  simp only at hv8 hv12 hv3 hv4 on'
  refine loopS (tyOf_ok _) hmix (by kernel_rfl) lines.length [1, 13, 14, 15] [1] (fun k _ => [.ptr 1 0, .p (.sl 2 (lines.map eL)), .p (.i .i64 (lines.map eL).length), .p (.i .i64 (ix k))])
    (fun _ _ => [.cells [.p (.sl 2 (lines.map eL)), .p (.sl 1 (who.map eW))]]) (fun k _ => dlF ⟨lines, who⟩ lines 0 = dlF ⟨lines, who⟩ (lines.drop k) k) () ⟨rfl, rfl, rfl, rfl⟩ rfl ?_
  intro k _ hk hs
  conv => whnf
  refine asplit ?_ ?_ <;> intro g1 <;> conv => whnf
  · have hk1 := ix_tt g1 (by simp) hk (by omega)
    obtain ⟨b, hb1⟩ : ∃ b, lines[k]? = some b := ⟨lines[k], by simp [hk1]⟩
    obtain ⟨v1, v2, v3, v4, v5⟩ := hv3 b (List.mem_of_getElem? hb1)
    refine aidxk (x := eL b) (by simp [hb1]) (by omega) ?_
    rw [drop_cons hb1, dlF] at hs
    obtain ⟨la, lb⟩ := b
    simp only at v1 v2 v3 v4 v5
    obtain ⟨wa, hwa⟩ : ∃ w, who[la.toNat]? = some w := ⟨_, List.getElem?_eq_getElem (by omega)⟩
    obtain ⟨wb, hwb⟩ : ∃ w, who[lb.toNat]? = some w := ⟨_, List.getElem?_eq_getElem (by omega)⟩
    have ra : wAt who la = wa := by simp [wAt, hwa]
    have rb : wAt who lb = wb := by simp [wAt, hwb]
    have la40 := (hv4 _ _ hwa).1
    have lb40 := (hv4 _ _ hwb).1
    have hik : ix k = k := ix_eq (by omega)
    have o1 := on' la.toNat wa hwa la40 (ix k) la (by omega)
    have o2 := on' lb.toNat wb hwb lb40 (ix k) lb (by omega)
    have hlen1 : (onF wa (ix k)).length ≤ wa.length := List.length_filter_le _ _
    have oe := equalFuncD_spec (onF wa (ix k)) (onF wb (ix k)) (by omega)
    rw [dlB, ra, rb, ← hik] at hs
    generalize onF wa (ix k) = xa at o1 oe hs
    generalize onF wb (ix k) = xb at o2 oe hs
    generalize eqDd xa xb = rr at oe hs
    conv => whnf
    refine apc o1 ?_
    conv => whnf
    refine apc o2 ?_
    conv => whnf
    refine apc oe ?_
    conv => whnf
    refine aneed (by kernel_rfl) ?_
    conv => whnf
    refine asplit ?_ ?_ <;> intro g2 <;> conv => whnf
    · simp only [Bool.not_eq_true'] at g2
      rw [g2] at hs
      rw [hs]; exact .inl rfl
    · simp only [Bool.not_eq_false'] at g2
      rw [g2] at hs
      exact ⟨hk1, (), ⟨rfl, rfl, rfl, rfl⟩, hs⟩
  · have hk1 := ix_ff g1 (by simp) hk (by omega)
    rw [List.drop_eq_nil_of_le (by omega), dlF] at hs
    rw [hs]; exact .inl rfl

/-! THE PLAIN LAW: all turned -/
def turnD (d : Dd) : Dd := ⟨d.line, !d.send, d.msg⟩
def turnN (n : Net) : Net := ⟨n.lines, n.who.map (·.map turnD)⟩
theorem dds_turn (lines : List Ln) (w : Int) : ∀ (ds : List Dd), ddsF lines w (ds.map turnD) = ddsF lines w ds
  | [] => rfl
  | d :: r => by rw [List.map_cons, ddsF, ddsF, dds_turn lines w r]; rfl
theorem who_turn (lines : List Ln) : ∀ (who : List (List Dd)) (k : Nat), whoF lines (who.map (·.map turnD)) k = whoF lines who k
  | [], k => rfl
  | ds :: r, k => by rw [List.map_cons, whoF, whoF, who_turn lines r (k + 1), dds_turn, List.length_map]
theorem lns_turn (n : Net) : ∀ (ls : List Ln), lnsF (turnN n) ls = lnsF n ls
  | [] => by rw [lnsF, lnsF]; exact who_turn n.lines n.who 0
  | l :: r => by rw [lnsF, lnsF, lns_turn n r]; simp [turnN]
theorem chk_turn (n : Net) : chkF (turnN n) = chkF n := by
  unfold chkF
  rw [lns_turn]; simp [turnN]
theorem wAt_turn (n : Net) (i : Int) : wAt (turnN n).who i = (wAt n.who i).map turnD := by
  unfold wAt turnN
  simp only [List.getElem?_map]
  cases n.who[i.toNat]? <;> rfl
theorem meet_turn (a b : Dd) : meetF (turnD a) (turnD b) = meetF a b := by
  unfold meetF turnD
  cases a.send <;> cases b.send <;> rfl
theorem dAt_turn (ds : List Dd) (k : Int) (h : k.toNat < ds.length) : dAt (ds.map turnD) k = turnD (dAt ds k) := by
  unfold dAt
  rw [List.getElem?_map, List.getElem?_eq_getElem h]; rfl
theorem rdy_turn (n : Net) (hv : Valid n) (d : List Int) (hd : DOK n d) (i : Int) (l : Ln) (hl : l ∈ n.lines) : rdyB (turnN n) d i l = rdyB n d i l := by
  obtain ⟨v1, v2, v3, v4, v5⟩ := hv.ln l hl
  have hlen := hd.len
  have key : ∀ z : Int, 0 ≤ z → z < n.who.length → 0 ≤ dn d z ∧ dn d z ≤ (wAt n.who z).length := by
    intro z h0 h1
    have q1 : d[z.toNat]? = some (dn d z) := by rw [dn, List.getElem?_eq_getElem (by omega)]; rfl
    have q2 : n.who[z.toNat]? = some (wAt n.who z) := by rw [wAt, List.getElem?_eq_getElem (by omega)]; rfl
    exact hd.bd _ _ _ q1 q2
  have ka := key l.a v1 v3
  have kb := key l.b v2 v4
  unfold rdyB
  rw [wAt_turn, wAt_turn, List.length_map, List.length_map]
  cases qa : (dn d l.a == ((wAt n.who l.a).length : Int)) with
  | true => rfl
  | false =>
    cases qb : (dn d l.b == ((wAt n.who l.b).length : Int)) with
    | true => rfl
    | false =>
      have qa : dn d l.a ≠ (wAt n.who l.a).length := by simpa using qa
      have qb : dn d l.b ≠ (wAt n.who l.b).length := by simpa using qb
      rw [dAt_turn _ _ (by omega), dAt_turn _ _ (by omega), meet_turn]
      rfl
theorem rdyF_turn (n : Net) (hv : Valid n) (d : List Int) (hd : DOK n d) : ∀ (ls : List Ln) (k : Nat), (∀ l ∈ ls, l ∈ n.lines) → rdyF (turnN n) d ls k = rdyF n d ls k
  | [], k, _ => rfl
  | l :: r, k, h => by rw [rdyF, rdyF, rdy_turn n hv d hd k l (h l (by simp)), rdyF_turn n hv d hd r (k + 1) (fun x hx => h x (by simp [hx]))]
theorem runG_turn (n : Net) (hv : Valid n) : ∀ (f : Nat) (picks chosen d : List Int), DOK n d → runG f (turnN n) picks chosen d = runG f n picks chosen d
  | 0, _, _, _, _ => rfl
  | f + 1, picks, chosen, d, hd => by
    have e : rdyF (turnN n) d (turnN n).lines 0 = rdyF n d n.lines 0 := rdyF_turn n hv d hd n.lines 0 (fun _ h => h)
    rw [runG, runG, e]
    cases hr : rdyF n d n.lines 0 with
    | nil => rfl
    | cons a r =>
      have hl12 : (rdyF n d n.lines 0).length ≤ 12 := by have := rdyF_len n d n.lines 0; have := hv.l12; omega
      have hst : 0 ≤ stepK picks (a :: r) ∧ stepK picks (a :: r) < ((a :: r).length : Int) := by
        unfold stepK
        split
        · simp
        · exact pk_range _ (by simp) (by rw [← hr]; exact hl12)
      obtain ⟨i, hi⟩ : ∃ i, (a :: r)[(stepK picks (a :: r)).toNat]? = some i := ⟨_, List.getElem?_eq_getElem (by omega)⟩
      obtain ⟨j, l, rfl, hlj, hrb⟩ := rdyF_mem n d n.lines 0 i (hr ▸ List.mem_of_getElem? hi)
      rw [Nat.zero_add] at hi hrb
      have hat : lnAt n.lines (j : Int) = l := by simp [lnAt, hlj]
      have hat' : lnAt (turnN n).lines (j : Int) = l := hat
      simp only [List.isEmpty_cons, Bool.false_eq_true, if_false, hi, Option.getD_some, hat, hat']
      exact runG_turn n hv f _ _ _ (fire_ok n hv d hd j l hlj hrb).1
theorem run_turn (n : Net) (picks : List Int) : runF (turnN n) picks = runF n picks := by
  unfold runF
  rw [chk_turn]
  cases h : chkF n != 0 with
  | true => rfl
  | false =>
    have hv := chk_ok (show chkF n = 0 by simpa using h)
    have e1 : (turnN n).who.length = n.who.length := by simp [turnN]
    have e2 : (turnN n).lines = n.lines := rfl
    have e3 : total (turnN n) = total n := by
      unfold total turnN
      simp only [List.map_map]
      congr 1
      apply List.map_congr_left
      intro w _
      simp
    rw [e1, e2, e3, runG_turn n hv _ _ _ _ (start_ok n).1]
theorem on_turn (ds : List Dd) (i : Int) : onF (ds.map turnD) i = (onF ds i).map turnD := by
  unfold onF
  rw [List.filter_map]; rfl
theorem eqDd_turn : ∀ (a b : List Dd), eqDd (a.map turnD) (b.map turnD) = eqDd a b
  | [], [] => rfl
  | [], _ :: _ => rfl
  | _ :: _, [] => rfl
  | x :: r, y :: r' => by rw [List.map_cons, List.map_cons, eqDd, eqDd, meet_turn, eqDd_turn r r']
theorem dl_turn (n : Net) : ∀ (ls : List Ln) (k : Nat), dlF (turnN n) ls k = dlF n ls k
  | [], k => rfl
  | l :: r, k => by rw [dlF, dlF, dl_turn n r (k + 1), dlB, dlB, wAt_turn, wAt_turn, on_turn, on_turn, eqDd_turn]
theorem dual_turn (n : Net) : dualF (turnN n) = dualF n := by
  unfold dualF
  rw [chk_turn, show (turnN n).lines = n.lines from rfl, dl_turn]

theorem runG_chosen (n : Net) : ∀ (f : Nat) (picks chosen d : List Int), (runG f n picks chosen d).1.length ≤ chosen.length + f
  | 0, _, _, _ => by simp [runG]
  | f + 1, picks, chosen, d => by
    rw [runG]
    split
    · simp
    · have := runG_chosen n f picks.tail (chosen ++ [((rdyF n d n.lines 0)[(stepK picks (rdyF n d n.lines 0)).toNat]?).getD 0]) (fireF d (lnAt n.lines (((rdyF n d n.lines 0)[(stepK picks (rdyF n d n.lines 0)).toNat]?).getD 0)))
      simp at this ⊢; omega
theorem runF_chosen (n : Net) (picks : List Int) : (runF n picks).1.length ≤ 1000 := by
  unfold runF
  cases h : chkF n != 0 with
  | true => simp
  | false =>
    have hv := chk_ok (show chkF n = 0 by simpa using h)
    have := runG_chosen n (n.lines.length + total n + 1) picks [] (List.replicate n.who.length 0)
    have h12 := hv.l12
    have h8 := hv.w8
    have htot : total n ≤ 320 := by
      have key : ∀ (l : List (List Dd)), (∀ w ∈ l, w.length ≤ 40) → (l.map List.length).sum ≤ 40 * l.length := by
        intro l
        induction l with
        | nil => intro _; simp
        | cons w r ih => intro h; have h1 := h w (by simp); have h2 := ih (fun x hx => h x (by simp [hx])); simp; omega
      have h2 := key n.who (fun w hw => by obtain ⟨i, hi⟩ := List.getElem?_of_mem hw; exact (hv.ds i w hi).1)
      unfold total; omega
    simp only [cond_false]; simp at this; omega

theorem talkTurned_spec (n : Net) (hn : n.lines.length * 16 ≤ 140737488351232 ∧ n.who.length * 24 ≤ 140737488351232 ∧ ∀ w ∈ n.who, w.length * 24 ≤ 140737488351232) (p : List Int) (hp : p.length < 9223372036854775807) :
    APure Try.prog 5 [.p (eN n), .p (.sl 1 (p.map vI))] (.p (.b true)) := by
  obtain ⟨hn1, hn2, hn3⟩ := hn
  have hok : okN n := ⟨by omega, by omega, fun w hw => by have := hn3 w hw; omega⟩
  have hok' : okN (turnN n) := ⟨by simp [turnN]; omega, by simp [turnN]; omega, fun w hw => by
    simp only [turnN, List.mem_map] at hw
    obtain ⟨w0, hw0, rfl⟩ := hw
    have := hn3 w0 hw0; simp; omega⟩
  have h1 := run_spec n hok p hp
  have h2 := run_spec (turnN n) hok' p hp
  have h3 := dual_spec n hok
  have h4 := dual_spec (turnN n) hok'
  rw [run_turn] at h2
  rw [dual_turn] at h4
  have h5 := equalI_spec (runF n p).1 (runF n p).1 (by have := runF_chosen n p; omega)
  have h6 := equalI_spec (runF n p).2.1 (runF n p).2.1 (by have := runF_len n p; omega)
  rw [(eqIs_iff _ _).2 rfl] at h5 h6
  generalize (runF n p).1 = c1 at h1 h2 h5
  generalize (runF n p).2.1 = d1 at h1 h2 h6
  generalize (runF n p).2.2 = e1 at h1 h2
  generalize (dualF n).1 = u1 at h3 h4
  generalize (dualF n).2 = u2 at h3 h4
  obtain ⟨lines, who⟩ := n
  simp only at hn1 hn2 hn3
  refine APure.intro (tyOf_ok Try.prog) hmix Try.func5 rfl (by rfl) (by kernel_rfl) (by show 2 ≤ _; decide) rfl ?_
  conv => whnf
  refine apc talks_spec ?_
  conv => whnf
  refine lp_le 5 (.cells [.p (.sl 2 (lines.map eL)), .so 1 []]) rfl ⟨.inl rfl, .inr (.inr ⟨rfl, 0, rfl⟩), trivial⟩ ?_
  refine loopS (tyOf_ok _) hmix (by kernel_rfl) who.length [1, 2, 5, 27, 28, 29] [2, 5] (fun k _ => [.p (.sl 1 (p.map vI)), .ptr 2 0, .ptr 5 0, .p (.sl 1 (who.map eW)), .p (.i .i64 (who.map eW).length), .p (.i .i64 (ix k))])
    (fun _ s => [.cells [.p (.sl 2 (lines.map eL)), .p (.sl 1 (who.map eW))], .cells [.p (.sl 2 (lines.map eL)), .so 1 s]]) (fun k s => s = ((who.take k).map (·.map turnD)).map eW) [] ⟨rfl, rfl, rfl, rfl⟩ rfl ?_
  intro k s hk hs
  conv => whnf
  refine asplit ?_ ?_ <;> intro g1 <;> conv => whnf
  · have hk1 := ix_tt g1 (by simp) hk (by omega)
    obtain ⟨ds, hds⟩ : ∃ b, who[k]? = some b := ⟨who[k], by simp [hk1]⟩
    have hdl := hn3 ds (List.mem_of_getElem? hds)
    have hts := take_snoc hds
    refine aidxk (x := eW ds) (by simp [hds]) (by omega) ?_
    conv => whnf
    refine lp_nil 8 2 rfl ?_
    refine loopS (tyOf_ok _) hmix (by kernel_rfl) ds.length [1, 2, 5, 8, 27, 28, 29, 33, 34, 35] [2, 5] (fun j s2 => [.p (.sl 1 (p.map vI)), .ptr 2 0, .ptr 5 0, .so 3 s2, .p (.sl 1 (who.map eW)), .p (.i .i64 (who.map eW).length), .p (.i .i64 (ix k)), .p (.sl 3 (ds.map eDd)), .p (.i .i64 (ds.map eDd).length), .p (.i .i64 (ix j))])
      (fun _ _ => [.cells [.p (.sl 2 (lines.map eL)), .p (.sl 1 (who.map eW))], .cells [.p (.sl 2 (lines.map eL)), .so 1 s]]) (fun j s2 => s2 = ((ds.take j).map turnD).map eDd) [] ⟨rfl, rfl, rfl, rfl⟩ rfl ?_
    intro j s2 hj hs2
    conv => whnf
    refine asplit ?_ ?_ <;> intro g2 <;> conv => whnf
    · have hj1 := ix_tt g2 (by simp) hj (by omega)
      obtain ⟨x, hx⟩ : ∃ x, ds[j]? = some x := ⟨ds[j], by simp [hj1]⟩
      have hts2 := take_snoc hx
      refine aidxk (x := eDd x) (by simp [hx]) (by omega) ?_
      obtain ⟨xl, xs, xm⟩ := x
      conv => whnf
      refine aneed (show (s2.length + 1) * 24 ≤ 140737488355328 by rw [hs2]; simp; omega) ?_
      conv => whnf
      refine ⟨hj1, _, ⟨rfl, rfl, rfl, rfl⟩, ?_⟩
      rw [hts2, hs2]; simp [eDd, turnD]
    · have hj1 := ix_ff g2 (by simp) hj (by omega)
      have e2 : s2 = (ds.map turnD).map eDd := by rw [hs2, hj1, List.take_length]
      subst e2
      refine aneed (show (s.length + 1) * 24 ≤ 140737488355328 by rw [hs]; simp; omega) ?_
      conv => whnf
      refine ⟨hk1, _, ⟨rfl, rfl, rfl, rfl⟩, ?_⟩
      rw [hts, hs]; simp [eW]
  · have hk1 := ix_ff g1 (by simp) hk (by omega)
    have e2 : s = (who.map (·.map turnD)).map eW := by rw [hs, hk1, List.take_length]
    subst e2
    refine apc h1 ?_
    conv => whnf
    refine apc h2 ?_
    conv => whnf
    refine apc h3 ?_
    conv => whnf
    refine apc h4 ?_
    conv => whnf
    refine ast (by simp) ?_
    conv => whnf
    refine ast (by simp) ?_
    conv => whnf
    refine ast (by simp) ?_
    conv => whnf
    refine apc h5 ?_
    conv => whnf
    refine apc h6 ?_
    conv => whnf
    exact .inl rfl
end TK
