/-
  DERIVED. Contracts of functions that the law reaches, and the law, for every input. No conditions.
-/
import Derived.Test.YtcgaadhbnckjbaaUX2
open Go Go.AM Go.Proofs
set_option maxRecDepth 100000
namespace KK
/-! bind -/
def bigT (y : Ty) : Bool := decide (nodes y > 400) || decide (hgt y > 40)
def updE (n : ByteArray) (b : Ty) (p : ByteArray × Ty) : ByteArray × Ty := bif p.1 == n then p else (p.1, sub1 n b p.2)
def bigE (n : ByteArray) (b : Ty) (p : ByteArray × Ty) : Bool := bif p.1 == n || has1 n p.2 then bigT (updE n b p).2 else false
def curF (n : ByteArray) (b : Ty) (m : TM) (seen : List Nat) : TM := m.mapIdx fun j p => bif seen.contains j then updE n b p else p
def lgF (n : ByteArray) (b : Ty) (m : TM) (seen : List Nat) : Bool := seen.any fun j => match m[j]? with | some p => bigE n b p | none => false
theorem cur_get (n : ByteArray) (b : Ty) (m : TM) (seen : List Nat) (j : Nat) : (curF n b m seen)[j]? = (m[j]?).map fun p => bif seen.contains j then updE n b p else p := by
  simp [curF, List.getElem?_mapIdx]
theorem cur_len (n : ByteArray) (b : Ty) (m : TM) (seen : List Nat) : (curF n b m seen).length = m.length := by simp [curF]
theorem not_con {seen : List Nat} {j : Nat} (h : j ∉ seen) : seen.contains j = false := by
  cases hq : seen.contains j with
  | false => rfl
  | true => exact absurd (by simpa using hq) h
theorem cur_snoc {n : ByteArray} {b : Ty} {m : TM} {seen : List Nat} {j : Nat} {p : ByteArray × Ty} (hj : j ∉ seen) (hp : m[j]? = some p) : curF n b m (seen ++ [j]) = (curF n b m seen).set j (updE n b p) := by
  apply List.ext_getElem?
  intro i
  rw [List.getElem?_set, cur_get, cur_get, cur_len]
  by_cases q : j = i
  · subst q
    have hlt := (List.getElem?_eq_some_iff.1 hp).1
    have hc : (seen ++ [j]).contains j = true := by simp
    rw [hp, Option.map_some, hc, if_pos rfl, if_pos hlt]; rfl
  · have : (seen ++ [j]).contains i = seen.contains i := by
      cases hq : seen.contains i with
      | true => simp at hq ⊢; exact .inl hq
      | false =>
        refine not_con fun h => ?_
        rcases List.mem_append.1 h with h | h
        · rw [show seen.contains i = true by simpa using h] at hq; cases hq
        · simp at h; exact q h.symm
    rw [this, if_neg q]
theorem cur_nil (n : ByteArray) (b : Ty) (m : TM) : curF n b m [] = m := by
  apply List.ext_getElem?
  intro i
  rw [cur_get]
  cases m[i]? <;> rfl
theorem lg_snoc {n : ByteArray} {b : Ty} {m : TM} {seen : List Nat} {j : Nat} {p : ByteArray × Ty} (hp : m[j]? = some p) : lgF n b m (seen ++ [j]) = (lgF n b m seen || bigE n b p) := by
  simp [lgF, hp]
theorem covers_all {N : Nat} {seen : List Nat} (h1 : seen.Nodup) (h2 : ∀ i ∈ seen, i < N) (h3 : seen.length = N) {j : Nat} (hj : j < N) : j ∈ seen := by
  apply Classical.byContradiction
  intro h
  have := nodup_le N (j :: seen) (List.nodup_cons.2 ⟨h, h1⟩) (fun i hi => by
    rcases List.mem_cons.1 hi with rfl | hi
    · exact hj
    · exact h2 i hi)
  simp at this; omega
theorem cur_all {n : ByteArray} {b : Ty} {m : TM} {seen : List Nat} (h1 : seen.Nodup) (h2 : ∀ i ∈ seen, i < m.length) (h3 : seen.length = m.length) : curF n b m seen = m.map (updE n b) := by
  apply List.ext_getElem?
  intro i
  rw [cur_get, List.getElem?_map]
  cases hq : m[i]? with
  | none => rfl
  | some p =>
    have := covers_all h1 h2 h3 (List.getElem?_eq_some_iff.1 hq).1
    have hc : seen.contains i = true := by simpa using this
    rw [Option.map_some, Option.map_some, hc]; rfl
theorem lg_all {n : ByteArray} {b : Ty} {m : TM} {seen : List Nat} (h1 : seen.Nodup) (h2 : ∀ i ∈ seen, i < m.length) (h3 : seen.length = m.length) : lgF n b m seen = m.any (bigE n b) := by
  rw [Bool.eq_iff_iff]
  constructor
  · intro h
    obtain ⟨j, hj, hb⟩ := List.any_eq_true.1 h
    cases hq : m[j]? with
    | none => simp [hq] at hb
    | some p => rw [hq] at hb; exact List.any_eq_true.2 ⟨p, List.mem_of_getElem? hq, hb⟩
  · intro h
    obtain ⟨p, hp, hb⟩ := List.any_eq_true.1 h
    obtain ⟨j, hj, e⟩ := List.getElem_of_mem hp
    have hq : m[j]? = some p := by rw [← e]; exact List.getElem?_eq_getElem hj
    exact List.any_eq_true.2 ⟨j, covers_all h1 h2 h3 hj, by rw [hq]; exact hb⟩
def keysT (m : TM) : List ByteArray := m.map (·.1)
theorem upd_key (n : ByteArray) (b : Ty) (p : ByteArray × Ty) : (updE n b p).1 = p.1 := by unfold updE; cases p.1 == n <;> rfl
theorem cur_keys (n : ByteArray) (b : Ty) (m : TM) (seen : List Nat) : keysT (curF n b m seen) = keysT m := by
  apply List.ext_getElem?
  intro i
  rw [keysT, keysT, List.getElem?_map, cur_get, List.getElem?_map]
  cases m[i]? with
  | none => rfl
  | some p =>
    simp only [Option.map_some, Option.some.injEq]
    cases seen.contains i
    · rfl
    · exact upd_key n b p
theorem sput_at : ∀ {m : TM} {j : Nat} {k : ByteArray} {v : Ty}, (keysT m).Nodup → m[j]? = some (k, v) → ∀ w, sput k w m = m.set j (k, w)
  | [], _, _, _, _, h, _ => by simp at h
  | (a, u) :: r, 0, k, v, _, h, w => by
    simp at h
    obtain ⟨rfl, rfl⟩ := h
    rw [sput, (beq_bytes a a).2 rfl]; rfl
  | (a, u) :: r, j + 1, k, v, hn, h, w => by
    have h' : r[j]? = some (k, v) := by simpa using h
    have hn' := List.nodup_cons.1 hn
    have hne : (k == a) = false := by
      cases hq : k == a with
      | false => rfl
      | true =>
        have := (beq_bytes k a).1 hq
        subst this
        exact absurd (List.mem_map.2 ⟨(k, v), List.mem_of_getElem? h', rfl⟩) hn'.1
    rw [sput, hne, cond_false, sput_at hn'.2 h' w]; rfl
def bindF (m : TM) (n : ByteArray) (t : Ty) : Int × TM :=
  bif occF n (appF m t) then (18, m) else ((bif (sput n (appF m t) m).any (bigE n (appF m t)) then 2 else 0), (sput n (appF m t) m).map (updE n (appF m t)))
theorem set_self {α : Type} {l : List α} {j : Nat} {a : α} (h : l[j]? = some a) : l.set j a = l := by
  apply List.ext_getElem?
  intro i
  rw [List.getElem?_set]
  split
  · rename_i q; subst q; split
    · exact h.symm
    · rename_i q; exact absurd (List.getElem?_eq_some_iff.1 h).1 q
  · rfl

theorem bind_spec (m : TM) (hm : okM m) (n : ByteArray) (t : Ty) (ht : okT t) (hk : (keysT (sput n (appF m t) m)).Nodup) (hokA : okT (appF m t)) (hok1 : ∀ p ∈ sput n (appF m t) m, okT p.2)
    (hsz : ∀ p ∈ sput n (appF m t) m, nodes p.2 ≤ 1099511627776 ∧ nodes (sub1 n (appF m t) p.2) ≤ 1099511627776) :
    AMem Try.prog 28 [.ptr 1000000000 0, .p (.s n), .p (eT t)] (hpS m) (.p (.i .i64 (bindF m n t).1)) (hpS (bindF m n t).2) := by
  have hc1 := app_spec m hm t ht
  unfold AppS at hc1
  unfold bindF
  generalize appF m t = b at hc1 hk hokA hok1 hsz ⊢
  have hc2 := occ_spec n b hokA
  generalize occF n b = oc at hc2 ⊢
  have hput := mput_eM eT n b m
  generalize hm1 : sput n b m = m1 at hput hk hok1 hsz ⊢
  obtain ⟨tk, tn, tx⟩ := t
  have hrep : ∀ v, okT v → RepS n b v := fun v hv => rep_spec n b v hv
  obtain ⟨bk, bn, bx⟩ := b
  refine AMem.introS (tyOf_ok Try.prog) Try.func28 rfl (by rfl) (by show 3 ≤ _; decide) rfl ?_
  refine AWp.cut (tyOf_ok Try.prog) hmix (by kernel_rfl) 5 [0, 1, 5, 6, 7] [5, 1000000000, 1000000001] (fun _ : Unit => [.ptr 1000000000 0, .p (.s n), .ptr 5 0, .p (.i .i64 0), .p (.b false)]) (fun _ => [.cells [.p (.i .i64 bk), .p (.s bn), .p (.sl 3 (eTs bx))], .cells [.mp 1000000001], .map .ks (eM eT m1)]) (fun _ => oc = false) ?_ ?_
  · conv => whnf
    refine amr [1000000000, 1000000001] 10000 hc1 ?_
    conv => whnf
    refine apc hc2 ?_
    conv => whnf
    refine asplit ?_ ?_ <;> intro h1 <;> conv => whnf
    · rw [h1]
      exact ⟨.inl rfl, ⟨.inl rfl, trivial⟩, ⟨rfl, rfl⟩, trivial⟩
    · refine aneed (by kernel_rfl) ?_
      conv => whnf
      refine ⟨(), ⟨?_, rfl, rfl, rfl⟩, h1⟩
      rw [← hput]
      rfl
  · rintro _ rfl
    refine AWp.seq ?_
    refine AWp.rng (tyOf_ok Try.prog) hmix (kt := 9) (et := 27) (σ := TM × Bool) (N := m1.length) (kd := .ks) 4 1000000001 [0, 1, 5, 6, 7] [5, 1000000000, 1000000001] (fun _ s => [.ptr 1000000000 0, .p (.s n), .ptr 5 0, .p (.i .i64 0), .p (.b s.2)])
      (fun _ s => [.cells [.p (.i .i64 bk), .p (.s bn), .p (.sl 3 (eTs bx))], .cells [.mp 1000000001], .map .ks (eM eT s.1)]) (fun seen s => s = (curF n (.mk bk bn bx) m1 seen, lgF n (.mk bk bn bx) m1 seen) ∧ seen.Nodup ∧ ∀ i ∈ seen, i < m1.length) (fun _ s => eM eT s.1)
      ⟨rfl, rfl, rfl, rfl, rfl⟩ (by kernel_rfl) (by kernel_rfl) (fun _ _ _ _ h => h) ⟨rfl, rfl, rfl⟩ ⟨rfl, rfl, rfl⟩ ⟨rfl, rfl, rfl⟩ (by decide) (by decide) ⟨rfl, rfl, rfl, rfl⟩ (by kernel_rfl) (by kernel_rfl) (by decide) ?_ ?_ ?_ ?_
    · conv => whnf
      exact ⟨rfl, (m1, false), Tl.of ⟨rfl, rfl, rfl, rfl⟩, by rw [cur_nil]; rfl, List.nodup_nil, by simp⟩
    · rintro seen s ⟨rfl, _, _⟩
      exact ⟨rfl, by simp [eM, cur_len]⟩
    · rintro seen s ⟨rfl, h1, h2⟩ h3
      rw [cur_all h1 h2 h3, lg_all h1 h2 h3]
      generalize m1.any (bigE n (.mk bk bn bx)) = q
      refine AWp.fin (tyOf_ok Try.prog) hmix (by kernel_rfl) ?_
      conv => whnf
      refine asplit ?_ ?_ <;> intro h4 <;> conv => whnf
      · subst h4; exact ⟨.inl rfl, ⟨.inl rfl, trivial⟩, ⟨rfl, rfl⟩, trivial⟩
      · subst h4; exact ⟨.inl rfl, ⟨.inl rfl, trivial⟩, ⟨rfl, rfl⟩, trivial⟩
    · rintro B seen s j x ⟨rfl, h1, h2⟩ hj hjs hlt hx
      have hcj := cur_get n (.mk bk bn bx) m1 seen j
      obtain ⟨⟨ky, v⟩, hp⟩ : ∃ p, m1[j]? = some p := ⟨_, List.getElem?_eq_getElem hj⟩
      rw [hp, Option.map_some, not_con hjs, cond_false] at hcj
      have hmem := List.mem_of_getElem? hp
      have hx' : x = (.s ky, eT v) := by
        have : (eM eT (curF n (.mk bk bn bx) m1 seen))[j]? = some x := hx
        simp only [eM, List.getElem?_map, hcj, Option.map_some, Option.some.injEq] at this
        exact this.symm
      subst hx'
      have hcs := cur_snoc (n := n) (b := .mk bk bn bx) hjs hp
      have hls := lg_snoc (n := n) (b := .mk bk bn bx) (seen := seen) hp
      have hpa : ∀ w, sput ky w (curF n (.mk bk bn bx) m1 seen) = (curF n (.mk bk bn bx) m1 seen).set j (ky, w) := fun w => sput_at (by rw [cur_keys]; exact hk) hcj w
      have hnd : (seen ++ [j]).Nodup := by
        rw [List.nodup_append]
        exact ⟨h1, by simp, fun a ha c hc => by simp at hc; subst hc; exact fun e => hjs (e ▸ ha)⟩
      have hin : ∀ i ∈ seen ++ [j], i < m1.length := by
        intro i hi
        rcases List.mem_append.1 hi with hi | hi
        · exact h2 i hi
        · simp at hi; subst hi; exact hj
      obtain ⟨hs1, hs2⟩ := hsz _ hmem
      have hc3 := hrep v (hok1 _ hmem)
      unfold RepS at hc3
      have hn1 := sub1_none n (.mk bk bn bx) v
      simp only at hs1 hs2 hc3 hn1
      have hself := set_self hcj
      simp only [updE, bigE] at hcs hls
      generalize hcu : curF n (.mk bk bn bx) m1 seen = c at hcs hpa hself hx hcj ⊢
      generalize hlg : lgF n (.mk bk bn bx) m1 seen = lg at hls ⊢
      obtain ⟨vk, vn, vx⟩ := v
      conv => whnf
      refine asplit ?_ ?_ <;> intro g1 <;> conv => whnf
      · rw [bl_iff, Bool.not_eq_true'] at g1
        generalize has1 n (.mk vk vn vx) = q at hc3 hn1 hls
        generalize sub1 n (.mk bk bn bx) (.mk vk vn vx) = y at hc3 hn1 hs2 hcs hls
        obtain ⟨yk, yn, yx⟩ := y
        refine apc hc3 ?_
        conv => whnf
        refine asplit ?_ ?_ <;> intro g0 <;> conv => whnf
        · obtain rfl : q = false := by simpa using g0
          have hy := hn1 rfl
          refine ⟨(c, lg), Tl.of ⟨rfl, rfl, rfl, rfl⟩, ?_, hnd, hin⟩
          rw [hcs, hls, g1, cond_false, hy, hself]; simp
        · obtain rfl : q = true := by simpa using g0
          refine aneed (by kernel_rfl) ?_
          conv => whnf
          refine apc (size_spec (.mk yk yn yx) hs2) ?_
          conv => whnf
          refine asplit ?_ ?_ <;> intro g2 <;> conv => whnf
          · subst g2
            refine ⟨(sput ky (.mk yk yn yx) c, true), Tl.of ⟨?_, rfl, rfl, rfl⟩, ?_, hnd, hin⟩
            · show [some (AObj.cells _), some (AObj.cells _), some (AObj.map .ks (mput (.s ky) (eT (.mk yk yn yx)) (eM eT c)))] = _
              rw [mput_eM]; rfl
            · rw [hcs, hls, hpa, g1]
              simp [bigT, g1]
          · subst g2
            refine asplit ?_ ?_ <;> intro g3 <;> conv => whnf
            · replace g3 : decide ((nodes (.mk yk yn yx) : Int) > 400) = true := g3
              have g3' : 400 < nodes (.mk yk yn yx) := by have := of_decide_eq_true g3; omega
              refine ⟨(sput ky (.mk yk yn yx) c, true), Tl.of ⟨?_, rfl, rfl, rfl⟩, ?_, hnd, hin⟩
              · show [some (AObj.cells _), some (AObj.cells _), some (AObj.map .ks (mput (.s ky) (eT (.mk yk yn yx)) (eM eT c)))] = _
                rw [mput_eM]; rfl
              · rw [hcs, hls, hpa, g1]
                simp [bigT, g3']
            · replace g3 : decide ((nodes (.mk yk yn yx) : Int) > 400) = false := g3
              have g3' : ¬ 400 < nodes (.mk yk yn yx) := by have := of_decide_eq_false g3; omega
              have g4 : decide ((hgt (.mk yk yn yx) : Int) > 40) = decide (hgt (.mk yk yn yx) > 40) := by
                rw [decide_eq_decide]; omega
              have g5 : (AV.p (.b (decide ((hgt (.mk yk yn yx) : Int) > 40)))) = AV.p (.b (decide (hgt (.mk yk yn yx) > 40))) := by rw [g4]
              refine ⟨(sput ky (.mk yk yn yx) c, decide (hgt (.mk yk yn yx) > 40)), Tl.of ⟨?_, ?_, rfl, rfl⟩, ?_, hnd, hin⟩
              · show [some (AObj.cells _), some (AObj.cells _), some (AObj.map .ks (mput (.s ky) (eT (.mk yk yn yx)) (eM eT c)))] = _
                rw [mput_eM]; rfl
              · rw [← g5]; rfl
              · rw [hcs, hls, hpa, g1]
                simp [bigT, g3']
      · refine asplit ?_ ?_ <;> intro g9 <;> conv => whnf
        · rw [g1] at g9; cases g9
        · rw [bl_iff, Bool.not_eq_false'] at g1
          refine aneed (by kernel_rfl) ?_
          conv => whnf
          refine apc (size_spec (.mk vk vn vx) hs1) ?_
          conv => whnf
          refine asplit ?_ ?_ <;> intro g2 <;> conv => whnf
          · subst g2
            refine ⟨(sput ky (.mk vk vn vx) c, true), Tl.of ⟨?_, rfl, rfl, rfl⟩, ?_, hnd, hin⟩
            · show [some (AObj.cells _), some (AObj.cells _), some (AObj.map .ks (mput (.s ky) (eT (.mk vk vn vx)) (eM eT c)))] = _
              rw [mput_eM]; rfl
            · rw [hcs, hls, hpa, g1]
              simp [bigT, g1]
          · subst g2
            refine asplit ?_ ?_ <;> intro g3 <;> conv => whnf
            · replace g3 : decide ((nodes (.mk vk vn vx) : Int) > 400) = true := g3
              have g3' : 400 < nodes (.mk vk vn vx) := by have := of_decide_eq_true g3; omega
              refine ⟨(sput ky (.mk vk vn vx) c, true), Tl.of ⟨?_, rfl, rfl, rfl⟩, ?_, hnd, hin⟩
              · show [some (AObj.cells _), some (AObj.cells _), some (AObj.map .ks (mput (.s ky) (eT (.mk vk vn vx)) (eM eT c)))] = _
                rw [mput_eM]; rfl
              · rw [hcs, hls, hpa, g1]
                simp [bigT, g3']
            · replace g3 : decide ((nodes (.mk vk vn vx) : Int) > 400) = false := g3
              have g3' : ¬ 400 < nodes (.mk vk vn vx) := by have := of_decide_eq_false g3; omega
              have g4 : decide ((hgt (.mk vk vn vx) : Int) > 40) = decide (hgt (.mk vk vn vx) > 40) := by
                rw [decide_eq_decide]; omega
              have g5 : (AV.p (.b (decide ((hgt (.mk vk vn vx) : Int) > 40)))) = AV.p (.b (decide (hgt (.mk vk vn vx) > 40))) := by rw [g4]
              refine ⟨(sput ky (.mk vk vn vx) c, decide (hgt (.mk vk vn vx) > 40)), Tl.of ⟨?_, ?_, rfl, rfl⟩, ?_, hnd, hin⟩
              · show [some (AObj.cells _), some (AObj.cells _), some (AObj.map .ks (mput (.s ky) (eT (.mk vk vn vx)) (eM eT c)))] = _
                rw [mput_eM]; rfl
              · rw [← g5]; rfl
              · rw [hcs, hls, hpa, g1]
                simp [bigT, g3']
end KK
open Go Go.AM Go.Proofs
set_option maxRecDepth 100000
namespace KK
/-! sizes in a store -/
mutual
theorem okT_of_nodes : ∀ (t : Ty), nodes t ≤ 1099511627776 → okT t
  | .mk k n xs, h => by
    rw [nodes] at h
    have := nodes_len xs
    exact ⟨by omega, okTs_of_nodes xs (by omega)⟩
theorem okTs_of_nodes : ∀ (l : List Ty), nodess l ≤ 1099511627776 → okTs l
  | [], _ => trivial
  | t :: r, h => by rw [nodess] at h; exact ⟨okT_of_nodes t (by omega), okTs_of_nodes r (by omega)⟩
end
def Good (m : TM) : Prop := (keysT m).Nodup ∧ ∀ p ∈ m, nodes p.2 ≤ 400
theorem slook_mem : ∀ {m : TM} {k : ByteArray} {x : Ty}, slook k m = some x → (k, x) ∈ m
  | [], _, _, h => by cases h
  | (a, u) :: r, k, x, h => by
    rw [slook] at h
    cases hq : k == a with
    | true =>
      rw [hq, cond_true] at h; cases h
      rw [(beq_bytes k a).1 hq]; simp
    | false => rw [hq, cond_false] at h; exact List.mem_cons_of_mem _ (slook_mem h)
theorem Good.look {m : TM} (h : Good m) {k : ByteArray} {x : Ty} (hx : slook k m = some x) : nodes x ≤ 400 := h.2 _ (slook_mem hx)
theorem Good.okM {m : TM} (h : Good m) : okM m := fun k x hx => okT_of_nodes x (by have := h.look hx; omega)
theorem keys_sput (k : ByteArray) (v : Ty) : ∀ (m : TM), (keysT (sput k v m) = keysT m ∧ k ∈ keysT m) ∨ (keysT (sput k v m) = keysT m ++ [k] ∧ k ∉ keysT m)
  | [] => .inr ⟨rfl, by simp [keysT]⟩
  | (a, u) :: r => by
    rw [sput]
    cases hq : k == a with
    | true =>
      have := (beq_bytes k a).1 hq; subst this
      exact .inl ⟨rfl, by simp [keysT]⟩
    | false =>
      have hne : k ≠ a := fun e => by subst e; rw [(beq_bytes k k).2 rfl] at hq; cases hq
      rcases keys_sput k v r with ⟨h1, h2⟩ | ⟨h1, h2⟩
      · refine .inl ⟨?_, ?_⟩
        · show a :: keysT (sput k v r) = _; rw [h1]; rfl
        · show k ∈ a :: keysT r; exact List.mem_cons_of_mem _ h2
      · refine .inr ⟨?_, ?_⟩
        · show a :: keysT (sput k v r) = _; rw [h1]; rfl
        · show k ∉ a :: keysT r
          intro h; rcases List.mem_cons.1 h with h | h
          · exact hne h
          · exact h2 h
theorem nodup_sput {m : TM} (h : (keysT m).Nodup) (k : ByteArray) (v : Ty) : (keysT (sput k v m)).Nodup := by
  rcases keys_sput k v m with ⟨h1, _⟩ | ⟨h1, h2⟩
  · rw [h1]; exact h
  · rw [h1, List.nodup_append]
    exact ⟨h, by simp, fun a ha b hb => by simp at hb; subst hb; exact fun e => h2 (e ▸ ha)⟩
theorem mem_sput : ∀ {m : TM} {k : ByteArray} {v : Ty} {p : ByteArray × Ty}, p ∈ sput k v m → p = (k, v) ∨ p ∈ m
  | [], k, v, p, h => by simp [sput] at h; exact .inl h
  | (a, u) :: r, k, v, p, h => by
    rw [sput] at h
    cases hq : k == a with
    | true => rw [hq, cond_true] at h; rcases List.mem_cons.1 h with h | h; exact .inl h; exact .inr (List.mem_cons_of_mem _ h)
    | false =>
      rw [hq, cond_false] at h
      rcases List.mem_cons.1 h with h | h
      · exact .inr (h ▸ List.mem_cons_self)
      · rcases mem_sput h with h | h
        · exact .inl h
        · exact .inr (List.mem_cons_of_mem _ h)
mutual
theorem nodes_app {m : TM} (hm : Good m) : ∀ (t : Ty), nodes (appF m t) ≤ nodes t * 400
  | .mk k n xs => by
    rw [appF]
    have h := nodess_apps hm xs
    cases hq : (bif k == 5 then slook n m else none) with
    | none =>
      show nodes (.mk k n (appF.appFs m xs)) ≤ _
      rw [appFs_map, nodes, nodes]; omega
    | some x =>
      have : nodes x ≤ 400 := by
        cases hk : k == 5 with
        | true => rw [hk, cond_true] at hq; exact hm.look hq
        | false => rw [hk, cond_false] at hq; cases hq
      show nodes x ≤ _
      rw [nodes]; omega
theorem nodess_apps {m : TM} (hm : Good m) : ∀ (l : List Ty), nodess (l.map (appF m)) ≤ nodess l * 400
  | [] => by simp [nodess]
  | t :: r => by
    have := nodes_app hm t
    have := nodess_apps hm r
    rw [List.map_cons, nodess, nodess]; omega
end
mutual
theorem nodes_sub (n : ByteArray) (b : Ty) : ∀ (t : Ty), nodes (sub1 n b t) ≤ nodes t * nodes b
  | .mk k m xs => by
    rw [sub1]
    have h := nodess_sub n b xs
    have hb := nodes_pos b
    cases hq : (k == 5 && m == n) with
    | true => rw [cond_true, nodes]; exact Nat.le_mul_of_pos_left _ (by omega)
    | false =>
      rw [cond_false, sub1s_map, nodes, nodes, Nat.add_mul]; omega
theorem nodess_sub (n : ByteArray) (b : Ty) : ∀ (l : List Ty), nodess (l.map (sub1 n b)) ≤ nodess l * nodes b
  | [] => by simp [nodess]
  | t :: r => by
    have := nodes_sub n b t
    have := nodess_sub n b r
    rw [List.map_cons, nodess, nodess, Nat.add_mul]; omega
end
theorem bind_ok (m : TM) (hm : Good m) (n : ByteArray) (t : Ty) (ht : nodes t ≤ 400) :
    AMem Try.prog 28 [.ptr 1000000000 0, .p (.s n), .p (eT t)] (hpS m) (.p (.i .i64 (bindF m n t).1)) (hpS (bindF m n t).2) := by
  have hb := nodes_app hm t
  have hsm : ∀ p ∈ sput n (appF m t) m, nodes p.2 ≤ 160000 := fun p hp => by
    rcases mem_sput hp with rfl | hp
    · simp only; omega
    · have := hm.2 p hp; omega
  refine bind_spec m hm.okM n t (okT_of_nodes t (by omega)) (nodup_sput hm.1 _ _) (okT_of_nodes _ (by omega)) (fun p hp => okT_of_nodes _ (by have := hsm p hp; omega)) (fun p hp => ⟨by have := hsm p hp; omega, ?_⟩)
  have h1 := hsm p hp
  have h2 := nodes_sub n (appF m t) p.2
  have h3 : nodes p.2 * nodes (appF m t) ≤ 160000 * 160000 := Nat.mul_le_mul h1 (by omega)
  omega
theorem bind_good {m : TM} (hm : Good m) {n : ByteArray} {t : Ty} {m' : TM} (h : bindF m n t = (0, m')) : Good m' := by
  unfold bindF at h
  cases ho : occF n (appF m t) with
  | true => rw [ho, cond_true] at h; cases h
  | false =>
    rw [ho, cond_false] at h
    generalize appF m t = b at h
    cases ha : (sput n b m).any (bigE n b) with
    | true => rw [ha] at h; cases h
    | false =>
      rw [ha] at h
      cases h
      refine ⟨?_, fun p hp => ?_⟩
      · have : keysT ((sput n b m).map (updE n b)) = keysT (sput n b m) := by
          unfold keysT; rw [List.map_map]; exact List.map_congr_left (fun p _ => upd_key n b p)
        rw [this]; exact nodup_sput hm.1 _ _
      · obtain ⟨q, hq, rfl⟩ := List.mem_map.1 hp
        have hbq : bigE n b q = false := by
          cases hc : bigE n b q with
          | false => rfl
          | true => have := List.any_eq_true.2 ⟨q, hq, hc⟩; rw [ha] at this; cases this
        unfold bigE at hbq
        cases hc : (q.1 == n || has1 n q.2) with
        | true =>
          rw [hc, cond_true] at hbq
          simp [bigT] at hbq
          exact hbq.1
        | false =>
          simp only [Bool.or_eq_false_iff] at hc
          have hu : updE n b q = q := by
            unfold updE
            rw [hc.1, cond_false, sub1_none n b q.2 hc.2]
          rw [hu]
          rcases mem_sput hq with rfl | hq
          · have := (beq_bytes n n).2 rfl; rw [hc.1] at this; cases this
          · exact hm.2 q hq
/-! Unify -/
def gtB (x y : ByteArray) : Bool := !(Op.bytesLess x.toList y.toList || x.toList == y.toList)
mutual
def uniF : Nat → TM → Ty → Ty → Option (Int × TM)
  | 0, _, _, _ => none
  | f + 1, m, a, b => uniH f m (headF m a) (headF m b)
def uniH : Nat → TM → Ty → Ty → Option (Int × TM)
  | f, m, .mk ak an ax, .mk bk bn bx =>
    bif unkB (.mk ak an ax) then
      (bif unkB (.mk bk bn bx) then
        (bif an == bn then some (0, m) else bif gtB an bn then some (bindF m an (.mk bk bn bx)) else some (bindF m bn (.mk ak an ax)))
      else some (bindF m an (.mk bk bn bx)))
    else bif unkB (.mk bk bn bx) then some (bindF m bn (.mk ak an ax))
    else bif ak != bk || (an != bn || ax.length != bx.length) then some (12, m) else uniFs f m ax bx
def uniFs : Nat → TM → List Ty → List Ty → Option (Int × TM)
  | f, m, x :: xs, y :: ys => match uniF f m x y with
    | none => none
    | some (e, m') => bif e != 0 then some (e, m') else uniFs f m' xs ys
  | _, m, _, _ => some (0, m)
end
end KK
