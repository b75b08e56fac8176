/-
  DERIVED. Contracts of the functions that the law reaches, and the law itself, for every input. No conditions.
-/
import Derived.Test.YtkabogkkbafonaaChecked
import Derived.Test.YtkabogkkbafonaaAMUse
open Go Go.AM Go.Proofs
namespace SE
structure Br where
  msg : Int
  nxt : Int
structure St where
  kind : Int
  brs : List Br
structure Wd where
  send : Bool
  msg : Int
def eB (b : Br) : PV := .agg [.i .i64 b.msg, .i .i64 b.nxt]
def eS (s : St) : PV := .agg [.i .i64 s.kind, .sl 2 (s.brs.map eB)]
def eW (w : Wd) : PV := .agg [.b w.send, .i .i64 w.msg]
theorem hmix : Try.prog.follows .mixedOrders = true := by kernel_rfl

theorem clone_spec (xs : List PV) (hb : xs.length * 16 ≤ 140737488355328) : APure Try.prog 15 [.p (.sl 2 xs)] (.so 2 xs) := by
  cases xs with
  | nil =>
    refine APure.nilOrNot (pre := []) (post := []) ?_ ?_
    · refine APure.intro (tyOf_ok Try.prog) hmix Try.func15 rfl (by rfl) (by kernel_rfl) (by show 1 ≤ _; decide) rfl ?_
      conv => whnf
      exact .inl rfl
    · refine APure.intro (tyOf_ok Try.prog) hmix Try.func15 rfl (by rfl) (by kernel_rfl) (by show 1 ≤ _; decide) rfl ?_
      conv => whnf
      refine ⟨by decide, ?_⟩
      conv => whnf
      exact .inl rfl
  | cons x xs =>
    refine APure.intro (tyOf_ok Try.prog) hmix Try.func15 rfl (by rfl) (by kernel_rfl) (by show 1 ≤ _; decide) rfl ?_
    conv => whnf
    refine aneed (show (([] : List PV).length + (x :: xs).length) * 16 ≤ 140737488355328 by simpa using hb) ?_
    conv => whnf
    exact .inl rfl

def nextF : List Br → Int → Int
  | [], _ => -1
  | b :: r, m => if b.msg == m then b.nxt else nextF r m

theorem next_spec (s : St) (m : Int) (hb : s.brs.length < 1000) : APure Try.prog 16 [.p (eS s), .p (.i .i64 m)] (.p (.i .i64 (nextF s.brs m))) := by
  obtain ⟨kd, brs⟩ := s
  simp only at hb
  refine APure.intro (tyOf_ok Try.prog) hmix Try.func16 rfl (by rfl) (by kernel_rfl) (by show 2 ≤ _; decide) rfl ?_
  conv => whnf
  refine loopM (tyOf_ok _) hmix (by kernel_rfl) [1, 8, 9, 10] [] (fun q vals objs => ∃ k : Nat, q + k = brs.length ∧ objs = [] ∧ vals = [.p (.i .i64 m), .p (.sl 2 (brs.map eB)), .p (.i .i64 (brs.map eB).length), .p (.i .i64 k)] ∧ nextF brs m = nextF (brs.drop k) m) brs.length ⟨[], rfl, rfl, rfl, 0, by omega, rfl, rfl, by simp⟩ ?_
  rintro q vals objs ⟨k, hk, rfl, rfl, hn⟩
  conv => whnf
  refine asplit ?_ ?_ <;> intro h1
  · have hk1 : k < brs.length := by simpa using h1
    obtain ⟨b, hb1⟩ : ∃ b, brs[k]? = some b := ⟨brs[k], by simp [hk1]⟩
    conv => whnf
    refine aidx hb1 ?_
    obtain ⟨bm, bn⟩ := b
    conv => whnf
    refine asplit ?_ ?_ <;> intro h2
    · conv => whnf
      refine .inl (pi ?_)
      rw [hn, drop_cons hb1, nextF, if_pos h2]
    · conv => whnf
      refine ⟨q - 1, by omega, [], rfl, rfl, rfl, k + 1, by omega, rfl, by rw [← inc64 (by omega)]; rfl, ?_⟩
      rw [hn, drop_cons hb1, nextF, if_neg (by simp [h2])]
  · conv => whnf
    refine .inl (pi ?_)
    have : brs.drop k = [] := List.drop_eq_nil_of_le (by simpa using h1)
    rw [hn, this]; rfl

def brsF (n : Int) : Int → List Br → Int
  | _, [] => 0
  | last, b :: r => bif b.msg < 0 || (b.msg > 20 || (b.nxt < 0 || b.nxt ≥ n)) then 1 else bif b.msg ≤ last then 3 else brsF n b.msg r
def stF (s : St) (n : Int) : Int := bif s.kind < 1 || (s.kind > 3 || !((s.kind == 3) == ((s.brs.length : Int) == 0))) then 3 else bif (s.brs.length : Int) > 6 then 2 else brsF n (-1) s.brs

theorem checkState_spec (s : St) (n : Int) (hb : s.brs.length < 9223372036854775807) : APure Try.prog 19 [.p (eS s), .p (.i .i64 n)] (.p (.i .i64 (stF s n))) := by
  obtain ⟨kd, brs⟩ := s
  simp only at hb
  refine APure.intro (tyOf_ok Try.prog) hmix Try.func19 rfl (by rfl) (by kernel_rfl) (by show 2 ≤ _; decide) rfl ?_
  conv => whnf
  refine asplit ?_ ?_ <;> intro h1 <;> conv => whnf
  · exact .inl (pi (by dsimp only at h1; simp only [stF, h1, Bool.true_or, cond_true]))
  refine asplit ?_ ?_ <;> intro h2 <;> conv => whnf
  · exact .inl (pi (by dsimp only at h1 h2; simp only [stF, h1, h2, Bool.true_or, Bool.or_true, cond_true]))
  refine asplit ?_ ?_ <;> intro h3 <;> conv => whnf
  · exact .inl (pi (by simp only [List.length_map] at h3; simp only [stF, h3, Bool.or_true, cond_true]))
  refine asplit ?_ ?_ <;> intro h4 <;> conv => whnf
  · exact .inl (pi (by dsimp only at h1 h2; simp only [List.length_map] at h3 h4; simp only [stF, h1, h2, h3, h4, Bool.or_false, cond_true, cond_false]))
  have hst : stF ⟨kd, brs⟩ n = brsF n (-1) brs := by dsimp only at h1 h2; simp only [List.length_map] at h3 h4; simp only [stF, h1, h2, h3, h4, Bool.or_false, cond_false]
  refine loopM (tyOf_ok _) hmix (by kernel_rfl) [1, 5, 33, 34, 35] [] (fun q vals objs => ∃ (k : Nat) (last : Int), q + k = brs.length ∧ objs = [] ∧ vals = [.p (.i .i64 n), .p (.i .i64 last), .p (.sl 2 (brs.map eB)), .p (.i .i64 (brs.map eB).length), .p (.i .i64 k)] ∧ stF ⟨kd, brs⟩ n = brsF n last (brs.drop k)) brs.length ⟨[], rfl, rfl, rfl, 0, -1, by omega, rfl, rfl, by simpa using hst⟩ ?_
  rintro q vals objs ⟨k, last, hk, rfl, rfl, hn⟩
  conv => whnf
  refine asplit ?_ ?_ <;> intro g1 <;> conv => whnf
  · have hk1 : k < brs.length := by simpa using g1
    obtain ⟨b, hb1⟩ : ∃ b, brs[k]? = some b := ⟨brs[k], by simp [hk1]⟩
    refine aidx hb1 ?_
    obtain ⟨bm, bn⟩ := b
    rw [drop_cons hb1, brsF] at hn
    conv => whnf
    refine asplit ?_ ?_ <;> intro g2 <;> conv => whnf
    · exact .inl (pi (by rw [hn]; dsimp only at g2 ⊢; simp only [g2, Bool.true_or, cond_true]))
    refine asplit ?_ ?_ <;> intro g3 <;> conv => whnf
    · exact .inl (pi (by rw [hn]; dsimp only at g3 ⊢; simp only [g3, Bool.true_or, Bool.or_true, cond_true]))
    refine asplit ?_ ?_ <;> intro g4 <;> conv => whnf
    · exact .inl (pi (by rw [hn]; dsimp only at g4 ⊢; simp only [g4, Bool.true_or, Bool.or_true, cond_true]))
    refine asplit ?_ ?_ <;> intro g5 <;> conv => whnf
    · exact .inl (pi (by rw [hn]; dsimp only at g5 ⊢; simp only [g5, Bool.or_true, cond_true]))
    dsimp only at g2 g3 g4 g5
    refine asplit ?_ ?_ <;> intro g6 <;> conv => whnf
    · exact .inl (pi (by rw [hn]; dsimp only at g6 ⊢; simp only [g2, g3, g4, g5, g6, Bool.or_false, cond_true, cond_false]))
    refine ⟨q - 1, by omega, [], rfl, rfl, rfl, k + 1, bm, by omega, rfl, by rw [← inc64 (by omega)]; rfl, ?_⟩
    rw [hn]; dsimp only at g6 ⊢; simp only [g2, g3, g4, g5, g6, Bool.or_false, cond_false]
  · have : brs.drop k = [] := List.drop_eq_nil_of_le (by simpa using g1)
    exact .inl (pi (by rw [hn, this]; rfl))

def stsF (n : Int) : List St → Int
  | [] => 0
  | s :: r => bif stF s n != 0 then stF s n else stsF n r
def chkF (l : List St) : Int := bif (l.length : Int) < 1 || (l.length : Int) > 16 then 2 else stsF l.length l

theorem check_spec (l : List St) (hb : ∀ s ∈ l, s.brs.length < 9223372036854775807) : APure Try.prog 12 [.p (.sl 2 (l.map eS))] (.p (.i .i64 (chkF l))) := by
  refine APure.intro (tyOf_ok Try.prog) hmix Try.func12 rfl (by rfl) (by kernel_rfl) (by show 1 ≤ _; decide) rfl ?_
  conv => whnf
  refine asplit ?_ ?_ <;> intro h1 <;> conv => whnf
  · exact .inl (pi (by simp only [List.length_map] at h1; simp only [chkF, h1, Bool.true_or, cond_true]))
  refine asplit ?_ ?_ <;> intro h2 <;> conv => whnf
  · exact .inl (pi (by simp only [List.length_map] at h2; simp only [chkF, h2, Bool.or_true, cond_true]))
  have hst : chkF l = stsF l.length l := by simp only [List.length_map] at h1 h2; simp only [chkF, h1, h2, Bool.or_false, cond_false]
  have hl : l.length ≤ 16 := by simp at h2; omega
  refine loopM (tyOf_ok _) hmix (by kernel_rfl) [0, 14, 15, 16] [] (fun q vals objs => ∃ (k : Nat), q + k = l.length ∧ objs = [] ∧ vals = [.p (.sl 2 (l.map eS)), .p (.sl 2 (l.map eS)), .p (.i .i64 (l.map eS).length), .p (.i .i64 k)] ∧ chkF l = stsF l.length (l.drop k)) l.length ⟨[], rfl, rfl, rfl, 0, by omega, rfl, rfl, by simpa using hst⟩ ?_
  rintro q vals objs ⟨k, hk, rfl, rfl, hn⟩
  conv => whnf
  refine asplit ?_ ?_ <;> intro g1 <;> conv => whnf
  · have hk1 : k < l.length := by simpa using g1
    obtain ⟨s, hb1⟩ : ∃ s, l[k]? = some s := ⟨l[k], by simp [hk1]⟩
    refine aidx hb1 ?_
    have hs := hb s (List.mem_of_getElem? hb1)
    rw [drop_cons hb1, stsF] at hn
    obtain ⟨kd, brs⟩ := s
    conv => whnf
    refine apc (checkState_spec ⟨kd, brs⟩ _ hs) ?_
    conv => whnf
    refine asplit ?_ ?_ <;> intro g2 <;> conv => whnf
    · exact .inl (pi (by rw [hn]; simp only [List.length_map] at g2 ⊢; simp only [g2, cond_true]))
    · refine ⟨q - 1, by omega, [], rfl, rfl, rfl, k + 1, by omega, rfl, by rw [← inc64 (by omega)]; rfl, ?_⟩
      rw [hn]; simp only [List.length_map] at g2; simp only [g2, cond_false]
  · have : l.drop k = [] := List.drop_eq_nil_of_le (by simpa using g1)
    exact .inl (pi (by rw [hn, this]; rfl))

def dualK (k : Int) : Int := bif k == 1 then 2 else bif k == 2 then 1 else k
def dualS (s : St) : St := ⟨dualK s.kind, s.brs⟩
def dualF (l : List St) : List St × Int := bif chkF l != 0 then ([], chkF l) else (l.map dualS, 0)
/-- small enough to be copied -/
def Fit (l : List St) : Prop := ∀ s ∈ l, s.brs.length * 16 ≤ 140737488355328

theorem dual_spec (l : List St) (hf : Fit l) : APure Try.prog 8 [.p (.sl 2 (l.map eS))] (.tup [.p (.sl 2 ((dualF l).1.map eS)), .p (.i .i64 (dualF l).2)]) := by
  refine APure.intro (tyOf_ok Try.prog) hmix Try.func8 rfl (by rfl) (by kernel_rfl) (by show 1 ≤ _; decide) rfl ?_
  conv => whnf
  refine apc (check_spec l (fun s hs => by have := hf s hs; omega)) ?_
  conv => whnf
  refine asplit ?_ ?_ <;> intro h1 <;> conv => whnf
  · have e1 : dualF l = ([], chkF l) := by simp only [dualF, h1, cond_true]
    rw [e1]; exact .inl rfl
  have hd : dualF l = (l.map dualS, 0) := by simp only [dualF, h1, cond_false]
  have hl : l.length ≤ 16 := by
    have h0 : chkF l = 0 := by simpa using h1
    unfold chkF at h0
    cases hq : (decide ((l.length : Int) < 1) || decide ((l.length : Int) > 16)) with
    | true => rw [hq] at h0; simp at h0
    | false => simp at hq; omega
  rw [hd]
  refine lp_nil 5 1 rfl ?_
  refine loopM (tyOf_ok _) hmix (by kernel_rfl) [5, 13, 14, 15] [] (fun q vals objs => ∃ (k : Nat), q + k = l.length ∧ objs = [] ∧ vals = [.so 2 (((l.take k).map dualS).map eS), .p (.sl 2 (l.map eS)), .p (.i .i64 (l.map eS).length), .p (.i .i64 k)]) l.length ⟨[], rfl, rfl, rfl, 0, by omega, rfl, rfl⟩ ?_
  rintro q vals objs ⟨k, hk, rfl, rfl⟩
  conv => whnf
  refine asplit ?_ ?_ <;> intro g1 <;> conv => whnf
  · have hk1 : k < l.length := by simpa using g1
    obtain ⟨s, hb1⟩ : ∃ s, l[k]? = some s := ⟨l[k], by simp [hk1]⟩
    refine aidx hb1 ?_
    have hs := hf s (List.mem_of_getElem? hb1)
    have hts := take_snoc hb1
    obtain ⟨kd, brs⟩ := s
    have fin : ∀ kd', kd' = dualK kd → ((l.take (k + 1)).map dualS).map eS = ((l.take k).map dualS).map eS ++ [.agg [.i .i64 kd', .sl 2 (brs.map eB)]] := by
      intro kd' hkd; rw [hts]; simp [dualS, eS, hkd]
    conv => whnf
    have room : ∀ (ys : List PV), ys.length = k → (ys.length + 1) * 32 ≤ 140737488355328 := fun ys hy => by omega
    have hlk : (((l.take k).map dualS).map eS).length = k := by simp; omega
    refine asplit ?_ ?_ <;> intro g2 <;> conv => whnf
    · refine apc (clone_spec _ (by simpa using hs)) ?_
      conv => whnf
      refine aneed (room _ hlk) ?_
      conv => whnf
      refine ⟨q - 1, by omega, [], rfl, rfl, rfl, k + 1, by omega, rfl, ?_⟩
      rw [← inc64 (by omega), fin 2 (by dsimp only at g2; simp only [dualK, g2, cond_true])]; rfl
    refine asplit ?_ ?_ <;> intro g3 <;> conv => whnf
    · refine apc (clone_spec _ (by simpa using hs)) ?_
      conv => whnf
      refine aneed (room _ hlk) ?_
      conv => whnf
      refine ⟨q - 1, by omega, [], rfl, rfl, rfl, k + 1, by omega, rfl, ?_⟩
      rw [← inc64 (by omega), fin 1 (by dsimp only at g2 g3; simp only [dualK, g2, g3, cond_true, cond_false])]; rfl
    · refine apc (clone_spec _ (by simpa using hs)) ?_
      conv => whnf
      refine aneed (room _ hlk) ?_
      conv => whnf
      refine ⟨q - 1, by omega, [], rfl, rfl, rfl, k + 1, by omega, rfl, ?_⟩
      rw [← inc64 (by omega), fin kd (by dsimp only at g2 g3; simp only [dualK, g2, g3, cond_false])]; rfl
  · have : l.take k = l := List.take_of_length_le (by simpa using g1)
    rw [this]
    exact .inl rfl

/-- the words, one by one -/
def aftF (l : List St) : Int → List Wd → Int × Int
  | at', [] => (at', 0)
  | at', w :: r => match l[at'.toNat]? with
    | none => (0, 0)
    | some s => bif s.kind == 3 || !(w.send == (s.kind == 1)) then (0, 8) else bif nextF s.brs w.msg < 0 then (0, 4) else aftF l (nextF s.brs w.msg) r
def afterF (l : List St) (ws : List Wd) : Int × Int := bif chkF l != 0 then (0, chkF l) else aftF l 0 ws

theorem brsF_ok {n : Int} : ∀ (r : List Br) (last : Int), brsF n last r = 0 → ∀ b ∈ r, 0 ≤ b.nxt ∧ b.nxt < n
  | [], _, _, b, hb => by cases hb
  | c :: r, last, h, b, hb => by
    rw [brsF] at h
    cases h1 : (decide (c.msg < 0) || (decide (c.msg > 20) || (decide (c.nxt < 0) || decide (c.nxt ≥ n)))) with
    | true => rw [h1] at h; simp at h
    | false =>
      rw [h1, cond_false] at h
      cases h2 : decide (c.msg ≤ last) with
      | true => rw [h2] at h; simp at h
      | false =>
        rw [h2, cond_false] at h
        rcases List.mem_cons.1 hb with rfl | hb
        · simp at h1; omega
        · exact brsF_ok r c.msg h b hb
theorem stF_ok {s : St} {n : Int} (h : stF s n = 0) : s.brs.length ≤ 6 ∧ brsF n (-1) s.brs = 0 := by
  unfold stF at h
  cases h1 : (decide (s.kind < 1) || (decide (s.kind > 3) || !((s.kind == 3) == ((s.brs.length : Int) == 0)))) with
  | true => rw [h1] at h; simp at h
  | false =>
    rw [h1, cond_false] at h
    cases h2 : decide ((s.brs.length : Int) > 6) with
    | true => rw [h2] at h; simp at h
    | false => rw [h2, cond_false] at h; simp at h2; exact ⟨by omega, h⟩
theorem stsF_ok {n : Int} : ∀ (r : List St), stsF n r = 0 → ∀ s ∈ r, stF s n = 0
  | [], _, s, hs => by cases hs
  | c :: r, h, s, hs => by
    rw [stsF] at h
    cases h1 : (stF c n != 0) with
    | true => rw [h1, cond_true] at h; simp [h] at h1
    | false =>
      rw [h1, cond_false] at h
      rcases List.mem_cons.1 hs with rfl | hs
      · simpa using h1
      · exact stsF_ok r h s hs
theorem chkF_ok {l : List St} (h : chkF l = 0) : 1 ≤ l.length ∧ l.length ≤ 16 ∧ ∀ s ∈ l, stF s l.length = 0 := by
  unfold chkF at h
  cases h1 : (decide ((l.length : Int) < 1) || decide ((l.length : Int) > 16)) with
  | true => rw [h1] at h; simp at h
  | false => rw [h1, cond_false] at h; simp at h1; exact ⟨by omega, by omega, stsF_ok l h⟩
theorem nextF_ok {n : Int} : ∀ (r : List Br) (m : Int), (∀ b ∈ r, 0 ≤ b.nxt ∧ b.nxt < n) → nextF r m < n ∨ nextF r m = -1
  | [], m, _ => .inr rfl
  | b :: r, m, h => by
    rw [nextF]
    split
    · exact .inl (h b (by simp)).2
    · exact nextF_ok r m (fun c hc => h c (by simp [hc]))

theorem after_spec (l : List St) (ws : List Wd) (hf : Fit l) (hw : ws.length < 9223372036854775807) : APure Try.prog 9 [.p (.sl 2 (l.map eS)), .p (.sl 2 (ws.map eW))] (.tup [.p (.i .i64 (afterF l ws).1), .p (.i .i64 (afterF l ws).2)]) := by
  refine APure.intro (tyOf_ok Try.prog) hmix Try.func9 rfl (by rfl) (by kernel_rfl) (by show 2 ≤ _; decide) rfl ?_
  conv => whnf
  refine apc (check_spec l (fun s hs => by have := hf s hs; omega)) ?_
  conv => whnf
  refine asplit ?_ ?_ <;> intro h1 <;> conv => whnf
  · have e1 : afterF l ws = (0, chkF l) := by simp only [afterF, h1, cond_true]
    rw [e1]; exact .inl rfl
  have hd : afterF l ws = aftF l 0 ws := by simp only [afterF, h1, cond_false]
  obtain ⟨hl1, hl2, hst⟩ := chkF_ok (show chkF l = 0 by simpa using h1)
  rw [hd]
  refine loopM (tyOf_ok _) hmix (by kernel_rfl) [0, 7, 16, 17, 18] [] (fun q vals objs => ∃ (k : Nat) (at' : Int), q + k = ws.length ∧ objs = [] ∧ vals = [.p (.sl 2 (l.map eS)), .p (.i .i64 at'), .p (.sl 2 (ws.map eW)), .p (.i .i64 (ws.map eW).length), .p (.i .i64 k)] ∧ 0 ≤ at' ∧ at' < l.length ∧ aftF l 0 ws = aftF l at' (ws.drop k)) ws.length ⟨[], rfl, rfl, rfl, 0, 0, by omega, rfl, rfl, by omega, by omega, by simp⟩ ?_
  rintro q vals objs ⟨k, at', hk, rfl, rfl, ha0, ha1, hn⟩
  conv => whnf
  refine asplit ?_ ?_ <;> intro g1 <;> conv => whnf
  · have hk1 : k < ws.length := by simpa using g1
    obtain ⟨w, hb1⟩ : ∃ w, ws[k]? = some w := ⟨ws[k], by simp [hk1]⟩
    obtain ⟨s, hs1⟩ : ∃ s, l[at'.toNat]? = some s := ⟨_, List.getElem?_eq_getElem (by omega)⟩
    have hss := hst s (List.mem_of_getElem? hs1)
    obtain ⟨hb6, hbr⟩ := stF_ok hss
    have hno := nextF_ok s.brs w.msg (brsF_ok s.brs _ hbr)
    rw [drop_cons hb1, aftF, hs1] at hn
    refine aidx hb1 ?_
    obtain ⟨wsend, wmsg⟩ := w
    conv => whnf
    refine aidxI ha0 hs1 ?_
    obtain ⟨kd, brs⟩ := s
    conv => whnf
    refine asplit ?_ ?_ <;> intro g2 <;> conv => whnf
    · rw [hn]; dsimp only at g2 ⊢; simp only [g2, Bool.true_or, cond_true]; exact .inl rfl
    refine asplit ?_ ?_ <;> intro g3 <;> conv => whnf
    · rw [hn]; dsimp only at g3 ⊢; simp only [g3, Bool.or_true, cond_true]; exact .inl rfl
    refine apc (next_spec ⟨kd, brs⟩ _ (by dsimp only at hb6 ⊢; omega)) ?_
    conv => whnf
    refine asplit ?_ ?_ <;> intro g4 <;> conv => whnf
    · rw [hn]; dsimp only at g2 g3 g4 ⊢; simp only [g2, g3, g4, Bool.or_false, cond_true, cond_false]; exact .inl rfl
    · have g4' : ¬ nextF brs wmsg < 0 := by simpa using g4
      dsimp only at hno
      refine ⟨q - 1, by omega, [], rfl, rfl, rfl, k + 1, nextF brs wmsg, by omega, rfl, by rw [← inc64 (by omega)]; rfl, by omega, by omega, ?_⟩
      rw [hn]; dsimp only at g2 g3 g4 ⊢; simp only [g2, g3, g4, Bool.or_false, cond_false]
  · have : ws.drop k = [] := List.drop_eq_nil_of_le (by simpa using g1)
    rw [hn, this]; exact .inl rfl

theorem sessions_spec : APure Try.prog 7 [] (.p (.b true)) := by
  refine APure.intro (tyOf_ok Try.prog) hmix Try.func7 rfl (by rfl) (by kernel_rfl) (by show 0 ≤ _; omega) rfl ?_
  conv => whnf
  refine apc (dual_spec [⟨1, [⟨1, 1⟩]⟩, ⟨3, []⟩] (fun s hs => by
    simp only [List.mem_cons, List.not_mem_nil, or_false] at hs
    rcases hs with rfl | rfl <;> simp)) ?_
  have e : dualF [⟨1, [⟨1, 1⟩]⟩, ⟨3, []⟩] = ([⟨2, [⟨1, 1⟩]⟩, ⟨3, []⟩], 0) := by rfl
  rw [e]
  conv => whnf
  refine ⟨_, by decide, rfl, ?_⟩
  conv => whnf
  exact .inl rfl

def turn (w : Wd) : Wd := ⟨!w.send, w.msg⟩

/-- THE PLAIN LAW -/
theorem chkF_dual (l : List St) (h : chkF l = 0) : chkF (l.map dualS) = 0 := by
  have hst : ∀ s n, stF s n = 0 → stF (dualS s) n = 0 := by
    intro s n hs
    obtain ⟨h1, h2⟩ := stF_ok hs
    unfold stF at hs ⊢
    cases q : (decide (s.kind < 1) || (decide (s.kind > 3) || !((s.kind == 3) == ((s.brs.length : Int) == 0)))) with
    | true => rw [q] at hs; simp at hs
    | false =>
      simp only [Bool.or_eq_false_iff, decide_eq_false_iff_not, Bool.not_eq_false'] at q
      obtain ⟨q1, q2, q3⟩ := q
      have hk : s.kind = 1 ∨ s.kind = 2 ∨ s.kind = 3 := by omega
      have h6 : decide ((s.brs.length : Int) > 6) = false := by simp; omega
      have d1 : ((dualS s).kind == 3) = (s.kind == 3) := by rcases hk with hk | hk | hk <;> simp [dualS, dualK, hk]
      have d2 : decide ((dualS s).kind < 1) = false := by rcases hk with hk | hk | hk <;> simp [dualS, dualK, hk]
      have d3 : decide ((dualS s).kind > 3) = false := by rcases hk with hk | hk | hk <;> simp [dualS, dualK, hk]
      have d4 : (dualS s).brs = s.brs := rfl
      rw [d1, d2, d3, d4, q3, h6]
      exact h2
  have hsts : ∀ (n : Int) (r : List St), stsF n r = 0 → stsF n (r.map dualS) = 0 := by
    intro n r
    induction r with
    | nil => intro _; rfl
    | cons c r ih =>
      intro hr
      have hc := stsF_ok (c :: r) hr c (by simp)
      rw [stsF] at hr
      simp only [hc, bne_self_eq_false, cond_false] at hr
      rw [List.map_cons, stsF, hst c n hc]
      simpa using ih hr
  unfold chkF at h ⊢
  rw [List.length_map]
  cases q : (decide ((l.length : Int) < 1) || decide ((l.length : Int) > 16)) with
  | true => rw [q] at h; simp at h
  | false => rw [q, cond_false] at h; rw [cond_false]; exact hsts _ _ h

theorem aftF_dual (l : List St) (hl : ∀ s ∈ l, stF s l.length = 0) : ∀ (ws : List Wd) (at' : Int), aftF (l.map dualS) at' (ws.map turn) = aftF l at' ws
  | [], at' => rfl
  | w :: r, at' => by
    rw [List.map_cons, aftF, aftF, List.getElem?_map]
    cases hq : l[at'.toNat]? with
    | none => rfl
    | some s =>
      have hs := hl s (List.mem_of_getElem? hq)
      have hk : s.kind = 1 ∨ s.kind = 2 ∨ s.kind = 3 := by
        unfold stF at hs
        cases q : (decide (s.kind < 1) || (decide (s.kind > 3) || !((s.kind == 3) == ((s.brs.length : Int) == 0)))) with
        | true => rw [q] at hs; simp at hs
        | false => simp at q; omega
      have ih := aftF_dual l hl r (nextF s.brs w.msg)
      simp only [Option.map_some]
      obtain ⟨ws, wm⟩ := w
      rcases hk with hk | hk | hk <;> cases ws <;> simp [dualS, dualK, hk, turn, ih] <;> rfl

theorem after_dual (l : List St) (ws : List Wd) (h : chkF l = 0) : afterF (l.map dualS) (ws.map turn) = afterF l ws := by
  unfold afterF
  rw [chkF_dual l h, h]
  simp only [bne_self_eq_false, cond_false]
  exact aftF_dual l (chkF_ok h).2.2 ws 0

theorem law_spec (l : List St) (ws : List Wd) (hf : Fit l) (hw : ws.length * 16 ≤ 140737488351232) : APure Try.prog 3 [.p (.sl 2 (l.map eS)), .p (.sl 2 (ws.map eW))] (.p (.b true)) := by
  refine APure.intro (tyOf_ok Try.prog) hmix Try.func3 rfl (by rfl) (by kernel_rfl) (by show 2 ≤ _; decide) rfl ?_
  conv => whnf
  refine apc sessions_spec ?_
  conv => whnf
  refine apc (dual_spec l hf) ?_
  conv => whnf
  refine asplit ?_ ?_ <;> intro h1 <;> conv => whnf
  · have e1 : (dualF l).1 = [] := by
      unfold dualF at h1 ⊢
      cases q : (chkF l != 0) with
      | true => rfl
      | false => rw [q] at h1; simp at h1
    exact .inl (pb (by rw [e1]; rfl))
  have h0 : chkF l = 0 := by
    unfold dualF at h1
    cases q : (chkF l != 0) with
    | true => rw [q] at h1; simp at h1; simp [h1] at q
    | false => simpa using q
  have hd : dualF l = (l.map dualS, 0) := by simp [dualF, h0]
  have hdl : (dualF l).1 = l.map dualS := by rw [hd]
  rw [hdl]
  refine lp_nil 7 1 rfl ?_
  refine loopM (tyOf_ok _) hmix (by kernel_rfl) [0, 1, 5, 7, 26, 27, 28] [] (fun q vals objs => ∃ (k : Nat), q + k = ws.length ∧ objs = [] ∧ vals = [.p (.sl 2 (l.map eS)), .p (.sl 2 (ws.map eW)), .p (.sl 2 ((l.map dualS).map eS)), .so 2 (((ws.take k).map turn).map eW), .p (.sl 2 (ws.map eW)), .p (.i .i64 (ws.map eW).length), .p (.i .i64 k)]) ws.length ⟨[], rfl, rfl, rfl, 0, by omega, rfl, rfl⟩ ?_
  rintro q vals objs ⟨k, hk, rfl, rfl⟩
  conv => whnf
  refine asplit ?_ ?_ <;> intro g1 <;> conv => whnf
  · have hk1 : k < ws.length := by simpa using g1
    obtain ⟨w, hb1⟩ : ∃ w, ws[k]? = some w := ⟨ws[k], by simp [hk1]⟩
    refine aidx hb1 ?_
    have hts := take_snoc hb1
    obtain ⟨wsend, wmsg⟩ := w
    conv => whnf
    have hlk : (((ws.take k).map turn).map eW).length = k := by simp; omega
    refine aneed (show ((((ws.take k).map turn).map eW).length + 1) * 16 ≤ 140737488355328 by omega) ?_
    conv => whnf
    refine ⟨q - 1, by omega, [], rfl, rfl, rfl, k + 1, by omega, rfl, ?_⟩
    rw [← inc64 (by omega), hts]
    simp only [List.map_append]
    rfl
  · have ht : ws.take k = ws := List.take_of_length_le (by simpa using g1)
    rw [ht]
    refine apc (after_spec l ws hf (by omega)) ?_
    conv => whnf
    refine apc (after_spec (l.map dualS) (ws.map turn) (fun s hs => by
      obtain ⟨s0, hs0, rfl⟩ := List.mem_map.1 hs
      exact hf s0 hs0) (by simp; omega)) ?_
    rw [after_dual l ws h0]
    conv => whnf
    refine asplit ?_ ?_ <;> intro g2 <;> conv => whnf
    · exact .inl (pb (by simp))
    · simp at g2
end SE
