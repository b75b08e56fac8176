/-
  DERIVED. Contracts of functions that the law reaches, and the law, for every input. No conditions.
-/
import Derived.Test.YtcgaadhbnckjbaaUX3
open Go Go.AM Go.Proofs
set_option maxRecDepth 100000
namespace KK
/-! plain law of unification: what a store does to a type -/
def qN (n : ByteArray) : Prop := hpF n qm = true
def va (n : ByteArray) : Ty := .mk 5 n []
theorem pure_cases {k : Int} {n : ByteArray} {xs : List Ty} (h : pureF (.mk k n xs) = true) : (k = 5 ∧ xs = []) ∨ (k ≠ 5 ∧ pureFs xs = true) := by
  rw [pureF] at h
  cases hk : k != 5 with
  | true =>
    rw [hk] at h
    simp only [cond_true] at h
    exact .inr ⟨by simpa using hk, h⟩
  | false =>
    rw [hk] at h
    simp only [cond_false] at h
    refine .inl ⟨by simpa using hk, ?_⟩
    cases hl : xs.length == 0 with
    | true => exact List.eq_nil_of_length_eq_zero (by simpa using hl)
    | false => rw [hl] at h; cases h
theorem pure_va (n : ByteArray) : pureF (va n) = true := rfl
theorem pure_mk {k : Int} {n : ByteArray} {xs : List Ty} (hk : k ≠ 5) (h : pureFs xs = true) : pureF (.mk k n xs) = true := by
  rw [pureF, show (k != 5) = true by simpa using hk]; exact h
theorem pureFs_mem : ∀ {l : List Ty}, pureFs l = true ↔ ∀ t ∈ l, pureF t = true
  | [] => by simp [pureFs]
  | a :: r => by rw [pureFs, Bool.and_eq_true, pureFs_mem]; simp
theorem unk_va (n : ByteArray) : unkB (va n) = hpF n qm := rfl
theorem unk_no {k : Int} {n : ByteArray} {xs : List Ty} (hk : k ≠ 5) : unkB (.mk k n xs) = false := by
  rw [unkB, show (k == 5) = false by simpa using hk]; rfl
theorem has_va (x n : ByteArray) : has1 x (va n) = true ↔ n = x := by
  show (bif (5 == 5 : Bool) && n == x then true else has1s x []) = true ↔ _
  rw [has1s]
  cases hq : n == x with
  | true => simp [(beq_bytes n x).1 hq]
  | false =>
    simp
    intro e; subst e; rw [(beq_bytes n n).2 rfl] at hq; cases hq
theorem has_mk {x : ByteArray} {k : Int} {n : ByteArray} {xs : List Ty} (hk : k ≠ 5) : has1 x (.mk k n xs) = has1s x xs := by
  rw [has1, show (k == 5) = false by simpa using hk]; rfl
theorem has1s_mem {x : ByteArray} : ∀ {l : List Ty}, has1s x l = true ↔ ∃ t ∈ l, has1 x t = true
  | [] => by simp [has1s]
  | a :: r => by rw [has1s, Bool.or_eq_true, has1s_mem]; simp
/-- a change of types that goes into the parts -/
def NH (θ : Ty → Ty) : Prop := ∀ k n xs, k ≠ 5 → θ (.mk k n xs) = .mk k n (xs.map θ)
theorem nh_ext {θ φ : Ty → Ty} (h1 : NH θ) (h2 : NH φ) (t : Ty) : pureF t = true → (∀ n, has1 n t = true → θ (va n) = φ (va n)) → θ t = φ t :=
  Ty.ind (Q := fun t => pureF t = true → (∀ n, has1 n t = true → θ (va n) = φ (va n)) → θ t = φ t) (fun k n xs ih hp hv => by
    rcases pure_cases hp with ⟨rfl, rfl⟩ | ⟨hk, hps⟩
    · exact hv n ((has_va n n).2 rfl)
    · rw [h1 k n xs hk, h2 k n xs hk]
      congr 1
      refine List.map_congr_left fun a ha => ih a ha (pureFs_mem.1 hps a ha) fun x hx => hv x ?_
      rw [has_mk hk]; exact has1s_mem.2 ⟨a, ha, hx⟩) t
theorem nh_comp {θ φ : Ty → Ty} (h1 : NH θ) (h2 : NH φ) : NH (fun t => θ (φ t)) := fun k n xs hk => by
  show θ (φ (.mk k n xs)) = _
  rw [h2 k n xs hk, h1 k n _ hk, List.map_map]; rfl
theorem nh_id : NH (fun t => t) := fun k n xs _ => by simp
theorem nh_app (m : TM) : NH (appF m) := fun k n xs hk => by
  rw [appF, show (k == 5) = false by simpa using hk, cond_false]
  show Ty.mk k n (appF.appFs m xs) = _
  rw [appFs_map]
theorem nh_sub (n : ByteArray) (b : Ty) : NH (sub1 n b) := fun k x xs hk => by
  rw [sub1, show (k == 5) = false by simpa using hk, Bool.false_and, cond_false, sub1s_map]
theorem nh_put (ns : List ByteArray) (l : List Ty) : NH (putF ns l) := fun k x xs hk => by
  rw [putF, show (k == 5) = false by simpa using hk, Bool.false_and, cond_false, putFs_map]
theorem app_va (m : TM) (n : ByteArray) : appF m (va n) = (slook n m).getD (va n) := by
  rw [va, appF]
  show (match slook n m with | some x => x | none => Ty.mk 5 n (appF.appFs m [])) = _
  cases slook n m <;> rfl
theorem sub_va (n : ByteArray) (b : Ty) (x : ByteArray) : sub1 n b (va x) = bif x == n then b else va x := by
  rw [va, sub1]
  show (bif (true && x == n) then b else Ty.mk 5 x (sub1.sub1s n b [])) = _
  rw [Bool.true_and]; rfl
theorem pure_sub {n : ByteArray} {b : Ty} (hb : pureF b = true) (t : Ty) : pureF t = true → pureF (sub1 n b t) = true :=
  Ty.ind (Q := fun t => pureF t = true → pureF (sub1 n b t) = true) (fun k x xs ih hp => by
    rcases pure_cases hp with ⟨rfl, rfl⟩ | ⟨hk, hps⟩
    · show pureF (sub1 n b (va x)) = true
      rw [sub_va]
      cases x == n with
      | true => exact hb
      | false => rfl
    · rw [nh_sub n b k x xs hk]
      refine pure_mk hk (pureFs_mem.2 fun t ht => ?_)
      obtain ⟨a, ha, rfl⟩ := List.mem_map.1 ht
      exact ih a ha (pureFs_mem.1 hps a ha)) t
theorem has_sub {x n : ByteArray} {b : Ty} (t : Ty) : pureF t = true → has1 x (sub1 n b t) = true → (has1 x t = true ∧ x ≠ n) ∨ has1 x b = true :=
  Ty.ind (Q := fun t => pureF t = true → has1 x (sub1 n b t) = true → (has1 x t = true ∧ x ≠ n) ∨ has1 x b = true) (fun k y xs ih hp h => by
    rcases pure_cases hp with ⟨rfl, rfl⟩ | ⟨hk, hps⟩
    · replace h : has1 x (sub1 n b (va y)) = true := h
      rw [sub_va] at h
      cases hq : y == n with
      | true => rw [hq] at h; exact .inr h
      | false =>
        rw [hq, cond_false] at h
        have e := (has_va x y).1 h
        subst e
        exact .inl ⟨h, fun e => by subst e; rw [(beq_bytes y y).2 rfl] at hq; cases hq⟩
    · rw [nh_sub n b k y xs hk, has_mk hk] at h
      obtain ⟨t, ht, h⟩ := has1s_mem.1 h
      obtain ⟨a, ha, rfl⟩ := List.mem_map.1 ht
      rcases ih a ha (pureFs_mem.1 hps a ha) h with ⟨h1, h2⟩ | h1
      · exact .inl ⟨by rw [has_mk hk]; exact has1s_mem.2 ⟨a, ha, h1⟩, h2⟩
      · exact .inr h1) t
mutual
theorem occ_has {n : ByteArray} (hn : qN n) : ∀ (t : Ty), pureF t = true → occF n t = has1 n t
  | .mk k x xs, hp => by
    rcases pure_cases hp with ⟨rfl, rfl⟩ | ⟨hk, hps⟩
    · rw [occF]
      show (bif unkB (va x) then x == n else occFs n []) = has1 n (va x)
      rw [unk_va, occFs]
      cases hq : x == n with
      | true =>
        have e := (beq_bytes x n).1 hq
        subst e
        rw [(has_va x x).2 rfl, show hpF x qm = true from hn]; rfl
      | false =>
        have : has1 n (va x) = false := by
          cases hh : has1 n (va x) with
          | false => rfl
          | true => have e := (has_va n x).1 hh; subst e; rw [(beq_bytes x x).2 rfl] at hq; cases hq
        rw [this]; cases hpF x qm <;> rfl
    · rw [occF, unk_no hk, cond_false, has_mk hk]
      exact occs_has hn xs hps
theorem occs_has {n : ByteArray} (hn : qN n) : ∀ (l : List Ty), pureFs l = true → occFs n l = has1s n l
  | [], _ => by rw [occFs, has1s]
  | t :: r, h => by
    rw [pureFs, Bool.and_eq_true] at h
    rw [occFs, has1s, occ_has hn t h.1, occs_has hn r h.2]
    cases has1 n t <;> rfl
end
/-- what holds of a store -/
structure Inv (m : TM) : Prop where
  good : Good m
  q : ∀ p ∈ m, qN p.1 ∧ pureF p.2 = true
  idem : ∀ p ∈ m, ∀ p' ∈ m, has1 p'.1 p.2 = false
theorem Inv.nil : Inv [] := ⟨⟨List.nodup_nil, by simp⟩, by simp, by simp⟩
theorem look_key {m : TM} {x : ByteArray} (h : slook x m = none) : ∀ p ∈ m, p.1 ≠ x := by
  induction m with
  | nil => simp
  | cons a r ih =>
    obtain ⟨k, v⟩ := a
    rw [slook] at h
    cases hq : x == k with
    | true => rw [hq] at h; cases h
    | false =>
      rw [hq, cond_false] at h
      intro p hp
      rcases List.mem_cons.1 hp with rfl | hp
      · intro e; simp only at e; subst e; rw [(beq_bytes k k).2 rfl] at hq; cases hq
      · exact ih h p hp
theorem app_pure {m : TM} (hm : Inv m) (t : Ty) : pureF t = true → pureF (appF m t) = true :=
  Ty.ind (Q := fun t => pureF t = true → pureF (appF m t) = true) (fun k x xs ih hp => by
    rcases pure_cases hp with ⟨rfl, rfl⟩ | ⟨hk, hps⟩
    · show pureF (appF m (va x)) = true
      rw [app_va]
      cases hq : slook x m with
      | none => rfl
      | some v => exact (hm.q _ (slook_mem hq)).2
    · rw [nh_app m k x xs hk]
      refine pure_mk hk (pureFs_mem.2 fun t ht => ?_)
      obtain ⟨a, ha, rfl⟩ := List.mem_map.1 ht
      exact ih a ha (pureFs_mem.1 hps a ha)) t
theorem has_app {m : TM} {x : ByteArray} (t : Ty) : pureF t = true → has1 x (appF m t) = true → (has1 x t = true ∧ slook x m = none) ∨ ∃ p ∈ m, has1 x p.2 = true :=
  Ty.ind (Q := fun t => pureF t = true → has1 x (appF m t) = true → (has1 x t = true ∧ slook x m = none) ∨ ∃ p ∈ m, has1 x p.2 = true) (fun k y xs ih hp h => by
    rcases pure_cases hp with ⟨rfl, rfl⟩ | ⟨hk, hps⟩
    · replace h : has1 x (appF m (va y)) = true := h
      rw [app_va] at h
      cases hq : slook y m with
      | none =>
        rw [hq] at h
        have e := (has_va x y).1 h
        subst e
        exact .inl ⟨h, hq⟩
      | some v => rw [hq] at h; exact .inr ⟨_, slook_mem hq, h⟩
    · rw [nh_app m k y xs hk, has_mk hk] at h
      obtain ⟨t, ht, h⟩ := has1s_mem.1 h
      obtain ⟨a, ha, rfl⟩ := List.mem_map.1 ht
      rcases ih a ha (pureFs_mem.1 hps a ha) h with ⟨h1, h2⟩ | h1
      · exact .inl ⟨by rw [has_mk hk]; exact has1s_mem.2 ⟨a, ha, h1⟩, h2⟩
      · exact .inr h1) t
theorem look_of_mem {m : TM} (p : ByteArray × Ty) (hp : p ∈ m) : slook p.1 m ≠ none := fun h => look_key h p hp rfl
theorem app_free {m : TM} (hm : Inv m) {t : Ty} (ht : pureF t = true) : ∀ p ∈ m, has1 p.1 (appF m t) = false := fun p hp => by
  cases hh : has1 p.1 (appF m t) with
  | false => rfl
  | true =>
    rcases has_app t ht hh with ⟨_, h⟩ | ⟨p', hp', h⟩
    · exact absurd h (look_of_mem p hp)
    · rw [hm.idem p' hp' p hp] at h; cases h
theorem app_id {m : TM} {t : Ty} (ht : pureF t = true) (h : ∀ p ∈ m, has1 p.1 t = false) : appF m t = t :=
  nh_ext (nh_app m) nh_id t ht fun n hn => by
    rw [app_va]
    cases hq : slook n m with
    | none => rfl
    | some v => have := h _ (slook_mem hq); simp only at this; rw [this] at hn; cases hn
theorem app_twice {m : TM} (hm : Inv m) {t : Ty} (ht : pureF t = true) : appF m (appF m t) = appF m t := app_id (app_pure hm t ht) (app_free hm ht)
theorem head_inv {m : TM} (hm : Inv m) {a : Ty} (ha : pureF a = true) : pureF (headF m a) = true ∧ appF m (headF m a) = appF m a ∧ (∀ n, headF m a = va n → slook n m = none) ∧ ((headF m a = a) ∨ ∃ p ∈ m, headF m a = p.2) := by
  obtain ⟨k, n, xs⟩ := a
  rcases pure_cases ha with ⟨rfl, rfl⟩ | ⟨hk, hps⟩
  · have e : headF m (.mk 5 n []) = (slook n m).getD (va n) := by rw [headF]; rfl
    rw [e]
    have e2 : appF m (.mk 5 n []) = (slook n m).getD (va n) := app_va m n
    rw [e2]
    cases hq : slook n m with
    | none =>
      refine ⟨rfl, by rw [Option.getD_none, app_va, hq]; rfl, fun x hx => ?_, .inl rfl⟩
      have hx : va n = va x := hx
      cases hx; exact hq
    | some v =>
      have hmem := slook_mem hq
      have hv := (hm.q _ hmem).2
      simp only [Option.getD_some]
      refine ⟨hv, app_id hv fun p hp => hm.idem _ hmem p hp, fun x hx => ?_, .inr ⟨_, hmem, rfl⟩⟩
      subst hx
      cases hs : slook x m with
      | none => rfl
      | some w => have := hm.idem _ hmem _ (slook_mem hs); simp only at this; rw [(has_va x x).2 rfl] at this; cases this
  · have e : headF m (.mk k n xs) = .mk k n xs := by rw [headF, show (k == 5) = false by simpa using hk]; rfl
    rw [e]
    refine ⟨ha, rfl, fun x hx => ?_, .inl rfl⟩
    cases hx; exact absurd rfl hk
/-- bind -/
theorem sput_new {m : TM} {n : ByteArray} {b : Ty} (h : slook n m = none) : sput n b m = m ++ [(n, b)] := by
  induction m with
  | nil => rfl
  | cons a r ih =>
    obtain ⟨k, v⟩ := a
    rw [slook] at h
    rw [sput]
    cases hq : n == k with
    | true => rw [hq] at h; cases h
    | false => rw [hq, cond_false] at h; rw [cond_false, ih h]; rfl
theorem look_upd (n x : ByteArray) (b : Ty) : ∀ (l : TM), slook x (l.map (updE n b)) = (slook x l).map fun v => bif x == n then v else sub1 n b v
  | [] => rfl
  | (k, v) :: r => by
    rw [List.map_cons, slook]
    cases hq : x == k with
    | true =>
      have e := (beq_bytes x k).1 hq
      subst e
      have h1 : updE n b (x, v) = (x, bif x == n then v else sub1 n b v) := by
        unfold updE; simp only; cases x == n <;> rfl
      rw [h1, slook, hq]; rfl
    | false =>
      have h1 : (updE n b (k, v)).1 = k := upd_key n b (k, v)
      rcases hu : updE n b (k, v) with ⟨k', v'⟩
      rw [hu] at h1
      simp only at h1
      subst h1
      rw [slook, hq, cond_false, cond_false, look_upd n x b r]
theorem bind_case {m : TM} {n : ByteArray} {t : Ty} : (bindF m n t = (18, m) ∧ occF n (appF m t) = true) ∨ (occF n (appF m t) = false ∧ ((bindF m n t).1 = 0 ∨ (bindF m n t).1 = 2) ∧ (bindF m n t).2 = (sput n (appF m t) m).map (updE n (appF m t))) := by
  unfold bindF
  cases occF n (appF m t) with
  | true => exact .inl ⟨rfl, rfl⟩
  | false =>
    refine .inr ⟨rfl, ?_, rfl⟩
    cases (sput n (appF m t) m).any (bigE n (appF m t)) with
    | true => exact .inr rfl
    | false => exact .inl rfl
theorem bind_look {m : TM} {n : ByteArray} {t : Ty} (hk : slook n m = none) (ho : occF n (appF m t) = false) (x : ByteArray) :
    slook x (bindF m n t).2 = bif x == n then some (appF m t) else (slook x m).map (sub1 n (appF m t)) := by
  have : (bindF m n t).2 = (sput n (appF m t) m).map (updE n (appF m t)) := by rcases bind_case (m := m) (n := n) (t := t) with ⟨_, h⟩ | ⟨_, _, h⟩; rw [ho] at h; cases h; exact h
  rw [this, look_upd, slook_sput]
  cases hq : x == n with
  | true => rfl
  | false => rfl
theorem bind_app {m : TM} {n : ByteArray} {t : Ty} (hk : slook n m = none) (ho : occF n (appF m t) = false) {a : Ty} (ha : pureF a = true) :
    appF (bindF m n t).2 a = sub1 n (appF m t) (appF m a) :=
  nh_ext (nh_app _) (nh_comp (nh_sub n (appF m t)) (nh_app m)) a ha fun x _ => by
    show appF _ (va x) = sub1 n (appF m t) (appF m (va x))
    rw [app_va, app_va, bind_look hk ho]
    cases hq : x == n with
    | true =>
      have e := (beq_bytes x n).1 hq
      subst e
      rw [hk, Option.getD_none, sub_va, hq]; rfl
    | false =>
      cases hs : slook x m with
      | none => rw [Option.getD_none, sub_va, hq]; rfl
      | some v => rfl
theorem bind_inv {m : TM} (hm : Inv m) {n : ByteArray} (hn : qN n) {t : Ty} (ht : pureF t = true) (hk : slook n m = none) {m' : TM} (h : bindF m n t = (0, m')) :
    Inv m' ∧ (∀ a, pureF a = true → appF m' a = sub1 n (appF m t) (appF m a)) ∧ (∀ x, slook x m' = bif x == n then some (appF m t) else (slook x m).map (sub1 n (appF m t))) ∧ has1 n (appF m t) = false ∧ m' = (m ++ [(n, appF m t)]).map (updE n (appF m t)) := by
  have ho : occF n (appF m t) = false ∧ m' = (m ++ [(n, appF m t)]).map (updE n (appF m t)) := by
    rcases bind_case (m := m) (n := n) (t := t) with ⟨h1, _⟩ | ⟨h1, _, h2⟩
    · rw [h] at h1; cases h1
    · rw [h, sput_new hk] at h2; exact ⟨h1, h2⟩
  obtain ⟨ho, he⟩ := ho
  have hl := fun x => bind_look (m := m) (n := n) (t := t) hk ho x
  have hap := fun a (ha : pureF a = true) => bind_app (m := m) (n := n) (t := t) hk ho ha
  rw [h] at hl hap
  have hb := app_pure hm t ht
  have hfree := app_free hm ht
  have hbn : has1 n (appF m t) = false := by rw [← occ_has hn _ hb]; exact ho
  refine ⟨⟨bind_good hm.good h, fun p hp => ?_, fun p hp p' hp' => ?_⟩, hap, hl, hbn, he⟩
  · rw [he] at hp
    obtain ⟨q, hq, rfl⟩ := List.mem_map.1 hp
    rw [upd_key]
    have hq' : qN q.1 ∧ pureF q.2 = true := by
      rcases List.mem_append.1 hq with hq | hq
      · exact hm.q q hq
      · simp at hq; subst hq; exact ⟨hn, hb⟩
    refine ⟨hq'.1, ?_⟩
    unfold updE
    cases q.1 == n with
    | true => exact hq'.2
    | false => exact pure_sub hb q.2 hq'.2
  · rw [he] at hp hp'
    obtain ⟨q, hq, rfl⟩ := List.mem_map.1 hp
    obtain ⟨q', hq', rfl⟩ := List.mem_map.1 hp'
    rw [upd_key]
    have hkey : has1 q'.1 (appF m t) = false := by
      rcases List.mem_append.1 hq' with hq' | hq'
      · exact hfree q' hq'
      · simp at hq'; subst hq'; exact hbn
    have hval : (updE n (appF m t) q).2 = appF m t ∨ (q ∈ m ∧ (updE n (appF m t) q).2 = sub1 n (appF m t) q.2) := by
      rcases List.mem_append.1 hq with hq | hq
      · refine .inr ⟨hq, ?_⟩
        unfold updE
        cases hc : q.1 == n with
        | true => exact absurd ((beq_bytes q.1 n).1 hc) (look_key hk q hq)
        | false => rfl
      · simp at hq; subst hq
        refine .inl ?_
        unfold updE
        rw [show (((n, appF m t) : ByteArray × Ty).1 == n) = true from (beq_bytes n n).2 rfl]; rfl
    rcases hval with hv | ⟨hqm, hv⟩
    · rw [hv]; exact hkey
    · rw [hv]
      cases hh : has1 q'.1 (sub1 n (appF m t) q.2) with
      | false => rfl
      | true =>
        rcases has_sub q.2 (hm.q q hqm).2 hh with ⟨h1, h2⟩ | h1
        · rcases List.mem_append.1 hq' with hq' | hq'
          · rw [hm.idem q hqm q' hq'] at h1; cases h1
          · simp at hq'; subst hq'; exact absurd rfl h2
        · rw [hkey] at h1; cases h1
end KK
open Go Go.AM Go.Proofs
set_option maxRecDepth 100000
namespace KK
/-! plain law of unification: it solves, it is most general, it ends -/
def Fin' (m m' : TM) : Prop := ∀ a b, pureF a = true → pureF b = true → appF m a = appF m b → appF m' a = appF m' b
theorem fin_refl (m : TM) : Fin' m m := fun _ _ _ _ h => h
theorem fin_trans {m m1 m2 : TM} (h1 : Fin' m m1) (h2 : Fin' m1 m2) : Fin' m m2 := fun a b ha hb h => h2 a b ha hb (h1 a b ha hb h)
theorem bind_solves {m : TM} (hm : Inv m) {n : ByteArray} (hn : qN n) {t : Ty} (ht : pureF t = true) (hk : slook n m = none) {m' : TM} (h : bindF m n t = (0, m')) :
    Inv m' ∧ Fin' m m' ∧ appF m' (va n) = appF m' t := by
  obtain ⟨h1, h2, h3, h4, _⟩ := bind_inv hm hn ht hk h
  refine ⟨h1, fun a b ha hb e => by rw [h2 a ha, h2 b hb, e], ?_⟩
  rw [h2 t ht, app_va, h3, (beq_bytes n n).2 rfl, cond_true, Option.getD_some, sub1_none n _ _ h4]
theorem unk_of {k : Int} {n : ByteArray} {xs : List Ty} (hp : pureF (.mk k n xs) = true) (h : unkB (.mk k n xs) = true) : k = 5 ∧ xs = [] ∧ qN n := by
  rcases pure_cases hp with ⟨rfl, rfl⟩ | ⟨hk, _⟩
  · exact ⟨rfl, rfl, h⟩
  · rw [unk_no hk] at h; cases h
/-- the cases of a step -/
theorem uniH_cases {f : Nat} {m : TM} {ak : Int} {an : ByteArray} {ax : List Ty} {bk : Int} {bn : ByteArray} {bx : List Ty} (ha : pureF (.mk ak an ax) = true) (hb : pureF (.mk bk bn bx) = true) :
    (uniH f m (.mk ak an ax) (.mk bk bn bx) = some (0, m) ∧ Ty.mk ak an ax = .mk bk bn bx) ∨
    (ak = 5 ∧ ax = [] ∧ qN an ∧ Ty.mk bk bn bx ≠ va an ∧ uniH f m (.mk ak an ax) (.mk bk bn bx) = some (bindF m an (.mk bk bn bx))) ∨
    (bk = 5 ∧ bx = [] ∧ qN bn ∧ Ty.mk ak an ax ≠ va bn ∧ uniH f m (.mk ak an ax) (.mk bk bn bx) = some (bindF m bn (.mk ak an ax))) ∨
    (unkB (.mk ak an ax) = false ∧ unkB (.mk bk bn bx) = false ∧ (ak ≠ bk ∨ an ≠ bn ∨ ax.length ≠ bx.length) ∧ uniH f m (.mk ak an ax) (.mk bk bn bx) = some (12, m)) ∨
    (unkB (.mk ak an ax) = false ∧ unkB (.mk bk bn bx) = false ∧ ak = bk ∧ an = bn ∧ ax.length = bx.length ∧ uniH f m (.mk ak an ax) (.mk bk bn bx) = uniFs f m ax bx) := by
  have bnq : ∀ {x y : ByteArray}, (x == y) = false → x ≠ y := fun h e => by subst e; rw [(beq_bytes _ _).2 rfl] at h; cases h
  rw [uniH]
  cases h1 : unkB (.mk ak an ax) with
  | true =>
    obtain ⟨rfl, rfl, qa⟩ := unk_of ha h1
    rw [cond_true]
    cases h2 : unkB (.mk bk bn bx) with
    | true =>
      obtain ⟨rfl, rfl, qb⟩ := unk_of hb h2
      rw [cond_true]
      cases h3 : an == bn with
      | true =>
        have e := (beq_bytes an bn).1 h3
        subst e
        exact .inl ⟨rfl, rfl⟩
      | false =>
        rw [cond_false]
        cases h4 : gtB an bn with
        | true => exact .inr (.inl ⟨rfl, rfl, qa, fun e => bnq h3 (by cases e; rfl), rfl⟩)
        | false => exact .inr (.inr (.inl ⟨rfl, rfl, qb, fun e => bnq h3 (by cases e; rfl), rfl⟩))
    | false =>
      refine .inr (.inl ⟨rfl, rfl, qa, fun e => ?_, rfl⟩)
      cases e; rw [h1] at h2; cases h2
  | false =>
    rw [cond_false]
    cases h2 : unkB (.mk bk bn bx) with
    | true =>
      obtain ⟨rfl, rfl, qb⟩ := unk_of hb h2
      refine .inr (.inr (.inl ⟨rfl, rfl, qb, fun e => ?_, rfl⟩))
      cases e; rw [h1] at h2; cases h2
    | false =>
      rw [cond_false]
      cases h3 : (ak != bk || (an != bn || ax.length != bx.length)) with
      | true =>
        refine .inr (.inr (.inr (.inl ⟨rfl, rfl, ?_, rfl⟩)))
        rw [Bool.or_eq_true, Bool.or_eq_true] at h3
        rcases h3 with h3 | h3 | h3
        · exact .inl (by simpa using h3)
        · refine .inr (.inl fun e => ?_)
          subst e
          have := (beq_bytes an an).2 rfl
          rw [bne, this] at h3; cases h3
        · exact .inr (.inr (by simpa using h3))
      | false =>
        refine .inr (.inr (.inr (.inr ⟨rfl, rfl, ?_⟩)))
        rw [Bool.or_eq_false_iff, Bool.or_eq_false_iff] at h3
        obtain ⟨h4, h5, h6⟩ := h3
        refine ⟨by simpa using h4, ?_, by simpa using h6, rfl⟩
        cases hq : an == bn with
        | true => exact (beq_bytes an bn).1 hq
        | false => rw [_root_.bne, hq] at h5; cases h5
theorem uniF_eq (f : Nat) (m : TM) (a b : Ty) : uniF (f + 1) m a b = uniH f m (headF m a) (headF m b) := by rw [uniF]
theorem uniFs_cons (f : Nat) (m : TM) (x y : Ty) (xs ys : List Ty) : uniFs f m (x :: xs) (y :: ys) = match uniF f m x y with
    | none => none
    | some (e, m') => bif e != 0 then some (e, m') else uniFs f m' xs ys := by
  rw [uniFs]
  cases uniF f m x y <;> rfl
theorem uniFs_nil (f : Nat) (m : TM) (ys : List Ty) : uniFs f m [] ys = some (0, m) := by rw [uniFs]; simp
theorem uni_solves : ∀ (f : Nat) (m : TM) (a b : Ty) (m' : TM), Inv m → pureF a = true → pureF b = true → uniF f m a b = some (0, m') → Inv m' ∧ Fin' m m' ∧ appF m' a = appF m' b
  | 0, _, _, _, _, _, _, _, h => by rw [uniF] at h; cases h
  | f + 1, m, a, b, m', hm, ha, hb, h => by
    rw [uniF_eq] at h
    obtain ⟨pa, ea, na, _⟩ := head_inv hm ha
    obtain ⟨pb, eb, nb, _⟩ := head_inv hm hb
    -- up from the heads
    have up : ∀ {m'}, Inv m' ∧ Fin' m m' ∧ appF m' (headF m a) = appF m' (headF m b) → Inv m' ∧ Fin' m m' ∧ appF m' a = appF m' b := fun ⟨h1, h2, h3⟩ =>
      ⟨h1, h2, by rw [← h2 _ _ pa ha ea, ← h2 _ _ pb hb eb, h3]⟩
    refine up ?_
    clear up ea eb ha hb
    generalize headF m a = a' at *
    generalize headF m b = b' at *
    obtain ⟨ak, an, ax⟩ := a'
    obtain ⟨bk, bn, bx⟩ := b'
    rcases uniH_cases (f := f) (m := m) pa pb with ⟨e, e2⟩ | ⟨rfl, rfl, qa, _, e⟩ | ⟨rfl, rfl, qb, _, e⟩ | ⟨_, _, _, e⟩ | ⟨ua, ub, rfl, rfl, hlen, e⟩
    · rw [e] at h; cases h
      exact ⟨hm, fin_refl m, by rw [e2]⟩
    · rw [e] at h
      exact bind_solves hm qa pb (na an rfl) (by simpa using h)
    · rw [e] at h
      obtain ⟨h1, h2, h3⟩ := bind_solves hm qb pa (nb bn rfl) (by simpa using h)
      exact ⟨h1, h2, h3.symm⟩
    · rw [e] at h; cases h
    · rw [e] at h
      clear e
      rcases pure_cases pa with ⟨rfl, rfl⟩ | ⟨hk, hps⟩
      · have : bx = [] := List.eq_nil_of_length_eq_zero (by simpa using hlen.symm)
        subst this
        rw [uniFs_nil] at h; cases h
        exact ⟨hm, fin_refl m, rfl⟩
      · rcases pure_cases pb with ⟨h5, _⟩ | ⟨_, hpt⟩
        · exact absurd h5 hk
        rw [nh_app m' ak an ax hk, nh_app m' ak an bx hk]
        have main : ∀ (xs ys : List Ty) (m1 : TM), Inv m1 → pureFs xs = true → pureFs ys = true → xs.length = ys.length → uniFs f m1 xs ys = some (0, m') → Inv m' ∧ Fin' m1 m' ∧ xs.map (appF m') = ys.map (appF m') := by
          intro xs
          induction xs with
          | nil =>
            intro ys m1 h1 _ _ hl hu
            rw [uniFs_nil] at hu; cases hu
            have : ys = [] := List.eq_nil_of_length_eq_zero (by simpa using hl.symm)
            subst this
            exact ⟨h1, fin_refl _, rfl⟩
          | cons x xs ih =>
            intro ys m1 h1 hx hy hl hu
            cases ys with
            | nil => simp at hl
            | cons y ys =>
              rw [pureFs, Bool.and_eq_true] at hx hy
              rw [uniFs_cons] at hu
              cases hq : uniF f m1 x y with
              | none => rw [hq] at hu; cases hu
              | some r =>
                obtain ⟨e, m2⟩ := r
                rw [hq] at hu
                simp only at hu
                cases he : e != 0 with
                | true => rw [he, cond_true] at hu; cases hu; simp at he
                | false =>
                  rw [he, cond_false] at hu
                  obtain rfl : e = 0 := by simpa using he
                  obtain ⟨i1, f1, e1⟩ := uni_solves f m1 x y m2 h1 hx.1 hy.1 hq
                  obtain ⟨i2, f2, e2⟩ := ih ys m2 i1 hx.2 hy.2 (by simpa using hl) hu
                  exact ⟨i2, fin_trans f1 f2, by rw [List.map_cons, List.map_cons, f2 x y hx.1 hy.1 e1, e2]⟩
        obtain ⟨i, fi, e⟩ := main ax bx m hm hps hpt hlen h
        exact ⟨i, fi, by rw [e]⟩
/-- most general -/
def Ri (θ : Ty → Ty) : Prop := ∀ n, ¬ qN n → θ (va n) = va n
def Un (θ : Ty → Ty) (m : TM) : Prop := ∀ p ∈ m, θ p.2 = θ (va p.1)
theorem un_app {θ : Ty → Ty} (hθ : NH θ) {m : TM} (hu : Un θ m) {t : Ty} (ht : pureF t = true) : θ (appF m t) = θ t :=
  nh_ext (nh_comp hθ (nh_app m)) hθ t ht fun n _ => by
    rw [app_va]
    cases hq : slook n m with
    | none => rfl
    | some v => exact hu _ (slook_mem hq)
mutual
theorem has_size {θ : Ty → Ty} (hθ : NH θ) {n : ByteArray} : ∀ (t : Ty), pureF t = true → has1 n t = true → nodes (θ (va n)) ≤ nodes (θ t)
  | .mk k x xs, hp, hh => by
    rcases pure_cases hp with ⟨rfl, rfl⟩ | ⟨hk, hps⟩
    · have e := (has_va n x).1 hh
      subst e
      exact Nat.le_refl _
    · rw [has_mk hk] at hh
      have := hass_size hθ xs hps hh
      rw [hθ k x xs hk, nodes]; omega
theorem hass_size {θ : Ty → Ty} (hθ : NH θ) {n : ByteArray} : ∀ (l : List Ty), pureFs l = true → has1s n l = true → nodes (θ (va n)) ≤ nodess (l.map θ)
  | [], _, h => by rw [has1s] at h; cases h
  | t :: r, hp, h => by
    rw [pureFs, Bool.and_eq_true] at hp
    rw [has1s, Bool.or_eq_true] at h
    rw [List.map_cons, nodess]
    rcases h with h | h
    · have := has_size hθ t hp.1 h; omega
    · have := hass_size hθ r hp.2 h; omega
end
theorem bind_most {θ : Ty → Ty} (hθ : NH θ) {m : TM} (hm : Inv m) (hu : Un θ m) {n : ByteArray} (hn : qN n) {t : Ty} (ht : pureF t = true) (hk : slook n m = none) (hne : t ≠ va n) (hva : ∀ x, t = va x → slook x m = none) (he : θ (va n) = θ t) :
    ((bindF m n t).1 = 0 ∧ Un θ (bindF m n t).2) ∨ (bindF m n t).1 = 2 := by
  have hb := app_pure hm t ht
  have heb : θ (appF m t) = θ (va n) := by rw [un_app hθ hu ht, he]
  have ho : occF n (appF m t) = false := by
    rw [occ_has hn _ hb]
    cases hh : has1 n (appF m t) with
    | false => rfl
    | true =>
      obtain ⟨k, x, xs⟩ := t
      rcases pure_cases ht with ⟨rfl, rfl⟩ | ⟨hkk, hps⟩
      · have e1 := hva x rfl
        replace hh : has1 n (appF m (va x)) = true := hh
        rw [app_va, e1] at hh
        have e := (has_va n x).1 hh
        subst e
        exact absurd rfl hne
      · rw [nh_app m k x xs hkk] at hh hb heb
        rw [has_mk hkk] at hh
        have hpm : pureFs (xs.map (appF m)) = true := by
          rcases pure_cases hb with ⟨h5, _⟩ | ⟨_, h⟩
          · exact absurd h5 hkk
          · exact h
        have := hass_size hθ _ hpm hh
        rw [hθ k x _ hkk] at heb
        have h2 : nodes (.mk k x ((xs.map (appF m)).map θ)) = nodes (θ (va n)) := by rw [heb]
        rw [nodes] at h2; omega
  rcases bind_case (m := m) (n := n) (t := t) with ⟨_, h1⟩ | ⟨_, h1, h2⟩
  · rw [ho] at h1; cases h1
  · rcases h1 with h1 | h1
    · refine .inl ⟨h1, fun p hp => ?_⟩
      rw [h2, sput_new hk] at hp
      obtain ⟨q, hq, rfl⟩ := List.mem_map.1 hp
      rw [upd_key]
      rcases List.mem_append.1 hq with hq | hq
      · have hv : (updE n (appF m t) q).2 = sub1 n (appF m t) q.2 := by
          unfold updE
          cases hc : q.1 == n with
          | true => exact absurd ((beq_bytes q.1 n).1 hc) (look_key hk q hq)
          | false => rfl
        rw [hv, ← hu q hq]
        refine nh_ext (nh_comp hθ (nh_sub n (appF m t))) hθ q.2 (hm.q q hq).2 fun x _ => ?_
        rw [sub_va]
        cases hc : x == n with
        | true => have e := (beq_bytes x n).1 hc; subst e; exact heb
        | false => rfl
      · simp at hq; subst hq
        have hv : (updE n (appF m t) (n, appF m t)).2 = appF m t := by
          unfold updE
          rw [show (((n, appF m t) : ByteArray × Ty).1 == n) = true from (beq_bytes n n).2 rfl]; rfl
        rw [hv]; exact heb
    · exact .inr h1
theorem uni_most {θ : Ty → Ty} (hθ : NH θ) (hr : Ri θ) : ∀ (f : Nat) (m : TM) (a b : Ty) (r : Int × TM), Inv m → Un θ m → pureF a = true → pureF b = true → θ a = θ b → uniF f m a b = some r → (r.1 = 0 ∧ Un θ r.2) ∨ r.1 = 2
  | 0, _, _, _, _, _, _, _, _, _, h => by rw [uniF] at h; cases h
  | f + 1, m, a, b, r, hm, hu, ha, hb, he, h => by
    rw [uniF_eq] at h
    obtain ⟨pa, ea, na, _⟩ := head_inv hm ha
    obtain ⟨pb, eb, nb, _⟩ := head_inv hm hb
    have he' : θ (headF m a) = θ (headF m b) := by rw [← un_app hθ hu pa, ← un_app hθ hu pb, ea, eb, un_app hθ hu ha, un_app hθ hu hb, he]
    clear ea eb ha hb he
    generalize headF m a = a' at *
    generalize headF m b = b' at *
    obtain ⟨ak, an, ax⟩ := a'
    obtain ⟨bk, bn, bx⟩ := b'
    rcases uniH_cases (f := f) (m := m) pa pb with ⟨e, e2⟩ | ⟨rfl, rfl, qa, hne, e⟩ | ⟨rfl, rfl, qb, hne, e⟩ | ⟨ua, ub, hd, e⟩ | ⟨ua, ub, rfl, rfl, hlen, e⟩
    · rw [e] at h; cases h
      exact .inl ⟨rfl, hu⟩
    · rw [e] at h; cases h
      exact bind_most hθ hm hu qa pb (na an rfl) hne nb he'
    · rw [e] at h; cases h
      exact bind_most hθ hm hu qb pa (nb bn rfl) hne na he'.symm
    · exfalso
      have rig : ∀ {n : ByteArray}, unkB (va n) = false → ¬ qN n := fun h1 h2 => by rw [unk_va, show hpF _ qm = true from h2] at h1; cases h1
      rcases pure_cases pa with ⟨rfl, rfl⟩ | ⟨hka, hpa⟩
      · replace he' : θ (va an) = θ (.mk bk bn bx) := he'
        rw [hr an (rig ua)] at he'
        rcases pure_cases pb with ⟨rfl, rfl⟩ | ⟨hkb, hpb⟩
        · replace he' : va an = θ (va bn) := he'
          rw [hr bn (rig ub)] at he'
          cases he'
          rcases hd with h1 | h1 | h1 <;> exact h1 rfl
        · rw [hθ bk bn bx hkb] at he'
          exact hkb (congrArg Ty.kind he').symm
      · rw [hθ ak an ax hka] at he'
        rcases pure_cases pb with ⟨rfl, rfl⟩ | ⟨hkb, hpb⟩
        · replace he' : _ = θ (va bn) := he'
          rw [hr bn (rig ub)] at he'
          exact hka (congrArg Ty.kind he')
        · rw [hθ bk bn bx hkb] at he'
          injection he' with e1 e2 e3
          have := congrArg List.length e3
          simp at this
          rcases hd with h1 | h1 | h1
          · exact h1 e1
          · exact h1 e2
          · exact h1 this
    · rw [e] at h
      clear e
      rcases pure_cases pa with ⟨rfl, rfl⟩ | ⟨hk, hps⟩
      · rw [uniFs_nil] at h; cases h
        exact .inl ⟨rfl, hu⟩
      · rcases pure_cases pb with ⟨h5, _⟩ | ⟨_, hpt⟩
        · exact absurd h5 hk
        rw [hθ ak an ax hk, hθ ak an bx hk] at he'
        injection he' with _ _ he'
        have main : ∀ (xs ys : List Ty) (m1 : TM), Inv m1 → Un θ m1 → pureFs xs = true → pureFs ys = true → xs.map θ = ys.map θ → uniFs f m1 xs ys = some r → (r.1 = 0 ∧ Un θ r.2) ∨ r.1 = 2 := by
          intro xs
          induction xs with
          | nil =>
            intro ys m1 _ h1 _ _ _ hu
            rw [uniFs_nil] at hu; cases hu
            exact .inl ⟨rfl, h1⟩
          | cons x xs ih =>
            intro ys m1 h1 h1u hx hy hl hu
            cases ys with
            | nil => simp at hl
            | cons y ys =>
              rw [pureFs, Bool.and_eq_true] at hx hy
              rw [List.map_cons, List.map_cons] at hl
              injection hl with hl1 hl2
              rw [uniFs_cons] at hu
              cases hq : uniF f m1 x y with
              | none => rw [hq] at hu; cases hu
              | some r1 =>
                have hc := uni_most hθ hr f m1 x y r1 h1 h1u hx.1 hy.1 hl1 hq
                obtain ⟨e, m2⟩ := r1
                rw [hq] at hu
                simp only at hu hc
                cases he : e != 0 with
                | true =>
                  rw [he, cond_true] at hu; cases hu
                  rcases hc with ⟨h0, _⟩ | h2
                  · subst h0; simp at he
                  · exact .inr h2
                | false =>
                  rw [he, cond_false] at hu
                  obtain rfl : e = 0 := by simpa using he
                  obtain ⟨i1, _, _⟩ := uni_solves f m1 x y m2 h1 hx.1 hy.1 hq
                  rcases hc with ⟨_, h3⟩ | h3
                  · exact ih ys m2 i1 h3 hx.2 hy.2 hl2 hu
                  · cases h3
        exact main ax bx m hm hu hps hpt he' h
end KK
open Go Go.AM Go.Proofs
set_option maxRecDepth 100000
namespace KK
/-! plain law of unification: it ends -/
theorem uniFs_mono_of {f f' : Nat} (ih : ∀ m a b r, uniF f m a b = some r → uniF f' m a b = some r) : ∀ (xs ys : List Ty) (m : TM) (r : Int × TM), uniFs f m xs ys = some r → uniFs f' m xs ys = some r
  | [], ys, m, r, h => by rw [uniFs_nil] at h ⊢; exact h
  | x :: xs, [], m, r, h => by
    have e : ∀ g, uniFs g m (x :: xs) [] = some (0, m) := fun g => by rw [uniFs]; simp
    rw [e] at h ⊢; exact h
  | x :: xs, y :: ys, m, r, h => by
    rw [uniFs_cons] at h ⊢
    cases hq : uniF f m x y with
    | none => rw [hq] at h; cases h
    | some r1 =>
      rw [hq] at h
      rw [ih m x y r1 hq]
      obtain ⟨e, m2⟩ := r1
      simp only at h ⊢
      cases he : e != 0 with
      | true => rw [he] at h; exact h
      | false => rw [he, cond_false] at h; rw [cond_false]; exact uniFs_mono_of ih xs ys m2 r h
theorem uni_mono : ∀ (f : Nat) (m : TM) (a b : Ty) (r : Int × TM), uniF f m a b = some r → uniF (f + 1) m a b = some r
  | 0, _, _, _, _, h => by rw [uniF] at h; cases h
  | f + 1, m, a, b, r, h => by
    rw [uniF_eq] at h ⊢
    generalize headF m a = a' at *
    generalize headF m b = b' at *
    obtain ⟨ak, an, ax⟩ := a'
    obtain ⟨bk, bn, bx⟩ := b'
    have hs := uniFs_mono_of (f := f) (f' := f + 1) (uni_mono f) ax bx m r
    rw [uniH] at h ⊢
    generalize uniFs f m ax bx = u at *
    generalize uniFs (f + 1) m ax bx = u' at *
    cases h1 : unkB (.mk ak an ax) with
    | true => rw [h1] at h; exact h
    | false =>
      rw [h1, cond_false] at h
      rw [cond_false]
      cases h2 : unkB (.mk bk bn bx) with
      | true => rw [h2] at h; exact h
      | false =>
        rw [h2, cond_false] at h
        rw [cond_false]
        cases h3 : (ak != bk || (an != bn || ax.length != bx.length)) with
        | true => rw [h3] at h; exact h
        | false => rw [h3] at h; exact hs h
theorem uni_le {f f' : Nat} (hle : f ≤ f') {m : TM} {a b : Ty} {r : Int × TM} (h : uniF f m a b = some r) : uniF f' m a b = some r := by
  induction hle with
  | refl => exact h
  | step _ ih => exact uni_mono _ _ _ _ _ ih
theorem unis_le {f f' : Nat} (hle : f ≤ f') {m : TM} {xs ys : List Ty} {r : Int × TM} (h : uniFs f m xs ys = some r) : uniFs f' m xs ys = some r :=
  uniFs_mono_of (fun _ _ _ _ h => uni_le hle h) xs ys m r h
/-- unbound names -/
def inU (U : List ByteArray) (t : Ty) : Prop := ∀ n, has1 n t = true → n ∈ U
def mU (U : List ByteArray) (m : TM) : Prop := ∀ p ∈ m, p.1 ∈ U ∧ inU U p.2
def unb : List ByteArray → TM → Nat
  | [], _ => 0
  | x :: r, m => (bif (slook x m).isNone then 1 else 0) + unb r m
theorem unb_le {m m' : TM} (h : ∀ x, slook x m' = none → slook x m = none) : ∀ (U : List ByteArray), unb U m' ≤ unb U m
  | [] => Nat.le_refl _
  | x :: r => by
    have := unb_le h r
    have hx := h x
    rw [unb, unb]
    cases h1 : slook x m' with
    | none => rw [hx h1]; simp; omega
    | some v => simp; omega
theorem unb_lt {m m' : TM} (h : ∀ x, slook x m' = none → slook x m = none) {n : ByteArray} (h1 : slook n m = none) {v : Ty} (h2 : slook n m' = some v) : ∀ (U : List ByteArray), n ∈ U → unb U m' < unb U m
  | [], hn => by cases hn
  | x :: r, hn => by
    rw [unb, unb]
    rcases List.mem_cons.1 hn with rfl | hn
    · have := unb_le h r
      rw [h1, h2]; simp; omega
    · have := unb_lt h h1 h2 r hn
      have hx := h x
      cases h3 : slook x m' with
      | none => rw [hx h3]; simp; omega
      | some v => simp; omega
theorem bind_unb {U : List ByteArray} {m : TM} (hm : Inv m) (hmu : mU U m) {n : ByteArray} (hn : qN n) {t : Ty} (ht : pureF t = true) (hk : slook n m = none) (hU : inU U t) (hnU : n ∈ U) {m' : TM} (h : bindF m n t = (0, m')) :
    mU U m' ∧ unb U m' < unb U m := by
  obtain ⟨_, _, h3, _, h5⟩ := bind_inv hm hn ht hk h
  have hbU : inU U (appF m t) := fun x hx => by
    rcases has_app t ht hx with ⟨h, _⟩ | ⟨p, hp, h⟩
    · exact hU x h
    · exact (hmu p hp).2 x h
  refine ⟨fun p hp => ?_, unb_lt (fun x hx => ?_) hk (v := appF m t) ?_ U hnU⟩
  · rw [h5] at hp
    obtain ⟨q, hq, rfl⟩ := List.mem_map.1 hp
    have hqU : inU U q.2 ∧ pureF q.2 = true := by
      rcases List.mem_append.1 hq with hq | hq
      · exact ⟨(hmu q hq).2, (hm.q q hq).2⟩
      · simp at hq; subst hq; exact ⟨hbU, app_pure hm t ht⟩
    have hqk : q.1 ∈ U := by
      rcases List.mem_append.1 hq with hq | hq
      · exact (hmu q hq).1
      · simp at hq; subst hq; exact hnU
    refine ⟨by rw [upd_key]; exact hqk, ?_⟩
    unfold updE
    cases q.1 == n with
    | true => exact hqU.1
    | false =>
      intro x hx
      rcases has_sub q.2 hqU.2 hx with ⟨h, _⟩ | h
      · exact hqU.1 x h
      · exact hbU x h
  · rw [h3] at hx
    cases hq : x == n with
    | true => rw [hq] at hx; cases hx
    | false =>
      rw [hq, cond_false] at hx
      simpa using hx
  · rw [h3, (beq_bytes n n).2 rfl]; rfl
def Ends (U : List ByteArray) (m : TM) (o : Nat → Option (Int × TM)) : Prop := ∃ f r, o f = some r ∧ (r.1 = 0 → Inv r.2 ∧ mU U r.2 ∧ (r.2 = m ∨ unb U r.2 < unb U m))
theorem uni_ends0 (U : List ByteArray) (u : Nat) (ihu : ∀ u', u' < u → ∀ (m : TM) (a b : Ty), Inv m → mU U m → pureF a = true → pureF b = true → inU U a → inU U b → unb U m ≤ u' → Ends U m (fun f => uniF f m a b)) :
    ∀ (s : Nat) (m : TM) (a b : Ty), Inv m → mU U m → pureF a = true → pureF b = true → inU U a → inU U b → unb U m ≤ u → nodes (appF m a) ≤ s → Ends U m (fun f => uniF f m a b)
  | 0, m, a, b, _, _, _, _, _, _, _, hs => by have := nodes_pos (appF m a); omega
  | s + 1, m, a, b, hm, hmu, ha, hb, hUa, hUb, hle, hs => by
    obtain ⟨pa, ea, na, ka⟩ := head_inv hm ha
    obtain ⟨pb, eb, nb, kb⟩ := head_inv hm hb
    have ua : inU U (headF m a) := by
      rcases ka with e | ⟨p, hp, e⟩
      · rw [e]; exact hUa
      · rw [e]; exact (hmu p hp).2
    have ub : inU U (headF m b) := by
      rcases kb with e | ⟨p, hp, e⟩
      · rw [e]; exact hUb
      · rw [e]; exact (hmu p hp).2
    suffices hsuf : Ends U m (fun f => uniH f m (headF m a) (headF m b)) by
      obtain ⟨f, r, h1, h2⟩ := hsuf
      exact ⟨f + 1, r, by show uniF (f + 1) m a b = _; rw [uniF_eq]; exact h1, h2⟩
    have hs' : nodes (appF m (headF m a)) ≤ s + 1 := by rw [ea]; exact hs
    clear ea eb ha hb hUa hUb hs ka kb
    generalize headF m a = a' at *
    generalize headF m b = b' at *
    obtain ⟨ak, an, ax⟩ := a'
    obtain ⟨bk, bn, bx⟩ := b'
    have bd : ∀ {n : ByteArray} {t : Ty}, qN n → pureF t = true → slook n m = none → inU U t → n ∈ U → (bindF m n t).1 = 0 → Inv (bindF m n t).2 ∧ mU U (bindF m n t).2 ∧ ((bindF m n t).2 = m ∨ unb U (bindF m n t).2 < unb U m) := fun {n t} hn ht hk hU hnU h0 => by
      have h : bindF m n t = (0, (bindF m n t).2) := by rw [← h0]
      obtain ⟨h1, h2⟩ := bind_unb hm hmu hn ht hk hU hnU h
      exact ⟨(bind_inv hm hn ht hk h).1, h1, .inr h2⟩
    have hc := fun f => uniH_cases (f := f) (m := m) pa pb
    by_cases hgo : unkB (.mk ak an ax) = false ∧ unkB (.mk bk bn bx) = false ∧ ak = bk ∧ an = bn ∧ ax.length = bx.length
    · obtain ⟨hu1, hu2, rfl, rfl, hlen⟩ := hgo
      have e : ∀ f, uniH f m (.mk ak an ax) (.mk ak an bx) = uniFs f m ax bx := fun f => by
        rw [uniH, hu1, hu2, cond_false, cond_false, show (an != an) = false by rw [_root_.bne, (beq_bytes an an).2 rfl]; rfl]
        simp [hlen]
      suffices hsuf : Ends U m (fun f => uniFs f m ax bx) by
        obtain ⟨f, r, h1, h2⟩ := hsuf
        exact ⟨f, r, by show uniH f m _ _ = _; rw [e]; exact h1, h2⟩
      clear e hc bd
      rcases pure_cases pa with ⟨rfl, rfl⟩ | ⟨hk, hps⟩
      · exact ⟨0, _, uniFs_nil 0 m bx, fun _ => ⟨hm, hmu, .inl rfl⟩⟩
      · rcases pure_cases pb with ⟨h5, _⟩ | ⟨_, hpt⟩
        · exact absurd h5 hk
        rw [nh_app m ak an ax hk, nodes] at hs'
        have hax : ∀ x ∈ ax, nodes (appF m x) ≤ s ∧ pureF x = true ∧ inU U x := fun x hx => by
          refine ⟨?_, pureFs_mem.1 hps x hx, fun n hn => ua n (by rw [has_mk hk]; exact has1s_mem.2 ⟨x, hx, hn⟩)⟩
          have h1 : nodes (appF m x) ≤ nodess (ax.map (appF m)) := by
            have hmem : appF m x ∈ ax.map (appF m) := List.mem_map.2 ⟨x, hx, rfl⟩
            clear hps hs' hlen pa ua hu1 hx
            generalize ax.map (appF m) = l at hmem
            induction l with
            | nil => cases hmem
            | cons c r ih =>
              rw [nodess]
              rcases List.mem_cons.1 hmem with e | h
              · rw [e]; omega
              · have := ih h; omega
          omega
        have hbx : ∀ y ∈ bx, pureF y = true ∧ inU U y := fun y hy => ⟨pureFs_mem.1 hpt y hy, fun n hn => ub n (by rw [has_mk hk]; exact has1s_mem.2 ⟨y, hy, hn⟩)⟩
        have main : ∀ (xs ys : List Ty) (m1 : TM), Inv m1 → mU U m1 → (m1 = m ∨ unb U m1 < unb U m) → (∀ x ∈ xs, nodes (appF m x) ≤ s ∧ pureF x = true ∧ inU U x) → (∀ y ∈ ys, pureF y = true ∧ inU U y) → Ends U m (fun f => uniFs f m1 xs ys) := by
          intro xs
          induction xs with
          | nil => intro ys m1 h1 h2 h3 _ _; exact ⟨0, _, uniFs_nil 0 m1 ys, fun _ => ⟨h1, h2, h3⟩⟩
          | cons x xs ih =>
            intro ys m1 h1 h2 h3 hx hy
            cases ys with
            | nil => exact ⟨0, (0, m1), by show uniFs 0 m1 (x :: xs) [] = _; rw [uniFs]; simp, fun _ => ⟨h1, h2, h3⟩⟩
            | cons y ys =>
              obtain ⟨x1, x2, x3⟩ := hx x (by simp)
              obtain ⟨y2, y3⟩ := hy y (by simp)
              have hone : Ends U m1 (fun f => uniF f m1 x y) := by
                rcases h3 with rfl | h3
                · exact uni_ends0 U u ihu s m1 x y h1 h2 x2 y2 x3 y3 hle x1
                · exact ihu (unb U m1) (by omega) m1 x y h1 h2 x2 y2 x3 y3 (Nat.le_refl _)
              obtain ⟨f, ⟨e, m2⟩, g1, g2⟩ := hone
              simp only at g1 g2
              cases he : e != 0 with
              | true =>
                refine ⟨f, (e, m2), ?_, fun h0 => ?_⟩
                · show uniFs f m1 (x :: xs) (y :: ys) = _
                  rw [uniFs_cons, g1]; simp only; rw [he]; rfl
                · simp only at h0; subst h0; simp at he
              | false =>
                have he0 : e = 0 := by simpa using he
                obtain ⟨g3, g4, g5⟩ := g2 he0
                have h3' : m2 = m ∨ unb U m2 < unb U m := by
                  rcases g5 with rfl | g5
                  · exact h3
                  · rcases h3 with rfl | h3
                    · exact .inr g5
                    · exact .inr (by omega)
                obtain ⟨f', r, k1, k2⟩ := ih ys m2 g3 g4 h3' (fun z hz => hx z (by simp [hz])) (fun z hz => hy z (by simp [hz]))
                refine ⟨max f f', r, ?_, k2⟩
                show uniFs (max f f') m1 (x :: xs) (y :: ys) = _
                rw [uniFs_cons, uni_le (Nat.le_max_left f f') g1]
                simp only
                rw [he, cond_false]
                exact unis_le (Nat.le_max_right f f') k1
        exact main ax bx m hm hmu (.inl rfl) hax hbx
    · rcases hc 0 with ⟨e, e2⟩ | ⟨rfl, rfl, qa, _, e⟩ | ⟨rfl, rfl, qb, _, e⟩ | ⟨_, _, _, e⟩ | ⟨g1, g2, g3, g4, g5, _⟩
      · exact ⟨0, _, e, fun _ => ⟨hm, hmu, .inl rfl⟩⟩
      · exact ⟨0, _, e, fun h0 => bd qa pb (na an rfl) ub (ua an ((has_va an an).2 rfl)) h0⟩
      · exact ⟨0, _, e, fun h0 => bd qb pa (nb bn rfl) ua (ub bn ((has_va bn bn).2 rfl)) h0⟩
      · exact ⟨0, _, e, fun h0 => by cases h0⟩
      · exact absurd ⟨g1, g2, g3, g4, g5⟩ hgo
theorem uni_ends (U : List ByteArray) : ∀ (u : Nat) (m : TM) (a b : Ty), Inv m → mU U m → pureF a = true → pureF b = true → inU U a → inU U b → unb U m ≤ u → Ends U m (fun f => uniF f m a b) := by
  intro u
  induction u using Nat.strongRecOn with
  | ind u ih => intro m a b h1 h2 h3 h4 h5 h6 h7; exact uni_ends0 U u ih _ m a b h1 h2 h3 h4 h5 h6 h7 (Nat.le_refl _)
/-! Solve -/
def solF (f : Nat) : TM → List (Ty × Ty) → Option (Int × TM)
  | m, [] => some (0, m)
  | m, (a, b) :: r => match uniF f m a b with
    | none => none
    | some (e, m') => bif e != 0 then some (e, m') else solF f m' r
theorem sol_mono {f f' : Nat} (hle : f ≤ f') : ∀ (ps : List (Ty × Ty)) (m : TM) (r : Int × TM), solF f m ps = some r → solF f' m ps = some r
  | [], m, r, h => by rw [solF] at h ⊢; exact h
  | (a, b) :: ps, m, r, h => by
    rw [solF] at h ⊢
    cases hq : uniF f m a b with
    | none => rw [hq] at h; cases h
    | some r1 =>
      rw [hq] at h
      rw [uni_le hle hq]
      obtain ⟨e, m2⟩ := r1
      simp only at h ⊢
      cases he : e != 0 with
      | true => rw [he] at h; exact h
      | false => rw [he, cond_false] at h; rw [cond_false]; exact sol_mono hle ps m2 r h
mutual
def varsT : Ty → List ByteArray
  | .mk k n xs => (bif k == 5 then [n] else []) ++ varsTs xs
def varsTs : List Ty → List ByteArray
  | [] => []
  | t :: r => varsT t ++ varsTs r
end
mutual
theorem has_vars {n : ByteArray} : ∀ (t : Ty), has1 n t = true → n ∈ varsT t
  | .mk k x xs, h => by
    rw [has1] at h
    rw [varsT]
    cases hk : k == 5 with
    | true =>
      rw [hk] at h
      cases hq : x == n with
      | true => rw [(beq_bytes x n).1 hq]; simp
      | false =>
        rw [hq] at h
        exact List.mem_append_right _ (hass_vars xs h)
    | false => rw [hk] at h; exact List.mem_append_right _ (hass_vars xs h)
theorem hass_vars {n : ByteArray} : ∀ (l : List Ty), has1s n l = true → n ∈ varsTs l
  | [], h => by rw [has1s] at h; cases h
  | t :: r, h => by
    rw [has1s, Bool.or_eq_true] at h
    rw [varsTs]
    rcases h with h | h
    · exact List.mem_append_left _ (has_vars t h)
    · exact List.mem_append_right _ (hass_vars r h)
end
def pureP (p : Ty × Ty) : Prop := pureF p.1 = true ∧ pureF p.2 = true
theorem sol_ends_from (U : List ByteArray) : ∀ (ps : List (Ty × Ty)) (m : TM), Inv m → mU U m → (∀ p ∈ ps, pureP p ∧ inU U p.1 ∧ inU U p.2) → ∃ f r, solF f m ps = some r ∧ (r.1 = 0 → Inv r.2 ∧ mU U r.2)
  | [], m, h1, h2, _ => ⟨0, _, by rw [solF], fun _ => ⟨h1, h2⟩⟩
  | (a, b) :: ps, m, hm, hmu, h => by
    obtain ⟨⟨p1, p2⟩, u1, u2⟩ := h (a, b) (by simp)
    obtain ⟨f, ⟨e, m2⟩, g1, g2⟩ := uni_ends U _ m a b hm hmu p1 p2 u1 u2 (Nat.le_refl _)
    simp only at g1 g2
    cases he : e != 0 with
    | true => exact ⟨f, (e, m2), by rw [solF, g1]; simp only; rw [he]; rfl, fun h0 => by simp only at h0; subst h0; simp at he⟩
    | false =>
      obtain ⟨g3, g4, _⟩ := g2 (by simpa using he)
      obtain ⟨f', r, k, k2⟩ := sol_ends_from U ps m2 g3 g4 fun p hp => h p (by simp [hp])
      refine ⟨max f f', r, ?_, k2⟩
      rw [solF, uni_le (Nat.le_max_left f f') g1]
      simp only
      rw [he, cond_false]
      exact sol_mono (Nat.le_max_right f f') ps m2 r k
mutual
theorem vars_len : ∀ (t : Ty), (varsT t).length ≤ nodes t
  | .mk k n xs => by
    have := varss_len xs
    rw [varsT, nodes]
    cases k == 5 <;> simp <;> omega
theorem varss_len : ∀ (l : List Ty), (varsTs l).length ≤ nodess l
  | [] => by simp [varsTs]
  | t :: r => by have := vars_len t; have := varss_len r; rw [varsTs, nodess]; simp; omega
end
theorem nodup_len {α : Type} : ∀ (l U : List α), l.Nodup → (∀ x ∈ l, x ∈ U) → l.length ≤ U.length
  | [], _, _, _ => by simp
  | a :: r, U, h, hs => by
    obtain ⟨s, t, e⟩ := List.append_of_mem (hs a (by simp))
    subst e
    have hn := List.nodup_cons.1 h
    have := nodup_len r (s ++ t) hn.2 fun x hx => by
      have := hs x (by simp [hx])
      simp only [List.mem_append, List.mem_cons] at this ⊢
      rcases this with h1 | h1 | h1
      · exact .inl h1
      · subst h1; exact absurd hx hn.1
      · exact .inr h1
    simp at this ⊢; omega
def sumP : List (Ty × Ty) → Nat
  | [] => 0
  | p :: r => nodes p.1 + nodes p.2 + sumP r
theorem varsP_len : ∀ (ps : List (Ty × Ty)), (ps.flatMap fun p => varsT p.1 ++ varsT p.2).length ≤ sumP ps
  | [] => by simp
  | p :: r => by
    have := varsP_len r; have := vars_len p.1; have := vars_len p.2
    rw [List.flatMap_cons, List.length_append, List.length_append, sumP]; omega
theorem sol_ends (ps : List (Ty × Ty)) (h : ∀ p ∈ ps, pureP p) : ∃ f r, solF f [] ps = some r ∧ (r.1 = 0 → Inv r.2 ∧ r.2.length ≤ sumP ps) := by
  obtain ⟨f, r, h1, h2⟩ := sol_ends_from (ps.flatMap fun p => varsT p.1 ++ varsT p.2) ps [] Inv.nil (by simp [mU]) fun p hp => ⟨h p hp, fun n hn => List.mem_flatMap.2 ⟨p, hp, List.mem_append_left _ (has_vars _ hn)⟩, fun n hn => List.mem_flatMap.2 ⟨p, hp, List.mem_append_right _ (has_vars _ hn)⟩⟩
  refine ⟨f, r, h1, fun h0 => ?_⟩
  obtain ⟨h3, h4⟩ := h2 h0
  refine ⟨h3, Nat.le_trans ?_ (varsP_len ps)⟩
  have := nodup_len (keysT r.2) _ h3.good.1 fun x hx => by
    obtain ⟨p, hp, rfl⟩ := List.mem_map.1 hx
    exact (h4 p hp).1
  simpa [keysT] using this
theorem sol_solves (f : Nat) : ∀ (ps : List (Ty × Ty)) (m m' : TM), Inv m → (∀ p ∈ ps, pureP p) → solF f m ps = some (0, m') → Inv m' ∧ Fin' m m' ∧ ∀ p ∈ ps, appF m' p.1 = appF m' p.2
  | [], m, m', hm, _, h => by rw [solF] at h; cases h; exact ⟨hm, fin_refl m, by simp⟩
  | (a, b) :: ps, m, m', hm, hp, h => by
    have pab := hp (a, b) (by simp)
    rw [solF] at h
    cases hq : uniF f m a b with
    | none => rw [hq] at h; cases h
    | some r1 =>
      obtain ⟨e, m2⟩ := r1
      rw [hq] at h
      simp only at h
      cases he : e != 0 with
      | true => rw [he, cond_true] at h; cases h; simp at he
      | false =>
        rw [he, cond_false] at h
        obtain rfl : e = 0 := by simpa using he
        obtain ⟨i1, f1, e1⟩ := uni_solves f m a b m2 hm pab.1 pab.2 hq
        obtain ⟨i2, f2, e2⟩ := sol_solves f ps m2 m' i1 (fun p h => hp p (by simp [h])) h
        refine ⟨i2, fin_trans f1 f2, fun p hp => ?_⟩
        rcases List.mem_cons.1 hp with rfl | hp
        · exact f2 _ _ pab.1 pab.2 e1
        · exact e2 p hp
theorem sol_most {θ : Ty → Ty} (hθ : NH θ) (hr : Ri θ) (f : Nat) : ∀ (ps : List (Ty × Ty)) (m : TM) (r : Int × TM), Inv m → Un θ m → (∀ p ∈ ps, pureP p ∧ θ p.1 = θ p.2) → solF f m ps = some r → (r.1 = 0 ∧ Un θ r.2) ∨ r.1 = 2
  | [], m, r, _, hu, _, h => by rw [solF] at h; cases h; exact .inl ⟨rfl, hu⟩
  | (a, b) :: ps, m, r, hm, hu, hp, h => by
    obtain ⟨⟨p1, p2⟩, pe⟩ := hp (a, b) (by simp)
    rw [solF] at h
    cases hq : uniF f m a b with
    | none => rw [hq] at h; cases h
    | some r1 =>
      have hc := uni_most hθ hr f m a b r1 hm hu p1 p2 pe hq
      obtain ⟨e, m2⟩ := r1
      rw [hq] at h
      simp only at h hc
      cases he : e != 0 with
      | true =>
        rw [he, cond_true] at h; cases h
        rcases hc with ⟨h0, _⟩ | h2
        · subst h0; simp at he
        · exact .inr h2
      | false =>
        rw [he, cond_false] at h
        obtain rfl : e = 0 := by simpa using he
        obtain ⟨i1, _, _⟩ := uni_solves f m a b m2 hm p1 p2 hq
        rcases hc with ⟨_, h3⟩ | h3
        · exact sol_most hθ hr f ps m2 r i1 h3 (fun p h => hp p (by simp [h])) h
        · cases h3
theorem ri_app {m : TM} (hm : Inv m) : Ri (appF m) := fun n hn => by
  rw [app_va]
  cases hq : slook n m with
  | none => rfl
  | some v => exact absurd (hm.q _ (slook_mem hq)).1 hn
theorem idx_no {x : ByteArray} : ∀ (l : List ByteArray) (k : Nat), x ∉ l → idxF x l k = -1
  | [], _, _ => rfl
  | a :: r, k, h => by
    rw [idxF]
    cases hq : x == a with
    | true => exact absurd ((beq_bytes x a).1 hq) (fun e => h (by simp [e]))
    | false => rw [cond_false]; exact idx_no r (k + 1) fun h' => h (by simp [h'])
theorem put_va (ns : List ByteArray) (l : List Ty) (n : ByteArray) : putF ns l (va n) = bif (decide (idxF n ns 0 ≥ 0) && decide (idxF n ns 0 < l.length)) then (l[(idxF n ns 0).toNat]?).getD (va n) else va n := by
  rw [va, putF, putFs_map]; rfl
theorem ri_put {ns : List ByteArray} {l : List Ty} (h : ∀ n ∈ ns, qN n) : Ri (putF ns l) := fun n hn => by
  rw [put_va, idx_no ns 0 fun hm => hn (h n hm)]; rfl
/-- the list of a store, in any order -/
theorem look_put : ∀ (l : TM) (n : ByteArray) (k : Nat) (z : Ty), (bif (decide (idxF n (l.map (·.1)) k ≥ 0) && decide (idxF n (l.map (·.1)) k < ((k + l.length : Nat) : Int))) then ((l.map (·.2))[(idxF n (l.map (·.1)) k).toNat - k]?).getD z else z) = (slook n l).getD z
  | [], n, k, z => rfl
  | (a, v) :: r, n, k, z => by
    rw [List.map_cons, List.map_cons, idxF, slook]
    cases hq : n == a with
    | true =>
      rw [cond_true, cond_true]
      have h1 : decide ((k : Int) ≥ 0) = true := decide_eq_true (by omega)
      have h2 : decide ((k : Int) < ((k + ((a, v) :: r).length : Nat) : Int)) = true := decide_eq_true (by simp; omega)
      rw [h1, h2]; simp
    | false =>
      rw [cond_false, cond_false]
      have ih := look_put r n (k + 1) z
      rw [← ih]
      have e1 : ((k + 1 + r.length : Nat) : Int) = ((k + ((a, v) :: r).length : Nat) : Int) := by simp; omega
      rw [e1]
      have e2 : idxF n (r.map (·.1)) (k + 1) = -1 ∨ ∃ j : Nat, idxF n (r.map (·.1)) (k + 1) = ((k + 1 + j : Nat) : Int) := by
        cases hh : hasF n (r.map (·.1)) with
        | true => obtain ⟨j, h1, _⟩ := idx_get n (r.map (·.1)) (k + 1) hh; exact .inr ⟨j, h1⟩
        | false =>
          refine .inl (idx_no _ _ fun hm => ?_)
          have : hasF n (r.map (·.1)) = true := by
            unfold hasF; rw [List.any_eq_true]; exact ⟨n, hm, (beq_bytes n n).2 rfl⟩
          rw [this] at hh; cases hh
      rcases e2 with e2 | ⟨j, e2⟩
      · rw [e2]; rfl
      · rw [e2]
        have e3 : ((k + 1 + j : Nat) : Int).toNat - k = j + 1 := by omega
        have e4 : ((k + 1 + j : Nat) : Int).toNat - (k + 1) = j := by omega
        rw [e3, e4, List.getElem?_cons_succ]
theorem put_app (l : TM) (t : Ty) (ht : pureF t = true) : putF (l.map (·.1)) (l.map (·.2)) t = appF l t :=
  nh_ext (nh_put _ _) (nh_app l) t ht fun n _ => by
    have h := look_put l n 0 (va n)
    rw [app_va, ← h, put_va]
    simp
theorem mem_look {m : TM} (hk : (keysT m).Nodup) {p : ByteArray × Ty} (hp : p ∈ m) : slook p.1 m = some p.2 := by
  induction m with
  | nil => cases hp
  | cons a r ih =>
    obtain ⟨k, v⟩ := a
    have hk' := List.nodup_cons.1 hk
    rw [slook]
    rcases List.mem_cons.1 hp with rfl | hp
    · rw [(beq_bytes k k).2 rfl]; rfl
    · cases hq : p.1 == k with
      | true =>
        have e := (beq_bytes p.1 k).1 hq
        exact absurd (List.mem_map.2 ⟨p, hp, e⟩) hk'.1
      | false => rw [cond_false]; exact ih hk'.2 hp
theorem perm_look {l m : TM} (h : l.Perm m) (hk : (keysT m).Nodup) (n : ByteArray) : slook n l = slook n m := by
  have hkl : (keysT l).Nodup := (List.Perm.nodup_iff (h.map (Prod.fst : ByteArray × Ty → ByteArray))).2 hk
  cases hq : slook n m with
  | some v => exact mem_look hkl (h.mem_iff.2 (slook_mem hq))
  | none =>
    cases hl : slook n l with
    | none => rfl
    | some v => exact absurd rfl (look_key hq _ (h.mem_iff.1 (slook_mem hl)))
theorem perm_app {l m : TM} (h : l.Perm m) (hk : (keysT m).Nodup) {t : Ty} (ht : pureF t = true) : appF l t = appF m t :=
  nh_ext (nh_app l) (nh_app m) t ht fun n _ => by rw [app_va, app_va, perm_look h hk]
end KK
