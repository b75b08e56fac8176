/-
  DERIVED. Contracts of the functions that the law reaches, and the law itself, for every input. No conditions.
-/
import Derived.Test.YtfaeijklldnohaaDoorChecked
import Derived.Test.YtfaeijklldnohaaDoorAMStr
open Go Go.AM Go.Proofs
namespace KK
theorem hmix : Tryd.prog.follows .mixedOrders = true := by kernel_rfl
inductive Ty where
  | mk (kind : Int) (name : ByteArray) (args : List Ty)
def Ty.kind : Ty → Int | .mk k _ _ => k
def Ty.name : Ty → ByteArray | .mk _ n _ => n
def Ty.args : Ty → List Ty | .mk _ _ a => a
theorem Ty.ind {Q : Ty → Prop} (h : ∀ k n xs, (∀ a ∈ xs, Q a) → Q (.mk k n xs)) (t : Ty) : Q t :=
  Ty.rec (motive_1 := Q) (motive_2 := fun l => ∀ a ∈ l, Q a) (fun k n xs ih => h k n xs ih) (fun _ hb => by cases hb) (fun a r h1 h2 b hb => by
    rcases List.mem_cons.1 hb with hb | hb
    · rw [hb]; exact h1
    · exact h2 b hb) t
mutual
def eT : Ty → PV
  | .mk k n xs => .agg [.i .i64 k, .s n, .sl 3 (eTs xs)]
def eTs : List Ty → List PV
  | [] => []
  | t :: r => eT t :: eTs r
end
theorem eTs_map (l : List Ty) : eTs l = l.map eT := by
  induction l with
  | nil => rfl
  | cons t r ih => simp [eTs, ih]
mutual
def okT : Ty → Prop
  | .mk _ _ xs => xs.length * 48 ≤ 140737488355328 ∧ okTs xs
def okTs : List Ty → Prop
  | [] => True
  | t :: r => okT t ∧ okTs r
end
theorem okTs_mem : ∀ {l : List Ty}, okTs l → ∀ t ∈ l, okT t
  | [], _, t, ht => by cases ht
  | a :: r, h, t, ht => by
    rcases List.mem_cons.1 ht with rfl | ht
    · exact h.1
    · exact okTs_mem h.2 t ht

/-- slices.Index of strings -/
def idxF (x : ByteArray) : List ByteArray → Nat → Int
  | [], _ => -1
  | a :: r, k => bif x == a then (k : Int) else idxF x r (k + 1)
def eStr (s : ByteArray) : PV := .s s

theorem index_spec (l : List ByteArray) (x : ByteArray) (hb : l.length < 9223372036854775807) : APure Tryd.prog 29 [.p (.sl 1 (l.map eStr)), .p (.s x)] (.p (.i .i64 (idxF x l 0))) := by
  refine APure.intro (tyOf_ok Tryd.prog) hmix Tryd.func29 rfl (by rfl) (by kernel_rfl) (by show 2 ≤ _; decide) rfl ?_
  conv => whnf
  refine loopM (tyOf_ok _) hmix (by kernel_rfl) [0, 1, 6, 7, 8] [] (fun q vals objs => ∃ k : Nat, q + k = l.length ∧ objs = [] ∧ vals = [.p (.sl 1 (l.map eStr)), .p (.s x), .p (.sl 1 (l.map eStr)), .p (.i .i64 (l.map eStr).length), .p (.i .i64 k)] ∧ idxF x l 0 = idxF x (l.drop k) k) l.length ⟨[], rfl, rfl, rfl, 0, by omega, rfl, rfl, by simp⟩ ?_
  rintro q vals objs ⟨k, hk, rfl, rfl, hn⟩
  conv => whnf
  refine asplit ?_ ?_ <;> intro h1 <;> conv => whnf
  · have hk1 : k < l.length := by simpa using h1
    obtain ⟨b, hb1⟩ : ∃ b, l[k]? = some b := ⟨l[k], by simp [hk1]⟩
    rw [drop_cons hb1, idxF] at hn
    refine aidx hb1 ?_
    conv => whnf
    refine asplit ?_ ?_ <;> intro h2 <;> conv => whnf
    · refine .inl (pi ?_)
      rw [bl_iff] at h2
      rw [hn, h2]; rfl
    · refine ⟨q - 1, by omega, [], rfl, rfl, rfl, k + 1, by omega, rfl, by rw [← inc64 (by omega)]; rfl, ?_⟩
      rw [bl_iff] at h2
      rw [hn, h2]; rfl
  · have : l.drop k = [] := List.drop_eq_nil_of_le (by simpa using h1)
    exact .inl (pi (by rw [hn, this]; rfl))

def hasF (x : ByteArray) (l : List ByteArray) : Bool := l.any fun a => x == a
theorem idx_has (x : ByteArray) : ∀ (l : List ByteArray) (k : Nat), decide (idxF x l k ≥ 0) = hasF x l
  | [], k => rfl
  | a :: r, k => by
    rw [idxF, hasF, List.any_cons]
    cases x == a with
    | true => simp
    | false => simpa [hasF] using idx_has x r (k + 1)

theorem contains_spec (l : List ByteArray) (x : ByteArray) (hb : l.length < 9223372036854775807) : APure Tryd.prog 21 [.p (.sl 1 (l.map eStr)), .p (.s x)] (.p (.b (hasF x l))) := by
  refine APure.intro (tyOf_ok Tryd.prog) hmix Tryd.func21 rfl (by rfl) (by kernel_rfl) (by show 2 ≤ _; decide) rfl ?_
  conv => whnf
  refine apc (index_spec l x hb) ?_
  conv => whnf
  exact .inl (pb (idx_has x l 0))

theorem eTs_get {l : List Ty} {k : Nat} {t : Ty} (h : l[k]? = some t) : (eTs l)[k]? = some (eT t) := by rw [eTs_map]; simp [h]
theorem eTs_len (l : List Ty) : (eTs l).length = l.length := by rw [eTs_map]; simp

/-- kind.Copy -/
theorem copy_all (t : Ty) (ht : okT t) (ih : ∀ a ∈ t.args, APure Tryd.prog 19 [.p (eT a)] (.p (eT a))) : APure Tryd.prog 19 [.p (eT t)] (.p (eT t)) := by
  obtain ⟨kd, nm, xs⟩ := t
  simp only [Ty.args] at ih
  have hlen := ht.1
  refine APure.intro (tyOf_ok Tryd.prog) hmix Tryd.func19 rfl (by rfl) (by kernel_rfl) (by show 1 ≤ _; decide) rfl ?_
  conv => whnf
  refine lp_nil 3 2 rfl ?_
  refine loopS (tyOf_ok _) hmix (by kernel_rfl) xs.length [1, 2, 3, 7, 8, 9] [1, 2] (fun k s => [.ptr 1 0, .ptr 2 0, .so 3 s, .p (.sl 3 (eTs xs)), .p (.i .i64 (eTs xs).length), .p (.i .i64 (ix k))])
    (fun _ _ => [.cells [.p (.i .i64 kd), .p (.s nm), .p (.sl 3 (eTs xs))], .cells [.p (.i .i64 0), .p (.s ⟨#[]⟩), .nilS]]) (fun k s => s = (eTs xs).take k) [] ⟨rfl, rfl, rfl, rfl⟩ rfl ?_
  intro k s hk hs
  conv => whnf
  refine asplit ?_ ?_ <;> intro h1 <;> conv => whnf
  · have hk1 := ix_tt h1 (by rw [eTs_len]) hk (by omega)
    obtain ⟨b, hb1⟩ : ∃ b, xs[k]? = some b := ⟨xs[k], by simp [hk1]⟩
    refine aidxk (eTs_get hb1) (by omega) ?_
    have hc := ih b (List.mem_of_getElem? hb1)
    have hts := take_snoc (eTs_get hb1)
    obtain ⟨bk, bn, bs⟩ := b
    conv => whnf
    refine apc hc ?_
    conv => whnf
    refine aneed (show (s.length + 1) * 48 ≤ 140737488355328 by rw [hs]; simp [eTs_len]; omega) ?_
    conv => whnf
    refine ⟨hk1, _, ⟨rfl, rfl, rfl, rfl⟩, ?_⟩
    rw [hts, hs]
  · have hk1 := ix_ff h1 (by rw [eTs_len]) hk (by omega)
    have : s = eTs xs := by rw [hs, hk1, ← eTs_len xs, List.take_length]
    subst this
    exact .inl rfl
theorem copy_spec (t : Ty) : okT t → APure Tryd.prog 19 [.p (eT t)] (.p (eT t)) :=
  Ty.ind (Q := fun t => okT t → APure Tryd.prog 19 [.p (eT t)] (.p (eT t))) (fun k n xs ih h => copy_all (.mk k n xs) h fun a ha => ih a ha (okTs_mem h.2 a ha)) t

/-- kind.Put -/
def putF (names : List ByteArray) (l : List Ty) : Ty → Ty
  | .mk k n xs => bif k == 5 && (decide (idxF n names 0 ≥ 0) && decide (idxF n names 0 < l.length)) then (l[(idxF n names 0).toNat]?).getD (.mk k n xs) else .mk k n (putFs names l xs)
  where putFs (names : List ByteArray) (l : List Ty) : List Ty → List Ty
  | [] => []
  | t :: r => putF names l t :: putFs names l r
theorem putFs_map (names : List ByteArray) (l xs : List Ty) : putF.putFs names l xs = xs.map (putF names l) := by
  induction xs with
  | nil => rfl
  | cons t r ih => simp [putF.putFs, ih]

theorem put_all (names : List ByteArray) (l : List Ty) (hn : names.length < 9223372036854775807) (hl : l.length < 9223372036854775807) (hol : okTs l) (t : Ty) (ht : okT t)
    (ih : ∀ a ∈ t.args, APure Tryd.prog 25 [.p (eT a), .p (.sl 1 (names.map eStr)), .p (.sl 3 (eTs l))] (.p (eT (putF names l a)))) :
    APure Tryd.prog 25 [.p (eT t), .p (.sl 1 (names.map eStr)), .p (.sl 3 (eTs l))] (.p (eT (putF names l t))) := by
  obtain ⟨kd, nm, xs⟩ := t
  simp only [Ty.args] at ih
  have hlen := ht.1
  refine APure.intro (tyOf_ok Tryd.prog) hmix Tryd.func25 rfl (by rfl) (by kernel_rfl) (by show 3 ≤ _; decide) rfl ?_
  conv => whnf
  refine asplit ?_ ?_ <;> intro h1 <;> conv => whnf
  · refine apc (index_spec names nm hn) ?_
    conv => whnf
    refine asplit ?_ ?_ <;> intro h2 <;> conv => whnf
    · refine asplit ?_ ?_ <;> intro h3 <;> conv => whnf
      · have h2' : idxF nm names 0 ≥ 0 := of_decide_eq_true h2
        rw [eTs_len] at h3
        have h3' : idxF nm names 0 < l.length := of_decide_eq_true h3
        obtain ⟨b, hb1⟩ : ∃ b, l[(idxF nm names 0).toNat]? = some b := ⟨_, List.getElem?_eq_getElem (by omega)⟩
        have hput : putF names l (.mk kd nm xs) = b := by rw [putF]; simp only [h1, h2, h3, Bool.and_self, cond_true, hb1, Option.getD_some]
        rw [hput]
        refine ⟨eT b, h2', eTs_get hb1, ?_⟩
        have hcp := copy_spec b (okTs_mem hol b (List.mem_of_getElem? hb1))
        obtain ⟨bk, bn, bs⟩ := b
        conv => whnf
        refine apc hcp ?_
        conv => whnf
        exact .inl rfl
      · have hput : putF names l (.mk kd nm xs) = .mk kd nm (xs.map (putF names l)) := by rw [eTs_len] at h3; rw [putF, ← putFs_map]; simp only [h3, Bool.and_false, cond_false]
        rw [hput]
        refine lp_nil 8 2 rfl ?_
        refine loopS (tyOf_ok _) hmix (by kernel_rfl) xs.length [1, 2, 3, 6, 8, 32, 33, 34] [3, 6] (fun k s => [.p (.sl 1 (names.map eStr)), .p (.sl 3 (eTs l)), .ptr 3 0, .ptr 6 0, .so 3 s, .p (.sl 3 (eTs xs)), .p (.i .i64 (eTs xs).length), .p (.i .i64 (ix k))])
          (fun _ _ => [.cells [.p (.i .i64 kd), .p (.s nm), .p (.sl 3 (eTs xs))], .cells [.p (.i .i64 0), .p (.s ⟨#[]⟩), .nilS]]) (fun k s => s = eTs ((xs.take k).map (putF names l))) [] ⟨rfl, rfl, rfl, rfl⟩ rfl ?_
        intro k s hk hs
        conv => whnf
        refine asplit ?_ ?_ <;> intro g1 <;> conv => whnf
        · have hk1 := ix_tt g1 (by rw [eTs_len]) hk (by omega)
          obtain ⟨b, hb1⟩ : ∃ b, xs[k]? = some b := ⟨xs[k], by simp [hk1]⟩
          refine aidxk (eTs_get hb1) (by omega) ?_
          have hc := ih b (List.mem_of_getElem? hb1)
          have hts := take_snoc hb1
          generalize hpp : putF names l b = pb' at hc
          obtain ⟨bk, bn, bs⟩ := b
          have hpb : ∃ pk pn ps, pb' = .mk pk pn ps := by cases pb'; exact ⟨_, _, _, rfl⟩
          obtain ⟨pk, pn, ps, rfl⟩ := hpb
          conv => whnf
          refine apc hc ?_
          conv => whnf
          refine aneed (show (s.length + 1) * 48 ≤ 140737488355328 by rw [hs, eTs_len]; simp; omega) ?_
          conv => whnf
          refine ⟨hk1, _, ⟨rfl, rfl, rfl, rfl⟩, ?_⟩
          rw [hts, hs, List.map_append, eTs_map, eTs_map, List.map_append, List.map_cons, hpp]; rfl
        · have hk1 := ix_ff g1 (by rw [eTs_len]) hk (by omega)
          have : s = eTs (xs.map (putF names l)) := by rw [hs, hk1, List.take_length]
          subst this
          exact .inl rfl
    · have hput : putF names l (.mk kd nm xs) = .mk kd nm (xs.map (putF names l)) := by rw [putF, ← putFs_map]; simp only [h2, Bool.false_and, Bool.and_false, cond_false]
      rw [hput]
      refine lp_nil 8 2 rfl ?_
      refine loopS (tyOf_ok _) hmix (by kernel_rfl) xs.length [1, 2, 3, 6, 8, 32, 33, 34] [3, 6] (fun k s => [.p (.sl 1 (names.map eStr)), .p (.sl 3 (eTs l)), .ptr 3 0, .ptr 6 0, .so 3 s, .p (.sl 3 (eTs xs)), .p (.i .i64 (eTs xs).length), .p (.i .i64 (ix k))])
        (fun _ _ => [.cells [.p (.i .i64 kd), .p (.s nm), .p (.sl 3 (eTs xs))], .cells [.p (.i .i64 0), .p (.s ⟨#[]⟩), .nilS]]) (fun k s => s = eTs ((xs.take k).map (putF names l))) [] ⟨rfl, rfl, rfl, rfl⟩ rfl ?_
      intro k s hk hs
      conv => whnf
      refine asplit ?_ ?_ <;> intro g1 <;> conv => whnf
      · have hk1 := ix_tt g1 (by rw [eTs_len]) hk (by omega)
        obtain ⟨b, hb1⟩ : ∃ b, xs[k]? = some b := ⟨xs[k], by simp [hk1]⟩
        refine aidxk (eTs_get hb1) (by omega) ?_
        have hc := ih b (List.mem_of_getElem? hb1)
        have hts := take_snoc hb1
        generalize hpp : putF names l b = pb' at hc
        obtain ⟨bk, bn, bs⟩ := b
        have hpb : ∃ pk pn ps, pb' = .mk pk pn ps := by cases pb'; exact ⟨_, _, _, rfl⟩
        obtain ⟨pk, pn, ps, rfl⟩ := hpb
        conv => whnf
        refine apc hc ?_
        conv => whnf
        refine aneed (show (s.length + 1) * 48 ≤ 140737488355328 by rw [hs, eTs_len]; simp; omega) ?_
        conv => whnf
        refine ⟨hk1, _, ⟨rfl, rfl, rfl, rfl⟩, ?_⟩
        rw [hts, hs, List.map_append, eTs_map, eTs_map, List.map_append, List.map_cons, hpp]; rfl
      · have hk1 := ix_ff g1 (by rw [eTs_len]) hk (by omega)
        have : s = eTs (xs.map (putF names l)) := by rw [hs, hk1, List.take_length]
        subst this
        exact .inl rfl
  · have hput : putF names l (.mk kd nm xs) = .mk kd nm (xs.map (putF names l)) := by rw [putF, ← putFs_map]; simp only [h1, Bool.false_and, cond_false]
    rw [hput]
    refine lp_nil 8 2 rfl ?_
    refine loopS (tyOf_ok _) hmix (by kernel_rfl) xs.length [1, 2, 3, 6, 8, 32, 33, 34] [3, 6] (fun k s => [.p (.sl 1 (names.map eStr)), .p (.sl 3 (eTs l)), .ptr 3 0, .ptr 6 0, .so 3 s, .p (.sl 3 (eTs xs)), .p (.i .i64 (eTs xs).length), .p (.i .i64 (ix k))])
      (fun _ _ => [.cells [.p (.i .i64 kd), .p (.s nm), .p (.sl 3 (eTs xs))], .cells [.p (.i .i64 0), .p (.s ⟨#[]⟩), .nilS]]) (fun k s => s = eTs ((xs.take k).map (putF names l))) [] ⟨rfl, rfl, rfl, rfl⟩ rfl ?_
    intro k s hk hs
    conv => whnf
    refine asplit ?_ ?_ <;> intro g1 <;> conv => whnf
    · have hk1 := ix_tt g1 (by rw [eTs_len]) hk (by omega)
      obtain ⟨b, hb1⟩ : ∃ b, xs[k]? = some b := ⟨xs[k], by simp [hk1]⟩
      refine aidxk (eTs_get hb1) (by omega) ?_
      have hc := ih b (List.mem_of_getElem? hb1)
      have hts := take_snoc hb1
      generalize hpp : putF names l b = pb' at hc
      obtain ⟨bk, bn, bs⟩ := b
      have hpb : ∃ pk pn ps, pb' = .mk pk pn ps := by cases pb'; exact ⟨_, _, _, rfl⟩
      obtain ⟨pk, pn, ps, rfl⟩ := hpb
      conv => whnf
      refine apc hc ?_
      conv => whnf
      refine aneed (show (s.length + 1) * 48 ≤ 140737488355328 by rw [hs, eTs_len]; simp; omega) ?_
      conv => whnf
      refine ⟨hk1, _, ⟨rfl, rfl, rfl, rfl⟩, ?_⟩
      rw [hts, hs, List.map_append, eTs_map, eTs_map, List.map_append, List.map_cons, hpp]; rfl
    · have hk1 := ix_ff g1 (by rw [eTs_len]) hk (by omega)
      have : s = eTs (xs.map (putF names l)) := by rw [hs, hk1, List.take_length]
      subst this
      exact .inl rfl
theorem put_spec (names : List ByteArray) (l : List Ty) (hn : names.length < 9223372036854775807) (hl : l.length < 9223372036854775807) (hol : okTs l) (t : Ty) : okT t →
    APure Tryd.prog 25 [.p (eT t), .p (.sl 1 (names.map eStr)), .p (.sl 3 (eTs l))] (.p (eT (putF names l t))) :=
  Ty.ind (Q := fun t => okT t → APure Tryd.prog 25 [.p (eT t), .p (.sl 1 (names.map eStr)), .p (.sl 3 (eTs l))] (.p (eT (putF names l t)))) (fun k n xs ih h => put_all names l hn hl hol (.mk k n xs) h fun a ha => ih a ha (okTs_mem h.2 a ha)) t
end KK
