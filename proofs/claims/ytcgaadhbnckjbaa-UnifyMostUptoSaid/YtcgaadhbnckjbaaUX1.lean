/-
  DERIVED. Contracts of functions that the law reaches, and the law, for every input. No conditions.
-/
import Derived.Test.YtcgaadhbnckjbaaChecked
import Derived.Test.YtcgaadhbnckjbaaAMStr
import Derived.Test.YtcgaadhbnckjbaaAMInt
import Derived.Test.YtcgaadhbnckjbaaAMMv
open Go Go.AM Go.Proofs
set_option maxRecDepth 100000
namespace KK
theorem hmix : Try.prog.follows .mixedOrders = true := by kernel_rfl
inductive Ty where
  | mk (kind : Int) (name : ByteArray) (args : List Ty)
def Ty.kind : Ty → Int | .mk k _ _ => k
def Ty.name : Ty → ByteArray | .mk _ n _ => n
def Ty.args : Ty → List Ty | .mk _ _ a => a
theorem Ty.ind {Q : Ty → Prop} (h : ∀ k n xs, (∀ a ∈ xs, Q a) → Q (.mk k n xs)) (t : Ty) : Q t :=
  Ty.rec (motive_1 := Q) (motive_2 := fun l => ∀ a ∈ l, Q a) (fun k n xs ih => h k n xs ih) (fun _ hb => by cases hb) (fun a r h1 h2 b hb => by
    rcases List.mem_cons.1 hb with hb | hb
    · rw [hb]; exact h1
    · exact h2 b hb) t
mutual
def eT : Ty → PV
  | .mk k n xs => .agg [.i .i64 k, .s n, .sl 3 (eTs xs)]
def eTs : List Ty → List PV
  | [] => []
  | t :: r => eT t :: eTs r
end
theorem eTs_map (l : List Ty) : eTs l = l.map eT := by
  induction l with
  | nil => rfl
  | cons t r ih => simp [eTs, ih]
mutual
def okT : Ty → Prop
  | .mk _ _ xs => xs.length * 48 ≤ 140737488355328 ∧ okTs xs
def okTs : List Ty → Prop
  | [] => True
  | t :: r => okT t ∧ okTs r
end
theorem okTs_mem : ∀ {l : List Ty}, okTs l → ∀ t ∈ l, okT t
  | [], _, t, ht => by cases ht
  | a :: r, h, t, ht => by
    rcases List.mem_cons.1 ht with rfl | ht
    · exact h.1
    · exact okTs_mem h.2 t ht

/-- slices.Index of strings -/
def idxF (x : ByteArray) : List ByteArray → Nat → Int
  | [], _ => -1
  | a :: r, k => bif x == a then (k : Int) else idxF x r (k + 1)
def eStr (s : ByteArray) : PV := .s s

theorem index_spec (l : List ByteArray) (x : ByteArray) (hb : l.length < 9223372036854775807) : APure Try.prog 35 [.p (.sl 1 (l.map eStr)), .p (.s x)] (.p (.i .i64 (idxF x l 0))) := by
  refine APure.intro (tyOf_ok Try.prog) hmix Try.func35 rfl (by rfl) (by kernel_rfl) (by show 2 ≤ _; decide) rfl ?_
  conv => whnf
  refine loopM (tyOf_ok _) hmix (by kernel_rfl) [0, 1, 6, 7, 8] [] (fun q vals objs => ∃ k : Nat, q + k = l.length ∧ objs = [] ∧ vals = [.p (.sl 1 (l.map eStr)), .p (.s x), .p (.sl 1 (l.map eStr)), .p (.i .i64 (l.map eStr).length), .p (.i .i64 k)] ∧ idxF x l 0 = idxF x (l.drop k) k) l.length ⟨[], rfl, rfl, rfl, 0, by omega, rfl, rfl, by simp⟩ ?_
  rintro q vals objs ⟨k, hk, rfl, rfl, hn⟩
  conv => whnf
  refine asplit ?_ ?_ <;> intro h1 <;> conv => whnf
  · have hk1 : k < l.length := by simpa using h1
    obtain ⟨b, hb1⟩ : ∃ b, l[k]? = some b := ⟨l[k], by simp [hk1]⟩
    rw [drop_cons hb1, idxF] at hn
    refine aidx hb1 ?_
    conv => whnf
    refine asplit ?_ ?_ <;> intro h2 <;> conv => whnf
    · refine .inl (pi ?_)
      rw [bl_iff] at h2
      rw [hn, h2]; rfl
    · refine ⟨q - 1, by omega, [], rfl, rfl, rfl, k + 1, by omega, rfl, by rw [← inc64 (by omega)]; rfl, ?_⟩
      rw [bl_iff] at h2
      rw [hn, h2]; rfl
  · have : l.drop k = [] := List.drop_eq_nil_of_le (by simpa using h1)
    exact .inl (pi (by rw [hn, this]; rfl))

def hasF (x : ByteArray) (l : List ByteArray) : Bool := l.any fun a => x == a
theorem idx_has (x : ByteArray) : ∀ (l : List ByteArray) (k : Nat), decide (idxF x l k ≥ 0) = hasF x l
  | [], k => rfl
  | a :: r, k => by
    rw [idxF, hasF, List.any_cons]
    cases x == a with
    | true => simp
    | false => simpa [hasF] using idx_has x r (k + 1)

theorem eTs_get {l : List Ty} {k : Nat} {t : Ty} (h : l[k]? = some t) : (eTs l)[k]? = some (eT t) := by rw [eTs_map]; simp [h]
theorem eTs_len (l : List Ty) : (eTs l).length = l.length := by rw [eTs_map]; simp

/-- kind.Copy -/
theorem copy_all (t : Ty) (ht : okT t) (ih : ∀ a ∈ t.args, APure Try.prog 31 [.p (eT a)] (.p (eT a))) : APure Try.prog 31 [.p (eT t)] (.p (eT t)) := by
  obtain ⟨kd, nm, xs⟩ := t
  simp only [Ty.args] at ih
  have hlen := ht.1
  refine APure.intro (tyOf_ok Try.prog) hmix Try.func31 rfl (by rfl) (by kernel_rfl) (by show 1 ≤ _; decide) rfl ?_
  conv => whnf
  refine lp_nil 3 2 rfl ?_
  refine loopS (tyOf_ok _) hmix (by kernel_rfl) xs.length [1, 2, 3, 7, 8, 9] [1, 2] (fun k s => [.ptr 1 0, .ptr 2 0, .so 3 s, .p (.sl 3 (eTs xs)), .p (.i .i64 (eTs xs).length), .p (.i .i64 (ix k))])
    (fun _ _ => [.cells [.p (.i .i64 kd), .p (.s nm), .p (.sl 3 (eTs xs))], .cells [.p (.i .i64 0), .p (.s ⟨#[]⟩), .nilS]]) (fun k s => s = (eTs xs).take k) [] ⟨rfl, rfl, rfl, rfl⟩ rfl ?_
  intro k s hk hs
  conv => whnf
  refine asplit ?_ ?_ <;> intro h1 <;> conv => whnf
  · have hk1 := ix_tt h1 (by rw [eTs_len]) hk (by omega)
    obtain ⟨b, hb1⟩ : ∃ b, xs[k]? = some b := ⟨xs[k], by simp [hk1]⟩
    refine aidxk (eTs_get hb1) (by omega) ?_
    have hc := ih b (List.mem_of_getElem? hb1)
    have hts := take_snoc (eTs_get hb1)
    obtain ⟨bk, bn, bs⟩ := b
    conv => whnf
    refine apc hc ?_
    conv => whnf
    refine aneed (show (s.length + 1) * 48 ≤ 140737488355328 by rw [hs]; simp [eTs_len]; omega) ?_
    conv => whnf
    refine ⟨hk1, _, ⟨rfl, rfl, rfl, rfl⟩, ?_⟩
    rw [hts, hs]
  · have hk1 := ix_ff h1 (by rw [eTs_len]) hk (by omega)
    have : s = eTs xs := by rw [hs, hk1, ← eTs_len xs, List.take_length]
    subst this
    exact .inl rfl
theorem copy_spec (t : Ty) : okT t → APure Try.prog 31 [.p (eT t)] (.p (eT t)) :=
  Ty.ind (Q := fun t => okT t → APure Try.prog 31 [.p (eT t)] (.p (eT t))) (fun k n xs ih h => copy_all (.mk k n xs) h fun a ha => ih a ha (okTs_mem h.2 a ha)) t

/-- kind.Put -/
def putF (names : List ByteArray) (l : List Ty) : Ty → Ty
  | .mk k n xs => bif k == 5 && (decide (idxF n names 0 ≥ 0) && decide (idxF n names 0 < l.length)) then (l[(idxF n names 0).toNat]?).getD (.mk k n xs) else .mk k n (putFs names l xs)
  where putFs (names : List ByteArray) (l : List Ty) : List Ty → List Ty
  | [] => []
  | t :: r => putF names l t :: putFs names l r
theorem putFs_map (names : List ByteArray) (l xs : List Ty) : putF.putFs names l xs = xs.map (putF names l) := by
  induction xs with
  | nil => rfl
  | cons t r ih => simp [putF.putFs, ih]

theorem put_all (names : List ByteArray) (l : List Ty) (hn : names.length < 9223372036854775807) (hl : l.length < 9223372036854775807) (hol : okTs l) (t : Ty) (ht : okT t)
    (ih : ∀ a ∈ t.args, APure Try.prog 19 [.p (eT a), .p (.sl 1 (names.map eStr)), .p (.sl 3 (eTs l))] (.p (eT (putF names l a)))) :
    APure Try.prog 19 [.p (eT t), .p (.sl 1 (names.map eStr)), .p (.sl 3 (eTs l))] (.p (eT (putF names l t))) := by
  obtain ⟨kd, nm, xs⟩ := t
  simp only [Ty.args] at ih
  have hlen := ht.1
  refine APure.intro (tyOf_ok Try.prog) hmix Try.func19 rfl (by rfl) (by kernel_rfl) (by show 3 ≤ _; decide) rfl ?_
  conv => whnf
  refine asplit ?_ ?_ <;> intro h1 <;> conv => whnf
  · refine apc (index_spec names nm hn) ?_
    conv => whnf
    refine asplit ?_ ?_ <;> intro h2 <;> conv => whnf
    · refine asplit ?_ ?_ <;> intro h3 <;> conv => whnf
      · have h2' : idxF nm names 0 ≥ 0 := of_decide_eq_true h2
        rw [eTs_len] at h3
        have h3' : idxF nm names 0 < l.length := of_decide_eq_true h3
        obtain ⟨b, hb1⟩ : ∃ b, l[(idxF nm names 0).toNat]? = some b := ⟨_, List.getElem?_eq_getElem (by omega)⟩
        have hput : putF names l (.mk kd nm xs) = b := by rw [putF]; simp only [h1, h2, h3, Bool.and_self, cond_true, hb1, Option.getD_some]
        rw [hput]
        refine ⟨eT b, h2', eTs_get hb1, ?_⟩
        have hcp := copy_spec b (okTs_mem hol b (List.mem_of_getElem? hb1))
        obtain ⟨bk, bn, bs⟩ := b
        conv => whnf
        refine apc hcp ?_
        conv => whnf
        exact .inl rfl
      · have hput : putF names l (.mk kd nm xs) = .mk kd nm (xs.map (putF names l)) := by rw [eTs_len] at h3; rw [putF, ← putFs_map]; simp only [h3, Bool.and_false, cond_false]
        rw [hput]
        refine lp_nil 8 2 rfl ?_
        refine loopS (tyOf_ok _) hmix (by kernel_rfl) xs.length [1, 2, 3, 6, 8, 32, 33, 34] [3, 6] (fun k s => [.p (.sl 1 (names.map eStr)), .p (.sl 3 (eTs l)), .ptr 3 0, .ptr 6 0, .so 3 s, .p (.sl 3 (eTs xs)), .p (.i .i64 (eTs xs).length), .p (.i .i64 (ix k))])
          (fun _ _ => [.cells [.p (.i .i64 kd), .p (.s nm), .p (.sl 3 (eTs xs))], .cells [.p (.i .i64 0), .p (.s ⟨#[]⟩), .nilS]]) (fun k s => s = eTs ((xs.take k).map (putF names l))) [] ⟨rfl, rfl, rfl, rfl⟩ rfl ?_
        intro k s hk hs
        conv => whnf
        refine asplit ?_ ?_ <;> intro g1 <;> conv => whnf
        · have hk1 := ix_tt g1 (by rw [eTs_len]) hk (by omega)
          obtain ⟨b, hb1⟩ : ∃ b, xs[k]? = some b := ⟨xs[k], by simp [hk1]⟩
          refine aidxk (eTs_get hb1) (by omega) ?_
          have hc := ih b (List.mem_of_getElem? hb1)
          have hts := take_snoc hb1
          generalize hpp : putF names l b = pb' at hc
          obtain ⟨bk, bn, bs⟩ := b
          have hpb : ∃ pk pn ps, pb' = .mk pk pn ps := by cases pb'; exact ⟨_, _, _, rfl⟩
          obtain ⟨pk, pn, ps, rfl⟩ := hpb
          conv => whnf
          refine apc hc ?_
          conv => whnf
          refine aneed (show (s.length + 1) * 48 ≤ 140737488355328 by rw [hs, eTs_len]; simp; omega) ?_
          conv => whnf
          refine ⟨hk1, _, ⟨rfl, rfl, rfl, rfl⟩, ?_⟩
          rw [hts, hs, List.map_append, eTs_map, eTs_map, List.map_append, List.map_cons, hpp]; rfl
        · have hk1 := ix_ff g1 (by rw [eTs_len]) hk (by omega)
          have : s = eTs (xs.map (putF names l)) := by rw [hs, hk1, List.take_length]
          subst this
          exact .inl rfl
    · have hput : putF names l (.mk kd nm xs) = .mk kd nm (xs.map (putF names l)) := by rw [putF, ← putFs_map]; simp only [h2, Bool.false_and, Bool.and_false, cond_false]
      rw [hput]
      refine lp_nil 8 2 rfl ?_
      refine loopS (tyOf_ok _) hmix (by kernel_rfl) xs.length [1, 2, 3, 6, 8, 32, 33, 34] [3, 6] (fun k s => [.p (.sl 1 (names.map eStr)), .p (.sl 3 (eTs l)), .ptr 3 0, .ptr 6 0, .so 3 s, .p (.sl 3 (eTs xs)), .p (.i .i64 (eTs xs).length), .p (.i .i64 (ix k))])
        (fun _ _ => [.cells [.p (.i .i64 kd), .p (.s nm), .p (.sl 3 (eTs xs))], .cells [.p (.i .i64 0), .p (.s ⟨#[]⟩), .nilS]]) (fun k s => s = eTs ((xs.take k).map (putF names l))) [] ⟨rfl, rfl, rfl, rfl⟩ rfl ?_
      intro k s hk hs
      conv => whnf
      refine asplit ?_ ?_ <;> intro g1 <;> conv => whnf
      · have hk1 := ix_tt g1 (by rw [eTs_len]) hk (by omega)
        obtain ⟨b, hb1⟩ : ∃ b, xs[k]? = some b := ⟨xs[k], by simp [hk1]⟩
        refine aidxk (eTs_get hb1) (by omega) ?_
        have hc := ih b (List.mem_of_getElem? hb1)
        have hts := take_snoc hb1
        generalize hpp : putF names l b = pb' at hc
        obtain ⟨bk, bn, bs⟩ := b
        have hpb : ∃ pk pn ps, pb' = .mk pk pn ps := by cases pb'; exact ⟨_, _, _, rfl⟩
        obtain ⟨pk, pn, ps, rfl⟩ := hpb
        conv => whnf
        refine apc hc ?_
        conv => whnf
        refine aneed (show (s.length + 1) * 48 ≤ 140737488355328 by rw [hs, eTs_len]; simp; omega) ?_
        conv => whnf
        refine ⟨hk1, _, ⟨rfl, rfl, rfl, rfl⟩, ?_⟩
        rw [hts, hs, List.map_append, eTs_map, eTs_map, List.map_append, List.map_cons, hpp]; rfl
      · have hk1 := ix_ff g1 (by rw [eTs_len]) hk (by omega)
        have : s = eTs (xs.map (putF names l)) := by rw [hs, hk1, List.take_length]
        subst this
        exact .inl rfl
  · have hput : putF names l (.mk kd nm xs) = .mk kd nm (xs.map (putF names l)) := by rw [putF, ← putFs_map]; simp only [h1, Bool.false_and, cond_false]
    rw [hput]
    refine lp_nil 8 2 rfl ?_
    refine loopS (tyOf_ok _) hmix (by kernel_rfl) xs.length [1, 2, 3, 6, 8, 32, 33, 34] [3, 6] (fun k s => [.p (.sl 1 (names.map eStr)), .p (.sl 3 (eTs l)), .ptr 3 0, .ptr 6 0, .so 3 s, .p (.sl 3 (eTs xs)), .p (.i .i64 (eTs xs).length), .p (.i .i64 (ix k))])
      (fun _ _ => [.cells [.p (.i .i64 kd), .p (.s nm), .p (.sl 3 (eTs xs))], .cells [.p (.i .i64 0), .p (.s ⟨#[]⟩), .nilS]]) (fun k s => s = eTs ((xs.take k).map (putF names l))) [] ⟨rfl, rfl, rfl, rfl⟩ rfl ?_
    intro k s hk hs
    conv => whnf
    refine asplit ?_ ?_ <;> intro g1 <;> conv => whnf
    · have hk1 := ix_tt g1 (by rw [eTs_len]) hk (by omega)
      obtain ⟨b, hb1⟩ : ∃ b, xs[k]? = some b := ⟨xs[k], by simp [hk1]⟩
      refine aidxk (eTs_get hb1) (by omega) ?_
      have hc := ih b (List.mem_of_getElem? hb1)
      have hts := take_snoc hb1
      generalize hpp : putF names l b = pb' at hc
      obtain ⟨bk, bn, bs⟩ := b
      have hpb : ∃ pk pn ps, pb' = .mk pk pn ps := by cases pb'; exact ⟨_, _, _, rfl⟩
      obtain ⟨pk, pn, ps, rfl⟩ := hpb
      conv => whnf
      refine apc hc ?_
      conv => whnf
      refine aneed (show (s.length + 1) * 48 ≤ 140737488355328 by rw [hs, eTs_len]; simp; omega) ?_
      conv => whnf
      refine ⟨hk1, _, ⟨rfl, rfl, rfl, rfl⟩, ?_⟩
      rw [hts, hs, List.map_append, eTs_map, eTs_map, List.map_append, List.map_cons, hpp]; rfl
    · have hk1 := ix_ff g1 (by rw [eTs_len]) hk (by omega)
      have : s = eTs (xs.map (putF names l)) := by rw [hs, hk1, List.take_length]
      subst this
      exact .inl rfl
theorem put_spec (names : List ByteArray) (l : List Ty) (hn : names.length < 9223372036854775807) (hl : l.length < 9223372036854775807) (hol : okTs l) (t : Ty) : okT t →
    APure Try.prog 19 [.p (eT t), .p (.sl 1 (names.map eStr)), .p (.sl 3 (eTs l))] (.p (eT (putF names l t))) :=
  Ty.ind (Q := fun t => okT t → APure Try.prog 19 [.p (eT t), .p (.sl 1 (names.map eStr)), .p (.sl 3 (eTs l))] (.p (eT (putF names l t)))) (fun k n xs ih h => put_all names l hn hl hol (.mk k n xs) h fun a ha => ih a ha (okTs_mem h.2 a ha)) t
end KK
open Go Go.AM Go.Proofs
set_option maxRecDepth 100000
namespace KK
def sameF : Ty → Ty → Bool
  | .mk k n xs, .mk k' n' ys => (k == k') && ((n == n') && sameF.go xs ys)
  where go : List Ty → List Ty → Bool
  | [], [] => true
  | x :: xs, y :: ys => sameF x y && sameF.go xs ys
  | _, _ => false

theorem go_len : ∀ (xs ys : List Ty), xs.length ≠ ys.length → sameF.go xs ys = false
  | [], [], h => absurd rfl h
  | [], _ :: _, _ => by rw [sameF.go] <;> simp
  | _ :: _, [], _ => by rw [sameF.go] <;> simp
  | x :: xs, y :: ys, h => by rw [sameF.go, go_len xs ys (by simpa using h), Bool.and_false]

theorem equalFunc_spec (xs ys : List Ty) (hx : xs.length < 9223372036854775807) (f : Nat) (ih : ∀ a ∈ xs, ∀ b ∈ ys, APure Try.prog f [.p (eT a), .p (eT b)] (.p (.b (sameF a b)))) :
    APure Try.prog 20 [.p (.sl 3 (eTs xs)), .p (.sl 3 (eTs ys)), .fn f [] []] (.p (.b (sameF.go xs ys))) := by
  refine APure.intro (tyOf_ok Try.prog) hmix Try.func20 rfl (by rfl) (by kernel_rfl) (by show 3 ≤ _; decide) rfl ?_
  conv => whnf
  refine asplit ?_ ?_ <;> intro h1 <;> conv => whnf
  · rw [eTs_len, eTs_len] at h1
    exact .inl (pb (go_len xs ys (by simp at h1; omega)).symm)
  rw [eTs_len, eTs_len] at h1
  have hlen : xs.length = ys.length := by simp at h1; omega
  refine loopS (tyOf_ok _) hmix (by kernel_rfl) xs.length [1, 2, 15, 16, 17] [] (fun k _ => [.p (.sl 3 (eTs ys)), .fn f [] [], .p (.sl 3 (eTs xs)), .p (.i .i64 (eTs xs).length), .p (.i .i64 (ix k))])
    (fun _ _ => []) (fun k _ => sameF.go xs ys = sameF.go (xs.drop k) (ys.drop k)) () ⟨rfl, rfl, rfl, rfl⟩ rfl ?_
  intro k _ hk hs
  conv => whnf
  refine asplit ?_ ?_ <;> intro h2 <;> conv => whnf
  · have hk1 := ix_tt h2 (by rw [eTs_len]) hk hx
    obtain ⟨a, ha⟩ : ∃ b, xs[k]? = some b := ⟨xs[k], by simp [hk1]⟩
    obtain ⟨b, hb⟩ : ∃ b, ys[k]? = some b := ⟨ys[k], by simp [← hlen, hk1]⟩
    have hc := ih a (List.mem_of_getElem? ha) b (List.mem_of_getElem? hb)
    rw [drop_cons ha, drop_cons hb, sameF.go] at hs
    generalize sameF a b = r at hc hs
    refine aidxk (eTs_get ha) (by omega) ?_
    obtain ⟨ak, an, ax⟩ := a
    conv => whnf
    refine aidxk (eTs_get hb) (by omega) ?_
    obtain ⟨bk, bn, bx⟩ := b
    conv => whnf
    refine apc hc ?_
    conv => whnf
    refine asplit ?_ ?_ <;> intro h3 <;> conv => whnf
    · simp only [Bool.not_eq_true'] at h3
      exact .inl (pb (by rw [hs, h3]; rfl))
    · simp only [Bool.not_eq_false'] at h3
      exact ⟨hk1, (), ⟨rfl, rfl, rfl, rfl⟩, by rw [hs, h3]; rfl⟩
  · have hk1 := ix_ff h2 (by rw [eTs_len]) hk hx
    have e1 : xs.drop k = [] := List.drop_eq_nil_of_le (by omega)
    have e2 : ys.drop k = [] := List.drop_eq_nil_of_le (by omega)
    exact .inl (pb (by rw [hs, e1, e2]; rfl))

theorem sameType_of (a b : Ty) (ha : okT a) (ih : ∀ x ∈ a.args, ∀ y, okT y → APure Try.prog 10 [.p (eT x), .p (eT y)] (.p (.b (sameF x y)))) (hb : okT b) :
    APure Try.prog 10 [.p (eT a), .p (eT b)] (.p (.b (sameF a b))) := by
  obtain ⟨ak, an, ax⟩ := a
  obtain ⟨bk, bn, bx⟩ := b
  simp only [Ty.args] at ih
  have hc := equalFunc_spec ax bx (by have := ha.1; omega) 10 (fun x hx y hy => ih x hx y (okTs_mem hb.2 y hy))
  rw [sameF]
  generalize sameF.go ax bx = r at hc
  refine APure.intro (tyOf_ok Try.prog) hmix Try.func10 rfl (by rfl) (by kernel_rfl) (by show 2 ≤ _; decide) rfl ?_
  conv => whnf
  refine asplit ?_ ?_ <;> intro h1 <;> conv => whnf
  · refine asplit ?_ ?_ <;> intro h2 <;> conv => whnf
    · refine apc hc ?_
      conv => whnf
      rw [bl_iff] at h2
      exact .inl (pb (by rw [h1, h2]; simp))
    · rw [bl_iff] at h2
      exact .inl (pb (by rw [h1, h2]; rfl))
  · exact .inl (pb (by rw [h1]; rfl))
theorem sameType_spec (a : Ty) : okT a → ∀ b, okT b → APure Try.prog 10 [.p (eT a), .p (eT b)] (.p (.b (sameF a b))) :=
  Ty.ind (Q := fun a => okT a → ∀ b, okT b → APure Try.prog 10 [.p (eT a), .p (eT b)] (.p (.b (sameF a b)))) (fun k n xs ih h b hb => sameType_of (.mk k n xs) b h (fun x hx y hy => ih x hx (okTs_mem h.2 x hx) y hy) hb) a

theorem idx_get (n : ByteArray) : ∀ (l : List ByteArray) (k : Nat), hasF n l = true → ∃ j, idxF n l k = ((k + j : Nat) : Int) ∧ j < l.length
  | [], k, h => by simp [hasF] at h
  | a :: r, k, h => by
    rw [idxF]
    cases hq : n == a with
    | true => exact ⟨0, rfl, by simp⟩
    | false =>
      obtain ⟨j, h1, h2⟩ := idx_get n r (k + 1) (by simpa [hasF, hq] using h)
      exact ⟨j + 1, by rw [cond_false, h1]; omega, by simp; omega⟩

theorem same_refl (t : Ty) : sameF t t = true :=
  Ty.ind (Q := fun t => sameF t t = true) (fun k n xs ih => by
    rw [sameF]
    have hb : (n == n) = true := (beq_bytes n n).2 rfl
    have : sameF.go xs xs = true := by
      clear hb
      induction xs with
      | nil => rw [sameF.go]
      | cons x r ihr => rw [sameF.go, ih x (by simp), ihr (fun a ha => ih a (by simp [ha]))]; rfl
    rw [this, hb]; simp) t

theorem okT_put {ps : List ByteArray} {l : List Ty} (hl : okTs l) (t : Ty) : okT t → okT (putF ps l t) :=
  Ty.ind (Q := fun t => okT t → okT (putF ps l t)) (fun k n xs ih h => by
    have hx := h
    have key : okT (.mk k n (xs.map (putF ps l))) := by
      refine ⟨by have := h.1; simpa using this, ?_⟩
      have h2 := h.2
      clear h hx
      induction xs with
      | nil => exact trivial
      | cons x r ihr => exact ⟨ih x (by simp) h2.1, ihr (fun a ha => ih a (by simp [ha])) h2.2⟩
    rw [putF, putFs_map]
    cases (k == 5 && (decide (idxF n ps 0 ≥ 0) && decide (idxF n ps 0 < l.length))) with
    | false => exact key
    | true =>
      rw [cond_true]
      cases hq : l[(idxF n ps 0).toNat]? with
      | none => exact hx
      | some b => exact okTs_mem hl b (List.mem_of_getElem? hq)) t

end KK
open Go Go.AM Go.Proofs
set_option maxRecDepth 100000
namespace KK
abbrev BM := List (ByteArray × Bool)
abbrev TM := List (ByteArray × Ty)
def has (A : BM) (t : ByteArray) : Bool := (slook t A).getD false
/-- strings.HasPrefix -/
def hpF (s p : ByteArray) : Bool := bif decide ((s.size : Int) ≥ (p.size : Int)) then s.extract 0 p.size == p else false
theorem hp0_spec (s p : ByteArray) (hp : p.size ≤ 9223372036854775807) : APure Try.prog 45 [.p (.s s), .p (.s p)] (.p (.b (hpF s p))) := by
  rw [hpF, ← bl_iff]
  refine APure.intro (tyOf_ok Try.prog) hmix Try.func45 rfl (by rfl) (by kernel_rfl) (by show 2 ≤ _; decide) rfl ?_
  conv => whnf
  refine asplit ?_ ?_ <;> intro h1 <;> conv => whnf
  · replace h1 : decide ((s.size : Int) ≥ (p.size : Int)) = true := h1
    rw [h1]
    have := of_decide_eq_true h1
    refine aneed ⟨by omega, by omega, by omega⟩ ?_
    conv => whnf
    exact .inl rfl
  · replace h1 : decide ((s.size : Int) ≥ (p.size : Int)) = false := h1
    rw [h1]
    exact .inl rfl
theorem hp_spec (s p : ByteArray) (hp : p.size ≤ 9223372036854775807) : APure Try.prog 37 [.p (.s s), .p (.s p)] (.p (.b (hpF s p))) := by
  have h := hp0_spec s p hp
  generalize hpF s p = q at h
  refine APure.intro (tyOf_ok Try.prog) hmix Try.func37 rfl (by rfl) (by kernel_rfl) (by show 2 ≤ _; decide) rfl ?_
  conv => whnf
  refine apc h ?_
  conv => whnf
  exact .inl rfl
def qm : ByteArray := ⟨#[63]⟩
def unkB : Ty → Bool
  | .mk k n xs => bif (k == 5) then (bif xs.length == 0 then hpF n qm else false) else false
theorem unknown0_spec (t : Ty) : APure Try.prog 27 [.p (eT t)] (.p (.b (unkB t))) := by
  obtain ⟨k, n, xs⟩ := t
  rw [unkB]
  have h := hp_spec n qm (by decide)
  generalize hpF n qm = q at h
  refine APure.intro (tyOf_ok Try.prog) hmix Try.func27 rfl (by rfl) (by kernel_rfl) (by show 1 ≤ _; decide) rfl ?_
  conv => whnf
  refine asplit ?_ ?_ <;> intro h1 <;> conv => whnf
  · replace h1 : (k == 5) = true := h1
    rw [h1]
    refine asplit ?_ ?_ <;> intro h2 <;> conv => whnf
    · replace h2 : (((eTs xs).length : Int) == 0) = true := h2
      have h3 : (xs.length == 0) = true := by rw [eTs_len] at h2; simp at h2 ⊢; omega
      rw [h3]
      refine apc h ?_
      conv => whnf
      exact .inl rfl
    · replace h2 : (((eTs xs).length : Int) == 0) = false := h2
      have h3 : (xs.length == 0) = false := by rw [eTs_len] at h2; simp at h2 ⊢; omega
      rw [h3]
      exact .inl rfl
  · replace h1 : (k == 5) = false := h1
    rw [h1]
    exact .inl rfl
theorem unknown_spec (t : Ty) : APure Try.prog 23 [.p (eT t)] (.p (.b (unkB t))) := by
  have h := unknown0_spec t
  generalize unkB t = q at h
  obtain ⟨k, n, xs⟩ := t
  refine APure.intro (tyOf_ok Try.prog) hmix Try.func23 rfl (by rfl) (by kernel_rfl) (by show 1 ≤ _; decide) rfl ?_
  conv => whnf
  refine apc h ?_
  conv => whnf
  exact .inl rfl
/-- Unknowns -/
structure CS where
  seen : BM
  out : List ByteArray
mutual
def nodes : Ty → Nat
  | .mk _ _ xs => 1 + nodess xs
def nodess : List Ty → Nat
  | [] => 0
  | t :: r => nodes t + nodess r
end
def ownU (t : Ty) (σ : CS) : CS := bif unkB t then (bif !has σ.seen t.name then ⟨sput t.name true σ.seen, σ.out ++ [t.name]⟩ else σ) else σ
mutual
def unkF : Ty → CS → CS
  | .mk k n xs, σ => unkFs xs (ownU (.mk k n xs) σ)
def unkFs : List Ty → CS → CS
  | [], σ => σ
  | t :: r, σ => unkFs r (unkF t σ)
end
theorem nodess_app : ∀ (l r : List Ty), nodess (l ++ r) = nodess l + nodess r
  | [], r => by simp [nodess]
  | t :: l, r => by simp [nodess, nodess_app l r]; omega
theorem nodess_take (l : List Ty) (k : Nat) : nodess (l.take k) ≤ nodess l := by
  have := nodess_app (l.take k) (l.drop k); rw [List.take_append_drop] at this; omega
theorem unkFs_app : ∀ (l r : List Ty) (σ : CS), unkFs (l ++ r) σ = unkFs r (unkFs l σ)
  | [], r, σ => by simp [unkFs]
  | t :: l, r, σ => by simp [unkFs, unkFs_app l r]
theorem unkFs_snoc (l : List Ty) (t : Ty) (σ : CS) : unkFs (l ++ [t]) σ = unkF t (unkFs l σ) := by rw [unkFs_app]; simp [unkFs]
theorem ownU_len (t : Ty) (σ : CS) : (ownU t σ).out.length ≤ σ.out.length + 1 := by
  unfold ownU; cases unkB t <;> cases (!has σ.seen t.name) <;> simp
mutual
theorem unk_len : ∀ (t : Ty) (σ : CS), (unkF t σ).out.length ≤ σ.out.length + nodes t
  | .mk k n xs, σ => by
    rw [unkF, nodes]
    have h1 := unks_len xs (ownU (.mk k n xs) σ)
    have h2 := ownU_len (.mk k n xs) σ
    omega
theorem unks_len : ∀ (l : List Ty) (σ : CS), (unkFs l σ).out.length ≤ σ.out.length + nodess l
  | [], σ => by simp [unkFs]
  | t :: r, σ => by
    rw [unkFs, nodess]
    have h1 := unks_len r (unkF t σ)
    have h2 := unk_len t σ
    omega
end
def fnU : AV := .fn 22 [] [.ptr 1000000000 0, .ptr 1000000002 0, .ptr 1000000003 0]
def hpU (σ : CS) : Heap := [(1000000000, .cells [.mp 1000000001]), (1000000001, .map .ks (eM vB σ.seen)), (1000000002, .cells [.so 1 (σ.out.map eStr)]), (1000000003, .cells [fnU])]
def UnkS (t : Ty) : Prop := ∀ σ : CS, σ.out.length + nodes t ≤ 1099511627776 → AMem Try.prog 22 [.p (eT t), .ptr 1000000000 0, .ptr 1000000002 0, .ptr 1000000003 0] (hpU σ) (.tup []) (hpU (unkF t σ))
theorem nodes_len : ∀ (l : List Ty), l.length ≤ nodess l
  | [] => by simp
  | ⟨k, n, xs⟩ :: r => by have := nodes_len r; simp only [nodess, nodes, List.length_cons]; omega
theorem unk_all (t : Ty) (ih : ∀ a ∈ t.args, UnkS a) : UnkS t := by
  intro σ hσ
  have hu := unknown_spec t
  generalize hR : unkF t σ = R
  obtain ⟨k0, n0, xs⟩ := t
  simp only [Ty.args] at ih
  rw [unkF] at hR
  rw [nodes] at hσ
  have hxl := nodes_len xs
  have hol := ownU_len (.mk k0 n0 xs) σ
  generalize hτ : ownU (.mk k0 n0 xs) σ = τ at hR hol
  rw [ownU] at hτ
  simp only [Ty.name] at hτ
  generalize unkB (.mk k0 n0 xs) = ub at hu hτ
  refine AMem.intro (tyOf_ok Try.prog) hmix Try.func22 rfl (by rfl) (by kernel_rfl) (by show 4 ≤ _; decide) rfl ?_
  conv => whnf
  refine apc hu ?_
  conv => whnf
  refine asplit ?_ ?_ <;> intro h1 <;> conv => whnf
  · subst h1
    rw [cond_true] at hτ
    refine alook (mlook_B n0 σ.seen) ?_
    conv => whnf
    refine asplit ?_ ?_ <;> intro h2 <;> conv => whnf
    · replace h2 : (!has σ.seen n0) = true := h2
      rw [h2, cond_true] at hτ
      refine aneed (show ((σ.out.map eStr).length + 1) * 16 ≤ 140737488355328 by simp; omega) ?_
      conv => whnf
      have hcall : ∀ (j : Nat) (b : Ty) (s : CS), xs[j]? = some b → s = unkFs (xs.take j) τ → s.out.length + nodes b ≤ 1099511627776 := by
        intro j b s hb h
        have h1 := nodess_take xs (j + 1)
        rw [take_snoc hb, nodess_app] at h1
        simp only [nodess] at h1
        have h2 := unks_len (xs.take j) τ
        rw [h]; omega
      refine loopS (tyOf_ok _) hmix (by kernel_rfl) xs.length [1, 2, 3, 25, 26, 27] [1000000000, 1000000001, 1000000002, 1000000003] (fun k (s : CS) => [.ptr 1000000000 0, .ptr 1000000002 0, .ptr 1000000003 0, .p (.sl 3 (eTs xs)), .p (.i .i64 (eTs xs).length), .p (.i .i64 (ix k))])
        (fun k s => [.cells [.mp 1000000001], .map .ks (eM vB s.seen), .cells [.so 1 (s.out.map eStr)], .cells [fnU]]) (fun k s => s = unkFs (xs.take k) τ) τ ⟨by rw [← hτ]; simp only [List.map_append, ← mput_eM]; rfl, rfl, rfl, rfl⟩ (by simp [unkFs]) ?_
      intro k s hk hs
      conv => whnf
      refine asplit ?_ ?_ <;> intro h5 <;> conv => whnf
      · have hk1 := ix_tt h5 (by rw [eTs_len]) hk (by omega)
        obtain ⟨b, hb1⟩ : ∃ b, xs[k]? = some b := ⟨_, List.getElem?_eq_getElem hk1⟩
        refine aidxk (eTs_get hb1) (by omega) ?_
        have hc := ih b (List.mem_of_getElem? hb1) s (hcall k b s hb1 hs)
        have hts : unkFs (xs.take (k + 1)) τ = unkF b s := by rw [take_snoc hb1, unkFs_snoc, hs]
        generalize unkF b s = s' at hc hts
        obtain ⟨b1, b2, b3⟩ := b
        conv => whnf
        refine amc [1000000000, 1000000001, 1000000002, 1000000003] 10000 hc ?_
        conv => whnf
        exact ⟨hk1, s', ⟨rfl, rfl, rfl, rfl⟩, hts.symm⟩
      · have hk1 := ix_ff h5 (by rw [eTs_len]) hk (by omega)
        have hs2 : s = R := by rw [hs, hk1, List.take_length]; exact hR
        subst hs2
        exact ⟨.inl rfl, ⟨.inl rfl, trivial⟩, ⟨rfl, rfl⟩, ⟨.inl rfl, trivial⟩, ⟨.inl rfl, trivial⟩, trivial⟩
    · replace h2 : (!has σ.seen n0) = false := h2
      rw [h2, cond_false] at hτ
      have hcall : ∀ (j : Nat) (b : Ty) (s : CS), xs[j]? = some b → s = unkFs (xs.take j) τ → s.out.length + nodes b ≤ 1099511627776 := by
        intro j b s hb h
        have h1 := nodess_take xs (j + 1)
        rw [take_snoc hb, nodess_app] at h1
        simp only [nodess] at h1
        have h2 := unks_len (xs.take j) τ
        rw [h]; omega
      refine loopS (tyOf_ok _) hmix (by kernel_rfl) xs.length [1, 2, 3, 25, 26, 27] [1000000000, 1000000001, 1000000002, 1000000003] (fun k (s : CS) => [.ptr 1000000000 0, .ptr 1000000002 0, .ptr 1000000003 0, .p (.sl 3 (eTs xs)), .p (.i .i64 (eTs xs).length), .p (.i .i64 (ix k))])
        (fun k s => [.cells [.mp 1000000001], .map .ks (eM vB s.seen), .cells [.so 1 (s.out.map eStr)], .cells [fnU]]) (fun k s => s = unkFs (xs.take k) τ) τ ⟨by rw [← hτ]; rfl, rfl, rfl, rfl⟩ (by simp [unkFs]) ?_
      intro k s hk hs
      conv => whnf
      refine asplit ?_ ?_ <;> intro h5 <;> conv => whnf
      · have hk1 := ix_tt h5 (by rw [eTs_len]) hk (by omega)
        obtain ⟨b, hb1⟩ : ∃ b, xs[k]? = some b := ⟨_, List.getElem?_eq_getElem hk1⟩
        refine aidxk (eTs_get hb1) (by omega) ?_
        have hc := ih b (List.mem_of_getElem? hb1) s (hcall k b s hb1 hs)
        have hts : unkFs (xs.take (k + 1)) τ = unkF b s := by rw [take_snoc hb1, unkFs_snoc, hs]
        generalize unkF b s = s' at hc hts
        obtain ⟨b1, b2, b3⟩ := b
        conv => whnf
        refine amc [1000000000, 1000000001, 1000000002, 1000000003] 10000 hc ?_
        conv => whnf
        exact ⟨hk1, s', ⟨rfl, rfl, rfl, rfl⟩, hts.symm⟩
      · have hk1 := ix_ff h5 (by rw [eTs_len]) hk (by omega)
        have hs2 : s = R := by rw [hs, hk1, List.take_length]; exact hR
        subst hs2
        exact ⟨.inl rfl, ⟨.inl rfl, trivial⟩, ⟨rfl, rfl⟩, ⟨.inl rfl, trivial⟩, ⟨.inl rfl, trivial⟩, trivial⟩
  · subst h1
    rw [cond_false] at hτ
    have hcall : ∀ (j : Nat) (b : Ty) (s : CS), xs[j]? = some b → s = unkFs (xs.take j) τ → s.out.length + nodes b ≤ 1099511627776 := by
      intro j b s hb h
      have h1 := nodess_take xs (j + 1)
      rw [take_snoc hb, nodess_app] at h1
      simp only [nodess] at h1
      have h2 := unks_len (xs.take j) τ
      rw [h]; omega
    refine loopS (tyOf_ok _) hmix (by kernel_rfl) xs.length [1, 2, 3, 25, 26, 27] [1000000000, 1000000001, 1000000002, 1000000003] (fun k (s : CS) => [.ptr 1000000000 0, .ptr 1000000002 0, .ptr 1000000003 0, .p (.sl 3 (eTs xs)), .p (.i .i64 (eTs xs).length), .p (.i .i64 (ix k))])
      (fun k s => [.cells [.mp 1000000001], .map .ks (eM vB s.seen), .cells [.so 1 (s.out.map eStr)], .cells [fnU]]) (fun k s => s = unkFs (xs.take k) τ) τ ⟨by rw [← hτ]; rfl, rfl, rfl, rfl⟩ (by simp [unkFs]) ?_
    intro k s hk hs
    conv => whnf
    refine asplit ?_ ?_ <;> intro h5 <;> conv => whnf
    · have hk1 := ix_tt h5 (by rw [eTs_len]) hk (by omega)
      obtain ⟨b, hb1⟩ : ∃ b, xs[k]? = some b := ⟨_, List.getElem?_eq_getElem hk1⟩
      refine aidxk (eTs_get hb1) (by omega) ?_
      have hc := ih b (List.mem_of_getElem? hb1) s (hcall k b s hb1 hs)
      have hts : unkFs (xs.take (k + 1)) τ = unkF b s := by rw [take_snoc hb1, unkFs_snoc, hs]
      generalize unkF b s = s' at hc hts
      obtain ⟨b1, b2, b3⟩ := b
      conv => whnf
      refine amc [1000000000, 1000000001, 1000000002, 1000000003] 10000 hc ?_
      conv => whnf
      exact ⟨hk1, s', ⟨rfl, rfl, rfl, rfl⟩, hts.symm⟩
    · have hk1 := ix_ff h5 (by rw [eTs_len]) hk (by omega)
      have hs2 : s = R := by rw [hs, hk1, List.take_length]; exact hR
      subst hs2
      exact ⟨.inl rfl, ⟨.inl rfl, trivial⟩, ⟨rfl, rfl⟩, ⟨.inl rfl, trivial⟩, ⟨.inl rfl, trivial⟩, trivial⟩
theorem unk_spec (t : Ty) : UnkS t := Ty.ind (Q := UnkS) (fun k n xs ih => unk_all (.mk k n xs) ih) t
def unksF (t : Ty) : List ByteArray := (unkF t ⟨[], []⟩).out
theorem unknowns_spec (t : Ty) (ht : nodes t ≤ 1099511627776) : APure Try.prog 13 [.p (eT t)] (.p (.sl 1 ((unksF t).map eStr))) := by
  have h1 := unk_spec t ⟨[], []⟩ (by simp; omega)
  rw [unksF]
  generalize unkF t ⟨[], []⟩ = σ at h1
  obtain ⟨k0, n0, xs⟩ := t
  refine APure.intro (tyOf_ok Try.prog) hmix Try.func13 rfl (by rfl) (by kernel_rfl) (by show 1 ≤ _; decide) rfl ?_
  conv => whnf
  refine amcl [3, 6, 4, 5] 10000 h1 ?_ ?_
  · conv => whnf
    exact .inr (.inl rfl)
  · exact ⟨rfl, ⟨.inl rfl, trivial⟩, rfl, ⟨rfl, rfl⟩, rfl, ⟨.inr (.inr ⟨rfl, 0, rfl⟩), trivial⟩, rfl, ⟨.inl rfl, trivial⟩, trivial⟩
end KK
open Go Go.AM Go.Proofs
set_option maxRecDepth 100000
namespace KK
/-! pure -/
mutual
def pureF : Ty → Bool
  | .mk k _ xs => bif (bif k != 5 then true else xs.length == 0) then pureFs xs else false
def pureFs : List Ty → Bool
  | [] => true
  | t :: r => pureF t && pureFs r
end
def PureS (t : Ty) : Prop := APure Try.prog 14 [.p (eT t)] (.p (.b (pureF t)))
theorem pure1_of (t : Ty) (h : PureS t) : APure Try.prog 25 [.p (eT t)] (.p (.b (!pureF t))) := by
  unfold PureS at h
  generalize pureF t = q at h
  obtain ⟨k, n, xs⟩ := t
  refine APure.intro (tyOf_ok Try.prog) hmix Try.func25 rfl (by rfl) (by kernel_rfl) (by show 1 ≤ _; decide) rfl ?_
  conv => whnf
  refine apc h ?_
  conv => whnf
  exact .inl rfl
def npF : List Ty → Nat → Int
  | [], _ => -1
  | t :: r, k => bif !pureF t then (k : Int) else npF r (k + 1)
theorem np_pure : ∀ (l : List Ty) (k : Nat), (!decide (npF l k ≥ 0)) = pureFs l
  | [], k => rfl
  | t :: r, k => by
    rw [npF, pureFs]
    cases pureF t with
    | true => simpa using np_pure r (k + 1)
    | false => simp
theorem idxT_of (l : List Ty) (hl : l.length < 9223372036854775807) (ih : ∀ a ∈ l, PureS a) : APure Try.prog 36 [.p (.sl 3 (eTs l)), .fn 25 [] []] (.p (.i .i64 (npF l 0))) := by
  generalize hR : npF l 0 = R
  refine APure.intro (tyOf_ok Try.prog) hmix Try.func36 rfl (by rfl) (by kernel_rfl) (by show 2 ≤ _; decide) rfl ?_
  conv => whnf
  refine loopS (tyOf_ok _) hmix (by kernel_rfl) l.length [0, 1, 7, 8] [] (fun k (_ : Unit) => [.p (.sl 3 (eTs l)), .fn 25 [] [], .p (.i .i64 (eTs l).length), .p (.i .i64 (ix k))]) (fun _ _ => []) (fun k _ => npF (l.drop k) k = R) () ⟨rfl, rfl, rfl, rfl⟩ hR ?_
  intro k _ hk hs
  conv => whnf
  refine asplit ?_ ?_ <;> intro h1 <;> conv => whnf
  · have hk1 := ix_tt h1 (by rw [eTs_len]) hk (by omega)
    obtain ⟨b, hb1⟩ : ∃ b, l[k]? = some b := ⟨_, List.getElem?_eq_getElem hk1⟩
    refine aidxk (eTs_get hb1) (by omega) ?_
    rw [drop_cons hb1, npF] at hs
    have hc := pure1_of b (ih b (List.mem_of_getElem? hb1))
    generalize (!pureF b) = q at hc hs
    obtain ⟨b1, b2, b3⟩ := b
    conv => whnf
    refine apc hc ?_
    conv => whnf
    refine asplit ?_ ?_ <;> intro h2 <;> conv => whnf
    · subst h2
      exact .inl (pi (by rw [ix_eq (by omega)]; exact hs))
    · subst h2
      exact ⟨hk1, (), ⟨rfl, rfl, rfl, rfl⟩, hs⟩
  · have hk1 := ix_ff h1 (by rw [eTs_len]) hk (by omega)
    rw [hk1, List.drop_length, npF] at hs
    exact .inl (pi hs)
theorem contT_of (l : List Ty) (hl : l.length < 9223372036854775807) (ih : ∀ a ∈ l, PureS a) : APure Try.prog 24 [.p (.sl 3 (eTs l)), .fn 25 [] []] (.p (.b (decide (npF l 0 ≥ 0)))) := by
  have h := idxT_of l hl ih
  refine APure.intro (tyOf_ok Try.prog) hmix Try.func24 rfl (by rfl) (by kernel_rfl) (by show 2 ≤ _; decide) rfl ?_
  conv => whnf
  refine apc h ?_
  conv => whnf
  exact .inl rfl
theorem pure_spec (t : Ty) : okT t → PureS t := by
  induction t using Ty.ind with
  | h k n xs ih =>
  intro ht
  have hc := contT_of xs (by have := ht.1; omega) (fun a ha => ih a ha (okTs_mem ht.2 a ha))
  have hp := np_pure xs 0
  unfold PureS
  rw [pureF, ← hp]
  generalize decide (npF xs 0 ≥ 0) = q at hc
  refine APure.intro (tyOf_ok Try.prog) hmix Try.func14 rfl (by rfl) (by kernel_rfl) (by show 1 ≤ _; decide) rfl ?_
  conv => whnf
  refine asplit ?_ ?_ <;> intro h1 <;> conv => whnf
  · replace h1 : (k != 5) = true := h1
    rw [h1]
    refine apc hc ?_
    conv => whnf
    exact .inl rfl
  · replace h1 : (k != 5) = false := h1
    rw [h1]
    refine asplit ?_ ?_ <;> intro h2 <;> conv => whnf
    · replace h2 : (((eTs xs).length : Int) == 0) = true := h2
      have h3 : (xs.length == 0) = true := by rw [eTs_len] at h2; simp at h2 ⊢; omega
      rw [h3]
      refine apc hc ?_
      conv => whnf
      exact .inl rfl
    · replace h2 : (((eTs xs).length : Int) == 0) = false := h2
      have h3 : (xs.length == 0) = false := by rw [eTs_len] at h2; simp at h2 ⊢; omega
      rw [h3]
      exact .inl rfl

/-! Span, Size, occurs -/
theorem nodes_eq (k : Int) (n : ByteArray) (xs : List Ty) : nodes (.mk k n xs) = 1 + nodess xs := by simp [nodes]
mutual
def hgt : Ty → Nat
  | .mk _ _ xs => hgts xs + 1
def hgts : List Ty → Nat
  | [] => 0
  | t :: r => max (hgt t) (hgts r)
end
mutual
theorem hgt_le : ∀ (t : Ty), hgt t ≤ nodes t
  | .mk _ _ xs => by rw [hgt, nodes]; have := hgts_le xs; omega
theorem hgts_le : ∀ (l : List Ty), hgts l ≤ nodess l
  | [] => by rw [hgts]; omega
  | t :: r => by rw [hgts, nodess]; have := hgt_le t; have := hgts_le r; omega
end
def kids : List Ty → List Ty
  | [] => []
  | t :: r => t.args ++ kids r
theorem hgts_app : ∀ (l r : List Ty), hgts (l ++ r) = max (hgts l) (hgts r)
  | [], r => by simp [hgts]
  | t :: l, r => by rw [List.cons_append, hgts, hgts, hgts_app l r, Nat.max_assoc]
theorem hgt_pos (t : Ty) : 0 < hgt t := by cases t; rw [hgt]; omega
theorem nodes_pos (t : Ty) : 0 < nodes t := by have := hgt_le t; have := hgt_pos t; omega
theorem kids_app : ∀ (l r : List Ty), kids (l ++ r) = kids l ++ kids r
  | [], r => rfl
  | t :: l, r => by rw [List.cons_append, kids, kids, kids_app l r, List.append_assoc]
theorem kids_nodes : ∀ (l : List Ty), nodess l = l.length + nodess (kids l)
  | [] => rfl
  | .mk k n xs :: r => by rw [nodess, nodes, kids, kids_nodes r, nodess_app]; simp [Ty.args]; omega
theorem kids_hgt : ∀ (l : List Ty), l ≠ [] → hgts l = 1 + hgts (kids l)
  | [], h => absurd rfl h
  | .mk k n xs :: [], _ => by simp [hgts, hgt, kids, Ty.args]; omega
  | .mk k n xs :: t :: r, _ => by
    have e1 : kids (.mk k n xs :: t :: r) = xs ++ kids (t :: r) := rfl
    have e2 := kids_hgt (t :: r) (by simp)
    rw [e1, hgts, hgts_app, hgt, e2]; omega
theorem okTs_app : ∀ {l r : List Ty}, okTs l → okTs r → okTs (l ++ r)
  | [], _, _, h => h
  | _ :: _, _, h, h' => ⟨h.1, okTs_app h.2 h'⟩
theorem okTs_kids : ∀ {l : List Ty}, okTs l → okTs (kids l)
  | [], _ => trivial
  | .mk _ _ _ :: _, h => okTs_app h.1.2 (okTs_kids h.2)
theorem add64 {a b : Nat} (h : a + b ≤ 9223372036854775807) : IntKind.i64.wrap ((a : Int) + (b : Int)) = ((a + b : Nat) : Int) := by rw [wrap64 (by omega) (by omega)]; omega

theorem span_spec (t : Ty) (hn : nodes t ≤ 1099511627776) : APure Try.prog 15 [.p (eT t)] (.tup [.p (.i .i64 (nodes t)), .p (.i .i64 (hgt t))]) := by
  have hh := hgt_le t
  generalize hN : nodes t = N at hn hh
  generalize hH : hgt t = H at hh
  have h0 : nodess [t] = N := by simp [nodess, hN]
  have h1 : hgts [t] = H := by simp [hgts, hH]
  obtain ⟨tk, tn, tx⟩ := t
  refine APure.intro (tyOf_ok Try.prog) hmix Try.func15 rfl (by rfl) (by kernel_rfl) (by show 1 ≤ _; decide) rfl ?_
  conv => whnf
  refine loopS (tyOf_ok _) hmix (by kernel_rfl) H [4, 5, 6] [] (fun k (s : Nat × List Ty) => [.p (.i .i64 (s.1 : Int)), .p (.i .i64 (k : Int)), .so 3 (eTs s.2)]) (fun _ _ => []) (fun k s => s.1 + nodess s.2 = N ∧ k + hgts s.2 = H) (0, [.mk tk tn tx]) ⟨rfl, rfl, rfl, rfl⟩ ⟨by rw [h0]; omega, by rw [h1]; omega⟩ ?_
  rintro k ⟨m, l⟩ hk ⟨q1, q2⟩
  simp only at q1 q2 ⊢
  conv => whnf
  refine asplit ?_ ?_ <;> intro h2 <;> conv => whnf
  · replace h2 : decide (((eTs l).length : Int) > 0) = true := h2
    rw [eTs_len] at h2
    have hl0 : 0 < l.length := by have := of_decide_eq_true h2; omega
    have hlne : l ≠ [] := by intro e; subst e; simp at hl0
    have hkn := kids_nodes l
    have hkh := kids_hgt l hlne
    refine lp_nil 7 2 rfl ?_
    refine loopS (tyOf_ok _) hmix (by kernel_rfl) l.length [4, 5, 7, 21, 22, 23] [] (fun j (s : List Ty) => [.p (.i .i64 (IntKind.i64.wrap ((m : Int) + ((eTs l).length : Int)))), .p (.i .i64 (IntKind.i64.wrap ((k : Int) + 1))), .so 3 (eTs s), .p (.sl 3 (eTs l)), .p (.i .i64 (eTs l).length), .p (.i .i64 (ix j))]) (fun _ _ => []) (fun j s => s = kids (l.take j)) [] ⟨rfl, rfl, rfl, rfl⟩ rfl ?_
    rintro j s hj rfl
    conv => whnf
    refine asplit ?_ ?_ <;> intro h3 <;> conv => whnf
    · have hj1 := ix_tt h3 (by rw [eTs_len]) hj (by omega)
      obtain ⟨b, hb⟩ : ∃ b, l[j]? = some b := ⟨_, List.getElem?_eq_getElem hj1⟩
      refine aidxk (eTs_get hb) (by omega) ?_
      have hts := take_snoc hb
      obtain ⟨bk, bn, bx⟩ := b
      conv => whnf
      have hbound : nodess (kids (l.take (j + 1))) ≤ N := by
        have e1 := kids_nodes (l.take (j + 1))
        have := nodess_take l (j + 1)
        omega
      have e2 : kids (l.take (j + 1)) = kids (l.take j) ++ bx := by rw [hts, kids_app]; simp [kids, Ty.args]
      have e3 : (kids (l.take j)).length + bx.length ≤ N := by
        have := nodes_len (kids (l.take (j + 1)))
        rw [e2] at this hbound
        simp at this; omega
      refine aneed (show ((eTs (kids (l.take j))).length + (eTs bx).length) * 48 ≤ 140737488355328 by rw [eTs_len, eTs_len]; omega) ?_
      conv => whnf
      refine ⟨hj1, _, ⟨rfl, ?_, rfl, rfl⟩, e2.symm⟩
      rw [show eTs (kids (l.take j) ++ bx) = eTs (kids (l.take j)) ++ eTs bx by rw [eTs_map, eTs_map, eTs_map]; simp]
      rfl
    · have hj1 := ix_ff h3 (by rw [eTs_len]) hj (by omega)
      subst hj1
      rw [List.take_length]
      refine ⟨by omega, (m + l.length, kids l), ⟨rfl, ?_, rfl, rfl⟩, by simp only; omega, by simp only; omega⟩
      rw [eTs_len, add64 (by omega), show IntKind.i64.wrap ((k : Int) + 1) = ((k + 1 : Nat) : Int) from inc64 (by omega)]
      rfl
  · replace h2 : decide (((eTs l).length : Int) > 0) = false := h2
    rw [eTs_len] at h2
    have hl0 : l.length = 0 := by have := of_decide_eq_false h2; omega
    have hl : l = [] := List.eq_nil_of_length_eq_zero hl0
    subst hl
    simp [nodess, hgts] at q1 q2
    subst q1; subst q2
    exact .inl rfl

theorem size_all (t : Ty) (ih : ∀ a ∈ t.args, nodes a ≤ 1099511627776 → APure Try.prog 41 [.p (eT a)] (.tup [.p (.i .i64 (nodes a)), .p (.i .i64 (hgt a))])) (hn : nodes t ≤ 1099511627776) : APure Try.prog 41 [.p (eT t)] (.tup [.p (.i .i64 (nodes t)), .p (.i .i64 (hgt t))]) := by
  have hh := hgt_le t
  obtain ⟨tk, tn, xs⟩ := t
  simp only [Ty.args] at ih
  rw [hgt] at hh ⊢
  rw [nodes_eq] at hn hh ⊢
  have hxl := nodes_len xs
  refine APure.intro (tyOf_ok Try.prog) hmix Try.func41 rfl (by rfl) (by kernel_rfl) (by show 1 ≤ _; decide) rfl ?_
  conv => whnf
  refine loopS (tyOf_ok _) hmix (by kernel_rfl) xs.length [2, 3, 9, 10, 11] [] (fun k (s : Nat × Nat) => [.p (.i .i64 (s.1 : Int)), .p (.i .i64 (s.2 : Int)), .p (.sl 3 (eTs xs)), .p (.i .i64 (eTs xs).length), .p (.i .i64 (ix k))]) (fun _ _ => []) (fun k s => s.1 = nodess (xs.take k) ∧ s.2 = hgts (xs.take k)) (0, 0) ⟨rfl, rfl, rfl, rfl⟩ ⟨rfl, rfl⟩ ?_
  rintro k ⟨m, d⟩ hk ⟨rfl, rfl⟩
  conv => whnf
  refine asplit ?_ ?_ <;> intro h1 <;> conv => whnf
  · have hk1 := ix_tt h1 (by rw [eTs_len]) hk (by omega)
    obtain ⟨b, hb⟩ : ∃ b, xs[k]? = some b := ⟨_, List.getElem?_eq_getElem hk1⟩
    have hts := take_snoc hb
    have e1 : nodess (xs.take (k + 1)) = nodess (xs.take k) + nodes b := by rw [hts, nodess_app]; simp [nodess]
    have e2 : hgts (xs.take (k + 1)) = max (hgts (xs.take k)) (hgt b) := by rw [hts, hgts_app]; simp [hgts]
    have e3 := nodess_take xs (k + 1)
    have e4 := hgt_le b
    have e5 := hgts_le (xs.take k)
    have hc := ih b (List.mem_of_getElem? hb) (by omega)
    refine aidxk (eTs_get hb) (by omega) ?_
    generalize hnb : nodes b = nb at *
    generalize hhb : hgt b = hb' at *
    obtain ⟨bk, bn, bx⟩ := b
    conv => whnf
    refine apc hc ?_
    conv => whnf
    refine ⟨hk1, (nodess (xs.take k) + nb, max (hgts (xs.take k)) hb'), ⟨rfl, ?_, rfl, rfl⟩, e1.symm, e2.symm⟩
    show [AV.p (.i .i64 (IntKind.i64.wrap ((nodess (xs.take k) : Int) + (nb : Int)))), AV.p (.i .i64 (if ((hgts (xs.take k) : Nat) : Int) < (hb' : Int) then (hb' : Int) else (hgts (xs.take k) : Int))), _, _, _] = _
    rw [add64 (by omega)]
    have : (if ((hgts (xs.take k) : Nat) : Int) < (hb' : Int) then (hb' : Int) else (hgts (xs.take k) : Int)) = ((max (hgts (xs.take k)) hb' : Nat) : Int) := by
      split <;> omega
    rw [this]
    rfl
  · have hk1 := ix_ff h1 (by rw [eTs_len]) hk (by omega)
    subst hk1
    rw [List.take_length]
    refine .inl ?_
    show AV.tup [.p (.i .i64 (IntKind.i64.wrap ((nodess xs : Int) + 1))), .p (.i .i64 (IntKind.i64.wrap ((hgts xs : Int) + 1)))] = _
    rw [show IntKind.i64.wrap ((nodess xs : Int) + 1) = ((nodess xs + 1 : Nat) : Int) from inc64 (by omega), show IntKind.i64.wrap ((hgts xs : Int) + 1) = ((hgts xs + 1 : Nat) : Int) from inc64 (by omega), Nat.add_comm (nodess xs) 1]
theorem size_spec (t : Ty) : nodes t ≤ 1099511627776 → APure Try.prog 41 [.p (eT t)] (.tup [.p (.i .i64 (nodes t)), .p (.i .i64 (hgt t))]) :=
  Ty.ind (Q := fun t => nodes t ≤ 1099511627776 → APure Try.prog 41 [.p (eT t)] (.tup [.p (.i .i64 (nodes t)), .p (.i .i64 (hgt t))])) (fun k n xs ih h => size_all (.mk k n xs) ih h) t

mutual
def occF (n : ByteArray) : Ty → Bool
  | .mk k m xs => bif unkB (.mk k m xs) then m == n else occFs n xs
def occFs (n : ByteArray) : List Ty → Bool
  | [] => false
  | t :: r => bif occF n t then true else occFs n r
end
theorem occ_all (n : ByteArray) (t : Ty) (ih : ∀ a ∈ t.args, okT a → APure Try.prog 39 [.p (.s n), .p (eT a)] (.p (.b (occF n a)))) (ht : okT t) : APure Try.prog 39 [.p (.s n), .p (eT t)] (.p (.b (occF n t))) := by
  have hu := unknown0_spec t
  obtain ⟨tk, tn, xs⟩ := t
  simp only [Ty.args] at ih
  have hxl := ht.1
  rw [occF]
  generalize unkB (.mk tk tn xs) = q at hu ⊢
  generalize hR : occFs n xs = R
  refine APure.intro (tyOf_ok Try.prog) hmix Try.func39 rfl (by rfl) (by kernel_rfl) (by show 2 ≤ _; decide) rfl ?_
  conv => whnf
  refine apc hu ?_
  conv => whnf
  refine asplit ?_ ?_ <;> intro h0 <;> conv => whnf
  · exact .inl (pb (by rw [h0]; exact bl_iff _ _))
  subst h0
  refine loopS (tyOf_ok _) hmix (by kernel_rfl) xs.length [0, 14, 15, 16] [] (fun k (_ : Unit) => [.p (.s n), .p (.sl 3 (eTs xs)), .p (.i .i64 (eTs xs).length), .p (.i .i64 (ix k))]) (fun _ _ => []) (fun k _ => occFs n (xs.drop k) = R) () ⟨rfl, rfl, rfl, rfl⟩ hR ?_
  intro k _ hk hs
  conv => whnf
  refine asplit ?_ ?_ <;> intro h1 <;> conv => whnf
  · have hk1 := ix_tt h1 (by rw [eTs_len]) hk (by omega)
    obtain ⟨b, hb⟩ : ∃ b, xs[k]? = some b := ⟨_, List.getElem?_eq_getElem hk1⟩
    rw [drop_cons hb, occFs] at hs
    have hc := ih b (List.mem_of_getElem? hb) (okTs_mem ht.2 b (List.mem_of_getElem? hb))
    refine aidxk (eTs_get hb) (by omega) ?_
    generalize occF n b = q at hc hs
    obtain ⟨bk, bn, bx⟩ := b
    conv => whnf
    refine apc hc ?_
    conv => whnf
    refine asplit ?_ ?_ <;> intro h2 <;> conv => whnf
    · subst h2; exact .inl (pb hs)
    · subst h2; exact ⟨hk1, (), ⟨rfl, rfl, rfl, rfl⟩, hs⟩
  · have hk1 := ix_ff h1 (by rw [eTs_len]) hk (by omega)
    rw [hk1, List.drop_length, occFs] at hs
    exact .inl (pb hs)
theorem occ_spec (n : ByteArray) (t : Ty) : okT t → APure Try.prog 39 [.p (.s n), .p (eT t)] (.p (.b (occF n t))) :=
  Ty.ind (Q := fun t => okT t → APure Try.prog 39 [.p (.s n), .p (eT t)] (.p (.b (occF n t)))) (fun k m xs ih h => occ_all n (.mk k m xs) ih h) t
end KK
