/-
  DERIVED. Contracts of functions that the law reaches, and the law, for every input. No conditions.
-/
import Derived.Test.YtcgaadhbnckjbaaUX1
import Derived.Test.YtcgaadhbnckjbaaAMRng
open Go Go.AM Go.Proofs
set_option maxRecDepth 100000
namespace KK
/-! the matcher -/
mutual
def matF (A : BM) : Ty → Ty → TM → Bool × TM
  | .mk k n xs, b, m => bif (k == 5) && has A n then (match slook n m with | some x => (sameF x b, m) | none => (true, sput n b m)) else
    bif (k == b.kind) && (n == b.name) then (bif xs.length == b.args.length then matFs A xs b.args m else (false, m)) else (false, m)
def matFs (A : BM) : List Ty → List Ty → TM → Bool × TM
  | [], _, m => (true, m)
  | _ :: _, [], m => (true, m)
  | x :: xs, y :: ys, m => bif (matF A x y m).1 then matFs A xs ys (matF A x y m).2 else (false, (matF A x y m).2)
end
def okM (m : TM) : Prop := ∀ k x, slook k m = some x → okT x
theorem okM.put {m : TM} (h : okM m) {n : ByteArray} {b : Ty} (hb : okT b) : okM (sput n b m) := fun k x hx => by
  rw [slook_sput] at hx
  cases hq : k == n with
  | true => rw [hq] at hx; cases hx; exact hb
  | false => rw [hq] at hx; exact h k x hx
def hpM (A : BM) (m : TM) : Heap := [(1000000000, .cells [.mp 1000000001, .mp 1000000002]), (1000000001, .map .ks (eM vB A)), (1000000002, .map .ks (eM eT m))]
def zT : Ty := .mk 0 ⟨#[]⟩ []
theorem mlook_T (k : ByteArray) (m : TM) : mlook (.s k) (eT zT) (eM eT m) = (eT ((slook k m).getD zT), (slook k m).isSome) := by
  unfold mlook; rw [mfind_eM]; cases slook k m <;> rfl
structure Sc where
  ps : List ByteArray
  ty : Ty
def eSc (s : Sc) : PV := .agg (.sl 1 (s.ps.map eStr) :: (eT s.ty).cells)
def setF (l : List ByteArray) : BM := l.foldl (fun m s => sput s true m) []
end KK
open Go Go.AM Go.Proofs
set_option maxRecDepth 100000
namespace KK
/-! the store: head, Apply; replaced -/
def hpS (m : TM) : Heap := [(1000000000, .cells [.mp 1000000001]), (1000000001, .map .ks (eM eT m))]
def headF (m : TM) : Ty → Ty
  | .mk k n xs => bif k == 5 then (slook n m).getD (.mk k n xs) else .mk k n xs
theorem head_spec (m : TM) (t : Ty) : AMem Try.prog 26 [.ptr 1000000000 0, .p (eT t)] (hpS m) (.p (eT (headF m t))) (hpS m) := by
  obtain ⟨k, n, xs⟩ := t
  rw [headF]
  have hl := mlook_T n m
  generalize hq : slook n m = q at hl ⊢
  refine AMem.intro (tyOf_ok Try.prog) hmix Try.func26 rfl (by rfl) (by kernel_rfl) (by show 2 ≤ _; decide) rfl ?_
  conv => whnf
  refine asplit ?_ ?_ <;> intro h1 <;> conv => whnf
  · rw [h1]
    cases q with
    | none =>
      refine alook hl ?_
      conv => whnf
      refine aneed (by kernel_rfl) ?_
      conv => whnf
      exact ⟨.inl rfl, ⟨.inl rfl, trivial⟩, ⟨rfl, rfl⟩, trivial⟩
    | some x =>
      obtain ⟨xk, xn, xx⟩ := x
      refine alook hl ?_
      conv => whnf
      refine aneed (by kernel_rfl) ?_
      conv => whnf
      exact ⟨.inl rfl, ⟨.inl rfl, trivial⟩, ⟨rfl, rfl⟩, trivial⟩
  · rw [h1]
    exact ⟨.inl rfl, ⟨.inl rfl, trivial⟩, ⟨rfl, rfl⟩, trivial⟩

def appF (m : TM) : Ty → Ty
  | .mk k n xs => match (bif k == 5 then slook n m else none) with
    | some x => x
    | none => .mk k n (appFs m xs)
  where appFs (m : TM) : List Ty → List Ty
  | [] => []
  | t :: r => appF m t :: appFs m r
theorem appFs_map (m : TM) (l : List Ty) : appF.appFs m l = l.map (appF m) := by
  induction l with
  | nil => rfl
  | cons t r ih => simp [appF.appFs, ih]
def AppS (m : TM) (t : Ty) : Prop := AMem Try.prog 38 [.ptr 1000000000 0, .p (eT t)] (hpS m) (.p (eT (appF m t))) (hpS m)
theorem app_all (m : TM) (hm : okM m) (t : Ty) (ht : okT t) (ih : ∀ a ∈ t.args, AppS m a) : AppS m t := by
  obtain ⟨k, n, xs⟩ := t
  simp only [Ty.args] at ih
  have hlen := ht.1
  unfold AppS
  rw [appF, appFs_map]
  have hl := mlook_T n m
  have hmo : ∀ x, slook n m = some x → okT x := fun x hx => hm n x hx
  generalize hq : slook n m = q at hl hmo ⊢
  refine AMem.intro (tyOf_ok Try.prog) hmix Try.func38 rfl (by rfl) (by kernel_rfl) (by show 2 ≤ _; decide) rfl ?_
  conv => whnf
  refine asplit ?_ ?_ <;> intro h1 <;> conv => whnf
  · rw [h1]
    cases q with
    | none =>
      refine alook hl ?_
      conv => whnf
      refine aneed (by kernel_rfl) ?_
      conv => whnf
      refine lp_nil 7 2 rfl ?_
      refine loopS (tyOf_ok _) hmix (by kernel_rfl) xs.length [0, 3, 4, 7, 27, 28, 29] [3, 4, 1000000000, 1000000001] (fun j (s : List PV) => [.ptr 1000000000 0, .ptr 3 0, .ptr 4 0, .so 3 s, .p (.sl 3 (eTs xs)), .p (.i .i64 (eTs xs).length), .p (.i .i64 (ix j))])
        (fun _ _ => [.cells [.p (.i .i64 k), .p (.s n), .p (.sl 3 (eTs xs))], .cells [.p (.i .i64 0), .p (.s ⟨#[]⟩), .nilS], .cells [.mp 1000000001], .map .ks (eM eT m)]) (fun j s => s = eTs ((xs.take j).map (appF m))) [] ⟨rfl, rfl, rfl, rfl⟩ rfl ?_
      rintro j s hj rfl
      conv => whnf
      refine asplit ?_ ?_ <;> intro h2 <;> conv => whnf
      · have hj1 := ix_tt h2 (by rw [eTs_len]) hj (by omega)
        obtain ⟨b, hb⟩ : ∃ b, xs[j]? = some b := ⟨_, List.getElem?_eq_getElem hj1⟩
        have hc := ih b (List.mem_of_getElem? hb)
        unfold AppS at hc
        have hts := take_snoc hb
        refine aidxk (eTs_get hb) (by omega) ?_
        have e1 : eTs ((xs.take (j + 1)).map (appF m)) = eTs ((xs.take j).map (appF m)) ++ [eT (appF m b)] := by rw [hts, eTs_map, eTs_map]; simp
        generalize appF m b = y at hc e1
        obtain ⟨bk, bn, bx⟩ := b
        obtain ⟨yk, yn, yx⟩ := y
        conv => whnf
        refine amr [1000000000, 1000000001] 10000 hc ?_
        conv => whnf
        refine aneed (show ((eTs ((xs.take j).map (appF m))).length + 1) * 48 ≤ 140737488355328 by rw [eTs_len]; simp; omega) ?_
        conv => whnf
        exact ⟨hj1, _, ⟨rfl, rfl, rfl, rfl⟩, e1.symm⟩
      · have hj1 := ix_ff h2 (by rw [eTs_len]) hj (by omega)
        subst hj1
        rw [List.take_length]
        exact ⟨.inl rfl, ⟨.inl rfl, trivial⟩, ⟨rfl, rfl⟩, trivial⟩
    | some x =>
      have hc := copy_spec x (hmo x rfl)
      obtain ⟨xk, xn, xx⟩ := x
      refine alook hl ?_
      conv => whnf
      refine aneed (by kernel_rfl) ?_
      conv => whnf
      refine apc hc ?_
      conv => whnf
      exact ⟨.inl rfl, ⟨.inl rfl, trivial⟩, ⟨rfl, rfl⟩, trivial⟩
  · rw [h1]
    refine lp_nil 7 2 rfl ?_
    refine loopS (tyOf_ok _) hmix (by kernel_rfl) xs.length [0, 3, 4, 7, 27, 28, 29] [3, 4, 1000000000, 1000000001] (fun j (s : List PV) => [.ptr 1000000000 0, .ptr 3 0, .ptr 4 0, .so 3 s, .p (.sl 3 (eTs xs)), .p (.i .i64 (eTs xs).length), .p (.i .i64 (ix j))])
      (fun _ _ => [.cells [.p (.i .i64 k), .p (.s n), .p (.sl 3 (eTs xs))], .cells [.p (.i .i64 0), .p (.s ⟨#[]⟩), .nilS], .cells [.mp 1000000001], .map .ks (eM eT m)]) (fun j s => s = eTs ((xs.take j).map (appF m))) [] ⟨rfl, rfl, rfl, rfl⟩ rfl ?_
    rintro j s hj rfl
    conv => whnf
    refine asplit ?_ ?_ <;> intro h2 <;> conv => whnf
    · have hj1 := ix_tt h2 (by rw [eTs_len]) hj (by omega)
      obtain ⟨b, hb⟩ : ∃ b, xs[j]? = some b := ⟨_, List.getElem?_eq_getElem hj1⟩
      have hc := ih b (List.mem_of_getElem? hb)
      unfold AppS at hc
      have hts := take_snoc hb
      refine aidxk (eTs_get hb) (by omega) ?_
      have e1 : eTs ((xs.take (j + 1)).map (appF m)) = eTs ((xs.take j).map (appF m)) ++ [eT (appF m b)] := by rw [hts, eTs_map, eTs_map]; simp
      generalize appF m b = y at hc e1
      obtain ⟨bk, bn, bx⟩ := b
      obtain ⟨yk, yn, yx⟩ := y
      conv => whnf
      refine amr [1000000000, 1000000001] 10000 hc ?_
      conv => whnf
      refine aneed (show ((eTs ((xs.take j).map (appF m))).length + 1) * 48 ≤ 140737488355328 by rw [eTs_len]; simp; omega) ?_
      conv => whnf
      exact ⟨hj1, _, ⟨rfl, rfl, rfl, rfl⟩, e1.symm⟩
    · have hj1 := ix_ff h2 (by rw [eTs_len]) hj (by omega)
      subst hj1
      rw [List.take_length]
      exact ⟨.inl rfl, ⟨.inl rfl, trivial⟩, ⟨rfl, rfl⟩, trivial⟩
theorem app_spec (m : TM) (hm : okM m) (t : Ty) : okT t → AppS m t :=
  Ty.ind (Q := fun t => okT t → AppS m t) (fun k n xs ih h => app_all m hm (.mk k n xs) h fun a ha => ih a ha (okTs_mem h.2 a ha)) t
end KK
open Go Go.AM Go.Proofs
set_option maxRecDepth 100000
namespace KK
/-! replaced -/
def sub1 (n : ByteArray) (b : Ty) : Ty → Ty
  | .mk k m xs => bif k == 5 && m == n then b else .mk k m (sub1s n b xs)
  where sub1s (n : ByteArray) (b : Ty) : List Ty → List Ty
  | [] => []
  | t :: r => sub1 n b t :: sub1s n b r
theorem sub1s_map (n : ByteArray) (b : Ty) (l : List Ty) : sub1.sub1s n b l = l.map (sub1 n b) := by
  induction l with
  | nil => rfl
  | cons t r ih => simp [sub1.sub1s, ih]
mutual
def has1 (n : ByteArray) : Ty → Bool
  | .mk k m xs => bif k == 5 && m == n then true else has1s n xs
def has1s (n : ByteArray) : List Ty → Bool
  | [] => false
  | t :: r => has1 n t || has1s n r
end
mutual
theorem sub1_none (n : ByteArray) (b : Ty) : ∀ (t : Ty), has1 n t = false → sub1 n b t = t
  | .mk k m xs, h => by
    rw [has1] at h
    rw [sub1]
    cases hq : (k == 5 && m == n) with
    | true => rw [hq] at h; cases h
    | false =>
      rw [hq] at h
      rw [cond_false, sub1s_map, sub1s_none n b xs h]
theorem sub1s_none (n : ByteArray) (b : Ty) : ∀ (l : List Ty), has1s n l = false → l.map (sub1 n b) = l
  | [], _ => rfl
  | t :: r, h => by
    rw [has1s, Bool.or_eq_false_iff] at h
    rw [List.map_cons, sub1_none n b t h.1, sub1s_none n b r h.2]
end
theorem has1s_app (n : ByteArray) : ∀ (l r : List Ty), has1s n (l ++ r) = (has1s n l || has1s n r)
  | [], r => rfl
  | t :: l, r => by rw [List.cons_append, has1s, has1s, has1s_app n l r, Bool.or_assoc]
noncomputable abbrev tyR : Nat → Option TI := hint (tyOf Try.prog) 25 [42, 45]
theorem tyR_ok : TyOK Try.prog tyR := (tyOf_ok Try.prog).hint 25 [42, 45]
def RepS (n : ByteArray) (b t : Ty) : Prop := APure Try.prog 40 [.p (eT t), .p (.s n), .p (eT b)] (.tup [.p (eT (sub1 n b t)), .p (.b (has1 n t))])
theorem eTs_set (l : List Ty) (k : Nat) (t : Ty) : eTs (l.set k t) = (eTs l).set k (eT t) := by rw [eTs_map, eTs_map, List.map_set]
theorem part_set (f : Ty → Ty) (xs : List Ty) (k : Nat) (x : Ty) (hx : xs[k]? = some x) : ((xs.take k).map f ++ xs.drop k).set k (f x) = (xs.take (k + 1)).map f ++ xs.drop (k + 1) := by
  have hk := (List.getElem?_eq_some_iff.1 hx).1
  rw [drop_cons hx, take_snoc hx, List.set_append]
  simp [Nat.min_eq_left (Nat.le_of_lt hk)]
theorem part_same (f : Ty → Ty) (xs : List Ty) (k : Nat) (x : Ty) (hx : xs[k]? = some x) (hf : f x = x) : (xs.take k).map f ++ xs.drop k = (xs.take (k + 1)).map f ++ xs.drop (k + 1) := by
  rw [drop_cons hx, take_snoc hx, List.map_append, List.map_cons, hf]; simp
theorem rep_all (n : ByteArray) (b t : Ty) (ht : okT t) (ih : ∀ a ∈ t.args, RepS n b a) : RepS n b t := by
  obtain ⟨k, m, xs⟩ := t
  obtain ⟨bk, bn, bx⟩ := b
  simp only [Ty.args] at ih
  have hlen := ht.1
  unfold RepS
  rw [sub1, has1, sub1s_map]
  refine APure.intro tyR_ok hmix Try.func40 rfl (by rfl) (by kernel_rfl) (by show 3 ≤ _; decide) rfl ?_
  conv => whnf
  refine asplit ?_ ?_ <;> intro h1 <;> conv => whnf
  · --k = 5
    replace h1 : (k == 5) = true := h1
    rw [h1]
    refine asplit ?_ ?_ <;> intro h2 <;> conv => whnf
    · rw [bl_iff] at h2
      rw [h2]
      exact .inl rfl
    · rw [bl_iff] at h2
      rw [h2]
      refine loop2 tyR_ok hmix (by kernel_rfl) xs.length [1, 3, 5, 6, 7, 8, 24, 25, 26] [3, 5, 6] (fun j (_ : Unit) => [.p (.s n), .ptr 3 0, .ptr 5 0, .ptr 6 0, .p (.b false), .p (.b false), .p (.sl 3 (eTs xs)), .p (.i .i64 (eTs xs).length), .p (.i .i64 (ix j))])
        (fun _ _ => [.cells [.p (.i .i64 k), .p (.s m), .p (.sl 3 (eTs xs))], .cells [.p (.i .i64 bk), .p (.s bn), .p (.sl 3 (eTs bx))], .cells [.p (.i .i64 0), .p (.s ⟨#[]⟩), .nilS]]) (fun j _ => has1s n (xs.take j) = false)
        [1, 3, 5, 6, 7, 8, 24, 25, 26] [3, 5, 6, 45] (fun j (_ : List PV) => [.p (.s n), .ptr 3 0, .ptr 5 0, .ptr 6 0, .p (.b false), .p (.b true), .p (.sl 3 (eTs xs)), .p (.i .i64 (eTs xs).length), .p (.i .i64 (ix j))])
        (fun j s => [.cells [.p (.i .i64 k), .p (.s m), .al true 45 3 (0 + (eTs xs).length)], .cells [.p (.i .i64 bk), .p (.s bn), .p (.sl 3 (eTs bx))], .cells [.p (.i .i64 0), .p (.s ⟨#[]⟩), .nilS], .gr true 3 s]) (fun j s => has1s n (xs.take j) = true ∧ s = eTs ((xs.take j).map (sub1 n (.mk bk bn bx)) ++ xs.drop j))
        () ⟨rfl, rfl, rfl, rfl⟩ rfl ?_ ?_
      · rintro j _ hj hs
        conv => whnf
        refine asplit ?_ ?_ <;> intro h3 <;> conv => whnf
        · have hj1 := ix_tt h3 (by rw [eTs_len]) hj (by omega)
          obtain ⟨a, ha⟩ : ∃ b, xs[j]? = some b := ⟨_, List.getElem?_eq_getElem hj1⟩
          have hc := ih a (List.mem_of_getElem? ha)
          unfold RepS at hc
          have hts := take_snoc ha
          have hh : has1s n (xs.take (j + 1)) = has1 n a := by rw [hts, has1s_app, hs]; simp [has1s]
          have hset := part_set (sub1 n (.mk bk bn bx)) xs j a ha
          have hx0 : (xs.take j).map (sub1 n (.mk bk bn bx)) ++ xs.drop j = xs := by rw [sub1s_none n _ _ hs, List.take_append_drop]
          rw [hx0] at hset
          refine aidxk (eTs_get ha) (by omega) ?_
          generalize has1 n a = q at hc hh
          generalize sub1 n (.mk bk bn bx) a = y at hc hset
          obtain ⟨ak, an, ax⟩ := a
          obtain ⟨yk, yn, yx⟩ := y
          conv => whnf
          refine apc hc ?_
          conv => whnf
          refine asplit ?_ ?_ <;> intro h4 <;> conv => whnf
          · obtain rfl : q = false := by simpa using h4
            exact ⟨hj1, .inl ⟨(), ⟨rfl, rfl, rfl, rfl⟩, hh⟩⟩
          · obtain rfl : q = true := by simpa using h4
            refine aneed (show 0 = 0 ∧ (0 + (eTs xs).length) * 48 ≤ 140737488355328 by rw [eTs_len]; omega) ?_
            conv => whnf
            refine aneed (show 0 ≤ ix j ∧ (ix j).toNat < 0 + (eTs xs).length by rw [eTs_len, ix_eq (by omega)]; omega) ?_
            conv => whnf
            refine aneed (show (ix j).toNat < ([] ++ eTs xs).length by rw [List.nil_append, eTs_len, ix_eq (by omega)]; omega) ?_
            conv => whnf
            refine ⟨hj1, .inr ⟨_, ⟨rfl, rfl, rfl, rfl⟩, hh, ?_⟩⟩
            show ([] ++ eTs xs).set (ix j).toNat (eT (.mk yk yn yx)) = _
            rw [← hset, eTs_set, List.nil_append, ix_eq (by omega)]
            simp
        · have hj1 := ix_ff h3 (by rw [eTs_len]) hj (by omega)
          subst hj1
          rw [List.take_length] at hs
          rw [hs, sub1s_none n _ _ hs]
          exact .inl rfl
      · rintro j s hj ⟨hs, rfl⟩
        have hsl : (eTs ((xs.take j).map (sub1 n (.mk bk bn bx)) ++ xs.drop j)).length = xs.length := by rw [eTs_len]; simp; omega
        conv => whnf
        refine asplit ?_ ?_ <;> intro h3 <;> conv => whnf
        · have hj1 := ix_tt h3 (by rw [eTs_len]) hj (by omega)
          obtain ⟨a, ha⟩ : ∃ b, xs[j]? = some b := ⟨_, List.getElem?_eq_getElem hj1⟩
          have hc := ih a (List.mem_of_getElem? ha)
          unfold RepS at hc
          have hts := take_snoc ha
          have hh : has1s n (xs.take (j + 1)) = true := by rw [hts, has1s_app, hs]; rfl
          have hset := part_set (sub1 n (.mk bk bn bx)) xs j a ha
          have hsame := part_same (sub1 n (.mk bk bn bx)) xs j a ha
          have hn1 := sub1_none n (.mk bk bn bx) a
          refine aidxk (eTs_get ha) (by omega) ?_
          generalize has1 n a = q at hc hn1
          generalize sub1 n (.mk bk bn bx) a = y at hc hset hsame hn1
          generalize (xs.take j).map (sub1 n (.mk bk bn bx)) ++ xs.drop j = ws at *
          obtain ⟨ak, an, ax⟩ := a
          obtain ⟨yk, yn, yx⟩ := y
          conv => whnf
          refine apc hc ?_
          conv => whnf
          refine asplit ?_ ?_ <;> intro h4 <;> conv => whnf
          · obtain rfl : q = false := by simpa using h4
            exact ⟨hj1, _, ⟨rfl, rfl, rfl, rfl⟩, hh, by rw [hsame (hn1 rfl)]⟩
          · refine aneed (show 0 ≤ ix j ∧ (ix j).toNat < 0 + (eTs xs).length by rw [eTs_len, ix_eq (by omega)]; omega) ?_
            conv => whnf
            refine aneed (show (ix j).toNat < (eTs ws).length by rw [hsl, ix_eq (by omega)]; omega) ?_
            conv => whnf
            refine ⟨hj1, _, ⟨rfl, rfl, rfl, rfl⟩, hh, ?_⟩
            show (eTs ws).set (ix j).toNat (eT (.mk yk yn yx)) = _
            rw [← hset, eTs_set, ix_eq (by omega)]
            simp
        · have hj1 := ix_ff h3 (by rw [eTs_len]) hj (by omega)
          subst hj1
          rw [List.take_length] at hs ⊢
          rw [hs, List.drop_length, List.append_nil]
          refine .inr (.inr ⟨rfl, ?_⟩)
          exact ⟨by rw [eTs_len, eTs_len, List.length_map]; omega, trivial⟩
  · replace h1 : (k == 5) = false := h1
    rw [h1]
    refine loop2 tyR_ok hmix (by kernel_rfl) xs.length [1, 3, 5, 6, 7, 8, 24, 25, 26] [3, 5, 6] (fun j (_ : Unit) => [.p (.s n), .ptr 3 0, .ptr 5 0, .ptr 6 0, .p (.b false), .p (.b false), .p (.sl 3 (eTs xs)), .p (.i .i64 (eTs xs).length), .p (.i .i64 (ix j))])
      (fun _ _ => [.cells [.p (.i .i64 k), .p (.s m), .p (.sl 3 (eTs xs))], .cells [.p (.i .i64 bk), .p (.s bn), .p (.sl 3 (eTs bx))], .cells [.p (.i .i64 0), .p (.s ⟨#[]⟩), .nilS]]) (fun j _ => has1s n (xs.take j) = false)
      [1, 3, 5, 6, 7, 8, 24, 25, 26] [3, 5, 6, 45] (fun j (_ : List PV) => [.p (.s n), .ptr 3 0, .ptr 5 0, .ptr 6 0, .p (.b false), .p (.b true), .p (.sl 3 (eTs xs)), .p (.i .i64 (eTs xs).length), .p (.i .i64 (ix j))])
      (fun j s => [.cells [.p (.i .i64 k), .p (.s m), .al true 45 3 (0 + (eTs xs).length)], .cells [.p (.i .i64 bk), .p (.s bn), .p (.sl 3 (eTs bx))], .cells [.p (.i .i64 0), .p (.s ⟨#[]⟩), .nilS], .gr true 3 s]) (fun j s => has1s n (xs.take j) = true ∧ s = eTs ((xs.take j).map (sub1 n (.mk bk bn bx)) ++ xs.drop j))
      () ⟨rfl, rfl, rfl, rfl⟩ rfl ?_ ?_
    · rintro j _ hj hs
      conv => whnf
      refine asplit ?_ ?_ <;> intro h3 <;> conv => whnf
      · have hj1 := ix_tt h3 (by rw [eTs_len]) hj (by omega)
        obtain ⟨a, ha⟩ : ∃ b, xs[j]? = some b := ⟨_, List.getElem?_eq_getElem hj1⟩
        have hc := ih a (List.mem_of_getElem? ha)
        unfold RepS at hc
        have hts := take_snoc ha
        have hh : has1s n (xs.take (j + 1)) = has1 n a := by rw [hts, has1s_app, hs]; simp [has1s]
        have hset := part_set (sub1 n (.mk bk bn bx)) xs j a ha
        have hx0 : (xs.take j).map (sub1 n (.mk bk bn bx)) ++ xs.drop j = xs := by rw [sub1s_none n _ _ hs, List.take_append_drop]
        rw [hx0] at hset
        refine aidxk (eTs_get ha) (by omega) ?_
        generalize has1 n a = q at hc hh
        generalize sub1 n (.mk bk bn bx) a = y at hc hset
        obtain ⟨ak, an, ax⟩ := a
        obtain ⟨yk, yn, yx⟩ := y
        conv => whnf
        refine apc hc ?_
        conv => whnf
        refine asplit ?_ ?_ <;> intro h4 <;> conv => whnf
        · obtain rfl : q = false := by simpa using h4
          exact ⟨hj1, .inl ⟨(), ⟨rfl, rfl, rfl, rfl⟩, hh⟩⟩
        · obtain rfl : q = true := by simpa using h4
          refine aneed (show 0 = 0 ∧ (0 + (eTs xs).length) * 48 ≤ 140737488355328 by rw [eTs_len]; omega) ?_
          conv => whnf
          refine aneed (show 0 ≤ ix j ∧ (ix j).toNat < 0 + (eTs xs).length by rw [eTs_len, ix_eq (by omega)]; omega) ?_
          conv => whnf
          refine aneed (show (ix j).toNat < ([] ++ eTs xs).length by rw [List.nil_append, eTs_len, ix_eq (by omega)]; omega) ?_
          conv => whnf
          refine ⟨hj1, .inr ⟨_, ⟨rfl, rfl, rfl, rfl⟩, hh, ?_⟩⟩
          show ([] ++ eTs xs).set (ix j).toNat (eT (.mk yk yn yx)) = _
          rw [← hset, eTs_set, List.nil_append, ix_eq (by omega)]
          simp
      · have hj1 := ix_ff h3 (by rw [eTs_len]) hj (by omega)
        subst hj1
        rw [List.take_length] at hs
        rw [hs, sub1s_none n _ _ hs]
        exact .inl rfl
    · rintro j s hj ⟨hs, rfl⟩
      have hsl : (eTs ((xs.take j).map (sub1 n (.mk bk bn bx)) ++ xs.drop j)).length = xs.length := by rw [eTs_len]; simp; omega
      conv => whnf
      refine asplit ?_ ?_ <;> intro h3 <;> conv => whnf
      · have hj1 := ix_tt h3 (by rw [eTs_len]) hj (by omega)
        obtain ⟨a, ha⟩ : ∃ b, xs[j]? = some b := ⟨_, List.getElem?_eq_getElem hj1⟩
        have hc := ih a (List.mem_of_getElem? ha)
        unfold RepS at hc
        have hts := take_snoc ha
        have hh : has1s n (xs.take (j + 1)) = true := by rw [hts, has1s_app, hs]; rfl
        have hset := part_set (sub1 n (.mk bk bn bx)) xs j a ha
        have hsame := part_same (sub1 n (.mk bk bn bx)) xs j a ha
        have hn1 := sub1_none n (.mk bk bn bx) a
        refine aidxk (eTs_get ha) (by omega) ?_
        generalize has1 n a = q at hc hn1
        generalize sub1 n (.mk bk bn bx) a = y at hc hset hsame hn1
        generalize (xs.take j).map (sub1 n (.mk bk bn bx)) ++ xs.drop j = ws at *
        obtain ⟨ak, an, ax⟩ := a
        obtain ⟨yk, yn, yx⟩ := y
        conv => whnf
        refine apc hc ?_
        conv => whnf
        refine asplit ?_ ?_ <;> intro h4 <;> conv => whnf
        · obtain rfl : q = false := by simpa using h4
          exact ⟨hj1, _, ⟨rfl, rfl, rfl, rfl⟩, hh, by rw [hsame (hn1 rfl)]⟩
        · refine aneed (show 0 ≤ ix j ∧ (ix j).toNat < 0 + (eTs xs).length by rw [eTs_len, ix_eq (by omega)]; omega) ?_
          conv => whnf
          refine aneed (show (ix j).toNat < (eTs ws).length by rw [hsl, ix_eq (by omega)]; omega) ?_
          conv => whnf
          refine ⟨hj1, _, ⟨rfl, rfl, rfl, rfl⟩, hh, ?_⟩
          show (eTs ws).set (ix j).toNat (eT (.mk yk yn yx)) = _
          rw [← hset, eTs_set, ix_eq (by omega)]
          simp
      · have hj1 := ix_ff h3 (by rw [eTs_len]) hj (by omega)
        subst hj1
        rw [List.take_length] at hs ⊢
        rw [hs, List.drop_length, List.append_nil]
        refine .inr (.inr ⟨rfl, ?_⟩)
        exact ⟨by rw [eTs_len, eTs_len, List.length_map]; omega, trivial⟩
theorem rep_spec (n : ByteArray) (b t : Ty) : okT t → RepS n b t :=
  Ty.ind (Q := fun t => okT t → RepS n b t) (fun k m xs ih h => rep_all n b (.mk k m xs) h fun a ha => ih a ha (okTs_mem h.2 a ha)) t
end KK
