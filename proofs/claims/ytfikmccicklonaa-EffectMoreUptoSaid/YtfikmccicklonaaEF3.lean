/-
  DERIVED. Contracts of the functions that the law reaches, and the law itself, for every input. No conditions.
-/
import Derived.Test.YtfikmccicklonaaEF2
open Go Go.AM Go.Proofs
set_option maxRecDepth 100000
namespace TR
/-! the least solution, plainly -/
structure Sol where
  m : NM
  a : Nat
def fstep (σ : Sol × Bool) (f : ByteArray × Qn) : Sol × Bool :=
  bif (nv σ.1.m f.1 ||| solF σ.1.m σ.1.a f.2) == nv σ.1.m f.1 then σ else (⟨sput f.1 (nv σ.1.m f.1 ||| solF σ.1.m σ.1.a f.2) σ.1.m, σ.1.a⟩, true)
def vstep (σ : Sol × Bool) (q : Qn) : Sol × Bool :=
  bif (σ.1.a ||| solF σ.1.m σ.1.a q) == σ.1.a then σ else (⟨σ.1.m, σ.1.a ||| solF σ.1.m σ.1.a q⟩, true)
def rndF (fs : List (ByteArray × Qn)) (vs : List Qn) (s : Sol) : Sol × Bool := vs.foldl vstep (fs.foldl fstep (s, false))
def iterF (fs : List (ByteArray × Qn)) (vs : List Qn) : Nat → Sol → Sol
  | 0, s => s
  | n + 1, s => bif (rndF fs vs s).2 then iterF fs vs n (rndF fs vs s).1 else (rndF fs vs s).1
def WF (s : Sol) : Prop := NB s.m ∧ s.a < 128
def Le (s t : Sol) : Prop := (∀ k, sub (nv s.m k) (nv t.m k)) ∧ sub s.a t.a
theorem Le.refl (s : Sol) : Le s s := ⟨fun _ => sub_refl _, sub_refl _⟩
theorem Le.trans {s t u : Sol} (h1 : Le s t) (h2 : Le t u) : Le s u := ⟨fun k => sub_trans (h1.1 k) (h2.1 k), sub_trans h1.2 h2.2⟩
theorem sub_or2 {a b c d : Nat} (h1 : sub a c) (h2 : sub b d) : sub (a ||| b) (c ||| d) := sub_or (sub_trans h1 (sub_l c d)) (sub_trans h2 (sub_r c d))
theorem solL_mono {m n : NM} (h : ∀ k, sub (nv m k) (nv n k)) : ∀ (l : List ByteArray) (o o' : Nat), sub o o' → sub (solL m l o) (solL n l o')
  | [], o, o', ho => ho
  | x :: r, o, o', ho => solL_mono h r _ _ (sub_or2 ho (h x))
theorem solF_mono {s t : Sol} (h : Le s t) (q : Qn) : sub (solF s.m s.a q) (solF t.m t.a q) := by
  have := solL_mono h.1 q.calls q.own q.own (sub_refl _)
  unfold solF; cases q.any
  · exact this
  · exact sub_or2 this h.2
theorem solL_own (m : NM) : ∀ (l : List ByteArray) (o : Nat), sub o (solL m l o)
  | [], o => sub_refl o
  | x :: r, o => sub_trans (sub_l o (nv m x)) (solL_own m r _)
theorem solL_mem (m : NM) : ∀ (l : List ByteArray) (o : Nat) (x : ByteArray), x ∈ l → sub (nv m x) (solL m l o)
  | [], o, x, h => by cases h
  | y :: r, o, x, h => by
    rcases List.mem_cons.1 h with rfl | h
    · exact sub_trans (sub_r o (nv m x)) (solL_own m r _)
    · exact solL_mem m r _ x h
theorem solF_own (m : NM) (a : Nat) (q : Qn) : sub q.own (solF m a q) := by
  have := solL_own m q.calls q.own
  unfold solF; cases q.any
  · exact this
  · exact sub_trans this (sub_l _ _)
theorem solF_mem (m : NM) (a : Nat) (q : Qn) {x : ByteArray} (h : x ∈ q.calls) : sub (nv m x) (solF m a q) := by
  have := solL_mem m q.calls q.own x h
  unfold solF; cases q.any
  · exact this
  · exact sub_trans this (sub_l _ _)
def μ (fs : List (ByteArray × Qn)) (s : Sol) : Nat := (fs.map (fun f => nv s.m f.1)).sum + s.a
theorem sum_mono {fs : List (ByteArray × Qn)} {m n : NM} (h : ∀ k, nv m k ≤ nv n k) : (fs.map (fun f => nv m f.1)).sum ≤ (fs.map (fun f => nv n f.1)).sum := by
  induction fs with
  | nil => simp
  | cons f r ih => simp only [List.map_cons, List.sum_cons]; have := h f.1; omega
theorem sum_lt {fs : List (ByteArray × Qn)} {m n : NM} (h : ∀ k, nv m k ≤ nv n k) {f : ByteArray × Qn} (hf : f ∈ fs) (hlt : nv m f.1 < nv n f.1) : (fs.map (fun f => nv m f.1)).sum < (fs.map (fun f => nv n f.1)).sum := by
  induction fs with
  | nil => cases hf
  | cons g r ih =>
    simp only [List.map_cons, List.sum_cons]
    have h1 := h g.1
    have h2 := sum_mono (fs := r) h
    rcases List.mem_cons.1 hf with rfl | hf
    · omega
    · have := ih hf; omega
theorem sum_le {fs : List (ByteArray × Qn)} {m : NM} (h : NB m) : (fs.map (fun f => nv m f.1)).sum ≤ 127 * fs.length := by
  induction fs with
  | nil => simp
  | cons f r ih => simp only [List.map_cons, List.sum_cons, List.length_cons]; have := h f.1; omega
theorem μ_le {fs : List (ByteArray × Qn)} {s : Sol} (h : WF s) : μ fs s ≤ 127 * (fs.length + 1) := by
  have := sum_le (fs := fs) h.1; have := h.2; unfold μ; omega
def Post (fs : List (ByteArray × Qn)) (vs : List Qn) (S : Sol) : Prop := (∀ f ∈ fs, sub (solF S.m S.a f.2) (nv S.m f.1)) ∧ ∀ q ∈ vs, sub (solF S.m S.a q) S.a
/-- what a step does -/
structure Stp (fs : List (ByteArray × Qn)) (P : Sol → Prop) (C : Sol → Prop) (σ τ : Sol × Bool) : Prop where
  wf : WF σ.1 → WF τ.1
  le : Le σ.1 τ.1
  go : τ = σ ∨ (τ.2 = true ∧ (WF σ.1 → μ fs σ.1 < μ fs τ.1))
  ok : τ.2 = false → P σ.1
  low : ∀ S, C S → Le σ.1 S → Le τ.1 S
theorem Stp.one {fs : List (ByteArray × Qn)} {σ : Sol × Bool} {P : Sol → Prop} {C : Sol → Prop} (h : P σ.1) : Stp fs P C σ σ := ⟨id, Le.refl _, .inl rfl, fun _ => h, fun _ _ h => h⟩
theorem fstep_stp {fs : List (ByteArray × Qn)} (σ : Sol × Bool) {f : ByteArray × Qn} (hf : f ∈ fs) (hq : f.2.own < 128) : Stp fs (fun s => sub (solF s.m s.a f.2) (nv s.m f.1)) (fun S => sub (solF S.m S.a f.2) (nv S.m f.1)) σ (fstep σ f) := by
  unfold fstep
  cases h : (nv σ.1.m f.1 ||| solF σ.1.m σ.1.a f.2) == nv σ.1.m f.1 with
  | true =>
    simp only [cond_true]
    refine Stp.one ?_
    have := of_decide_eq_true h
    unfold sub; rw [Nat.or_comm]; exact this
  | false =>
    simp only [cond_false]
    have hne : (nv σ.1.m f.1 ||| solF σ.1.m σ.1.a f.2) ≠ nv σ.1.m f.1 := of_decide_eq_false h
    have hle : Le σ.1 (⟨sput f.1 (nv σ.1.m f.1 ||| solF σ.1.m σ.1.a f.2) σ.1.m, σ.1.a⟩ : Sol) := ⟨fun k => by
      simp only; rw [nv_put]; split
      · subst k; exact sub_l _ _
      · exact sub_refl _, sub_refl _⟩
    refine ⟨fun hw => ⟨hw.1.put (or_lt (hw.1 _) (solF_lt hw.1 hw.2 hq)), hw.2⟩, hle, .inr ⟨rfl, fun hw => ?_⟩, fun h => (by cases h), fun S hS hl => ⟨fun k => ?_, hl.2⟩⟩
    · have h1 := sum_lt (fun k => sub_le (hle.1 k)) hf (by
        simp only; rw [nv_put, if_pos rfl]
        have := @Nat.left_le_or (nv σ.1.m f.1) (solF σ.1.m σ.1.a f.2)
        omega)
      unfold μ; simp only at h1 ⊢; omega
    · simp only; rw [nv_put]; split
      · subst k; exact sub_or (hl.1 _) (sub_trans (solF_mono hl f.2) hS)
      · exact hl.1 k
theorem vstep_stp {fs : List (ByteArray × Qn)} (σ : Sol × Bool) {q : Qn} (hq : q.own < 128) : Stp fs (fun s => sub (solF s.m s.a q) s.a) (fun S => sub (solF S.m S.a q) S.a) σ (vstep σ q) := by
  unfold vstep
  cases h : (σ.1.a ||| solF σ.1.m σ.1.a q) == σ.1.a with
  | true =>
    simp only [cond_true]
    refine Stp.one ?_
    have := of_decide_eq_true h
    unfold sub; rw [Nat.or_comm]; exact this
  | false =>
    simp only [cond_false]
    have hne : (σ.1.a ||| solF σ.1.m σ.1.a q) ≠ σ.1.a := of_decide_eq_false h
    refine ⟨fun hw => ⟨hw.1, or_lt hw.2 (solF_lt hw.1 hw.2 hq)⟩, ⟨fun k => sub_refl _, sub_l _ _⟩, .inr ⟨rfl, fun hw => ?_⟩, fun h => (by cases h), fun S hS hl => ⟨hl.1, sub_or hl.2 (sub_trans (solF_mono hl q) hS)⟩⟩
    have := @Nat.left_le_or σ.1.a (solF σ.1.m σ.1.a q)
    unfold μ; simp only; omega
theorem Stp.seq {fs : List (ByteArray × Qn)} {P Q C D : Sol → Prop} {σ τ υ : Sol × Bool} (h1 : Stp fs P C σ τ) (h2 : Stp fs Q D τ υ) : Stp fs (fun s => P s ∧ Q s) (fun s => C s ∧ D s) σ υ := by
  refine ⟨fun h => h2.wf (h1.wf h), h1.le.trans h2.le, ?_, fun hu => ?_, fun S hS hl => h2.low S hS.2 (h1.low S hS.1 hl)⟩
  · rcases h2.go with q2 | ⟨q2, q3⟩
    · rw [q2]; exact h1.go
    · refine .inr ⟨q2, fun hw => ?_⟩
      rcases h1.go with q1 | ⟨q1, q4⟩
      · rw [q1] at q3; exact q3 hw
      · have := q3 (h1.wf hw); have := q4 hw; omega
  · have h3 : υ = τ := by
      rcases h2.go with q | ⟨q, _⟩
      · exact q
      · rw [q] at hu; cases hu
    subst h3
    have h4 : υ = σ := by
      rcases h1.go with q | ⟨q, _⟩
      · exact q
      · rw [q] at hu; cases hu
    have := h2.ok hu
    rw [h4] at this
    exact ⟨h1.ok hu, this⟩
theorem Stp.weak {fs : List (ByteArray × Qn)} {P Q C D : Sol → Prop} {σ τ : Sol × Bool} (h : Stp fs P C σ τ) (h1 : ∀ s, P s → Q s) (h2 : ∀ s, D s → C s) : Stp fs Q D σ τ := ⟨h.wf, h.le, h.go, fun q => h1 _ (h.ok q), fun S hS => h.low S (h2 S hS)⟩
theorem ffold {fs : List (ByteArray × Qn)} : ∀ (l : List (ByteArray × Qn)) (σ : Sol × Bool), (∀ f ∈ l, f ∈ fs ∧ f.2.own < 128) → Stp fs (fun s => ∀ f ∈ l, sub (solF s.m s.a f.2) (nv s.m f.1)) (fun s => ∀ f ∈ l, sub (solF s.m s.a f.2) (nv s.m f.1)) σ (l.foldl fstep σ)
  | [], σ, _ => Stp.one (fun f hf => by cases hf)
  | f :: r, σ, h => by
    have h1 := fstep_stp σ (h f (by simp)).1 (h f (by simp)).2
    have h2 := ffold r (fstep σ f) (fun g hg => h g (by simp [hg]))
    refine (h1.seq h2).weak (fun s hs g hg => ?_) (fun s hs => ⟨hs f (by simp), fun g hg => hs g (by simp [hg])⟩)
    rcases List.mem_cons.1 hg with rfl | hg
    · exact hs.1
    · exact hs.2 g hg
theorem vfold {fs : List (ByteArray × Qn)} : ∀ (l : List Qn) (σ : Sol × Bool), (∀ q ∈ l, q.own < 128) → Stp fs (fun s => ∀ q ∈ l, sub (solF s.m s.a q) s.a) (fun s => ∀ q ∈ l, sub (solF s.m s.a q) s.a) σ (l.foldl vstep σ)
  | [], σ, _ => Stp.one (fun f hf => by cases hf)
  | f :: r, σ, h => by
    have h1 := vstep_stp (fs := fs) σ (h f (by simp))
    have h2 := vfold (fs := fs) r (vstep σ f) (fun g hg => h g (by simp [hg]))
    refine (h1.seq h2).weak (fun s hs g hg => ?_) (fun s hs => ⟨hs f (by simp), fun g hg => hs g (by simp [hg])⟩)
    rcases List.mem_cons.1 hg with rfl | hg
    · exact hs.1
    · exact hs.2 g hg
theorem rnd_stp {fs : List (ByteArray × Qn)} {vs : List Qn} (hf : ∀ f ∈ fs, f.2.own < 128) (hv : ∀ q ∈ vs, q.own < 128) (s : Sol) : Stp fs (Post fs vs) (Post fs vs) (s, false) (rndF fs vs s) :=
  ((ffold fs (s, false) (fun f h => ⟨h, hf f h⟩)).seq (vfold vs _ hv)).weak (fun _ h => h) (fun _ h => h)
theorem iter_post {fs : List (ByteArray × Qn)} {vs : List Qn} (hf : ∀ f ∈ fs, f.2.own < 128) (hv : ∀ q ∈ vs, q.own < 128) : ∀ (n : Nat) (s : Sol), WF s → 127 * (fs.length + 1) < n + μ fs s →
    Post fs vs (iterF fs vs n s) ∧ WF (iterF fs vs n s) ∧ ∀ S, Post fs vs S → Le s S → Le (iterF fs vs n s) S
  | 0, s, hw, h => by have := μ_le (fs := fs) hw; omega
  | n + 1, s, hw, h => by
    have hr := rnd_stp hf hv s
    rw [iterF]
    cases hq : (rndF fs vs s).2 with
    | true =>
      simp only [cond_true]
      have hlt : μ fs s < μ fs (rndF fs vs s).1 := by
        rcases hr.go with q | ⟨_, q⟩
        · rw [q] at hq; cases hq
        · exact q hw
      obtain ⟨i1, i2, i3⟩ := iter_post hf hv n (rndF fs vs s).1 (hr.wf hw) (by omega)
      exact ⟨i1, i2, fun S hS hl => i3 S hS (hr.low S hS hl)⟩
    | false =>
      simp only [cond_false]
      have he : rndF fs vs s = (s, false) := by
        rcases hr.go with q | ⟨q, _⟩
        · exact q
        · rw [q] at hq; cases hq
      have hp := hr.ok hq
      rw [he]
      exact ⟨hp, hw, fun S _ hl => hl⟩
end TR
