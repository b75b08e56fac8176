/-
  DERIVED. Contracts of the functions that the law reaches, and the law itself, for every input. No conditions.
-/
import Derived.Test.YtkabogkkbafonaaSesB
open Go Go.AM Go.Proofs
namespace SE
/-! bisimulation -/
def brsR (R : Int → Int → Prop) : List Br → List Br → Prop
  | [], [] => True
  | x :: r, y :: r' => x.msg = y.msg ∧ R x.nxt y.nxt ∧ brsR R r r'
  | _, _ => False
def StR (R : Int → Int → Prop) (s t : St) : Prop := s.kind = t.kind ∧ brsR R s.brs t.brs
def Inn (l : List St) (x : Int) : Prop := 0 ≤ x ∧ x < l.length
theorem brsR_mono {R S : Int → Int → Prop} : ∀ {a b : List Br}, (∀ x ∈ a, ∀ y ∈ b, R x.nxt y.nxt → S x.nxt y.nxt) → brsR R a b → brsR S a b
  | [], [], _, _ => trivial
  | [], _ :: _, _, h => h.elim
  | _ :: _, [], _, h => h.elim
  | x :: r, y :: r', hh, h => ⟨h.1, hh x (by simp) y (by simp) h.2.1, brsR_mono (fun a ha b hb => hh a (by simp [ha]) b (by simp [hb])) h.2.2⟩
theorem brsR_symm {R : Int → Int → Prop} : ∀ {a b : List Br}, brsR R a b → brsR (fun u v => R v u) b a
  | [], [], _ => trivial
  | [], _ :: _, h => h.elim
  | _ :: _, [], h => h.elim
  | x :: r, y :: r', h => ⟨h.1.symm, h.2.1, brsR_symm h.2.2⟩
theorem brsR_trans {R S T : Int → Int → Prop} (hh : ∀ u v w, R u v → S v w → T u w) : ∀ {a b c : List Br}, brsR R a b → brsR S b c → brsR T a c
  | [], [], [], _, _ => trivial
  | [], [], _ :: _, _, h => h.elim
  | [], _ :: _, _, h, _ => h.elim
  | _ :: _, [], _, h, _ => h.elim
  | x :: r, y :: r', [], _, h => h.elim
  | x :: r, y :: r', z :: r'', h, h' => ⟨h.1.trans h'.1, hh _ _ _ h.2.1 h'.2.1, brsR_trans hh h.2.2 h'.2.2⟩
theorem brsR_refl {R : Int → Int → Prop} : ∀ {a : List Br}, (∀ x ∈ a, R x.nxt x.nxt) → brsR R a a
  | [], _ => trivial
  | x :: r, h => ⟨rfl, h x (by simp), brsR_refl (fun y hy => h y (by simp [hy]))⟩
theorem brsR_len {R : Int → Int → Prop} : ∀ {a b : List Br}, brsR R a b → a.length = b.length
  | [], [], _ => rfl
  | [], _ :: _, h => h.elim
  | _ :: _, [], h => h.elim
  | x :: r, y :: r', h => by simp [brsR_len h.2.2]
theorem brsR_mem {R : Int → Int → Prop} : ∀ {a b : List Br}, brsR R a b → ∀ x ∈ a, ∃ y ∈ b, x.msg = y.msg ∧ R x.nxt y.nxt
  | [], [], _, x, hx => by cases hx
  | [], _ :: _, h, _, _ => h.elim
  | _ :: _, [], h, _, _ => h.elim
  | c :: r, d :: r', h, x, hx => by
    rcases List.mem_cons.1 hx with rfl | hx
    · exact ⟨d, by simp, h.1, h.2.1⟩
    · obtain ⟨y, hy, h1, h2⟩ := brsR_mem h.2.2 x hx
      exact ⟨y, by simp [hy], h1, h2⟩
theorem brsR_sorted {R : Int → Int → Prop} : ∀ {a b : List Br}, a.Pairwise (fun x y => x.msg < y.msg) → b.Pairwise (fun x y => x.msg < y.msg) → (∀ x ∈ a, ∃ y ∈ b, y.msg = x.msg) → (∀ y ∈ b, ∃ x ∈ a, x.msg = y.msg) → (∀ x ∈ a, ∀ y ∈ b, x.msg = y.msg → R x.nxt y.nxt) → brsR R a b
  | [], [], _, _, _, _, _ => trivial
  | [], y :: _, _, _, _, h, _ => by obtain ⟨x, hx, _⟩ := h y (by simp); cases hx
  | x :: _, [], _, _, h, _, _ => by obtain ⟨y, hy, _⟩ := h x (by simp); cases hy
  | x :: r, y :: r', p1, p2, h1, h2, h3 => by
    rw [List.pairwise_cons] at p1 p2
    have e : x.msg = y.msg := by
      obtain ⟨y1, hy1, e1⟩ := h1 x (by simp)
      obtain ⟨x1, hx1, e2⟩ := h2 y (by simp)
      rcases List.mem_cons.1 hy1 with rfl | hy1
      · exact e1.symm
      · rcases List.mem_cons.1 hx1 with rfl | hx1
        · exact e2
        · have := p2.1 y1 hy1; have := p1.1 x1 hx1; omega
    refine ⟨e, h3 x (by simp) y (by simp) e, brsR_sorted p1.2 p2.2 (fun z hz => ?_) (fun z hz => ?_) (fun u hu v hv => h3 u (by simp [hu]) v (by simp [hv]))⟩
    · obtain ⟨w, hw, e1⟩ := h1 z (by simp [hz])
      rcases List.mem_cons.1 hw with rfl | hw
      · have := p1.1 z hz; omega
      · exact ⟨w, hw, e1⟩
    · obtain ⟨w, hw, e1⟩ := h2 z (by simp [hz])
      rcases List.mem_cons.1 hw with rfl | hw
      · have := p2.1 z hz; omega
      · exact ⟨w, hw, e1⟩
def IsBis (a b : List St) (R : Int → Int → Prop) : Prop := ∀ u v, R u v → Inn a u ∧ Inn b v ∧ StR R (stAt a u) (stAt b v)
def Bis (a b : List St) (x y : Int) : Prop := ∃ R, IsBis a b R ∧ R x y
theorem Bis.inn {a b : List St} {x y : Int} (h : Bis a b x y) : Inn a x ∧ Inn b y := by
  obtain ⟨R, h1, h2⟩ := h
  exact ⟨(h1 x y h2).1, (h1 x y h2).2.1⟩
theorem Bis.st {a b : List St} {x y : Int} (h : Bis a b x y) : StR (Bis a b) (stAt a x) (stAt b y) := by
  obtain ⟨R, h1, h2⟩ := h
  obtain ⟨_, _, h3, h4⟩ := h1 x y h2
  exact ⟨h3, brsR_mono (fun u _ v _ q => ⟨R, h1, q⟩) h4⟩
theorem Vs.brIn {a : List St} (v : Vs a) {x : Int} (hx : Inn a x) : ∀ b ∈ (stAt a x).brs, Inn a b.nxt := fun b hb => (v.st _ (v.at hx.1 hx.2).1).2.2.2.1 b hb
theorem Bis.refl {a : List St} (v : Vs a) {x : Int} (hx : Inn a x) : Bis a a x x := by
  refine ⟨fun u w => u = w ∧ Inn a u, ?_, rfl, hx⟩
  rintro u _ ⟨rfl, hu⟩
  exact ⟨hu, hu, rfl, brsR_refl (fun b hb => ⟨rfl, v.brIn hu b hb⟩)⟩
theorem Bis.symm {a b : List St} {x y : Int} (h : Bis a b x y) : Bis b a y x := by
  obtain ⟨R, h1, h2⟩ := h
  refine ⟨fun u v => R v u, fun u v q => ?_, h2⟩
  obtain ⟨k1, k2, k3, k4⟩ := h1 v u q
  exact ⟨k2, k1, k3.symm, brsR_symm k4⟩
theorem Bis.trans {a b c : List St} {x y z : Int} (h : Bis a b x y) (h' : Bis b c y z) : Bis a c x z := by
  obtain ⟨R, h1, h2⟩ := h
  obtain ⟨S, h3, h4⟩ := h'
  refine ⟨fun u w => ∃ v, R u v ∧ S v w, fun u w q => ?_, y, h2, h4⟩
  obtain ⟨v, q1, q2⟩ := q
  obtain ⟨k1, k2, k3, k4⟩ := h1 u v q1
  obtain ⟨m1, m2, m3, m4⟩ := h3 v w q2
  exact ⟨k1, m2, k3.trans m3, brsR_trans (fun _ v _ p q => ⟨v, p, q⟩) k4 m4⟩
theorem next_eq {yb : List Br} {z y : Br} (hs : yb.Pairwise (fun x y => x.msg < y.msg)) (hy : y ∈ yb) (e : z.msg = y.msg) : nextF yb z.msg = y.nxt := by
  rw [e]; exact next_of hs hy
theorem bis_sub {a b : List St} (va : Vs a) (vb : Vs b) (h : Bis a b 0 0) : SubP a b := by
  have key : ∀ p, Reach a b p → Bis a b p.1 p.2 := by
    intro p hp
    induction hp with
    | start => exact h
    | step p q z hr hz hn ih =>
      have ih : Bis a b p q := ih
      obtain ⟨y, hy, e1, e2⟩ := brsR_mem ih.st.2 z hz
      have hq := ih.inn.2
      have := next_eq (vb.st _ (vb.at hq.1 hq.2).1).2.2.2.2 hy e1
      rw [this]; exact e2
  intro p hp
  have hb := key p hp
  have hs := hb.st
  rw [okP_iff]
  have c1 : coversF (stAt b p.2) (stAt a p.1) = true := by
    rw [covers_iff]
    intro x hx
    obtain ⟨y, hy, e1, e2⟩ := brsR_mem hs.2 x hx
    rw [next_eq (vb.st _ (vb.at hb.inn.2.1 hb.inn.2.2).1).2.2.2.2 hy e1]
    exact e2.inn.2.1
  have c2 : coversF (stAt a p.1) (stAt b p.2) = true := by
    rw [covers_iff]
    intro x hx
    obtain ⟨y, hy, e1, e2⟩ := brsR_mem (brsR_symm hs.2) x hx
    rw [next_eq (va.st _ (va.at hb.inn.1.1 hb.inn.1.2).1).2.2.2.2 hy e1]
    exact e2.inn.1.1
  exact ⟨hs.1, fun _ => c1, fun _ => c2⟩
theorem sub_bis {a b : List St} (va : Vs a) (vb : Vs b) (h1 : SubP a b) (h2 : SubP b a) : Bis a b 0 0 := by
  refine ⟨fun u v => Reach a b (u, v) ∧ Reach b a (v, u), fun u v ⟨r1, r2⟩ => ?_, .start, .start⟩
  have hin := reach_in va vb r1
  simp only at hin
  have iu : Inn a u := ⟨hin.1, hin.2.1⟩
  have iv : Inn b v := ⟨hin.2.2.1, hin.2.2.2⟩
  have o1 := okP_iff.1 (h1 _ r1)
  have o2 := okP_iff.1 (h2 _ r2)
  simp only at o1 o2
  have su := va.st _ (va.at iu.1 iu.2).1
  have sv := vb.st _ (vb.at iv.1 iv.2).1
  refine ⟨iu, iv, o1.1, ?_⟩
  have covs : (∀ x ∈ (stAt a u).brs, ∃ y ∈ (stAt b v).brs, y.msg = x.msg) ∧ ∀ y ∈ (stAt b v).brs, ∃ x ∈ (stAt a u).brs, x.msg = y.msg := by
    have mk : ∀ {s t : St}, coversF s t = true → ∀ x ∈ t.brs, ∃ y ∈ s.brs, y.msg = x.msg := by
      intro s t hc x hx
      obtain ⟨z, hz, e, _⟩ := next_in (covers_iff.1 hc x hx)
      exact ⟨z, hz, e⟩
    rcases su.1 with k | k | k
    · exact ⟨mk (o1.2.1 k), mk (o2.2.1 (by rw [o2.1]; exact k))⟩
    · exact ⟨mk (o2.2.2 (by rw [o2.1]; exact k)), mk (o1.2.2 k)⟩
    · have e1 := su.2.1.1 k
      have e2 := sv.2.1.1 (by rw [o2.1]; exact k)
      rw [e1, e2]; simp
  refine brsR_sorted su.2.2.2.2 sv.2.2.2.2 covs.1 covs.2 (fun x hx y hy e => ⟨?_, ?_⟩)
  · have n1 := next_eq sv.2.2.2.2 hy e
    have := Reach.step u v x r1 hx (by rw [n1]; exact (vb.brIn iv y hy).1)
    rwa [n1] at this
  · have n1 := next_eq su.2.2.2.2 hx e.symm
    have := Reach.step v u y r2 hy (by rw [n1]; exact (va.brIn iu x hx).1)
    rwa [n1] at this
end SE
