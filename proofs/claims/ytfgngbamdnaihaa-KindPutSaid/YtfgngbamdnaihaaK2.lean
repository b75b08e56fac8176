/-
  DERIVED. Contracts of the functions that the law reaches, and the law itself, for every input. No conditions.
-/
import Derived.Test.YtfgngbamdnaihaaK1
open Go Go.AM Go.Proofs
namespace KK

structure Dt where
  name : ByteArray
  params : List PV
  makes : PV
def eD (d : Dt) : PV := .agg [.s d.name, .sl 1 d.params, d.makes]
/-- a program, of which the datas alone are told -/
structure Pg where
  a0 : PV
  a1 : PV
  a2 : PV
  ds : List Dt
  a4 : PV
  a5 : PV
  a6 : PV
  a7 : PV
def eP (p : Pg) : PV := .agg [p.a0, p.a1, p.a2, .sl 3 (p.ds.map eD), p.a4, p.a5, p.a6, p.a7]

def chkS (m : List (ByteArray × Int)) (d : Dt) : List (ByteArray × Int) := bif (slook d.name m).isSome then m else sput d.name d.params.length m
def chkF (ds : List Dt) : List (ByteArray × Int) := ds.foldl chkS []

theorem newChecker_spec (p : Pg) (hb : p.ds.length < 9223372036854775807) : AMem Try.prog 11 [.p (eP p)] [] (.mp 8) [(8, .map .ks (eM vI (chkF p.ds)))] := by
  obtain ⟨a0, a1, a2, ds, a4, a5, a6, a7⟩ := p
  simp only at hb
  refine AMem.intro (tyOf_ok Try.prog) hmix Try.func11 rfl (by rfl) (by kernel_rfl) (by show 1 ≤ _; decide) rfl ?_
  conv => whnf
  refine loopS (tyOf_ok _) hmix (by kernel_rfl) ds.length [3, 10, 11, 12] [8] (fun k s => [.mp 8, .p (.sl 3 (ds.map eD)), .p (.i .i64 (ds.map eD).length), .p (.i .i64 (ix k))])
    (fun _ s => [.map .ks (eM vI s)]) (fun k s => s = chkF (ds.take k)) [] ⟨rfl, rfl, rfl, rfl⟩ rfl ?_
  intro k s hk hs
  conv => whnf
  refine asplit ?_ ?_ <;> intro h1 <;> conv => whnf
  · have hk1 := ix_tt h1 (by simp) hk (by omega)
    obtain ⟨b, hb1⟩ : ∃ b, ds[k]? = some b := ⟨ds[k], by simp [hk1]⟩
    refine aidxk (x := eD b) (by simp [hb1]) (by omega) ?_
    have hts : chkF (ds.take (k + 1)) = chkS (chkF (ds.take k)) b := by rw [take_snoc hb1]; simp [chkF]
    rw [← hs] at hts
    obtain ⟨nm, ps, mk⟩ := b
    conv => whnf
    refine alook (mlook_I nm s) ?_
    conv => whnf
    refine asplit ?_ ?_ <;> intro h2 <;> conv => whnf
    · refine ⟨hk1, sput nm ps.length s, ⟨by show _ = [some (AObj.map KD.ks (eM vI (sput nm (ps.length : Int) s)))]; rw [← mput_eM]; rfl, rfl, rfl, rfl⟩, ?_⟩
      rw [hts, chkS]; simp only at h2 ⊢; simp at h2; simp [h2]
    · refine ⟨hk1, s, ⟨rfl, rfl, rfl, rfl⟩, ?_⟩
      rw [hts, chkS]; simp only at h2 ⊢; simp at h2
      cases hq : slook nm s with
      | none => rw [hq] at h2; simp at h2
      | some v => rfl
  · have hk1 := ix_ff h1 (by simp) hk (by omega)
    have : s = chkF ds := by rw [hs, hk1, List.take_length]
    subst this
    exact ⟨.inl rfl, ⟨rfl, rfl⟩, trivial⟩

/-- the checker's walk -/
def typF (m : List (ByteArray × Int)) (ps : List ByteArray) : Ty → Int
  | .mk k n xs => bif k == 5 then (bif hasF n ps then typF.go m ps xs else 11) else
      bif k == 6 then (bif (slook n m).isSome then (bif (slook n m).getD 0 != xs.length then 13 else typF.go m ps xs) else 11) else typF.go m ps xs
  where go (m : List (ByteArray × Int)) (ps : List ByteArray) : List Ty → Int
  | [] => 0
  | t :: r => bif typF m ps t != 0 then typF m ps t else typF.go m ps r

def TypSpec (m : List (ByteArray × Int)) (ps : List ByteArray) (t : Ty) : Prop :=
  AMem Try.prog 12 [.mp 1000000000, .p (.sl 1 (ps.map eStr)), .p (eT t)] [(1000000000, .map .ks (eM vI m))] (.p (.i .i64 (typF m ps t))) [(1000000000, .map .ks (eM vI m))]
def TypsSpec (m : List (ByteArray × Int)) (ps : List ByteArray) (l : List Ty) : Prop :=
  AMem Try.prog 13 [.mp 1000000000, .p (.sl 1 (ps.map eStr)), .p (.sl 3 (eTs l))] [(1000000000, .map .ks (eM vI m))] (.p (.i .i64 (typF.go m ps l))) [(1000000000, .map .ks (eM vI m))]

theorem types_of (m : List (ByteArray × Int)) (ps : List ByteArray) (l : List Ty) (hl : l.length < 9223372036854775807) (ih : ∀ t ∈ l, TypSpec m ps t) : TypsSpec m ps l := by
  refine AMem.intro (tyOf_ok Try.prog) hmix Try.func13 rfl (by rfl) (by kernel_rfl) (by show 3 ≤ _; decide) rfl ?_
  conv => whnf
  refine loopS (tyOf_ok _) hmix (by kernel_rfl) l.length [0, 1, 10, 11, 12] [1000000000] (fun k _ => [.mp 1000000000, .p (.sl 1 (ps.map eStr)), .p (.sl 3 (eTs l)), .p (.i .i64 (eTs l).length), .p (.i .i64 (ix k))])
    (fun _ _ => [.map .ks (eM vI m)]) (fun k _ => typF.go m ps l = typF.go m ps (l.drop k)) () ⟨rfl, rfl, rfl, rfl⟩ rfl ?_
  intro k _ hk hs
  conv => whnf
  refine asplit ?_ ?_ <;> intro h1 <;> conv => whnf
  · have hk1 := ix_tt h1 (by rw [eTs_len]) hk hl
    obtain ⟨b, hb1⟩ : ∃ b, l[k]? = some b := ⟨l[k], by simp [hk1]⟩
    refine aidxk (eTs_get hb1) (by omega) ?_
    have hc := ih b (List.mem_of_getElem? hb1)
    unfold TypSpec at hc
    rw [drop_cons hb1, typF.go] at hs
    generalize typF m ps b = r at hc hs
    obtain ⟨bk, bn, bs⟩ := b
    conv => whnf
    refine amc [1000000000] 0 hc ?_
    conv => whnf
    refine asplit ?_ ?_ <;> intro h2 <;> conv => whnf
    · exact ⟨.inl (pi (by rw [hs, h2]; rfl)), ⟨rfl, rfl⟩, trivial⟩
    · exact ⟨hk1, (), ⟨rfl, rfl, rfl, rfl⟩, by rw [hs, h2]; rfl⟩
  · have hk1 := ix_ff h1 (by rw [eTs_len]) hk hl
    have : l.drop k = [] := List.drop_eq_nil_of_le (by omega)
    exact ⟨.inl (pi (by rw [hs, this]; rfl)), ⟨rfl, rfl⟩, trivial⟩

theorem typ_of (m : List (ByteArray × Int)) (ps : List ByteArray) (hp : ps.length < 9223372036854775807) (t : Ty) (ht : okT t) (ih : TypsSpec m ps t.args) : TypSpec m ps t := by
  obtain ⟨kd, nm, xs⟩ := t
  simp only [Ty.args] at ih
  unfold TypsSpec at ih
  unfold TypSpec
  have e0 : typF m ps (.mk kd nm xs) = (bif kd == 5 then (bif hasF nm ps then typF.go m ps xs else 11) else bif kd == 6 then (bif (slook nm m).isSome then (bif (slook nm m).getD 0 != xs.length then 13 else typF.go m ps xs) else 11) else typF.go m ps xs) := by rw [typF]
  rw [e0]
  generalize typF.go m ps xs = r at ih
  refine AMem.intro (tyOf_ok Try.prog) hmix Try.func12 rfl (by rfl) (by kernel_rfl) (by show 3 ≤ _; decide) rfl ?_
  conv => whnf
  refine asplit ?_ ?_ <;> intro h1 <;> conv => whnf
  · refine apc (contains_spec ps nm hp) ?_
    conv => whnf
    refine asplit ?_ ?_ <;> intro h2 <;> conv => whnf
    · simp only [Bool.not_eq_true'] at h2
      exact ⟨.inl (pi (by rw [h1, h2]; rfl)), ⟨rfl, rfl⟩, trivial⟩
    · simp only [Bool.not_eq_false'] at h2
      refine amc [1000000000] 0 ih ?_
      conv => whnf
      exact ⟨.inl (pi (by rw [h1, h2]; rfl)), ⟨rfl, rfl⟩, trivial⟩
  refine asplit ?_ ?_ <;> intro h2 <;> conv => whnf
  · refine alook (mlook_I nm m) ?_
    conv => whnf
    refine asplit ?_ ?_ <;> intro h3 <;> conv => whnf
    · simp only [Bool.not_eq_true'] at h3
      exact ⟨.inl (pi (by rw [h1, h2, h3]; rfl)), ⟨rfl, rfl⟩, trivial⟩
    simp only [Bool.not_eq_false'] at h3
    refine asplit ?_ ?_ <;> intro h4 <;> conv => whnf
    · rw [eTs_len] at h4
      exact ⟨.inl (pi (by rw [h1, h2, h3, h4]; rfl)), ⟨rfl, rfl⟩, trivial⟩
    · rw [eTs_len] at h4
      refine amc [1000000000] 0 ih ?_
      conv => whnf
      exact ⟨.inl (pi (by rw [h1, h2, h3, h4]; rfl)), ⟨rfl, rfl⟩, trivial⟩
  · refine amc [1000000000] 0 ih ?_
    conv => whnf
    exact ⟨.inl (pi (by rw [h1, h2]; rfl)), ⟨rfl, rfl⟩, trivial⟩

theorem typ_spec (m : List (ByteArray × Int)) (ps : List ByteArray) (hp : ps.length < 9223372036854775807) (t : Ty) : okT t → TypSpec m ps t :=
  Ty.ind (Q := fun t => okT t → TypSpec m ps t) (fun k n xs ih h => typ_of m ps hp (.mk k n xs) h (types_of m ps xs (by have := h.1; omega) fun a ha => ih a ha (okTs_mem h.2 a ha))) t
theorem types_spec (m : List (ByteArray × Int)) (ps : List ByteArray) (hp : ps.length < 9223372036854775807) (l : List Ty) (hl : l.length < 9223372036854775807) (h : okTs l) : TypsSpec m ps l :=
  types_of m ps l hl fun a ha => typ_spec m ps hp a (okTs_mem h a ha)

theorem Type_spec (p : Pg) (ps : List ByteArray) (t : Ty) (hb : p.ds.length < 9223372036854775807) (hp : ps.length < 9223372036854775807) (ht : okT t) :
    APure Try.prog 7 [.p (eP p), .p (.sl 1 (ps.map eStr)), .p (eT t)] (.p (.i .i64 (typF (chkF p.ds) ps t))) := by
  have h1 := newChecker_spec p hb
  have h2 := typ_spec (chkF p.ds) ps hp t ht
  unfold TypSpec at h2
  generalize typF (chkF p.ds) ps t = r at h2
  obtain ⟨a0, a1, a2, ds, a4, a5, a6, a7⟩ := p
  obtain ⟨kd, nm, xs⟩ := t
  refine APure.intro (tyOf_ok Try.prog) hmix Try.func7 rfl (by rfl) (by kernel_rfl) (by show 3 ≤ _; decide) rfl ?_
  conv => whnf
  refine amc [] 10000 h1 ?_
  conv => whnf
  refine amc [10008] 0 h2 ?_
  conv => whnf
  refine aneed (by kernel_rfl) ?_
  conv => whnf
  exact .inl rfl

theorem Types_spec (p : Pg) (ps : List ByteArray) (l : List Ty) (hb : p.ds.length < 9223372036854775807) (hp : ps.length < 9223372036854775807) (hl : l.length < 9223372036854775807) (ht : okTs l) :
    APure Try.prog 8 [.p (eP p), .p (.sl 1 (ps.map eStr)), .p (.sl 3 (eTs l))] (.p (.i .i64 (typF.go (chkF p.ds) ps l))) := by
  have h1 := newChecker_spec p hb
  have h2 := types_spec (chkF p.ds) ps hp l hl ht
  unfold TypsSpec at h2
  generalize typF.go (chkF p.ds) ps l = r at h2
  obtain ⟨a0, a1, a2, ds, a4, a5, a6, a7⟩ := p
  refine APure.intro (tyOf_ok Try.prog) hmix Try.func8 rfl (by rfl) (by kernel_rfl) (by show 3 ≤ _; decide) rfl ?_
  conv => whnf
  refine amc [] 10000 h1 ?_
  conv => whnf
  refine amc [10008] 0 h2 ?_
  conv => whnf
  exact .inl rfl
end KK
