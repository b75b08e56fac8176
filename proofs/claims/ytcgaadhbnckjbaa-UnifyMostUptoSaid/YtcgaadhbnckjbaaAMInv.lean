/-
  DERIVED. Part of an abstract machine over plain values, sound against the model. No conditions.
-/
import Derived.Test.YtcgaadhbnckjbaaAMUse
import Derived.Test.YtcgaadhbnckjbaaAMLaw
namespace Go.AM

theorem list_map {α β : Type} {enc : β → α} {Q : β → Prop} : ∀ (xs : List α), (∀ x ∈ xs, ∃ d, x = enc d ∧ Q d) → ∃ l : List β, xs = l.map enc ∧ ∀ d ∈ l, Q d
  | [], _ => ⟨[], rfl, by simp⟩
  | x :: r, h => by
    obtain ⟨d, rfl, hq⟩ := h x (by simp)
    obtain ⟨l, rfl, hl⟩ := list_map r (fun y hy => h y (by simp [hy]))
    refine ⟨d :: l, rfl, fun y hy => ?_⟩
    rcases List.mem_cons.1 hy with rfl | hy
    · exact hq
    · exact hl y hy

def isI64 (P : Program) (t : Nat) (k : IntKind) : Bool := match P.underlying t with | some (.int j) => j == k | _ => false
def isBlT (P : Program) (t : Nat) : Bool := match P.underlying t with | some .bool => true | _ => false
def isStrT (P : Program) (t : Nat) : Bool := match P.underlying t with | some .string => true | _ => false
def sliceT (P : Program) (t e cells bytes : Nat) (agg : Bool) : Bool := match P.underlying t with | some (.slice e') => Nat.beq e' e && Nat.beq (P.cellsOf e) cells && Nat.beq (P.bytesOf e) bytes && (aggT P e == agg) | _ => false
def structT (P : Program) (t n : Nat) (l : List (Nat × Nat × Nat)) : Bool := match P.underlying t with | some (.struct fs) => Nat.beq (P.cellsOf t) n && (fs.toList.map (fun f => (f.offset, f.type, P.cellsOf f.type)) == l) | _ => false

theorem tp_int {P : Program} {t : Nat} {k : IntKind} {x : List PV} (hu : isI64 P t k = true) (h : TP P t x) : ∃ m, x = [.i k m] ∧ (Lit.int k m).wf = true := by
  unfold isI64 at hu
  cases h with
  | int _ k' m h hw => rw [h] at hu; simp only [beq_iff_eq] at hu; subst hu; exact ⟨m, rfl, hw⟩
  | bool _ _ h => rw [h] at hu; cases hu
  | str _ _ h => rw [h] at hu; cases hu
  | sl _ _ _ h => rw [h] at hu; cases hu
  | struct _ _ _ h => rw [h] at hu; cases hu
  | array _ _ _ _ h => rw [h] at hu; cases hu

theorem tp_bool {P : Program} {t : Nat} {x : List PV} (hu : isBlT P t = true) (h : TP P t x) : ∃ b, x = [.b b] := by
  unfold isBlT at hu
  cases h with
  | bool _ b h => exact ⟨b, rfl⟩
  | int _ _ _ h => rw [h] at hu; cases hu
  | str _ _ h => rw [h] at hu; cases hu
  | sl _ _ _ h => rw [h] at hu; cases hu
  | struct _ _ _ h => rw [h] at hu; cases hu
  | array _ _ _ _ h => rw [h] at hu; cases hu

theorem tp_str {P : Program} {t : Nat} {x : List PV} (hu : isStrT P t = true) (h : TP P t x) : ∃ s, x = [.s s] ∧ s.size ≤ 140737488351232 := by
  unfold isStrT at hu
  cases h with
  | str _ s h hb => exact ⟨s, rfl, hb⟩
  | bool _ _ h => rw [h] at hu; cases hu
  | int _ _ _ h => rw [h] at hu; cases hu
  | sl _ _ _ h => rw [h] at hu; cases hu
  | struct _ _ _ h => rw [h] at hu; cases hu
  | array _ _ _ _ h => rw [h] at hu; cases hu

theorem tp_slice {P : Program} {t e c b : Nat} {agg : Bool} {x : List PV} (hu : sliceT P t e c b agg = true) (h : TP P t x) :
    ∃ xs, x = [.sl c xs] ∧ xs.length * b ≤ 140737488351232 ∧ (∀ y ∈ xs, TP P e y.cells) ∧ ∀ y ∈ xs, (agg = true → ∃ cs, y = .agg cs) ∧ (agg = false → y.cells = [y]) := by
  unfold sliceT at hu
  cases h with
  | sl _ e' xs h hb hc ha =>
    rw [h] at hu
    simp only [Bool.and_eq_true, beq_iff_eq] at hu
    obtain ⟨⟨⟨h1, h2⟩, h3⟩, h4⟩ := hu
    obtain rfl := Nat.eq_of_beq_eq_true h1
    obtain rfl := Nat.eq_of_beq_eq_true h2
    obtain rfl := Nat.eq_of_beq_eq_true h3
    subst h4
    exact ⟨xs, rfl, hb, hc, ha⟩
  | bool _ _ h => rw [h] at hu; cases hu
  | int _ _ _ h => rw [h] at hu; cases hu
  | str _ _ h => rw [h] at hu; cases hu
  | struct _ _ _ h => rw [h] at hu; cases hu
  | array _ _ _ _ h => rw [h] at hu; cases hu

theorem tp_struct {P : Program} {t n : Nat} {l : List (Nat × Nat × Nat)} {x : List PV} (hu : structT P t n l = true) (h : TP P t x) :
    x.length = n ∧ ∀ p ∈ l, TP P p.2.1 ((x.drop p.1).take p.2.2) := by
  unfold structT at hu
  cases h with
  | struct _ fs xs h hl hf =>
    rw [h] at hu
    simp only [Bool.and_eq_true, beq_iff_eq] at hu
    obtain ⟨h1, rfl⟩ := hu
    obtain rfl := Nat.eq_of_beq_eq_true h1
    refine ⟨hl, fun p hp => ?_⟩
    obtain ⟨f, hfm, rfl⟩ := List.mem_map.1 hp
    exact hf f hfm
  | bool _ _ h => rw [h] at hu; cases hu
  | int _ _ _ h => rw [h] at hu; cases hu
  | str _ _ h => rw [h] at hu; cases hu
  | sl _ _ _ h => rw [h] at hu; cases hu
  | array _ _ _ _ h => rw [h] at hu; cases hu

/-- a slice of structs, as a list of data -/
theorem tp_list {P : Program} {t e c b : Nat} {x : List PV} {β : Type} {enc : β → PV} {Q : β → Prop} (hu : sliceT P t e c b true = true) (h : TP P t x)
    (hd : ∀ cs, TP P e cs → ∃ d, PV.agg cs = enc d ∧ Q d) : ∃ l : List β, x = [.sl c (l.map enc)] ∧ l.length * b ≤ 140737488351232 ∧ ∀ d ∈ l, Q d := by
  obtain ⟨xs, rfl, hb, hc, ha⟩ := tp_slice hu h
  obtain ⟨l, rfl, hq⟩ := list_map (enc := enc) (Q := Q) xs (fun y hy => by
    obtain ⟨cs, rfl⟩ := (ha y hy).1 rfl
    exact hd cs (hc _ hy))
  exact ⟨l, rfl, by simpa using hb, hq⟩

/-- a slice of plain cells, as a list of data -/
theorem tp_list1 {P : Program} {t e c b : Nat} {x : List PV} {β : Type} {enc : β → PV} {Q : β → Prop} (hu : sliceT P t e c b false = true) (h : TP P t x)
    (hd : ∀ y, TP P e [y] → ∃ d, y = enc d ∧ Q d) : ∃ l : List β, x = [.sl c (l.map enc)] ∧ l.length * b ≤ 140737488351232 ∧ ∀ d ∈ l, Q d := by
  obtain ⟨xs, rfl, hb, hc, ha⟩ := tp_slice hu h
  obtain ⟨l, rfl, hq⟩ := list_map (enc := enc) (Q := Q) xs (fun y hy => hd y ((ha y hy).2 rfl ▸ hc y hy))
  exact ⟨l, rfl, by simpa using hb, hq⟩
end Go.AM
namespace Go.AM
/-- all types that are reached from some -/
def plainTypes (P : Program) : Nat → List Nat → List Nat → List Nat
  | 0, _, acc => acc
  | _ + 1, [], acc => acc
  | n + 1, t :: r, acc => if acc.contains t then plainTypes P n r acc else
    plainTypes P n ((match P.underlying t with
      | some (.slice e) => [e]
      | some (.array _ e) => [e]
      | some (.struct fs) => fs.toList.map (·.type)
      | _ => []) ++ r) (acc ++ [t])
end Go.AM
