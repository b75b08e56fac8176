/-
  DERIVED. Part of an abstract machine over plain values, sound against the model. No conditions.
-/
import Derived.Test.YtcgaadhbnckjbaaAMInv
namespace Go.AM
open Go.ChangeShapes Go.WideShapes Go.ChangeAt Go.RowKit
/-- what is asked of a law's types -/
def lawCk (P : Program) (ps : List Nat) : Bool :=
  let l := plainTypes P 1000 ps []
  plainB P l && ps.all (fun t => l.contains t && P.readableRec t && Nat.blt t P.types.size) && laidOutB P

theorem law_of {H : Type} {enc : TypeId × Value → H} {P : Program} {F : Nat} {fn : Func} {s : ChangeSpec} {fresh handsOn again : Bool} {tb : Nat} (ps : List Nat) (hvars : s.vars = []) (hp : fn.params.toList = ps) (hck : lawCk P ps = true)
    (hres : fn.resultTypes = #[tb]) (hb : P.underlying tb = some .bool)
    (hspec : ∀ ds : List (DataW H), ds.length = ps.length → (s.fn H ds).results = [.lit (.bool true)] ∧ (s.fn H ds).args = ds ∧ (s.fn H ds).vars = [])
    (W : World) (base : Nat) (args : Array Value) (ds gs : List (DataW H)) (before : List MemPlace)
    (hval : ∀ (j : Nat) t v, fn.params[j]? = some t → args[j]? = some v → Value.okWide P W .any base t v)
    (hW : DataW.Whole enc P fn.params.toList s.vars false W args.toList ds gs before) {vs : List Nat} (hsz : (DataW.weightsEach P (fn.params.toList ++ vs) (ds ++ gs)).all (· ≤ reachBytes) = true) (hvs : vs = [])
    (hpure : ∀ xss : List (List PV), TPs P ps xss → APure P F (mkArgs P ps xss) (.p (.b true))) :
    Calls P F args W fun e W' => ∃ v, e = .returned v ∧ s.post enc P fn false fresh handsOn again W args v W' := by
  simp only [lawCk, Bool.and_eq_true, List.all_eq_true, List.contains_iff_mem] at hck
  obtain ⟨⟨h1, h2⟩, h3⟩ := hck
  refine law_contract (l := plainTypes P 1000 ps []) hvars h1 (by rw [hp]; exact fun t ht => (h2 t ht).1.1) h3 (by rw [hp]; exact fun t ht => ⟨(h2 t ht).1.2, by have := (h2 t ht).2; rwa [Nat.blt_eq] at this⟩) hres hb (by rw [hp]; exact hspec) W base args ds gs before hval hW ?_ (by rw [hp]; exact fun xss h _ => hpure xss h)
  intro x hx
  have hg : gs = [] := by
    obtain ⟨p, q, _, hV, _⟩ := hW
    rw [hvars] at hV
    cases gs with
    | nil => rfl
    | cons x r => simp [DataW.TrodVars] at hV
  subst hg
  subst hvs
  simp only [List.append_nil] at hsz
  exact of_decide_eq_true (List.all_eq_true.1 hsz x hx)

/-- .. where what comes in is of bulk at most B -/
theorem law_upto {H : Type} {enc : TypeId × Value → H} {P : Program} {F : Nat} {fn : Func} {s : ChangeSpec} {fresh handsOn again : Bool} {tb : Nat} (B : Nat) (ps : List Nat) (hvars : s.vars = []) (hp : fn.params.toList = ps) (hck : lawCk P ps = true)
    (hres : fn.resultTypes = #[tb]) (hb : P.underlying tb = some .bool)
    (hspec : ∀ ds : List (DataW H), ds.length = ps.length → (s.fn H ds).results = [.lit (.bool true)] ∧ (s.fn H ds).args = ds ∧ (s.fn H ds).vars = [])
    (W : World) (base : Nat) (args : Array Value) (ds gs : List (DataW H)) (before : List MemPlace)
    (hval : ∀ (j : Nat) t v, fn.params[j]? = some t → args[j]? = some v → Value.okWide P W .any base t v)
    (hW : DataW.Whole enc P fn.params.toList s.vars false W args.toList ds gs before) {vs : List Nat} (hsz : (DataW.weightsEach P (fn.params.toList ++ vs) (ds ++ gs)).all (· ≤ reachBytes) = true) (hvs : vs = []) (hB : bulkAll (ds ++ gs) ≤ B)
    (hpure : ∀ xss : List (List PV), TPs P ps xss → wtss xss ≤ B → APure P F (mkArgs P ps xss) (.p (.b true))) :
    Calls P F args W fun e W' => ∃ v, e = .returned v ∧ s.post enc P fn false fresh handsOn again W args v W' := by
  simp only [lawCk, Bool.and_eq_true, List.all_eq_true, List.contains_iff_mem] at hck
  obtain ⟨⟨h1, h2⟩, h3⟩ := hck
  have hg : gs = [] := by
    obtain ⟨p, q, _, hV, _⟩ := hW
    rw [hvars] at hV
    cases gs with
    | nil => rfl
    | cons x r => simp [DataW.TrodVars] at hV
  subst hg
  subst hvs
  simp only [List.append_nil] at hsz hB
  refine law_contract (l := plainTypes P 1000 ps []) hvars h1 (by rw [hp]; exact fun t ht => (h2 t ht).1.1) h3 (by rw [hp]; exact fun t ht => ⟨(h2 t ht).1.2, by have := (h2 t ht).2; rwa [Nat.blt_eq] at this⟩) hres hb (by rw [hp]; exact hspec) W base args ds [] before hval hW ?_ (by rw [hp]; exact fun xss h h' => hpure xss h (by omega))
  intro x hx
  exact of_decide_eq_true (List.all_eq_true.1 hsz x hx)
end Go.AM
