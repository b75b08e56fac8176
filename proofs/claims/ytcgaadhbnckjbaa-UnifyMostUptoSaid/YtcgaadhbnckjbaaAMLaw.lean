/-
  DERIVED. Part of an abstract machine over plain values, sound against the model. No conditions.
-/
import Derived.Test.YtcgaadhbnckjbaaAMTop
namespace Go.AM
open Go.ChangeShapes Go.WideShapes Go.ChangeAt Go.RowKit

theorem Ext.grown {g : Gh} {w : World} {g' : Gh} {w' : World} (h : Ext g w g' w') (hno : ∀ b, g.own b = none) : w.keptBut w' (fun _ => False) ∧ ∀ a : Addr, a.block < w.heap.size → w'.frozen? a = w.frozen? a := by
  refine ⟨⟨h.os, h.out, fun i hi => ?_⟩, fun a ha => h.frz' a ha⟩
  rw [(h.kept i hi (hno i)).1]
  cases hq : w.heap[i]? with
  | none => rfl
  | some o => cases o <;> simp
open DataW in
theorem post_of_same2 {H : Type} {enc : TypeId × Value → H} {P : Program} {f : Func} {s : ChangeSpec} {apart fresh handsOn again : Bool} {W W' : World} {args : Array Value} {v : Value} {ds gs : List (DataW H)} {before pa pv : List MemPlace}
    (hW : DataW.Whole enc P f.params.toList s.vars apart W args.toList ds gs before)
    (hres : ∀ (b : Nat) (sp : Nat → Bool) (hd : Bool), DataW.TrodAll enc P W' b sp hd f.resultTypes.toList (v.resultList f.resultTypes.size) (s.fn H (ds ++ gs)).results [])
    (hargs : ∀ sp : Nat → Bool, (∀ p ∈ before, sp p.block = true) → DataW.TrodAll enc P W' 0 sp true f.params.toList args.toList (s.fn H (ds ++ gs)).args pa)
    (hvars : ∀ sp : Nat → Bool, (∀ p ∈ before, sp p.block = true) → DataW.TrodVars enc P W' sp s.vars (s.fn H (ds ++ gs)).vars pv)
    (hps : before = pa ++ pv) (hk : W.keptBut W' (· ∈ before)) (hfz : ∀ a : Addr, a.block < W.heap.size → W'.frozen? a = W.frozen? a)
    (hok : ∀ (j : Nat) (t : TypeId) (r : Value), f.resultTypes[j]? = some t → (v.resultList f.resultTypes.size)[j]? = some r → Value.okWide P W' .any 0 t r) :
    s.post enc P f apart fresh handsOn again W args v W' := by
  have hold : ∀ p ∈ before, (fun b => decide (b < W.heap.size)) p.block = true := fun p hp => by simpa using hW.lt p hp
  have hlt := hW.lt
  refine ⟨ds, gs, before, [], pa, pv, hW, hres _ _ _, hargs _ hold, hvars _ hold, World.keptBut_mono (fun p hp => ⟨hp, ?_⟩) hk, fun _ => ?_⟩
  · rw [hps, List.mem_append] at hp
    exact Or.inr hp
  · obtain ⟨_, _, _, _, _, hz, hn⟩ := hW
    refine ⟨hok, _, _, ([] ++ pa) ++ pv, ⟨[] ++ pa, pv, trodAll_append (hargs _ (fun _ _ => rfl)) (hres _ _ _), hvars _ (fun _ _ => rfl), rfl, ?_, ?_⟩, ?_⟩
    · intro b off hp
      have hp2 : MemPlace.cell b off ∈ before := by rw [hps]; simpa using hp
      rw [hfz _ (hlt _ hp2)]
      exact hz b off hp2
    · intro ha
      have := hn ha
      rw [hps] at this
      simpa using this
    · intro p hp _
      rw [hps]
      simpa using hp

/-- an argument as a value of a place -/
def mkArg (P : Program) (t : Nat) (xs : List PV) : AV := if aggT P t then .p (.agg xs) else .p (xs.headD (.b false))

def mkArgs (P : Program) : List Nat → List (List PV) → List AV
  | t :: ts, x :: xs => mkArg P t x :: mkArgs P ts xs
  | _, _ => []

/-- typed arguments -/
inductive TPs (P : Program) : List Nat → List (List PV) → Prop
  | nil : TPs P [] []
  | cons (t : Nat) (ts : List Nat) (x : List PV) (xs : List (List PV)) (h : TP P t x) (hs : TPs P ts xs) : TPs P (t :: ts) (x :: xs)

def wtss : List (List PV) → Nat
  | [] => 0
  | x :: r => PV.wts x + wtss r

theorem okWide_notAgg {P : Program} {w : World} {base : Nat} {t : TypeId} {l : List Nat} (hp : plainRow P l t = true) (ha : aggT P t = false) {v : Value} (h : Value.okWide P w .any base t v) : v.cells = #[v] := by
  cases v with
  | agg cs =>
    exfalso
    unfold plainRow at hp
    unfold Value.okWide Cell.okWide Cell.ok at h
    split at hp
    all_goals first
      | (rename_i hu; simp [hu] at h; done)
      | (rename_i k hu; simp [hu] at h; done)
      | (rename_i fs hu; simp [aggT, hu, isAggD] at ha; done)
      | (rename_i m e hu; simp [aggT, hu, isAggD] at ha; done)
      | (cases hp; done)
  | _ => rfl

theorem args_rel {H : Type} {enc : TypeId × Value → H} {P : Program} {W : World} {base : Nat} {l : List Nat} (hl : plainB P l = true) : ∀ (ts : List TypeId) (vs : List Value) (ds : List (DataW H)) (ps : List MemPlace), (∀ t ∈ ts, t ∈ l) →
    DataW.TrodAll enc P W 0 (fun _ => true) true ts vs ds ps → (∀ (j : Nat) (t : TypeId) (v : Value), ts[j]? = some t → vs[j]? = some v → Value.okWide P W .any base t v) → (∀ x ∈ DataW.weightsEach P ts ds, x ≤ reachBytes) →
    ∃ xss, TPs P ts xss ∧ vs.length = (mkArgs P ts xss).length ∧ (∀ (j : Nat) (v : Value) (x : AV), vs[j]? = some v → (mkArgs P ts xss)[j]? = some x → VRel (allG W) W (fun _ => False) none v x) ∧ wtss xss ≤ bulkAll ds
  | [], [], [], ps, _, _, _, _ => ⟨[], .nil, rfl, by simp, by simp [wtss]⟩
  | t :: ts, v :: vs, d :: ds, ps, htl, h, hval, hw => by
    obtain ⟨p, q, ⟨fuel, h1⟩, h2, _⟩ := h
    obtain ⟨xs, k1, k2, k3⟩ := trod_pv hl fuel t _ d p (htl t (by simp)) h1 (fun x hx => hw x (by simp only [DataW.weightsEach, List.mem_append]; exact .inl hx))
    obtain ⟨xss, r1, r2, r3, r4⟩ := args_rel hl ts vs ds q (fun t' ht' => htl t' (by simp [ht'])) h2 (fun j t' v' a b => hval (j + 1) t' v' (by simpa using a) (by simpa using b)) (fun x hx => hw x (by simp only [DataW.weightsEach, List.mem_append]; exact .inr hx))
    refine ⟨xs :: xss, .cons t ts xs xss k1 r1, by simp [mkArgs, r2], fun j v' x hv hx => ?_, by simp only [wtss, bulkAll]; omega⟩
    cases j with
    | zero =>
      simp only [List.getElem?_cons_zero, Option.some.injEq, mkArgs] at hv hx
      subst hv; subst hx
      have hok := hval 0 t v rfl rfl
      have hrow := List.all_eq_true.1 hl t (htl t (by simp))
      unfold mkArg
      by_cases ha : aggT P t = true
      · rw [if_pos ha]
        have : ∃ cs, v = .agg cs := by
          unfold Value.okWide at hok
          unfold aggT at ha
          split at hok
          · obtain ⟨cs, hc, _⟩ := hok; exact ⟨cs, hc⟩
          · obtain ⟨cs, hc, _⟩ := hok; exact ⟨cs, hc⟩
          · rename_i n1 n2
            cases hu : P.underlying t with
            | none => simp [hu] at ha
            | some dd =>
              rw [hu] at ha
              cases dd with
              | struct fs => exact absurd hu (n1 fs)
              | array m e => exact absurd hu (n2 m e)
              | _ => simp [isAggD] at ha
        obtain ⟨cs, rfl⟩ := this
        simp only [Value.cells] at k2
        have := PRel.agg cs.toList xs k2.1 k2.2.1 k2.2.2
        exact .p _ _ _ (by simpa using this)
      · rw [if_neg ha]
        have hc := okWide_notAgg hrow (by simpa using ha) hok
        rw [hc] at k2
        have hxl : xs.length = 1 := by rw [← k2.1]; rfl
        match xs, hxl with
        | [x], _ => exact .p _ _ _ (k2.2.2 0 v x rfl rfl)
    | succ j => simp only [List.getElem?_cons_succ, mkArgs] at hv hx; exact r3 j v' x hv hx
  | [], _ :: _, _, _, _, h, _, _ => by simp [DataW.TrodAll] at h
  | [], [], _ :: _, _, _, h, _, _ => by simp [DataW.TrodAll] at h
  | _ :: _, [], _, _, _, h, _, _ => by simp [DataW.TrodAll] at h
  | _ :: _, _ :: _, [], _, _, h, _, _ => by simp [DataW.TrodAll] at h

theorem TrodAll_stays {H : Type} {enc : TypeId × Value → H} {P : Program} {W W' : World} {sp' : Nat → Bool} (hlaid : laidOutB P = true) : ∀ (ts : List TypeId) (vs : List Value) (ds : List (DataW H)) (ps : List MemPlace), (∀ t ∈ ts, P.readableRec t = true ∧ t < P.types.size) →
    DataW.TrodAll enc P W 0 (fun _ => true) true ts vs ds ps → (∀ p ∈ ps, W.sameAt W' p) → (∀ p ∈ ps, sp' p.block = true) → DataW.TrodAll enc P W' 0 sp' true ts vs ds ps
  | [], [], [], ps, _, h, _, _ => h
  | t :: ts, v :: vs, d :: ds, ps, hr, h, hs, hb => by
    obtain ⟨p, q, h1, h2, rfl⟩ := h
    obtain ⟨r1, r2⟩ := hr t (by simp)
    exact ⟨p, q, WideElems.Trod_stays hlaid r1 r2 h1 (fun x hx => hs x (by simp [hx])) (fun x hx => hb x (by simp [hx])),
      TrodAll_stays hlaid ts vs ds q (fun t' ht' => hr t' (by simp [ht'])) h2 (fun x hx => hs x (by simp [hx])) (fun x hx => hb x (by simp [hx])), rfl⟩
  | [], _ :: _, _, _, _, h, _, _ => by simp [DataW.TrodAll] at h
  | [], [], _ :: _, _, _, h, _, _ => by simp [DataW.TrodAll] at h
  | _ :: _, [], _, _, _, h, _, _ => by simp [DataW.TrodAll] at h
  | _ :: _, _ :: _, [], _, _, h, _, _ => by simp [DataW.TrodAll] at h

/-- A LAW OUT OF ITS VALUES -/
theorem law_contract {H : Type} {enc : TypeId × Value → H} {P : Program} {F : Nat} {fn : Func} {s : ChangeSpec} {fresh handsOn again : Bool} {tb : Nat} {l : List Nat} (hvars : s.vars = []) (hl : plainB P l = true) (hpl : ∀ t ∈ fn.params.toList, t ∈ l)
    (hlaid : laidOutB P = true) (hread : ∀ t ∈ fn.params.toList, P.readableRec t = true ∧ t < P.types.size) (hres : fn.resultTypes = #[tb]) (hb : P.underlying tb = some .bool)
    (hspec : ∀ ds : List (DataW H), ds.length = fn.params.toList.length → (s.fn H ds).results = [.lit (.bool true)] ∧ (s.fn H ds).args = ds ∧ (s.fn H ds).vars = [])
    (W : World) (base : Nat) (args : Array Value) (ds gs : List (DataW H)) (before : List MemPlace)
    (hval : ∀ (j : Nat) t v, fn.params[j]? = some t → args[j]? = some v → Value.okWide P W .any base t v)
    (hW : DataW.Whole enc P fn.params.toList s.vars false W args.toList ds gs before) (hwt : ∀ x ∈ DataW.weightsEach P fn.params.toList ds, x ≤ reachBytes)
    (hpure : ∀ xss : List (List PV), TPs P fn.params.toList xss → wtss xss ≤ bulkAll ds → APure P F (mkArgs P fn.params.toList xss) (.p (.b true))) :
    Calls P F args W fun e W' => ∃ v, e = .returned v ∧ s.post enc P fn false fresh handsOn again W args v W' := by
  have hW' := hW
  obtain ⟨p, q, hA, hV, hps, hfz, hnd⟩ := hW
  rw [hvars] at hV
  have hgs : gs = [] ∧ q = [] := by
    cases gs with
    | nil => exact ⟨rfl, hV⟩
    | cons x r => simp [DataW.TrodVars] at hV
  obtain ⟨rfl, rfl⟩ := hgs
  simp only [List.append_nil] at hps
  subst hps
  obtain ⟨xss, k1, k2, k3, k4⟩ := args_rel hl fn.params.toList args.toList ds before hpl hA (fun j t v a b => hval j t v (by simpa using a) (by simpa using b)) hwt
  have hdl : ds.length = fn.params.toList.length := by
    clear hval hW' hwt hpure k1 k2 k3 k4 hfz hnd hspec hpl hread
    generalize fn.params.toList = ts at hA
    generalize args.toList = vs at hA
    induction ts generalizing vs ds before with
    | nil =>
      cases vs <;> cases ds <;> simp [DataW.TrodAll] at hA ⊢
    | cons t ts ih =>
      cases vs with
      | nil => simp [DataW.TrodAll] at hA
      | cons v vs =>
        cases ds with
        | nil => simp [DataW.TrodAll] at hA
        | cons d ds =>
          obtain ⟨p, q, _, h2, _⟩ := hA
          simp [ih ds q vs h2]
  obtain ⟨s1, s2, s3⟩ := hspec ds hdl
  have hcall := (hpure xss k1 k4).2 (allG W) W args.toList (fun _ => rfl) k2 k3
  simp only [Array.toArray_toList] at hcall
  refine hcall.mono ?_
  rintro e W' ⟨v, g', rfl, hv, hE⟩
  have hg := hE.grown (fun _ => rfl)
  cases hv.bool
  refine ⟨_, rfl, post_of_same2 (pa := before) (pv := []) hW' (fun bb sp hd => ?_) (fun sp hsp => ?_) (fun sp _ => ?_) (by simp) (World.keptBut_mono (fun _ f => f.elim) hg.1) hg.2 (ok_one hres rfl (okWide_bool_mk hb true))⟩
  · rw [List.append_nil, s1, hres]
    exact trodAll_cons_mk (shut_bool hb true) trodAll_mk0
  · rw [List.append_nil, s2]
    refine TrodAll_stays hlaid _ _ _ _ hread hA (fun x hx => ?_) hsp
    have hlt := hW'.lt x hx
    cases x with
    | cell b off =>
      have : W'.heap[b]? = W.heap[b]? := (hE.kept b hlt rfl).1
      simp only [World.sameAt, World.cell?, this]
    | map b => exact (hE.kept b hlt rfl).1
  · rw [List.append_nil, s3, hvars]; rfl

end Go.AM
