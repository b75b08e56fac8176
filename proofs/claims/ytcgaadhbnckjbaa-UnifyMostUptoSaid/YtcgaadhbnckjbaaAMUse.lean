/-
  DERIVED. Part of an abstract machine over plain values, sound against the model. No conditions.
-/
import Derived.Test.YtcgaadhbnckjbaaAMLaw
namespace Go.AM

theorem asplit {g : Bool} {X Y : Prop} (h1 : g = true → X) (h2 : g = false → Y) : ASplit g X Y := by cases g; exact h2 rfl; exact h1 rfl
theorem wrap64 {x : Int} (h1 : -9223372036854775808 ≤ x) (h2 : x ≤ 9223372036854775807) : IntKind.i64.wrap x = x := by
  unfold IntKind.wrap; simp [IntKind.bits, IntKind.signed]; omega
theorem aidx {α : Type} {xs : List α} {f : α → PV} {k : Nat} {a : α} {K : PV → Prop} (h : xs[k]? = some a) (hk : K (f a)) : AIdx (xs.map f) k K :=
  ⟨f a, by omega, by simp [h], hk⟩
theorem aidxI {α : Type} {xs : List α} {f : α → PV} {k : Int} {a : α} {K : PV → Prop} (h0 : 0 ≤ k) (h : xs[k.toNat]? = some a) (hk : K (f a)) : AIdx (xs.map f) k K :=
  ⟨f a, h0, by simp [h], hk⟩
theorem aneed {c K : Prop} (h1 : c) (h2 : K) : ANeed c K := ⟨h1, h2⟩
/-- at a call: the contract -/
theorem apc {P : Program} {f : Nat} {args : List AV} {h : Heap} {r : AV} {K : List Nat → Heap → AV → Prop} (s : APure P f args r) (hk : K [] [] r) (hf : AV.frees args = true := by rfl) : pcall P f args h K := .pure r hf s hk
/-- .. what it reads is lent to it -/
theorem apb {P : Program} {f : Nat} {args bargs : List AV} {h : Heap} {r : AV} {K : List Nat → Heap → AV → Prop} (R : List Nat) (s : APure P f bargs r) (hk : K R [] r) (hb : AV.bors R h args = some bargs := by rfl) (hf : flatV r = true := by rfl) (hq : eqsOK (AV.borEqs R h args) := by exact trivial) : pcall P f args h K := .bor R bargs r hb s hf hk hq
/-- .. with objects -/
theorem amc {P : Program} {f : Nat} {args : List AV} {h hs h' : Heap} {r : AV} {K : List Nat → Heap → AV → Prop} (R : List Nat) (B : Nat) (s : AMem P f (AV.rens (toBig R 0) args) hs r h') (hk : K R (backH R B h') (r.ren (ofBig R B)))
    (h2 : subH h (toBig R 0) (memB R) R 0 = some hs := by rfl) (h1 : (AV.withins (memB R) args && nodupB R) = true := by rfl) (h3 : (nodupB (keysOf h') && newCk h B R.length (keysOf h') && allKeys (keysOf h') R.length) = true := by rfl) : pcall P f args h K :=
  .mem R B hs r h' h1 h2 s h3 hk
/-- .. with objects that stay as they are -/
theorem amr {P : Program} {f : Nat} {args : List AV} {h hs h' : Heap} {r : AV} {K : List Nat → Heap → AV → Prop} (R : List Nat) (B : Nat) (s : AMem P f (AV.rens (toBig R 0) args) hs r h') (hk : K R [] (r.ren (ofBig R B)))
    (hro : roOK R h (backH R B h') := by first | exact ⟨rfl, rfl, trivial⟩ | exact ⟨rfl, rfl, rfl, rfl, trivial⟩ | exact ⟨rfl, rfl, rfl, rfl, rfl, rfl, trivial⟩ | exact ⟨rfl, rfl, rfl, rfl, rfl, rfl, rfl, rfl, trivial⟩ | exact ⟨rfl, rfl, rfl, rfl, rfl, rfl, rfl, rfl, rfl, rfl, trivial⟩)
    (h2 : subH h (toBig R 0) (memB R) R 0 = some hs := by rfl) (h1 : (AV.withins (memB R) args && nodupB R) = true := by rfl) (h3 : (nodupB (keysOf h') && newCk h B R.length (keysOf h') && allKeys (keysOf h') R.length) = true := by rfl) : pcall P f args h K :=
  .ro R B hs r h' h1 h2 s h3 hro hk
/-- .. with objects that stand for others -/
theorem amcl {P : Program} {f : Nat} {args : List AV} {h hs0 hs h' : Heap} {r : AV} {K : List Nat → Heap → AV → Prop} (R : List Nat) (B : Nat) (s : AMem P f (AV.rens (toBig R 0) args) hs r h') (hk : K R (backH R B h') (r.ren (ofBig R B))) (hl : heapLe hs0 hs)
    (h2 : subH h (toBig R 0) (memB R) R 0 = some hs0 := by rfl) (h1 : (AV.withins (memB R) args && nodupB R) = true := by rfl) (h3 : (nodupB (keysOf h') && newCk h B R.length (keysOf h') && allKeys (keysOf h') R.length) = true := by rfl) : pcall P f args h K :=
  .mem R B hs0 r h' h1 h2 (s.le hl) h3 hk
theorem alook {es : List (PV × PV)} {k z x : PV} {b : Bool} {K : PV → Bool → Prop} (h : mlook k z es = (x, b)) (hk : K x b) : ALook es k z K := ⟨x, b, h, hk⟩
theorem pb {x y : Bool} (h : x = y) : AV.p (.b x) = .p (.b y) := by rw [h]
theorem pi {k : IntKind} {x y : Int} (h : x = y) : AV.p (.i k x) = .p (.i k y) := by rw [h]

theorem APure.nilOrNot {P : Program} {f : Nat} {pre post : List AV} {sz : Nat} {r : AV} (h1 : APure P f (pre ++ .nilS :: post) r) (h2 : APure P f (pre ++ .es sz :: post) r) : APure P f (pre ++ .p (.sl sz []) :: post) r := by
  refine ⟨h1.1, fun g w vs hno hl hrel => ?_⟩
  have hlen : pre.length < vs.length := by rw [hl]; simp
  have hv : vs[pre.length]? = some vs[pre.length] := List.getElem?_eq_getElem hlen
  have hr := (hrel pre.length _ (.p (.sl sz [])) hv (by simp)).pv
  have other : ∀ (y : AV), VRel g w (fun _ => False) none vs[pre.length] y → ∀ (j : Nat) (v : Value) (x : AV), vs[j]? = some v → (pre ++ y :: post)[j]? = some x → VRel g w (fun _ => False) none v x := by
    intro y hy j v x q1 q2
    by_cases hj : j = pre.length
    · subst hj
      rw [hv] at q1; cases q1
      simp at q2; subst q2; exact hy
    · refine hrel j v x q1 ?_
      rw [← q2]
      rcases Nat.lt_or_gt_of_ne hj with q | q
      · rw [List.getElem?_append_left q, List.getElem?_append_left q]
      · rw [List.getElem?_append_right (by omega), List.getElem?_append_right (by omega)]
        obtain ⟨i, hi⟩ : ∃ i, j - pre.length = i + 1 := ⟨j - pre.length - 1, by omega⟩
        rw [hi]; simp
  generalize hval : vs[pre.length] = u at hr
  cases hr with
  | nil => exact h1.2 g w vs hno (by rw [hl]; simp) (other .nilS (by rw [hval]; exact .nilS _))
  | sl a cap _ _ f hs => exact h2.2 g w vs hno (by rw [hl]; simp) (other (.es sz) (by rw [hval]; exact .es _ a cap sz hs))
end Go.AM
namespace Go.AM
theorem inc64 {k : Nat} (h : k < 9223372036854775807) : IntKind.i64.wrap ((k : Int) + 1) = ((k + 1 : Nat) : Int) := by rw [wrap64 (by omega) (by omega)]; omega
theorem drop_cons {α : Type} {l : List α} {k : Nat} {a : α} (h : l[k]? = some a) : l.drop k = a :: l.drop (k + 1) := by
  obtain ⟨h1, h2⟩ := List.getElem?_eq_some_iff.1 h
  rw [List.drop_eq_getElem_cons h1, h2]
theorem take_snoc {α : Type} {l : List α} {k : Nat} {a : α} (h : l[k]? = some a) : l.take (k + 1) = l.take k ++ [a] := by
  obtain ⟨h1, h2⟩ := List.getElem?_eq_some_iff.1 h
  rw [List.take_succ_eq_append_getElem h1, h2]
end Go.AM
namespace Go.AM
/-- nil is an empty slice with the right to append -/
theorem lp_nil {P : Program} {n : Nat} {c : Code} {K : Exit → Env → Heap → Prop} {e : Env} {h : Heap} (i sz : Nat) (hi : eget e i = .nilS) (hk : lpOf P n c K ((i, .so (sz + 1) []) :: e) h) : lpOf P n c K e h := by
  intro g0 w0 g w a s hE
  refine hk g0 w0 g w a ⟨s.defers, s.size, fun j => ?_, s.heap, s.bnd⟩ hE
  by_cases q : i = j
  · subst q
    rw [eget_self]
    have := s.env i
    rw [hi] at this
    generalize a.tmps.getD i undef = v at this
    cases this
    exact .full _ none (sz + 1) [] (by omega) (.nil _)
  · rw [eget_ne q]; exact s.env j
end Go.AM
namespace Go.AM
/-- a loop's counter -/
def ix : Nat → Int
  | 0 => 0
  | k + 1 => IntKind.i64.wrap (ix k + 1)
theorem ix_eq : ∀ {k : Nat}, k ≤ 9223372036854775807 → ix k = k
  | 0, _ => rfl
  | k + 1, h => by rw [ix, ix_eq (by omega), wrap64 (by omega) (by omega)]; omega
theorem ix_tt {k n : Nat} {m : Int} (h : decide (ix k < m) = true) (hm : m = n) (hk : k ≤ n) (hn : n < 9223372036854775807) : k < n := by
  rw [ix_eq (by omega)] at h; have := of_decide_eq_true h; omega
theorem ix_ff {k n : Nat} {m : Int} (h : decide (ix k < m) = false) (hm : m = n) (hk : k ≤ n) (hn : n < 9223372036854775807) : k = n := by
  rw [ix_eq (by omega)] at h; have := of_decide_eq_false h; omega
theorem aidxk {xs : List PV} {k : Nat} {x : PV} {K : PV → Prop} (h : xs[k]? = some x) (hk : k ≤ 9223372036854775807) (hK : K x) : AIdx xs (ix k) K :=
  ⟨x, by rw [ix_eq hk]; omega, by rw [ix_eq hk]; simpa using h, hK⟩

/-- the state at a loop's head, told -/
def Atv (lv ll : List Nat) (vals : List AV) (objs : List AObj) (e : Env) (h : Heap) : Prop :=
  ll.map (hget h) = objs.map some ∧ lv.map (eget e) = vals ∧ AV.withins (memB ll) vals = true ∧ withinObjs (memB ll) objs = true

/-- A LOOP OF AT MOST n ROUNDS: its state is told by the round and a plain value -/
theorem loopS {P : Program} {ty : Nat → Option TI} {nt : Nat} (hty : TyOK P ty) (hmix : P.follows .mixedOrders = true) {c : Code} (hok : codeOK nt c = true) {K : Exit → Env → Heap → Prop} {σ : Type} (n : Nat) (lv ll : List Nat) (V : Nat → σ → List AV) (O : Nat → σ → List AObj) (Q : Nat → σ → Prop)
    {e : Env} {h : Heap} (s0 : σ) (h0 : Atv lv ll (V 0 s0) (O 0 s0) e h) (hQ : Q 0 s0)
    (round : ∀ k s, k ≤ n → Q k s → awp ty (pcall P) (lpOf P nt) c (fun x e' h' => match x with | .normal => k < n ∧ ∃ s', Atv lv ll (V (k + 1) s') (O (k + 1) s') e' h' ∧ Q (k + 1) s' | x => K x e' h') (lv.zip (V k s)) (ll.zip (O k s))) : lpOf P nt c K e h := by
  have mask : ∀ {k s e h}, Atv lv ll (V k s) (O k s) e h → ∀ g w a, Sim g w nt a e h → Sim g w nt a (lv.zip (V k s)) (ll.zip (O k s)) := by
    intro k s e h ha g w a hs
    have := hs.mask (lv := lv) (ll := ll) ha.1 (by rw [ha.2.1]; exact ha.2.2.1) ha.2.2.2
    rw [ha.2.1] at this; exact this
  refine AWp.loop (K := K) (fun m e h => ∃ k s, m + k = n ∧ Q k s ∧ ∀ g w a, Sim g w nt a e h → Sim g w nt a (lv.zip (V k s)) (ll.zip (O k s))) (m := n) ⟨0, s0, rfl, hQ, mask h0⟩ ?_
  rintro m e h ⟨k, s, hk, hq, hsim⟩ g0 w0 g w a hs hE
  refine wp_mono (awp_sound hty hmix c _ _ _ hok (round k s (by omega) hq) g0 w0 g w a (hsim g w a hs) hE) ?_
  rintro ex a' w' ⟨g', e', h', hk', s'', hE'⟩
  refine ⟨g', e', h', ?_, s'', hE'⟩
  cases ex with
  | normal =>
    obtain ⟨hlt, s', ha, hq'⟩ := hk'
    exact ⟨m - 1, by omega, k + 1, s', by omega, hq', mask ha⟩
  | _ => exact hk'
end Go.AM
namespace Go.AM
theorem aidxi {xs : List PV} {i : Int} {x : PV} {K : PV → Prop} (h0 : 0 ≤ i) (h : xs[i.toNat]? = some x) (hK : K x) : AIdx xs i K := ⟨x, h0, h, hK⟩
theorem aidxn {xs : List PV} {i : Nat} {x : PV} {K : PV → Prop} (h : xs[i]? = some x) (hK : K x) : AIdx xs (i : Int) K := ⟨x, by omega, by simpa using h, hK⟩
end Go.AM
namespace Go.AM
/-- an object at a loop's head that stands for another -/
theorem lp_le {P : Program} {n : Nat} {c : Code} {K : Exit → Env → Heap → Prop} {e : Env} {h : Heap} (l : Nat) {ob : AObj} (ob' : AObj) (hl : hget h l = some ob) (hle : ObLe ob ob') (hk : lpOf P n c K e ((l, ob') :: h)) : lpOf P n c K e h := by
  intro g0 w0 g w a s hE
  refine hk g0 w0 g w a ⟨s.defers, s.size, fun j => (s.env j).domUp (fun k hk => (domOf_set hl k).2 hk), ⟨fun k x hx => ?_, fun k x hx hq => ?_, fun k x hx hq => ?_⟩, s.bnd⟩ hE
  · by_cases q : l = k
    · subst q
      rw [hget_self] at hx; cases hx
      have := (s.heap.obj l ob hl).le hle
      cases this with
      | cells cs vs' E hb' hlen' hxx h1' => exact .cells cs vs' E hb' hlen' (fun j u c q3 q4 => (hxx j u c q3 q4).domUp (fun k hk => (domOf_set hl k).2 hk)) h1'
      | arr xs vs' E hb' hlen' hxx h1' => exact .arr xs vs' E hb' hlen' hxx h1'
      | map kd xs es clock hb' hxx hc => exact .map kd xs es clock hb' hxx hc
      | gr st sz xs hg => exact .gr st sz xs hg
      | dead => exact .dead
      | bld T E2 bs2 hbl => exact .bld T E2 bs2 hbl
      | glob gb gvs hgl => exact .glob gb gvs hgl
    · rw [hget_ne q] at hx
      cases s.heap.obj k x hx with
      | cells cs vs' E hb' hlen' hxx h1' => exact .cells cs vs' E hb' hlen' (fun j u c q3 q4 => (hxx j u c q3 q4).domUp (fun k hk => (domOf_set hl k).2 hk)) h1'
      | arr xs vs' E hb' hlen' hxx h1' => exact .arr xs vs' E hb' hlen' hxx h1'
      | map kd xs es clock hb' hxx hc => exact .map kd xs es clock hb' hxx hc
      | gr st sz xs hg => exact .gr st sz xs hg
      | dead => exact .dead
      | bld T E2 bs2 hbl => exact .bld T E2 bs2 hbl
      | glob gb gvs hgl => exact .glob gb gvs hgl
  · by_cases q : l = k
    · subst q; rw [hget_self] at hx; cases hx; exact s.heap.own l ob hl (hle.solid hq)
    · rw [hget_ne q] at hx; exact s.heap.own k x hx hq
  · by_cases q : l = k
    · subst q; rw [hget_self] at hx; cases hx; exact s.heap.pre l ob hl (hle.solid hq)
    · rw [hget_ne q] at hx; exact s.heap.pre k x hx hq
theorem asf {g : Bool} {X Y : Prop} (h : g = false) (hy : Y) : ASplit g X Y := by subst h; exact hy
theorem ast {g : Bool} {X Y : Prop} (h : g = true) (hx : X) : ASplit g X Y := by subst h; exact hx
/-- nil is a growing slice -/
theorem lp_gr {P : Program} {n : Nat} {c : Code} {K : Exit → Env → Heap → Prop} {e : Env} {h : Heap} (i l sz : Nat) (hi : eget e i = .nilS) (hk : lpOf P n c K ((i, .al false l sz 0) :: e) ((l, .gr false sz []) :: h)) : lpOf P n c K e h := by
  intro g0 w0 g w a s hE
  have s1 := s.nilObj (d := l) sz
  refine hk g0 w0 g w a ⟨s1.defers, s1.size, fun j => ?_, s1.heap, s1.bnd⟩ hE
  by_cases q : i = j
  · subst q
    rw [eget_self]
    have := s1.env i
    rw [hi] at this
    generalize a.tmps.getD i undef = v at this
    cases this
    exact .al0 _ _ _ (by simp [domOf, hget_self])
  · rw [eget_ne q]; exact s1.env j
end Go.AM
