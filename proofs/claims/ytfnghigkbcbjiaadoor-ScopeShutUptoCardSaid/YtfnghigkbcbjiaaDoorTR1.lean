/-
  DERIVED. Contracts of the functions that the law reaches, and the law itself, for every input. No conditions.
-/
import Derived.Test.YtfnghigkbcbjiaaDoorChecked
import Derived.Test.YtfnghigkbcbjiaaDoorAMInt
open Go Go.AM Go.Proofs
namespace TR
theorem hmix : Tryd.prog.follows .mixedOrders = true := by kernel_rfl
/-! types, patterns, expressions -/
inductive Ty where
  | mk (kind : Int) (name : ByteArray) (args : List Ty)
inductive Pt where
  | mk (kind num : Int) (text : ByteArray) (args : List Pt)
mutual
inductive Ex where
  | mk (kind num : Int) (text : ByteArray) (names : List ByteArray) (types : List Ty) (args : List Ex) (arms : List Arm) (pos : Int)
inductive Arm where
  | mk (pat : Pt) (body : Ex)
end
def Ty.kind : Ty → Int | .mk k _ _ => k
def Ty.name : Ty → ByteArray | .mk _ n _ => n
def Ty.args : Ty → List Ty | .mk _ _ a => a
def Pt.kind : Pt → Int | .mk k _ _ _ => k
def Pt.text : Pt → ByteArray | .mk _ _ t _ => t
def Pt.args : Pt → List Pt | .mk _ _ _ a => a
def Ex.kind : Ex → Int | .mk k _ _ _ _ _ _ _ => k
def Ex.num : Ex → Int | .mk _ n _ _ _ _ _ _ => n
def Ex.text : Ex → ByteArray | .mk _ _ t _ _ _ _ _ => t
def Ex.names : Ex → List ByteArray | .mk _ _ _ n _ _ _ _ => n
def Ex.types : Ex → List Ty | .mk _ _ _ _ t _ _ _ => t
def Ex.args : Ex → List Ex | .mk _ _ _ _ _ a _ _ => a
def Ex.arms : Ex → List Arm | .mk _ _ _ _ _ _ a _ => a
def Ex.pos : Ex → Int | .mk _ _ _ _ _ _ _ p => p
def Arm.pat : Arm → Pt | .mk p _ => p
def Arm.body : Arm → Ex | .mk _ e => e
theorem Ty.ind {Q : Ty → Prop} (h : ∀ k n xs, (∀ a ∈ xs, Q a) → Q (.mk k n xs)) (t : Ty) : Q t :=
  Ty.rec (motive_1 := Q) (motive_2 := fun l => ∀ a ∈ l, Q a) (fun k n xs ih => h k n xs ih) (fun _ hb => by cases hb) (fun a r h1 h2 b hb => by
    rcases List.mem_cons.1 hb with hb | hb
    · rw [hb]; exact h1
    · exact h2 b hb) t
theorem Pt.ind {Q : Pt → Prop} (h : ∀ k n t xs, (∀ a ∈ xs, Q a) → Q (.mk k n t xs)) (t : Pt) : Q t :=
  Pt.rec (motive_1 := Q) (motive_2 := fun l => ∀ a ∈ l, Q a) (fun k n t xs ih => h k n t xs ih) (fun _ hb => by cases hb) (fun a r h1 h2 b hb => by
    rcases List.mem_cons.1 hb with hb | hb
    · rw [hb]; exact h1
    · exact h2 b hb) t
theorem Ex.ind {Q : Ex → Prop} (h : ∀ k n t ns ts xs ms p, (∀ a ∈ xs, Q a) → (∀ a ∈ ms, Q a.body) → Q (.mk k n t ns ts xs ms p)) (e : Ex) : Q e :=
  Ex.rec (motive_1 := Q) (motive_2 := fun a => Q a.body) (motive_3 := fun l => ∀ a ∈ l, Q a) (motive_4 := fun l => ∀ a ∈ l, Q a.body) (fun k n t ns ts xs ms p h1 h2 => h k n t ns ts xs ms p h1 h2) (fun _ _ h => h)
    (fun _ hb => by cases hb) (fun a r h1 h2 b hb => by
      rcases List.mem_cons.1 hb with hb | hb
      · rw [hb]; exact h1
      · exact h2 b hb)
    (fun _ hb => by cases hb) (fun a r h1 h2 b hb => by
      rcases List.mem_cons.1 hb with hb | hb
      · rw [hb]; exact h1
      · exact h2 b hb) e
def eStr (s : ByteArray) : PV := .s s
mutual
def eT : Ty → PV
  | .mk k n xs => .agg [.i .i64 k, .s n, .sl 3 (eTs xs)]
def eTs : List Ty → List PV
  | [] => []
  | t :: r => eT t :: eTs r
end
mutual
def eP : Pt → PV
  | .mk k n t xs => .agg [.i .i64 k, .i .i64 n, .s t, .sl 4 (ePs xs)]
def ePs : List Pt → List PV
  | [] => []
  | t :: r => eP t :: ePs r
end
mutual
def eE : Ex → PV
  | .mk k n t ns ts xs ms p => .agg [.i .i64 k, .i .i64 n, .s t, .sl 1 (ns.map eStr), .sl 3 (eTs ts), .sl 8 (eEs xs), .sl 12 (eAs ms), .i .i64 p]
def eA : Arm → PV
  | .mk p e => .agg ((eP p).cells ++ (eE e).cells)
def eEs : List Ex → List PV
  | [] => []
  | t :: r => eE t :: eEs r
def eAs : List Arm → List PV
  | [] => []
  | t :: r => eA t :: eAs r
end
theorem eTs_map (l : List Ty) : eTs l = l.map eT := by
  induction l with
  | nil => rfl
  | cons t r ih => simp [eTs, ih]
theorem ePs_map (l : List Pt) : ePs l = l.map eP := by
  induction l with
  | nil => rfl
  | cons t r ih => simp [ePs, ih]
theorem eEs_map (l : List Ex) : eEs l = l.map eE := by
  induction l with
  | nil => rfl
  | cons t r ih => simp [eEs, ih]
theorem eAs_map (l : List Arm) : eAs l = l.map eA := by
  induction l with
  | nil => rfl
  | cons t r ih => simp [eAs, ih]
theorem eTs_get {l : List Ty} {k : Nat} {t : Ty} (h : l[k]? = some t) : (eTs l)[k]? = some (eT t) := by rw [eTs_map]; simp [h]
theorem ePs_get {l : List Pt} {k : Nat} {t : Pt} (h : l[k]? = some t) : (ePs l)[k]? = some (eP t) := by rw [ePs_map]; simp [h]
theorem eEs_get {l : List Ex} {k : Nat} {t : Ex} (h : l[k]? = some t) : (eEs l)[k]? = some (eE t) := by rw [eEs_map]; simp [h]
theorem eAs_get {l : List Arm} {k : Nat} {t : Arm} (h : l[k]? = some t) : (eAs l)[k]? = some (eA t) := by rw [eAs_map]; simp [h]
theorem eTs_len (l : List Ty) : (eTs l).length = l.length := by rw [eTs_map]; simp
theorem ePs_len (l : List Pt) : (ePs l).length = l.length := by rw [ePs_map]; simp
theorem eEs_len (l : List Ex) : (eEs l).length = l.length := by rw [eEs_map]; simp
theorem eAs_len (l : List Arm) : (eAs l).length = l.length := by rw [eAs_map]; simp
theorem eTs_app (l r : List Ty) : eTs (l ++ r) = eTs l ++ eTs r := by simp [eTs_map]
theorem ePs_app (l r : List Pt) : ePs (l ++ r) = ePs l ++ ePs r := by simp [ePs_map]
theorem eEs_app (l r : List Ex) : eEs (l ++ r) = eEs l ++ eEs r := by simp [eEs_map]
theorem eAs_app (l r : List Arm) : eAs (l ++ r) = eAs l ++ eAs r := by simp [eAs_map]

/-! weights -/
theorem wts_mem {x : PV} : ∀ {l : List PV}, x ∈ l → PV.wt x ≤ PV.wts l
  | [], h => by cases h
  | y :: r, h => by
    simp only [PV.wts]
    rcases List.mem_cons.1 h with rfl | h
    · omega
    · have := wts_mem h; omega
theorem wts_len : ∀ {l : List PV}, (∀ x ∈ l, 1 ≤ PV.wt x) → l.length ≤ PV.wts l
  | [], _ => by simp [PV.wts]
  | y :: r, h => by
    have h1 := h y (by simp)
    have h2 := wts_len (l := r) (fun x hx => h x (by simp [hx]))
    simp only [PV.wts, List.length_cons]; omega
theorem wt_cells (x : PV) : PV.wts x.cells = PV.wt x := by cases x <;> simp [PV.cells, PV.wts, PV.wt]
def wT (t : Ty) : Nat := PV.wt (eT t)
def wP (t : Pt) : Nat := PV.wt (eP t)
def wE (t : Ex) : Nat := PV.wt (eE t)
def wA (t : Arm) : Nat := PV.wt (eA t)
theorem wT_mk (k : Int) (n : ByteArray) (xs : List Ty) : wT (.mk k n xs) = n.size + 3 + PV.wts (eTs xs) := by simp [wT, eT, PV.wt, PV.wts]; omega
theorem wP_mk (k m : Int) (n : ByteArray) (xs : List Pt) : wP (.mk k m n xs) = n.size + 4 + PV.wts (ePs xs) := by simp [wP, eP, PV.wt, PV.wts]; omega
theorem wE_mk (k n : Int) (t : ByteArray) (ns : List ByteArray) (ts : List Ty) (xs : List Ex) (ms : List Arm) (p : Int) : wE (.mk k n t ns ts xs ms p) = t.size + 8 + PV.wts (ns.map eStr) + PV.wts (eTs ts) + PV.wts (eEs xs) + PV.wts (eAs ms) := by
  simp [wE, eE, PV.wt, PV.wts]; omega
theorem wA_mk (p : Pt) (e : Ex) : wA (.mk p e) = wP p + wE e := by simp [wA, eA, PV.wt, PV.wts_append, wt_cells, wP, wE]
theorem wE_pos (e : Ex) : 8 ≤ wE e := by cases e; rw [wE_mk]; omega
theorem wP_pos (e : Pt) : 4 ≤ wP e := by cases e; rw [wP_mk]; omega
theorem wT_pos (e : Ty) : 3 ≤ wT e := by cases e; rw [wT_mk]; omega
theorem wA_pos (e : Arm) : 12 ≤ wA e := by obtain ⟨p, e⟩ := e; rw [wA_mk]; have := wP_pos p; have := wE_pos e; omega
theorem wEs_mem {x : Ex} {l : List Ex} (h : x ∈ l) : wE x ≤ PV.wts (eEs l) := by rw [eEs_map]; exact wts_mem (List.mem_map.2 ⟨x, h, rfl⟩)
theorem wPs_mem {x : Pt} {l : List Pt} (h : x ∈ l) : wP x ≤ PV.wts (ePs l) := by rw [ePs_map]; exact wts_mem (List.mem_map.2 ⟨x, h, rfl⟩)
theorem wTs_mem {x : Ty} {l : List Ty} (h : x ∈ l) : wT x ≤ PV.wts (eTs l) := by rw [eTs_map]; exact wts_mem (List.mem_map.2 ⟨x, h, rfl⟩)
theorem wAs_mem {x : Arm} {l : List Arm} (h : x ∈ l) : wA x ≤ PV.wts (eAs l) := by rw [eAs_map]; exact wts_mem (List.mem_map.2 ⟨x, h, rfl⟩)
theorem wEs_len (l : List Ex) : l.length ≤ PV.wts (eEs l) := by
  have := wts_len (l := eEs l) (fun x hx => by rw [eEs_map] at hx; obtain ⟨y, _, rfl⟩ := List.mem_map.1 hx; have := wE_pos y; unfold wE at this; omega)
  rwa [eEs_len] at this
theorem wPs_len (l : List Pt) : l.length ≤ PV.wts (ePs l) := by
  have := wts_len (l := ePs l) (fun x hx => by rw [ePs_map] at hx; obtain ⟨y, _, rfl⟩ := List.mem_map.1 hx; have := wP_pos y; unfold wP at this; omega)
  rwa [ePs_len] at this
theorem wTs_len (l : List Ty) : l.length ≤ PV.wts (eTs l) := by
  have := wts_len (l := eTs l) (fun x hx => by rw [eTs_map] at hx; obtain ⟨y, _, rfl⟩ := List.mem_map.1 hx; have := wT_pos y; unfold wT at this; omega)
  rwa [eTs_len] at this
theorem wAs_len (l : List Arm) : l.length ≤ PV.wts (eAs l) := by
  have := wts_len (l := eAs l) (fun x hx => by rw [eAs_map] at hx; obtain ⟨y, _, rfl⟩ := List.mem_map.1 hx; have := wA_pos y; unfold wA at this; omega)
  rwa [eAs_len] at this
theorem wSs_len (l : List ByteArray) : l.length ≤ PV.wts (l.map eStr) := by
  have := wts_len (l := l.map eStr) (fun x hx => by obtain ⟨y, _, rfl⟩ := List.mem_map.1 hx; simp [eStr, PV.wt])
  simpa using this
/-- of a node: its parts -/
theorem wE_args {k n : Int} {t : ByteArray} {ns : List ByteArray} {ts : List Ty} {xs : List Ex} {ms : List Arm} {p : Int} {a : Ex} (h : a ∈ xs) : wE a + 8 ≤ wE (.mk k n t ns ts xs ms p) := by have := wEs_mem h; rw [wE_mk]; omega
theorem wE_arms {k n : Int} {t : ByteArray} {ns : List ByteArray} {ts : List Ty} {xs : List Ex} {ms : List Arm} {p : Int} {a : Arm} (h : a ∈ ms) : wA a + 8 ≤ wE (.mk k n t ns ts xs ms p) := by have := wAs_mem h; rw [wE_mk]; omega
theorem wA_body (a : Arm) : wP a.pat + wE a.body = wA a := by obtain ⟨p, e⟩ := a; rw [wA_mk]; rfl
theorem wE_body {k n : Int} {t : ByteArray} {ns : List ByteArray} {ts : List Ty} {xs : List Ex} {ms : List Arm} {p : Int} {a : Arm} (h : a ∈ ms) : wP a.pat + wE a.body + 8 ≤ wE (.mk k n t ns ts xs ms p) := by rw [wA_body]; exact wE_arms h
theorem wP_args {k n : Int} {t : ByteArray} {xs : List Pt} {a : Pt} (h : a ∈ xs) : wP a + 4 ≤ wP (.mk k n t xs) := by have := wPs_mem h; rw [wP_mk]; omega
theorem wE_lens (k n : Int) (t : ByteArray) (ns : List ByteArray) (ts : List Ty) (xs : List Ex) (ms : List Arm) (p : Int) : t.size + ns.length + ts.length + xs.length + ms.length + 8 ≤ wE (.mk k n t ns ts xs ms p) := by
  have := wSs_len ns; have := wTs_len ts; have := wEs_len xs; have := wAs_len ms; rw [wE_mk]; omega
theorem wP_lens (k n : Int) (t : ByteArray) (xs : List Pt) : t.size + xs.length + 4 ≤ wP (.mk k n t xs) := by
  have := wPs_len xs; rw [wP_mk]; omega

/-! what the program counts -/
mutual
def psizeF : Pt → Nat
  | .mk _ _ _ xs => 1 + psizeFs xs
def psizeFs : List Pt → Nat
  | [] => 0
  | p :: r => psizeF p + psizeFs r
end
mutual
def walkF : Ex → List Ex
  | .mk k n t ns ts xs ms p => .mk k n t ns ts xs ms p :: (walkFs xs ++ walkFa ms)
def walkFs : List Ex → List Ex
  | [] => []
  | e :: r => walkF e ++ walkFs r
def walkFa : List Arm → List Ex
  | [] => []
  | .mk _ e :: r => walkF e ++ walkFa r
end
mutual
def sizeF : Ex → Nat
  | .mk _ _ _ _ _ xs ms _ => 1 + (sizeFs xs + sizeFa ms)
def sizeFs : List Ex → Nat
  | [] => 0
  | e :: r => sizeF e + sizeFs r
def sizeFa : List Arm → Nat
  | [] => 0
  | .mk p e :: r => psizeF p + sizeF e + sizeFa r
end
theorem psizeFs_app (l r : List Pt) : psizeFs (l ++ r) = psizeFs l + psizeFs r := by
  induction l with
  | nil => simp [psizeFs]
  | cons a l ih => simp [psizeFs, ih]; omega
theorem walkFs_app (l r : List Ex) : walkFs (l ++ r) = walkFs l ++ walkFs r := by
  induction l with
  | nil => simp [walkFs]
  | cons a l ih => simp [walkFs, ih]
theorem walkFa_map (l : List Arm) : walkFa l = walkFs (l.map Arm.body) := by
  induction l with
  | nil => rfl
  | cons a l ih => obtain ⟨p, e⟩ := a; simp [walkFa, walkFs, ih, Arm.body]
theorem sizeFs_app (l r : List Ex) : sizeFs (l ++ r) = sizeFs l + sizeFs r := by
  induction l with
  | nil => simp [sizeFs]
  | cons a l ih => simp [sizeFs, ih]; omega
theorem sizeFa_app (l r : List Arm) : sizeFa (l ++ r) = sizeFa l + sizeFa r := by
  induction l with
  | nil => simp [sizeFa]
  | cons a l ih => obtain ⟨p, e⟩ := a; simp [sizeFa, ih]; omega
theorem walkF_cons (e : Ex) : walkF e = e :: (walkFs e.args ++ walkFa e.arms) := by obtain ⟨k, n, t, ns, ts, xs, ms, p⟩ := e; rw [walkF]; rfl
theorem psizeF_pos (p : Pt) : 1 ≤ psizeF p := by cases p; rw [psizeF]; omega
mutual
theorem psize_le : ∀ (p : Pt), psizeF p ≤ wP p
  | .mk k n t xs => by rw [psizeF, wP_mk]; have := psizes_le xs; omega
theorem psizes_le : ∀ (l : List Pt), psizeFs l ≤ PV.wts (ePs l)
  | [] => by simp [psizeFs]
  | p :: r => by have h1 := psize_le p; have h2 := psizes_le r; unfold wP at h1; simp only [psizeFs, ePs, PV.wts]; omega
end
mutual
theorem size_le : ∀ (e : Ex), sizeF e ≤ wE e
  | .mk k n t ns ts xs ms p => by rw [sizeF, wE_mk]; have := sizes_le xs; have := sizea_le ms; omega
theorem sizes_le : ∀ (l : List Ex), sizeFs l ≤ PV.wts (eEs l)
  | [] => by simp [sizeFs]
  | p :: r => by have h1 := size_le p; have h2 := sizes_le r; unfold wE at h1; simp only [sizeFs, eEs, PV.wts]; omega
theorem sizea_le : ∀ (l : List Arm), sizeFa l ≤ PV.wts (eAs l)
  | [] => by simp [sizeFa]
  | .mk p e :: r => by
    have h1 := size_le e; have h2 := sizea_le r; have h3 := psize_le p
    have h4 := wA_mk p e
    unfold wA at h4
    simp only [sizeFa, eAs, PV.wts]; omega
end
mutual
theorem walk_le : ∀ (e : Ex), (walkF e).length ≤ sizeF e
  | .mk k n t ns ts xs ms p => by rw [walkF, sizeF]; have := walks_le xs; have := walka_le ms; simp; omega
theorem walks_le : ∀ (l : List Ex), (walkFs l).length ≤ sizeFs l
  | [] => by simp [walkFs]
  | p :: r => by have h1 := walk_le p; have h2 := walks_le r; simp only [sizeFs, walkFs, List.length_append]; omega
theorem walka_le : ∀ (l : List Arm), (walkFa l).length ≤ sizeFa l
  | [] => by simp [walkFa]
  | .mk p e :: r => by have h1 := walk_le e; have h2 := walka_le r; simp only [sizeFa, walkFa, List.length_append]; omega
end
mutual
/-- what is walked is part of it -/
theorem walk_mem : ∀ (e : Ex) {x : Ex}, x ∈ walkF e → wE x ≤ wE e
  | .mk k n t ns ts xs ms p, x, h => by
    rw [walkF] at h
    rcases List.mem_cons.1 h with rfl | h
    · omega
    · rw [wE_mk]
      rcases List.mem_append.1 h with h | h
      · have := walks_mem xs h; omega
      · have := walka_mem ms h; omega
theorem walks_mem : ∀ (l : List Ex) {x : Ex}, x ∈ walkFs l → wE x ≤ PV.wts (eEs l)
  | [], x, h => by simp [walkFs] at h
  | e :: r, x, h => by
    simp only [walkFs] at h
    simp only [eEs, PV.wts]
    rcases List.mem_append.1 h with h | h
    · have := walk_mem e h; rw [show PV.wt (eE e) = wE e from rfl]; omega
    · have := walks_mem r h; omega
theorem walka_mem : ∀ (l : List Arm) {x : Ex}, x ∈ walkFa l → wE x ≤ PV.wts (eAs l)
  | [], x, h => by simp [walkFa] at h
  | .mk p e :: r, x, h => by
    simp only [walkFa] at h
    simp only [eAs, PV.wts]
    rcases List.mem_append.1 h with h | h
    · have := walk_mem e h; have h4 := wA_mk p e; rw [show PV.wt (eA (.mk p e)) = wA (.mk p e) from rfl]; omega
    · have := walka_mem r h; omega
end

theorem walkFs_len : ∀ (l : List Ex), l.length ≤ (walkFs l).length
  | [] => by simp
  | e :: r => by have := walkFs_len r; rw [walkFs, walkF_cons]; simp; omega
/-- a counter that goes down -/
def dn (a : Int) : Nat → Int
  | 0 => a
  | k + 1 => IntKind.i64.wrap (dn a k - 1)
theorem dn_eq {a : Int} (h : -1 ≤ a ∧ a ≤ 9223372036854775807) : ∀ {k : Nat}, (k : Int) ≤ a + 1 → dn a k = a - k
  | 0, _ => by simp [dn]
  | k + 1, hk => by rw [dn, dn_eq h (by omega), wrap64 (by omega) (by omega)]; omega
/-- the counter of a loop over a list of n, from its end -/
theorem dn_at {n k : Nat} {m : Int} (hm : m = n) (hn : n ≤ 1048640) (hk : k ≤ n) : dn (IntKind.i64.wrap (m - 1)) k = (n : Int) - 1 - k := by
  subst hm
  rw [wrap64 (by omega) (by omega), dn_eq (by omega) (by omega)]
theorem dn_tt {n k : Nat} {m : Int} (h : decide (dn (IntKind.i64.wrap (m - 1)) k ≥ 0) = true) (hm : m = n) (hn : n ≤ 1048640) (hk : k ≤ n) : k < n := by
  rw [dn_at hm hn hk] at h; have := of_decide_eq_true h; omega
theorem dn_ff {n k : Nat} {m : Int} (h : decide (dn (IntKind.i64.wrap (m - 1)) k ≥ 0) = false) (hm : m = n) (hn : n ≤ 1048640) (hk : k ≤ n) : k = n := by
  rw [dn_at hm hn hk] at h; have := of_decide_eq_false h; omega
theorem rev_get {α : Type} {l : List α} {k : Nat} (h : k < l.length) : ∃ a, l.reverse[k]? = some a ∧ l[l.length - 1 - k]? = some a := by
  refine ⟨l[l.length - 1 - k], ?_, by simp⟩
  rw [List.getElem?_reverse h, List.getElem?_eq_getElem]
theorem aidxd {xs : List PV} {n k : Nat} {m : Int} {x : PV} {K : PV → Prop} (h : xs[n - 1 - k]? = some x) (hm : m = n) (hn : n ≤ 1048640) (hk : k < n) (hK : K x) : AIdx xs (dn (IntKind.i64.wrap (m - 1)) k) K := by
  rw [dn_at hm hn (by omega)]
  refine ⟨x, by omega, ?_, hK⟩
  rw [show ((n : Int) - 1 - k).toNat = n - 1 - k by omega]; exact h
end TR
open Go Go.AM Go.Proofs
set_option maxRecDepth 100000
namespace TR
/-- pats: all patterns within one -/
def patsK (p : Pt) : Nat → List Pt
  | 0 => [p]
  | k + 1 => match (patsK p k)[k]? with | some x => patsK p k ++ x.args | none => patsK p k
theorem psizeFs_len : ∀ (l : List Pt), l.length ≤ psizeFs l
  | [] => by simp
  | e :: r => by have := psizeFs_len r; have := psizeF_pos e; rw [psizeFs]; simp; omega
theorem pats_spec (p : Pt) (hp : wP p ≤ 1048640) : APure Tryd.prog 46 [.p (eP p)] (.p (.sl 4 (ePs (patsK p (psizeF p))))) := by
  have hle := psize_le p
  generalize hn : psizeF p = N at hle
  generalize hP : patsK p = S
  have hS0 : S 0 = [p] := by rw [← hP]; rfl
  have hS1 : ∀ k x, (S k)[k]? = some x → S (k + 1) = S k ++ x.args := fun k x h => by rw [← hP] at h ⊢; rw [patsK]; simp only [h]
  have h0 : 0 + psizeFs ([p].drop 0) = N := by simp [psizeFs, hn]
  clear hP hn
  obtain ⟨k0, n0, t0, as0⟩ := p
  refine APure.intro (tyOf_ok Tryd.prog) hmix Tryd.func46 rfl (by rfl) (by kernel_rfl) (by show 1 ≤ _; decide) rfl ?_
  conv => whnf
  refine loopS (tyOf_ok _) hmix (by kernel_rfl) N [3, 4] [] (fun k (s : List Pt) => [.so 4 (ePs s), .p (.i .i64 (ix k))]) (fun _ _ => []) (fun k s => s = S k ∧ k ≤ s.length ∧ k + psizeFs (s.drop k) = N) [.mk k0 n0 t0 as0] ⟨rfl, rfl, rfl, rfl⟩ ⟨hS0.symm, by simp, h0⟩ ?_
  rintro k s hk ⟨hs, hkl, hN⟩
  have hlen := psizeFs_len (s.drop k)
  simp only [List.length_drop] at hlen
  conv => whnf
  refine asplit ?_ ?_ <;> intro h1 <;> conv => whnf
  · have hk1 := ix_tt h1 (by rw [ePs_len]) hkl (by omega)
    obtain ⟨b, hb1⟩ : ∃ b, s[k]? = some b := ⟨s[k], by simp [hk1]⟩
    refine aidxk (ePs_get hb1) (by omega) ?_
    rw [drop_cons hb1, psizeFs] at hN
    have hS2 := hS1 k b (by rw [← hs]; exact hb1)
    obtain ⟨bk, bn, bt, ba⟩ := b
    rw [psizeF] at hN
    have hal := psizeFs_len ba
    have hdl := psizeFs_len (s.drop (k + 1))
    simp only [List.length_drop] at hdl
    conv => whnf
    refine aneed (show ((ePs s).length + (ePs ba).length) * 56 ≤ 140737488355328 by rw [ePs_len, ePs_len]; omega) ?_
    conv => whnf
    refine ⟨by omega, s ++ ba, ⟨rfl, ?_, rfl, rfl⟩, by rw [hS2, hs]; rfl, by simp; omega, ?_⟩
    · rw [ePs_app]; rfl
    · rw [List.drop_append_of_le_length (by omega), psizeFs_app]; omega
  · have hk1 := ix_ff h1 (by rw [ePs_len]) hkl (by omega)
    have : k = N := by rw [hk1, List.drop_length, psizeFs] at hN; omega
    subst this
    subst hs
    exact .inr (.inl rfl)
theorem patsK_inv (p : Pt) : ∀ k, k ≤ psizeF p → k ≤ (patsK p k).length ∧ k + psizeFs ((patsK p k).drop k) = psizeF p
  | 0, _ => by simp [patsK, psizeFs]
  | k + 1, h => by
    obtain ⟨h1, h2⟩ := patsK_inv p k (by omega)
    rcases Nat.lt_or_ge k (patsK p k).length with q | q
    · have hb : (patsK p k)[k]? = some (patsK p k)[k] := List.getElem?_eq_getElem q
      have e : patsK p (k + 1) = patsK p k ++ (patsK p k)[k].args := by rw [patsK]; simp only [hb]
      rw [drop_cons hb, psizeFs] at h2
      rw [e, List.drop_append_of_le_length (by omega), psizeFs_app]
      generalize (patsK p k)[k] = b at h2
      obtain ⟨bk, bn, bt, ba⟩ := b
      rw [psizeF] at h2
      simp only [Pt.args, List.length_append]
      omega
    · rw [List.drop_eq_nil_of_le q, psizeFs] at h2; omega
theorem patsK_len (p : Pt) : (patsK p (psizeF p)).length = psizeF p := by
  obtain ⟨h1, h2⟩ := patsK_inv p (psizeF p) (Nat.le_refl _)
  have := psizeFs_len ((patsK p (psizeF p)).drop (psizeF p))
  simp only [List.length_drop] at this
  omega

theorem all_spec (e : Ex) (he : wE e ≤ 1048640) : APure Tryd.prog 45 [.p (eE e)] (.p (.sl 8 (eEs (walkF e)))) := by
  have hwl := walk_le e
  have hsl := size_le e
  have hmem := fun x (h : x ∈ walkF e) => walk_mem e h
  generalize hW : walkF e = W at hwl hmem
  obtain ⟨k0, n0, t0, ns0, ts0, as0, ms0, p0⟩ := e
  refine APure.intro ((tyOf_ok Tryd.prog).hint 24 [9]) hmix Tryd.func45 rfl (by rfl) (by kernel_rfl) (by show 1 ≤ _; decide) rfl ?_
  conv => whnf
  refine lp_nil 4 7 rfl ?_
  refine loopR (tyOf_ok _) hmix (by kernel_rfl) 9 23 W.length [3, 4] [9] (fun k (s : List Ex × List Ex) => [.al true 9 8 s.1.length, .so 8 (eEs s.2)])
    (fun k s => [.gr true 8 (eEs s.1)]) (fun k s => s.2.length = k ∧ s.2 ++ walkFs s.1.reverse = W) ([.mk k0 n0 t0 ns0 ts0 as0 ms0 p0], []) ⟨rfl, rfl, rfl, rfl⟩ ⟨rfl, by simp [walkFs, hW]⟩ ?_
  rintro k ⟨row, out⟩ hk ⟨hk2, hinv⟩
  simp only at hk2 hinv
  conv => whnf
  refine asplit ?_ ?_ <;> intro h1 <;> conv => whnf
  · obtain ⟨r, x, rfl⟩ : ∃ r x, row = r ++ [x] := by
      have : row ≠ [] := fun q => by subst q; simp at h1
      exact ⟨row.dropLast, row.getLast this, (List.dropLast_concat_getLast this).symm⟩
    have hxW : x ∈ W := by rw [← hinv, List.reverse_append, walkFs_app, List.reverse_singleton, walkFs, walkFs, walkF_cons]; simp
    have hxw := hmem x hxW
    have hrl : r.length + 1 ≤ (walkF x).length + (walkFs r.reverse).length := by
      have := walkFs_len r.reverse
      rw [walkF_cons]; simp at this ⊢; omega
    have hWl : out.length + ((walkF x).length + (walkFs r.reverse).length) = W.length := by
      rw [← hinv, List.reverse_append, walkFs_app, List.reverse_singleton, walkFs, walkFs]; simp
    have e1 : IntKind.i64.wrap (((r ++ [x]).length : Int) - 1) = (r.length : Int) := by simp; exact wrap64 (by omega) (by omega)
    rw [e1]
    refine aneed ⟨by omega, by simp⟩ ?_
    conv => whnf
    refine aidxn (x := eE x) (by rw [eEs_app]; simp [eEs_len, eEs]) ?_
    have hout2 : eEs (out ++ [x]) = eEs out ++ [eE x] := by rw [eEs_app]; rfl
    have hxl := fun k n t ns ts xs ms p (q : x = Ex.mk k n t ns ts xs ms p) => q ▸ wE_lens k n t ns ts xs ms p
    obtain ⟨k1, n1, t1, ns1, ts1, as1, ms1, p1⟩ := x
    have hxl := hxl _ _ _ _ _ _ _ _ rfl
    conv => whnf
    rw [e1]
    refine aneed ⟨by omega, by simp; omega, by rw [eEs_len]; simp; omega⟩ ?_
    conv => whnf
    refine aneed (show ((eEs out).length + 1) * 136 ≤ 140737488355328 by rw [eEs_len]; omega) ?_
    conv => whnf
    refine loopR (tyOf_ok _) hmix (by kernel_rfl) 23 44 ms1.length [3, 4, 5, 6] [23, 5] (fun k (s : List Ex) => [.al true 23 8 s.length, .so 8 (eEs out ++ [eE (Ex.mk k1 n1 t1 ns1 ts1 as1 ms1 p1)]), .ptr 5 0, .p (.i .i64 (dn (IntKind.i64.wrap (((eAs ms1).length : Int) - 1)) k))])
      (fun k s => [.gr true 8 (eEs s), .cells [.p (.i .i64 k1), .p (.i .i64 n1), .p (.s t1), .p (.sl 1 (ns1.map eStr)), .p (.sl 3 (eTs ts1)), .p (.sl 8 (eEs as1)), .p (.sl 12 (eAs ms1)), .p (.i .i64 p1)]])
      (fun k s => s = r ++ (ms1.map Arm.body).reverse.take k) r ⟨?_, rfl, rfl, rfl⟩ (by simp) ?_
    · show _ = [some (AObj.gr true 8 (eEs r)), _]
      rw [show eEs r = (eEs (r ++ [Ex.mk k1 n1 t1 ns1 ts1 as1 ms1 p1])).take r.length by rw [eEs_app, List.take_append_of_le_length (by simp [eEs_len]), List.take_of_length_le (by simp [eEs_len])]]
      rfl
    intro k2 s hk3 hs
    have hsl2 : s.length ≤ 4194304 := by rw [hs]; simp; omega
    conv => whnf
    refine asplit ?_ ?_ <;> intro h2 <;> conv => whnf
    · have hk4 := dn_tt h2 (by rw [eAs_len]) (by omega) hk3
      obtain ⟨b, hb1, hb2⟩ := rev_get hk4
      refine aidxd (eAs_get hb2) (by rw [eAs_len]) (by omega) hk4 ?_
      have hts : (ms1.map Arm.body).reverse.take (k2 + 1) = (ms1.map Arm.body).reverse.take k2 ++ [b.body] := take_snoc (by rw [← List.map_reverse, List.getElem?_map, hb1]; rfl)
      obtain ⟨⟨bk, bn, bt, ba⟩, ⟨b1, b2, b3, b4, b5, b6, b7, b8⟩⟩ := b
      conv => whnf
      refine aneed ⟨by simp [eEs_len], show ((eEs s).length + 1) * 136 ≤ 140737488355328 by rw [eEs_len]; omega⟩ ?_
      conv => whnf
      refine ⟨hk4, s ++ [Ex.mk b1 b2 b3 b4 b5 b6 b7 b8], ⟨?_, ?_, rfl, rfl, rfl⟩, by rw [hts, hs, List.append_assoc]; rfl⟩
      · rw [eEs_app]; rfl
      · simp only [List.length_append]; rfl
    · have hk4 := dn_ff h2 (by rw [eAs_len]) (by omega) hk3
      have hs2 : s = r ++ (ms1.map Arm.body).reverse := by rw [hs, List.take_of_length_le (by simp [hk4])]
      refine loopR (tyOf_ok _) hmix (by kernel_rfl) 23 60 as1.length [3, 4, 5, 7] [23, 5] (fun k (s : List Ex) => [.al true 23 8 s.length, .so 8 (eEs out ++ [eE (Ex.mk k1 n1 t1 ns1 ts1 as1 ms1 p1)]), .ptr 5 0, .p (.i .i64 (dn (IntKind.i64.wrap (((eEs as1).length : Int) - 1)) k))])
        (fun k s => [.gr true 8 (eEs s), .cells [.p (.i .i64 k1), .p (.i .i64 n1), .p (.s t1), .p (.sl 1 (ns1.map eStr)), .p (.sl 3 (eTs ts1)), .p (.sl 8 (eEs as1)), .p (.sl 12 (eAs ms1)), .p (.i .i64 p1)]])
        (fun k s => s = r ++ (ms1.map Arm.body).reverse ++ as1.reverse.take k) s ⟨rfl, rfl, rfl, rfl⟩ (by simp [hs2]) ?_
      intro k5 s5 hk5 hs5
      have hsl5 : s5.length ≤ 4194304 := by rw [hs5]; simp; omega
      conv => whnf
      refine asplit ?_ ?_ <;> intro h3 <;> conv => whnf
      · have hk6 := dn_tt h3 (by rw [eEs_len]) (by omega) hk5
        obtain ⟨b, hb1, hb2⟩ := rev_get hk6
        refine aidxd (eEs_get hb2) (by rw [eEs_len]) (by omega) hk6 ?_
        have hts := take_snoc hb1
        obtain ⟨b1, b2, b3, b4, b5, b6, b7, b8⟩ := b
        conv => whnf
        refine aneed ⟨by simp [eEs_len], show ((eEs s5).length + 1) * 136 ≤ 140737488355328 by rw [eEs_len]; omega⟩ ?_
        conv => whnf
        refine ⟨hk6, s5 ++ [Ex.mk b1 b2 b3 b4 b5 b6 b7 b8], ⟨?_, ?_, rfl, rfl, rfl⟩, by rw [hts, hs5, List.append_assoc]⟩
        · rw [eEs_app]; rfl
        · simp only [List.length_append]; rfl
      · have hk6 := dn_ff h3 (by rw [eEs_len]) (by omega) hk5
        have hs6 : s5 = r ++ (ms1.map Arm.body).reverse ++ as1.reverse := by rw [hs5, List.take_of_length_le (by simp [hk6])]
        refine ⟨by have : 0 < (walkF (Ex.mk k1 n1 t1 ns1 ts1 as1 ms1 p1)).length := by rw [walkF]; simp
                   omega, (s5, out ++ [Ex.mk k1 n1 t1 ns1 ts1 as1 ms1 p1]), ⟨rfl, ?_, rfl, rfl, rfl⟩, by simp [hk2], ?_⟩
        · simp only [hout2]; rfl
        · rw [← hinv, hs6]
          simp [walkFs_app, walkFs, walkF, walkFa_map]
  · have hr0 : row = [] := by cases row with | nil => rfl | cons a b => simp at h1
    subst hr0
    have : out = W := by simpa [walkFs] using hinv
    subst this
    exact .inr (.inl rfl)

/-- what SizeOf counts of one -/
def oneF (e : Ex) : Nat := 1 + psizeFs (e.arms.map Arm.pat)
def sumF : List Ex → Nat
  | [] => 0
  | e :: r => oneF e + sumF r
theorem sumF_app (l r : List Ex) : sumF (l ++ r) = sumF l + sumF r := by
  induction l with
  | nil => simp [sumF]
  | cons a l ih => simp [sumF, ih]; omega
mutual
theorem sum_walk : ∀ (e : Ex), sumF (walkF e) = sizeF e
  | .mk k n t ns ts xs ms p => by
    rw [walkF, sumF, sumF_app, sum_walks xs, sizeF, oneF]
    have := sum_walka ms
    simp only [Ex.arms]; omega
theorem sum_walks : ∀ (l : List Ex), sumF (walkFs l) = sizeFs l
  | [] => rfl
  | e :: r => by rw [walkFs, sumF_app, sum_walk e, sum_walks r, sizeFs]
theorem sum_walka : ∀ (l : List Arm), psizeFs (l.map Arm.pat) + sumF (walkFa l) = sizeFa l
  | [] => rfl
  | .mk p e :: r => by
    have := sum_walka r
    rw [walkFa, sumF_app, sum_walk e, sizeFa, List.map_cons, psizeFs]
    simp only [Arm.pat]; omega
end
theorem sumF_le : ∀ (l : List Ex) (k : Nat), sumF (l.take k) ≤ sumF l := fun l k => by
  have := sumF_app (l.take k) (l.drop k)
  rw [List.take_append_drop] at this; omega
theorem psizeFs_le (l : List Pt) (k : Nat) : psizeFs (l.take k) ≤ psizeFs l := by
  have := psizeFs_app (l.take k) (l.drop k)
  rw [List.take_append_drop] at this; omega

theorem sizeOf_spec (e : Ex) (he : wE e ≤ 1048640) : APure Tryd.prog 29 [.p (eE e)] (.p (.i .i64 (sizeF e))) := by
  have hall := all_spec e he
  have hmem := fun x (h : x ∈ walkF e) => walk_mem e h
  have hsl := size_le e
  have hwl := walk_le e
  have hsum := sum_walk e
  rw [← hsum] at hsl hwl ⊢
  clear hsum
  generalize walkF e = W at hall hmem hsl hwl ⊢
  obtain ⟨k0, n0, t0, ns0, ts0, as0, ms0, p0⟩ := e
  refine APure.intro (tyOf_ok Tryd.prog) hmix Tryd.func29 rfl (by rfl) (by kernel_rfl) (by show 1 ≤ _; decide) rfl ?_
  conv => whnf
  refine apc hall ?_
  conv => whnf
  refine loopS (tyOf_ok _) hmix (by kernel_rfl) W.length [3, 9, 10, 11] [] (fun k (s : Int) => [.p (.i .i64 s), .p (.sl 8 (eEs W)), .p (.i .i64 (eEs W).length), .p (.i .i64 (ix k))]) (fun _ _ => []) (fun k s => s = sumF (W.take k)) 0 ⟨rfl, rfl, rfl, rfl⟩ rfl ?_
  intro k s hk hs
  conv => whnf
  refine asplit ?_ ?_ <;> intro h1 <;> conv => whnf
  · have hk1 := ix_tt h1 (by rw [eEs_len]) hk (by omega)
    obtain ⟨b, hb1⟩ : ∃ b, W[k]? = some b := ⟨W[k], by simp [hk1]⟩
    refine aidxk (eEs_get hb1) (by omega) ?_
    have hbm := hmem b (List.mem_of_getElem? hb1)
    have hts : sumF (W.take (k + 1)) = sumF (W.take k) + oneF b := by rw [take_snoc hb1, sumF_app]; simp [sumF]
    have htl := sumF_le W (k + 1)
    obtain ⟨b1, b2, b3, b4, b5, b6, b7, b8⟩ := b
    have hbl := wE_lens b1 b2 b3 b4 b5 b6 b7 b8
    rw [oneF] at hts
    simp only [Ex.arms] at hts
    conv => whnf
    refine loopS (tyOf_ok _) hmix (by kernel_rfl) b7.length [3, 9, 10, 11, 18, 19, 20] [] (fun j (s : Int) => [.p (.i .i64 s), .p (.sl 8 (eEs W)), .p (.i .i64 (eEs W).length), .p (.i .i64 (ix k)), .p (.sl 12 (eAs b7)), .p (.i .i64 (eAs b7).length), .p (.i .i64 (ix j))]) (fun _ _ => [])
      (fun j s' => s' = sumF (W.take k) + 1 + psizeFs ((b7.map Arm.pat).take j)) (IntKind.i64.wrap (s + 1)) ⟨rfl, rfl, rfl, rfl⟩ (by rw [hs, wrap64 (by omega) (by omega)]; simp [psizeFs]) ?_
    intro j s2 hj hs2
    have hpl := psizeFs_le (b7.map Arm.pat) (j + 1)
    conv => whnf
    refine asplit ?_ ?_ <;> intro h2 <;> conv => whnf
    · have hj1 := ix_tt h2 (by rw [eAs_len]) hj (by omega)
      obtain ⟨c, hc1⟩ : ∃ c, b7[j]? = some c := ⟨b7[j], by simp [hj1]⟩
      refine aidxk (eAs_get hc1) (by omega) ?_
      have hcw := wE_body (k := b1) (n := b2) (t := b3) (ns := b4) (ts := b5) (xs := b6) (p := b8) (List.mem_of_getElem? hc1)
      have hps := pats_spec c.pat (by omega)
      have hpn := patsK_len c.pat
      have hts2 : psizeFs ((b7.map Arm.pat).take (j + 1)) = psizeFs ((b7.map Arm.pat).take j) + psizeF c.pat := by
        rw [take_snoc (show (b7.map Arm.pat)[j]? = some c.pat by rw [List.getElem?_map, hc1]; rfl), psizeFs_app]; simp [psizeFs]
      generalize patsK c.pat (psizeF c.pat) = ps at hps hpn
      obtain ⟨⟨ck, cn, ct, ca⟩, ⟨c1, c2, c3, c4, c5, c6, c7, c8⟩⟩ := c
      simp only [Arm.pat] at hps hpn hts2
      conv => whnf
      refine apc hps ?_
      conv => whnf
      refine ⟨hj1, _, ⟨rfl, rfl, rfl, rfl⟩, ?_⟩
      rw [ePs_len, hpn, hs2, wrap64 (by omega) (by omega), hts2]; omega
    · have hj1 := ix_ff h2 (by rw [eAs_len]) hj (by omega)
      refine ⟨hk1, s2, ⟨rfl, rfl, rfl, rfl⟩, ?_⟩
      have hjl : psizeFs ((b7.map Arm.pat).take j) = psizeFs (b7.map Arm.pat) := by rw [hj1, List.take_of_length_le (by simp)]
      omega
  · have hk1 := ix_ff h1 (by rw [eEs_len]) hk (by omega)
    exact .inl (pi (by rw [hs, hk1, List.take_length]))
end TR
open Go Go.AM Go.Proofs
set_option maxRecDepth 100000
namespace TR
theorem imax_nat (a b : Nat) : (if (a : Int) < (b : Int) then (b : Int) else (a : Int)) = ((max a b : Nat) : Int) := by
  split
  · rw [Nat.max_eq_right (by omega)]
  · rw [Nat.max_eq_left (by omega)]
theorem imax_nat' (a b : Nat) : imax (a : Int) (b : Int) = ((max a b : Nat) : Int) := imax_nat a b
mutual
def pdeepF : Pt → Nat
  | .mk _ _ _ xs => pdeepFs xs + 1
def pdeepFs : List Pt → Nat
  | [] => 0
  | p :: r => max (pdeepF p) (pdeepFs r)
end
mutual
def deepF : Ex → Nat
  | .mk _ _ _ _ _ xs ms _ => max (deepFs xs) (deepFa ms) + 1
def deepFs : List Ex → Nat
  | [] => 0
  | p :: r => max (deepF p) (deepFs r)
def deepFa : List Arm → Nat
  | [] => 0
  | .mk p e :: r => max (max (pdeepF p) (deepF e)) (deepFa r)
end
mutual
theorem pdeep_le : ∀ (p : Pt), pdeepF p ≤ psizeF p
  | .mk k n t xs => by rw [pdeepF, psizeF]; have := pdeeps_le xs; omega
theorem pdeeps_le : ∀ (l : List Pt), pdeepFs l ≤ psizeFs l
  | [] => by simp [pdeepFs]
  | p :: r => by have h1 := pdeep_le p; have h2 := pdeeps_le r; rw [pdeepFs, psizeFs]; omega
end
mutual
theorem deep_le : ∀ (p : Ex), deepF p ≤ sizeF p
  | .mk k n t ns ts xs ms p => by rw [deepF, sizeF]; have := deeps_le xs; have := deepa_le ms; omega
theorem deeps_le : ∀ (l : List Ex), deepFs l ≤ sizeFs l
  | [] => by simp [deepFs]
  | p :: r => by have h1 := deep_le p; have h2 := deeps_le r; rw [deepFs, sizeFs]; omega
theorem deepa_le : ∀ (l : List Arm), deepFa l ≤ sizeFa l
  | [] => by simp [deepFa]
  | .mk p e :: r => by have h1 := deep_le e; have h2 := deepa_le r; have h3 := pdeep_le p; rw [deepFa, sizeFa]; omega
end
theorem pdeepFs_snoc (l : List Pt) (p : Pt) : pdeepFs (l ++ [p]) = max (pdeepFs l) (pdeepF p) := by
  induction l with
  | nil => simp [pdeepFs]
  | cons a l ih => simp [pdeepFs, ih]
theorem deepFs_snoc (l : List Ex) (p : Ex) : deepFs (l ++ [p]) = max (deepFs l) (deepF p) := by
  induction l with
  | nil => simp [deepFs]
  | cons a l ih => simp [deepFs, ih]
theorem deepFa_snoc (l : List Arm) (p : Arm) : deepFa (l ++ [p]) = max (deepFa l) (max (pdeepF p.pat) (deepF p.body)) := by
  induction l with
  | nil => obtain ⟨p, e⟩ := p; simp [deepFa, Arm.pat, Arm.body]
  | cons a l ih => obtain ⟨q, e⟩ := a; simp [deepFa, ih]
theorem psizeFs_snoc (l : List Pt) (p : Pt) : psizeFs (l ++ [p]) = psizeFs l + psizeF p := by rw [psizeFs_app]; simp [psizeFs]
theorem sizeFs_snoc (l : List Ex) (p : Ex) : sizeFs (l ++ [p]) = sizeFs l + sizeF p := by rw [sizeFs_app]; simp [sizeFs]
theorem sizeFa_snoc (l : List Arm) (p : Arm) : sizeFa (l ++ [p]) = sizeFa l + (psizeF p.pat + sizeF p.body) := by rw [sizeFa_app]; obtain ⟨p, e⟩ := p; simp [sizeFa, Arm.pat, Arm.body]
theorem sizeFs_take (l : List Ex) (k : Nat) : sizeFs (l.take k) ≤ sizeFs l := by
  have := sizeFs_app (l.take k) (l.drop k)
  rw [List.take_append_drop] at this; omega
theorem sizeFa_take (l : List Arm) (k : Nat) : sizeFa (l.take k) ≤ sizeFa l := by
  have := sizeFa_app (l.take k) (l.drop k)
  rw [List.take_append_drop] at this; omega

end TR
open Go Go.AM Go.Proofs
set_option maxRecDepth 100000
namespace TR
def partsF (e : Ex) : List Ex := e.args ++ e.arms.map Arm.body
end TR

open Go Go.AM Go.Proofs
set_option maxRecDepth 100000
namespace TR
/-- Needs -/
def needsF (k n : Int) (len : Nat) : Int :=
  bif k == 1 || (k == 2 || (k == 3 || (k == 4 || (k == 5 || k == 16)))) then 0 else
  bif k == 10 || (k == 13 || (k == 19 || (k == 20 || (k == 21 || (k == 22 || (k == 24 || k == 25)))))) then 1 else
  bif k == 6 || (k == 15 || k == 23) then 2 else
  bif k == 7 then 3 else
  bif k == 18 then (bif decide (n ≥ 0) then 1 else 0) else
  bif k == 8 || (k == 9 || (k == 12 || (k == 14 || k == 17))) then len else
  bif k == 11 then (if (len : Int) < 1 then 1 else len) else -1
theorem needs_spec (e : Ex) : APure Tryd.prog 52 [.p (eE e)] (.p (.i .i64 (needsF e.kind e.num e.args.length))) := by
  obtain ⟨k0, n0, t0, ns0, ts0, as0, ms0, p0⟩ := e
  simp only [Ex.kind, Ex.num, Ex.args]
  refine APure.intro (tyOf_ok Tryd.prog) hmix Tryd.func52 rfl (by rfl) (by kernel_rfl) (by show 1 ≤ _; decide) rfl ?_
  by_cases hr : 1 ≤ k0 ∧ k0 ≤ 25
  · obtain rfl | rfl | rfl | rfl | rfl | rfl | rfl | rfl | rfl | rfl | rfl | rfl | rfl | rfl | rfl | rfl | rfl | rfl | rfl | rfl | rfl | rfl | rfl | rfl | rfl : k0 = 1 ∨ k0 = 2 ∨ k0 = 3 ∨ k0 = 4 ∨ k0 = 5 ∨ k0 = 6 ∨ k0 = 7 ∨ k0 = 8 ∨ k0 = 9 ∨ k0 = 10 ∨ k0 = 11 ∨ k0 = 12 ∨ k0 = 13 ∨ k0 = 14 ∨ k0 = 15 ∨ k0 = 16 ∨ k0 = 17 ∨ k0 = 18 ∨ k0 = 19 ∨ k0 = 20 ∨ k0 = 21 ∨ k0 = 22 ∨ k0 = 23 ∨ k0 = 24 ∨ k0 = 25 := by omega
    · conv => whnf
      exact .inl rfl
    · conv => whnf
      exact .inl rfl
    · conv => whnf
      exact .inl rfl
    · conv => whnf
      exact .inl rfl
    · conv => whnf
      exact .inl rfl
    · conv => whnf
      exact .inl rfl
    · conv => whnf
      exact .inl rfl
    · conv => whnf
      exact .inl (pi (by rw [eEs_len]; rfl))
    · conv => whnf
      exact .inl (pi (by rw [eEs_len]; rfl))
    · conv => whnf
      exact .inl rfl
    · conv => whnf
      exact .inl (pi (by rw [eEs_len]; rfl))
    · conv => whnf
      exact .inl (pi (by rw [eEs_len]; rfl))
    · conv => whnf
      exact .inl rfl
    · conv => whnf
      exact .inl (pi (by rw [eEs_len]; rfl))
    · conv => whnf
      exact .inl rfl
    · conv => whnf
      exact .inl rfl
    · conv => whnf
      exact .inl (pi (by rw [eEs_len]; rfl))
    · conv => whnf
      refine asplit ?_ ?_ <;> intro h <;> conv => whnf
      · exact .inl (pi (by show _ = (bif decide (n0 ≥ 0) then (1 : Int) else 0); rw [h]; rfl))
      · exact .inl (pi (by show _ = (bif decide (n0 ≥ 0) then (1 : Int) else 0); rw [h]; rfl))
    · conv => whnf
      exact .inl rfl
    · conv => whnf
      exact .inl rfl
    · conv => whnf
      exact .inl rfl
    · conv => whnf
      exact .inl rfl
    · conv => whnf
      exact .inl rfl
    · conv => whnf
      exact .inl rfl
    · conv => whnf
      exact .inl rfl
  · have hb : ∀ c : Int, 1 ≤ c → c ≤ 25 → (k0 == c) = false := fun c h1 h2 => by simp; omega
    conv => whnf
    iterate 25 (refine asf (hb _ (by decide) (by decide)) ?_; conv => whnf)
    exact .inl (pi (by rw [needsF]; simp only [hb 1 (by decide) (by decide), hb 2 (by decide) (by decide), hb 3 (by decide) (by decide), hb 4 (by decide) (by decide), hb 5 (by decide) (by decide), hb 6 (by decide) (by decide), hb 7 (by decide) (by decide), hb 8 (by decide) (by decide), hb 9 (by decide) (by decide), hb 10 (by decide) (by decide), hb 11 (by decide) (by decide), hb 12 (by decide) (by decide), hb 13 (by decide) (by decide), hb 14 (by decide) (by decide), hb 15 (by decide) (by decide), hb 16 (by decide) (by decide), hb 17 (by decide) (by decide), hb 18 (by decide) (by decide), hb 19 (by decide) (by decide), hb 20 (by decide) (by decide), hb 21 (by decide) (by decide), hb 22 (by decide) (by decide), hb 23 (by decide) (by decide), hb 24 (by decide) (by decide), hb 25 (by decide) (by decide), Bool.or_self, cond_false]))
mutual
def boundF : Pt → List ByteArray
  | .mk k _ t xs => bif k == 2 then [t] else bif k == 6 then boundFs xs else []
def boundFs : List Pt → List ByteArray
  | [] => []
  | p :: r => boundF p ++ boundFs r
end
theorem boundFs_app (l r : List Pt) : boundFs (l ++ r) = boundFs l ++ boundFs r := by
  induction l with
  | nil => simp [boundFs]
  | cons a l ih => simp [boundFs, ih]
theorem boundFs_snoc (l : List Pt) (p : Pt) : boundFs (l ++ [p]) = boundFs l ++ boundF p := by rw [boundFs_app]; simp [boundFs]
mutual
theorem bound_le : ∀ (p : Pt), (boundF p).length ≤ wP p
  | .mk k n t xs => by
    rw [boundF, wP_mk]
    have := bounds_le xs
    cases k == 2 <;> cases k == 6 <;> simp <;> omega
theorem bounds_le : ∀ (l : List Pt), (boundFs l).length ≤ PV.wts (ePs l)
  | [] => by simp [boundFs]
  | p :: r => by have h1 := bound_le p; have h2 := bounds_le r; unfold wP at h1; simp only [boundFs, ePs, PV.wts, List.length_append]; omega
end
theorem boundFs_take (l : List Pt) (k : Nat) : (boundFs (l.take k)).length ≤ (boundFs l).length := by
  have := boundFs_app (l.take k) (l.drop k)
  rw [List.take_append_drop] at this; rw [this]; simp
theorem bound_spec (p : Pt) : wP p ≤ 1048640 → APure Tryd.prog 26 [.p (eP p)] (.p (.sl 1 ((boundF p).map eStr))) := by
  induction p using Pt.ind with
  | h k0 n0 t0 as0 ih =>
  intro hw
  have hl := wP_lens k0 n0 t0 as0
  have hbl := bounds_le as0
  have hwm := wP_mk k0 n0 t0 as0
  rw [boundF]
  refine APure.intro (tyOf_ok Tryd.prog) hmix Tryd.func26 rfl (by rfl) (by kernel_rfl) (by show 1 ≤ _; decide) rfl ?_
  conv => whnf
  refine asplit ?_ ?_ <;> intro h1 <;> conv => whnf
  · have h1 : (k0 == 2) = true := h1
    rw [h1]
    exact .inr (.inl rfl)
  have h1 : (k0 == 2) = false := h1
  rw [h1]
  refine asplit ?_ ?_ <;> intro h2 <;> conv => whnf
  · have h2 : (k0 == 6) = true := h2
    rw [h2]
    refine lp_nil 3 0 rfl ?_
    refine loopS (tyOf_ok _) hmix (by kernel_rfl) as0.length [3, 16, 17, 18] [] (fun k (s : List ByteArray) => [.so 1 (s.map eStr), .p (.sl 4 (ePs as0)), .p (.i .i64 (ePs as0).length), .p (.i .i64 (ix k))]) (fun _ _ => []) (fun k s => s = boundFs (as0.take k)) [] ⟨rfl, rfl, rfl, rfl⟩ (by simp [boundFs]) ?_
    intro k s hk hs
    conv => whnf
    refine asplit ?_ ?_ <;> intro h3 <;> conv => whnf
    · have hk1 := ix_tt h3 (by rw [ePs_len]) hk (by omega)
      obtain ⟨b, hb1⟩ : ∃ b, as0[k]? = some b := ⟨as0[k], by simp [hk1]⟩
      refine aidxk (ePs_get hb1) (by omega) ?_
      have hbw := wP_args (k := k0) (n := n0) (t := t0) (List.mem_of_getElem? hb1)
      have hc := ih b (List.mem_of_getElem? hb1) (by omega)
      have hts : boundFs (as0.take (k + 1)) = boundFs (as0.take k) ++ boundF b := by rw [take_snoc hb1, boundFs_snoc]
      have htl := boundFs_take as0 (k + 1)
      rw [hts, ← hs, List.length_append] at htl
      generalize boundF b = sb at hc hts htl
      obtain ⟨b1, b2, b3, b4⟩ := b
      conv => whnf
      refine apc hc ?_
      conv => whnf
      refine aneed (show ((s.map eStr).length + (sb.map eStr).length) * 16 ≤ 140737488355328 by simp; omega) ?_
      conv => whnf
      refine ⟨hk1, s ++ sb, ⟨rfl, ?_, rfl, rfl⟩, by rw [hs, hts]⟩
      rw [List.map_append]; rfl
    · have hk1 := ix_ff h3 (by rw [ePs_len]) hk (by omega)
      have hs2 : s = boundFs as0 := by rw [hs, hk1, List.take_length]
      subst hs2
      exact .inr (.inl rfl)
  · have h2 : (k0 == 6) = false := h2
    rw [h2]
    exact .inr (.inl rfl)

/-! the finder -/
structure St where
  seen : List (ByteArray × Bool)
  bound : List (ByteArray × Int)
  out : List ByteArray
def incF (m : List (ByteArray × Int)) (s : ByteArray) : List (ByteArray × Int) := sput s (IntKind.i64.wrap ((slook s m).getD 0 + 1)) m
def decF (m : List (ByteArray × Int)) (s : ByteArray) : List (ByteArray × Int) := sput s (IntKind.i64.wrap ((slook s m).getD 0 - 1)) m
def St.inc (σ : St) (ns : List ByteArray) : St := { σ with bound := ns.foldl incF σ.bound }
def St.dec (σ : St) (ns : List ByteArray) : St := { σ with bound := ns.foldl decF σ.bound }
def varF (t : ByteArray) (σ : St) : St := bif ((slook t σ.bound).getD 0 == 0) && !((slook t σ.seen).getD false) then ⟨sput t true σ.seen, σ.bound, σ.out ++ [t]⟩ else σ
mutual
def visitF : Ex → St → St
  | .mk k n t ns _ xs ms _, σ => bif decide (needsF k n xs.length < 0) then σ else bif decide ((xs.length : Int) < needsF k n xs.length) then visitFn xs.length xs σ else
      let σ1 := bif k == 5 then varF t σ else bif k == 6 then letFs t xs σ else bif k == 10 then funFs ns xs σ else visitFn (needsF k n xs.length).toNat xs σ
      bif k == 13 || k == 18 then armFs ms σ1 else σ1
def visitFn : Nat → List Ex → St → St
  | _, [], σ => σ
  | 0, _, σ => σ
  | n + 1, e :: r, σ => visitFn n r (visitF e σ)
def letFs (t : ByteArray) : List Ex → St → St
  | a :: b :: _, σ => (visitF b ((visitF a σ).inc [t])).dec [t]
  | _, σ => σ
def funFs (ns : List ByteArray) : List Ex → St → St
  | a :: _, σ => (visitF a (σ.inc ns)).dec ns
  | _, σ => σ
def armFs : List Arm → St → St
  | [], σ => σ
  | .mk p e :: r, σ => armFs r ((visitF e (σ.inc (boundF p))).dec (boundF p))
end
def underF (ns : List ByteArray) (e : Ex) (σ : St) : St := (visitF e (σ.inc ns)).dec ns

def hpS (σ : St) : Heap := [(1000000000, .cells [.mp 1000000001, .mp 1000000002, .so 1 (σ.out.map eStr)]), (1000000001, .map .ks (eM vB σ.seen)), (1000000002, .map .ks (eM vI σ.bound))]
def VisitS (e : Ex) : Prop := ∀ σ : St, σ.out.length + wE e ≤ 2097152 →
  AMem Tryd.prog 35 [.ptr 1000000000 0, .p (eE e)] (hpS σ) (.tup []) (hpS (visitF e σ))
def UnderS (ns : List ByteArray) (e : Ex) : Prop := ∀ σ : St, σ.out.length + wE e ≤ 2097152 →
  AMem Tryd.prog 53 [.ptr 1000000000 0, .p (.sl 1 (ns.map eStr)), .p (eE e)] (hpS σ) (.tup []) (hpS (underF ns e σ))
theorem under_of (ns : List ByteArray) (e : Ex) (hn : ns.length ≤ 1048640) (ih : VisitS e) : UnderS ns e := by
  intro σ hσ
  have hv := ih (σ.inc ns) hσ
  have hu : underF ns e σ = (visitF e (σ.inc ns)).dec ns := rfl
  rw [hu]
  generalize visitF e (σ.inc ns) = σ2 at hv
  obtain ⟨se, bo, ou⟩ := σ
  obtain ⟨se2, bo2, ou2⟩ := σ2
  obtain ⟨k0, n0, t0, ns0, ts0, as0, ms0, p0⟩ := e
  simp only [hpS, St.inc, St.dec] at hv ⊢
  refine AMem.intro (tyOf_ok Tryd.prog) hmix Tryd.func53 rfl (by rfl) (by kernel_rfl) (by show 3 ≤ _; decide) rfl ?_
  conv => whnf
  refine loopS (tyOf_ok _) hmix (by kernel_rfl) ns.length [0, 1, 5, 10, 11, 12] [1000000000, 1000000001, 1000000002, 5] (fun k (m : List (ByteArray × Int)) => [.ptr 1000000000 0, .p (.sl 1 (ns.map eStr)), .ptr 5 0, .p (.sl 1 (ns.map eStr)), .p (.i .i64 (ns.map eStr).length), .p (.i .i64 (ix k))])
    (fun k m => [.cells [.mp 1000000001, .mp 1000000002, .so 1 (ou.map eStr)], .map .ks (eM vB se), .map .ks (eM vI m), .cells [.p (.i .i64 k0), .p (.i .i64 n0), .p (.s t0), .p (.sl 1 (ns0.map eStr)), .p (.sl 3 (eTs ts0)), .p (.sl 8 (eEs as0)), .p (.sl 12 (eAs ms0)), .p (.i .i64 p0)]])
    (fun k m => m = (ns.take k).foldl incF bo) bo ⟨rfl, rfl, rfl, rfl⟩ rfl ?_
  intro k m hk hm
  conv => whnf
  refine asplit ?_ ?_ <;> intro h1 <;> conv => whnf
  · have hk1 := ix_tt h1 (by simp) hk (by omega)
    obtain ⟨b, hb1⟩ : ∃ b, ns[k]? = some b := ⟨ns[k], by simp [hk1]⟩
    refine aidxk (x := eStr b) (by simp [hb1]) (by omega) ?_
    conv => whnf
    refine alook (mlook_I b m) ?_
    conv => whnf
    refine ⟨hk1, incF m b, ⟨by rw [incF, ← mput_eM]; rfl, rfl, rfl, rfl⟩, ?_⟩
    rw [take_snoc hb1, List.foldl_append, ← hm]; rfl
  · have hk1 := ix_ff h1 (by simp) hk (by omega)
    have hm2 : m = ns.foldl incF bo := by rw [hm, hk1, List.take_length]
    subst hm2
    refine amc [1000000000, 1000000001, 1000000002] 10000 hv ?_
    conv => whnf
    refine loopS (tyOf_ok _) hmix (by kernel_rfl) ns.length [0, 27, 28, 29] [1000000000, 1000000001, 1000000002] (fun k (m : List (ByteArray × Int)) => [.ptr 1000000000 0, .p (.sl 1 (ns.map eStr)), .p (.i .i64 (ns.map eStr).length), .p (.i .i64 (ix k))])
      (fun k m => [.cells [.mp 1000000001, .mp 1000000002, .so 1 (ou2.map eStr)], .map .ks (eM vB se2), .map .ks (eM vI m)])
      (fun k m => m = (ns.take k).foldl decF bo2) bo2 ⟨rfl, rfl, rfl, rfl⟩ rfl ?_
    intro j m3 hj hm3
    conv => whnf
    refine asplit ?_ ?_ <;> intro h2 <;> conv => whnf
    · have hj1 := ix_tt h2 (by simp) hj (by omega)
      obtain ⟨b, hb1⟩ : ∃ b, ns[j]? = some b := ⟨ns[j], by simp [hj1]⟩
      refine aidxk (x := eStr b) (by simp [hb1]) (by omega) ?_
      conv => whnf
      refine alook (mlook_I b m3) ?_
      conv => whnf
      refine ⟨hj1, decF m3 b, ⟨by rw [decF, ← mput_eM]; rfl, rfl, rfl, rfl⟩, ?_⟩
      rw [take_snoc hb1, List.foldl_append, ← hm3]; rfl
    · have hj1 := ix_ff h2 (by simp) hj (by omega)
      have hm4 : m3 = ns.foldl decF bo2 := by rw [hm3, hj1, List.take_length]
      subst hm4
      exact ⟨.inl rfl, ⟨.inl rfl, .inl rfl, .inl rfl, trivial⟩, ⟨rfl, rfl⟩, ⟨rfl, rfl⟩, trivial⟩
end TR
open Go Go.AM Go.Proofs
set_option maxRecDepth 100000
namespace TR
def visitL (l : List Ex) (σ : St) : St := l.foldl (fun σ e => visitF e σ) σ
def armL (l : List Arm) (σ : St) : St := l.foldl (fun σ a => underF (boundF a.pat) a.body σ) σ
theorem visitFn_eq : ∀ (n : Nat) (xs : List Ex) (σ : St), visitFn n xs σ = visitL (xs.take n) σ
  | 0, [], σ => by simp [visitFn, visitL]
  | n + 1, [], σ => by simp [visitFn, visitL]
  | 0, _ :: _, σ => by simp [visitFn, visitL]
  | n + 1, e :: r, σ => by rw [visitFn, visitFn_eq n r]; simp [visitL]
theorem armFs_eq : ∀ (ms : List Arm) (σ : St), armFs ms σ = armL ms σ
  | [], σ => by simp [armFs, armL]
  | .mk p e :: r, σ => by rw [armFs, armFs_eq r]; simp [armL, underF, Arm.pat, Arm.body]
theorem visitL_snoc (l : List Ex) (e : Ex) (σ : St) : visitL (l ++ [e]) σ = visitF e (visitL l σ) := by simp [visitL]
theorem armL_snoc (l : List Arm) (a : Arm) (σ : St) : armL (l ++ [a]) σ = underF (boundF a.pat) a.body (armL l σ) := by simp [armL]
theorem inc_out (σ : St) (ns : List ByteArray) : (σ.inc ns).out = σ.out := rfl
theorem dec_out (σ : St) (ns : List ByteArray) : (σ.dec ns).out = σ.out := rfl
theorem varF_out (t : ByteArray) (σ : St) : (varF t σ).out.length ≤ σ.out.length + 1 := by
  unfold varF; cases ((slook t σ.bound).getD 0 == 0) && !((slook t σ.seen).getD false) <;> simp
theorem visitL_out (l : List Ex) (h : ∀ e ∈ l, ∀ σ, (visitF e σ).out.length ≤ σ.out.length + wE e) : ∀ σ, (visitL l σ).out.length ≤ σ.out.length + PV.wts (eEs l) := by
  induction l with
  | nil => intro σ; simp [visitL]
  | cons e r ih =>
    intro σ
    have h1 := h e (by simp) σ
    have h2 := ih (fun x hx => h x (by simp [hx])) (visitF e σ)
    simp only [eEs, PV.wts]
    rw [show visitL (e :: r) σ = visitL r (visitF e σ) from rfl]
    unfold wE at h1; omega
theorem armL_out (l : List Arm) (h : ∀ a ∈ l, ∀ σ, (visitF a.body σ).out.length ≤ σ.out.length + wE a.body) : ∀ σ, (armL l σ).out.length ≤ σ.out.length + PV.wts (eAs l) := by
  induction l with
  | nil => intro σ; simp [armL]
  | cons a r ih =>
    intro σ
    have h1 := h a (by simp) (σ.inc (boundF a.pat))
    have h2 := ih (fun x hx => h x (by simp [hx])) (underF (boundF a.pat) a.body σ)
    have h3 := wA_body a
    simp only [eAs, PV.wts]
    rw [show armL (a :: r) σ = armL r (underF (boundF a.pat) a.body σ) from rfl]
    rw [underF, dec_out] at h2
    rw [inc_out] at h1
    unfold wA at h3
    rw [underF]; omega
theorem wts_take (l : List PV) (k : Nat) : PV.wts (l.take k) ≤ PV.wts l := by
  have := PV.wts_append (l.take k) (l.drop k)
  rw [List.take_append_drop] at this; omega
theorem eEs_take (l : List Ex) (k : Nat) : eEs (l.take k) = (eEs l).take k := by simp [eEs_map, List.map_take]
theorem eAs_take (l : List Arm) (k : Nat) : eAs (l.take k) = (eAs l).take k := by simp [eAs_map, List.map_take]
theorem visit_out (e : Ex) : ∀ σ, (visitF e σ).out.length ≤ σ.out.length + wE e := by
  induction e using Ex.ind with
  | h k n t ns ts xs ms p ih1 ih2 =>
  intro σ
  have hA := fun σ => armL_out ms ih2 σ
  have hV := fun j σ => visitL_out (xs.take j) (fun e he => ih1 e (List.mem_of_mem_take he)) σ
  have hT := fun j => wts_take (eEs xs) j
  rw [wE_mk, visitF]
  have key : ∀ σ1 : St, σ1.out.length ≤ σ.out.length + 1 + PV.wts (eEs xs) → (bif k == 13 || k == 18 then armFs ms σ1 else σ1).out.length ≤ σ.out.length + (t.size + 8 + PV.wts (ns.map eStr) + PV.wts (eTs ts) + PV.wts (eEs xs) + PV.wts (eAs ms)) := by
    intro σ1 h1
    have := hA σ1
    rw [armFs_eq]
    cases k == 13 || k == 18 <;> simp <;> omega
  cases decide (needsF k n xs.length < 0) with
  | true => simp <;> omega
  | false =>
  simp only [cond_false]
  cases decide ((xs.length : Int) < needsF k n xs.length) with
  | true => simp only [cond_true]; rw [visitFn_eq]; have := hV xs.length σ; have := hT xs.length; rw [eEs_take] at *; omega
  | false =>
  simp only [cond_false]
  refine key _ ?_
  cases k == 5 with
  | true => have := varF_out t σ; simp; omega
  | false =>
  cases k == 6 with
  | true =>
    simp only [cond_false, cond_true]
    match xs, ih1 with
    | [], _ => simp [letFs]; omega
    | [a], _ => simp [letFs]; omega
    | a :: b :: r, ih1 =>
      have h1 := ih1 a (by simp) σ
      have h2 := ih1 b (by simp) ((visitF a σ).inc [t])
      rw [inc_out] at h2
      rw [letFs, dec_out]
      simp only [eEs, PV.wts]
      unfold wE at h1 h2; omega
  | false =>
  cases k == 10 with
  | true =>
    simp only [cond_false, cond_true]
    match xs, ih1 with
    | [], _ => simp [funFs]; omega
    | a :: r, ih1 =>
      have h1 := ih1 a (by simp) (σ.inc ns)
      rw [inc_out] at h1
      rw [funFs, dec_out]
      simp only [eEs, PV.wts]
      unfold wE at h1; omega
  | false => simp only [cond_false]; rw [visitFn_eq]; have := hV (needsF k n xs.length).toNat σ; have := hT (needsF k n xs.length).toNat; rw [eEs_take] at *; omega

theorem visit_all (e : Ex) (he : wE e ≤ 1048640) (ih1 : ∀ a ∈ e.args, VisitS a) (ih2 : ∀ a ∈ e.arms, VisitS a.body) : VisitS e := by
  intro σ hσ
  obtain ⟨k0, n0, t0, ns0, ts0, as0, ms0, p0⟩ := e
  have hl := wE_lens k0 n0 t0 ns0 ts0 as0 ms0 p0
  have hwm := wE_mk k0 n0 t0 ns0 ts0 as0 ms0 p0
  simp only [Ex.args, Ex.arms] at ih1 ih2
  have hnd := needs_spec (Ex.mk k0 n0 t0 ns0 ts0 as0 ms0 p0)
  simp only [Ex.kind, Ex.num, Ex.args] at hnd
  generalize hR : visitF (Ex.mk k0 n0 t0 ns0 ts0 as0 ms0 p0) σ = R
  rw [visitF] at hR
  have hT := fun j => wts_take (eEs as0) j
  have hV := fun j σ => visitL_out (as0.take j) (fun e _ => visit_out e) σ
  have hcall : ∀ (j : Nat) (b : Ex) (σ' : St), as0[j]? = some b → σ'.out.length ≤ σ.out.length + PV.wts (eEs (as0.take j)) → σ'.out.length + wE b ≤ 2097152 := by
    intro j b σ' hb h
    have h1 := wts_take (eEs as0) (j + 1)
    rw [← eEs_take, take_snoc hb, eEs_app, PV.wts_append] at h1
    simp only [eEs, PV.wts] at h1
    unfold wE at hσ hwm ⊢
    omega
  generalize hnn : needsF k0 n0 as0.length = nd at hnd hR
  refine AMem.intro (tyOf_ok Tryd.prog) hmix Tryd.func35 rfl (by rfl) (by kernel_rfl) (by show 2 ≤ _; decide) rfl ?_
  conv => whnf
  refine apc hnd ?_
  conv => whnf
  refine asplit ?_ ?_ <;> intro h1 <;> conv => whnf
  · rw [h1, cond_true] at hR
    subst hR
    exact ⟨.inl rfl, ⟨.inl rfl, .inl rfl, .inl rfl, trivial⟩, ⟨rfl, rfl⟩, ⟨rfl, rfl⟩, trivial⟩
  rw [h1] at hR
  simp only [cond_false] at hR
  refine asplit ?_ ?_ <;> intro h2 <;> conv => whnf
  · have h2' : decide ((as0.length : Int) < nd) = true := by rw [← eEs_len as0]; exact h2
    rw [h2', cond_true, visitFn_eq, List.take_length] at hR
    refine loopS (tyOf_ok _) hmix (by kernel_rfl) as0.length [0, 3, 23, 24, 25] [1000000000, 1000000001, 1000000002, 3] (fun k (s : St) => [.ptr 1000000000 0, .ptr 3 0, .p (.sl 8 (eEs as0)), .p (.i .i64 (eEs as0).length), .p (.i .i64 (ix k))])
      (fun k s => [.cells [.mp 1000000001, .mp 1000000002, .so 1 (s.out.map eStr)], .map .ks (eM vB s.seen), .map .ks (eM vI s.bound), .cells [.p (.i .i64 k0), .p (.i .i64 n0), .p (.s t0), .p (.sl 1 (ns0.map eStr)), .p (.sl 3 (eTs ts0)), .p (.sl 8 (eEs as0)), .p (.sl 12 (eAs ms0)), .p (.i .i64 p0)]]) (fun k s => s = visitL (as0.take k) σ) σ ⟨rfl, rfl, rfl, rfl⟩ rfl ?_
    intro k s hk hs
    conv => whnf
    refine asplit ?_ ?_ <;> intro h3 <;> conv => whnf
    · have hk1 := ix_tt h3 (by rw [eEs_len]) hk (by omega)
      obtain ⟨b, hb1⟩ : ∃ b, as0[k]? = some b := ⟨as0[k], by simp [hk1]⟩
      refine aidxk (eEs_get hb1) (by omega) ?_
      have hc := ih1 b (List.mem_of_getElem? hb1) s (hcall k b s hb1 (by rw [hs]; exact hV k σ))
      have hts : visitL (as0.take (k + 1)) σ = visitF b s := by rw [take_snoc hb1, visitL_snoc, hs]
      generalize visitF b s = s' at hc hts
      obtain ⟨b1, b2, b3, b4, b5, b6, b7, b8⟩ := b
      conv => whnf
      refine amc [1000000000, 1000000001, 1000000002] 10000 hc ?_
      conv => whnf
      exact ⟨hk1, s', ⟨rfl, rfl, rfl, rfl⟩, hts.symm⟩
    · have hk1 := ix_ff h3 (by rw [eEs_len]) hk (by omega)
      have hs2 : visitL as0 σ = s := by rw [hs, hk1, List.take_length]
      rw [hs2] at hR
      subst hR
      exact ⟨.inl rfl, ⟨.inl rfl, .inl rfl, .inl rfl, trivial⟩, ⟨rfl, rfl⟩, ⟨rfl, rfl⟩, trivial⟩
  have h2' : decide ((as0.length : Int) < nd) = false := by rw [← eEs_len as0]; exact h2
  have hnl : nd ≤ as0.length := by have := of_decide_eq_false h2'; omega
  have hn0 : 0 ≤ nd := by have := of_decide_eq_false h1; omega
  rw [h2'] at hR
  simp only [cond_false] at hR
  refine asplit ?_ ?_ <;> intro h3 <;> conv => whnf
  · have h3 : (k0 == 5) = true := h3
    obtain rfl : k0 = 5 := by simpa using h3
    rw [show ((5 : Int) == 5) = true from rfl, show ((5 : Int) == 13 || (5 : Int) == 18) = false from rfl] at hR
    simp only [cond_false, cond_true] at hR
    rw [varF] at hR
    refine alook (mlook_I t0 σ.bound) ?_
    conv => whnf
    refine asplit ?_ ?_ <;> intro g1 <;> conv => whnf
    · have g1 : ((slook t0 σ.bound).getD 0 == 0) = true := g1
      refine alook (mlook_B t0 σ.seen) ?_
      conv => whnf
      refine aneed (by kernel_rfl) ?_
      conv => whnf
      refine asplit ?_ ?_ <;> intro g2 <;> conv => whnf
      · have g2 : (!((slook t0 σ.seen).getD false)) = true := g2
        rw [g1, g2, Bool.and_self, cond_true] at hR
        subst hR
        refine aneed (by kernel_rfl) ?_
        conv => whnf
        refine aneed (show ((σ.out.map eStr).length + 1) * 16 ≤ 140737488355328 by simp; omega) ?_
        conv => whnf
        refine aneed (by kernel_rfl) ?_
        conv => whnf
        refine ⟨.inl rfl, ⟨.inl rfl, .inl rfl, .inl ?_, trivial⟩, ⟨rfl, ?_⟩, ⟨rfl, rfl⟩, trivial⟩
        · simp only [List.map_append]; rfl
        · simp only; rw [← mput_eM]; rfl
      · have g2 : (!((slook t0 σ.seen).getD false)) = false := g2
        rw [g1, g2, Bool.and_false, cond_false] at hR
        subst hR
        exact ⟨.inl rfl, ⟨.inl rfl, .inl rfl, .inl rfl, trivial⟩, ⟨rfl, rfl⟩, ⟨rfl, rfl⟩, trivial⟩
    · have g1 : ((slook t0 σ.bound).getD 0 == 0) = false := g1
      rw [g1, Bool.false_and, cond_false] at hR
      subst hR
      refine aneed (by kernel_rfl) ?_
      conv => whnf
      exact ⟨.inl rfl, ⟨.inl rfl, .inl rfl, .inl rfl, trivial⟩, ⟨rfl, rfl⟩, ⟨rfl, rfl⟩, trivial⟩
  have h3 : (k0 == 5) = false := h3
  rw [h3] at hR
  simp only [cond_false] at hR
  refine asplit ?_ ?_ <;> intro h4 <;> conv => whnf
  · have h4 : (k0 == 6) = true := h4
    obtain rfl : k0 = 6 := by simpa using h4
    rw [show ((6 : Int) == 6) = true from rfl, show ((6 : Int) == 13 || (6 : Int) == 18) = false from rfl] at hR
    simp only [cond_false, cond_true] at hR
    obtain rfl : nd = 2 := by rw [← hnn]; rfl
    match as0, hnl with
    | [], hnl => simp at hnl
    | [a], hnl => simp at hnl
    | a :: b :: r, _ =>
      rw [letFs] at hR
      refine aidxi (x := eE a) (by decide) rfl ?_
      have hwa := wE_args (k := 6) (n := n0) (t := t0) (ns := ns0) (ts := ts0) (ms := ms0) (p := p0) (show a ∈ a :: b :: r by simp)
      have hwb := wE_args (k := 6) (n := n0) (t := t0) (ns := ns0) (ts := ts0) (ms := ms0) (p := p0) (show b ∈ a :: b :: r by simp)
      have g7 := ih1 a (by simp) σ (by omega)
      have ho := visit_out a σ
      simp only [eEs, PV.wts] at hwm
      have g8 := under_of [t0] b (by simp) (ih1 b (by simp)) (visitF a σ) (by unfold wE at hwm ho hσ ⊢; omega)
      rw [underF] at g8
      generalize visitF a σ = σ1 at g7 g8 hR
      rw [hR] at g8
      obtain ⟨a1, a2, a3, a4, a5, a6, a7, a8⟩ := a
      conv => whnf
      refine amc [1000000000, 1000000001, 1000000002] 10000 g7 ?_
      conv => whnf
      refine aidxi (x := eE b) (by decide) rfl ?_
      obtain ⟨b1, b2, b3, b4, b5, b6, b7, b8⟩ := b
      conv => whnf
      refine amc [1000000000, 1000000001, 1000000002] 10000 g8 ?_
      conv => whnf
      refine aneed (by kernel_rfl) ?_
      conv => whnf
      exact ⟨.inl rfl, ⟨.inl rfl, .inl rfl, .inl rfl, trivial⟩, ⟨rfl, rfl⟩, ⟨rfl, rfl⟩, trivial⟩
  have h4 : (k0 == 6) = false := h4
  rw [h4] at hR
  simp only [cond_false] at hR
  refine asplit ?_ ?_ <;> intro h5 <;> conv => whnf
  · have h5 : (k0 == 10) = true := h5
    obtain rfl : k0 = 10 := by simpa using h5
    rw [show ((10 : Int) == 10) = true from rfl, show ((10 : Int) == 13 || (10 : Int) == 18) = false from rfl] at hR
    simp only [cond_false, cond_true] at hR
    obtain rfl : nd = 1 := by rw [← hnn]; rfl
    match as0, hnl with
    | [], hnl => simp at hnl
    | a :: r, _ =>
      rw [funFs] at hR
      refine aidxi (x := eE a) (by decide) rfl ?_
      have hwa := wE_args (k := 10) (n := n0) (t := t0) (ns := ns0) (ts := ts0) (ms := ms0) (p := p0) (show a ∈ a :: r by simp)
      have g7 := under_of ns0 a (by omega) (ih1 a (by simp)) σ (by omega)
      rw [underF, hR] at g7
      obtain ⟨a1, a2, a3, a4, a5, a6, a7, a8⟩ := a
      conv => whnf
      refine amc [1000000000, 1000000001, 1000000002] 10000 g7 ?_
      conv => whnf
      refine aneed (by kernel_rfl) ?_
      conv => whnf
      exact ⟨.inl rfl, ⟨.inl rfl, .inl rfl, .inl rfl, trivial⟩, ⟨rfl, rfl⟩, ⟨rfl, rfl⟩, trivial⟩
  have h5 : (k0 == 10) = false := h5
  rw [h5] at hR
  simp only [cond_false] at hR
  rw [visitFn_eq] at hR
  have hnl2 : (as0.take nd.toNat).length = nd.toNat := by simp; omega
  refine aneed ⟨by omega, by omega, by rw [eEs_len]; omega⟩ ?_
  conv => whnf
  refine loopS (tyOf_ok _) hmix (by kernel_rfl) (as0.take nd.toNat).length [0, 3, 38, 39, 40] [1000000000, 1000000001, 1000000002, 3] (fun k (s : St) => [.ptr 1000000000 0, .ptr 3 0, .p (.sl 8 (eEs (as0.take nd.toNat))), .p (.i .i64 (eEs (as0.take nd.toNat)).length), .p (.i .i64 (ix k))])
    (fun k s => [.cells [.mp 1000000001, .mp 1000000002, .so 1 (s.out.map eStr)], .map .ks (eM vB s.seen), .map .ks (eM vI s.bound), .cells [.p (.i .i64 k0), .p (.i .i64 n0), .p (.s t0), .p (.sl 1 (ns0.map eStr)), .p (.sl 3 (eTs ts0)), .p (.sl 8 (eEs as0)), .p (.sl 12 (eAs ms0)), .p (.i .i64 p0)]]) (fun k s => s = visitL ((as0.take nd.toNat).take k) σ) σ ⟨rfl, by rw [eEs_take]; rfl, rfl, rfl⟩ rfl ?_
  intro k s hk hs
  conv => whnf
  refine asplit ?_ ?_ <;> intro h6 <;> conv => whnf
  · have hk1 := ix_tt h6 (by rw [eEs_len]) hk (by omega)
    obtain ⟨b, hb1⟩ : ∃ b, (as0.take nd.toNat)[k]? = some b := ⟨_, List.getElem?_eq_getElem hk1⟩
    refine aidxk (eEs_get hb1) (by omega) ?_
    have hb2 : as0[k]? = some b := by rw [List.getElem?_take] at hb1; split at hb1; exact hb1; cases hb1
    have hkt : (as0.take nd.toNat).take k = as0.take k := by rw [List.take_take, Nat.min_eq_left (by omega)]
    have hc := ih1 b (List.mem_of_getElem? hb2) s (hcall k b s hb2 (by rw [hs, hkt]; exact hV k σ))
    have hts : visitL ((as0.take nd.toNat).take (k + 1)) σ = visitF b s := by rw [take_snoc hb1, visitL_snoc, hs]
    generalize visitF b s = s' at hc hts
    obtain ⟨b1, b2, b3, b4, b5, b6, b7, b8⟩ := b
    conv => whnf
    refine amc [1000000000, 1000000001, 1000000002] 10000 hc ?_
    conv => whnf
    exact ⟨hk1, s', ⟨rfl, rfl, rfl, rfl⟩, hts.symm⟩
  · have hk1 := ix_ff h6 (by rw [eEs_len]) hk (by omega)
    have hs2 : visitL (as0.take nd.toNat) σ = s := by rw [hs, hk1, List.take_length]
    rw [hs2] at hR
    have hsl : s.out.length ≤ σ.out.length + PV.wts (eEs as0) := by
      have h1 := hV nd.toNat σ
      have h2 := hT nd.toNat
      rw [hs2, eEs_take] at h1; omega
    have hso := fun j => armL_out (ms0.take j) (fun a _ => visit_out a.body) s
    have harm : ∀ (j : Nat) (b : Arm) (σ' : St), ms0[j]? = some b → σ'.out.length ≤ s.out.length + PV.wts (eAs (ms0.take j)) → σ'.out.length + wE b.body ≤ 2097152 := by
      intro j b σ' hb h
      have h1 := wts_take (eAs ms0) (j + 1)
      rw [← eAs_take, take_snoc hb, eAs_app, PV.wts_append] at h1
      simp only [eAs, PV.wts] at h1
      have h2 := wA_body b
      unfold wA at h2
      omega
    refine asplit ?_ ?_ <;> intro h7 <;> conv => whnf
    · have h7 : (k0 == 13) = true := h7
      rw [h7, Bool.true_or, cond_true, armFs_eq] at hR
      refine loopS (tyOf_ok _) hmix (by kernel_rfl) ms0.length [0, 3, 121, 122, 123] [1000000000, 1000000001, 1000000002, 3] (fun k (s : St) => [.ptr 1000000000 0, .ptr 3 0, .p (.sl 12 (eAs ms0)), .p (.i .i64 (eAs ms0).length), .p (.i .i64 (ix k))])
        (fun k s => [.cells [.mp 1000000001, .mp 1000000002, .so 1 (s.out.map eStr)], .map .ks (eM vB s.seen), .map .ks (eM vI s.bound), .cells [.p (.i .i64 k0), .p (.i .i64 n0), .p (.s t0), .p (.sl 1 (ns0.map eStr)), .p (.sl 3 (eTs ts0)), .p (.sl 8 (eEs as0)), .p (.sl 12 (eAs ms0)), .p (.i .i64 p0)]]) (fun k s' => s' = armL (ms0.take k) s) s ⟨rfl, rfl, rfl, rfl⟩ rfl ?_
      intro j s3 hj hs3
      conv => whnf
      refine asplit ?_ ?_ <;> intro h9 <;> conv => whnf
      · have hj1 := ix_tt h9 (by rw [eAs_len]) hj (by omega)
        obtain ⟨b, hb1⟩ : ∃ b, ms0[j]? = some b := ⟨ms0[j], by simp [hj1]⟩
        refine aidxk (eAs_get hb1) (by omega) ?_
        have hbw := wE_body (k := k0) (n := n0) (t := t0) (ns := ns0) (ts := ts0) (xs := as0) (p := p0) (List.mem_of_getElem? hb1)
        have hbb := bound_le b.pat
        have hbs := bound_spec b.pat (by omega)
        have hc := under_of (boundF b.pat) b.body (by omega) (ih2 b (List.mem_of_getElem? hb1)) s3 (harm j b s3 hb1 (by rw [hs3]; exact hso j))
        have hts : armL (ms0.take (j + 1)) s = underF (boundF b.pat) b.body s3 := by rw [take_snoc hb1, armL_snoc, hs3]
        generalize underF (boundF b.pat) b.body s3 = s' at hc hts
        generalize boundF b.pat = bp at hbs hc hbb
        obtain ⟨⟨ck, cn, ct, ca⟩, ⟨c1, c2, c3, c4, c5, c6, c7, c8⟩⟩ := b
        conv => whnf
        refine apc hbs ?_
        conv => whnf
        refine amc [1000000000, 1000000001, 1000000002] 10000 hc ?_
        conv => whnf
        refine aneed (by kernel_rfl) ?_
        conv => whnf
        exact ⟨hj1, s', ⟨rfl, rfl, rfl, rfl⟩, hts.symm⟩
      · have hj1 := ix_ff h9 (by rw [eAs_len]) hj (by omega)
        have hs4 : armL ms0 s = s3 := by rw [hs3, hj1, List.take_length]
        rw [hs4] at hR
        subst hR
        exact ⟨.inl rfl, ⟨.inl rfl, .inl rfl, .inl rfl, trivial⟩, ⟨rfl, rfl⟩, ⟨rfl, rfl⟩, trivial⟩
    · have h7 : (k0 == 13) = false := h7
      rw [h7, Bool.false_or] at hR
      refine asplit ?_ ?_ <;> intro h8 <;> conv => whnf
      · have h8 : (k0 == 18) = true := h8
        rw [h8, cond_true, armFs_eq] at hR
        refine loopS (tyOf_ok _) hmix (by kernel_rfl) ms0.length [0, 3, 121, 122, 123] [1000000000, 1000000001, 1000000002, 3] (fun k (s : St) => [.ptr 1000000000 0, .ptr 3 0, .p (.sl 12 (eAs ms0)), .p (.i .i64 (eAs ms0).length), .p (.i .i64 (ix k))])
          (fun k s => [.cells [.mp 1000000001, .mp 1000000002, .so 1 (s.out.map eStr)], .map .ks (eM vB s.seen), .map .ks (eM vI s.bound), .cells [.p (.i .i64 k0), .p (.i .i64 n0), .p (.s t0), .p (.sl 1 (ns0.map eStr)), .p (.sl 3 (eTs ts0)), .p (.sl 8 (eEs as0)), .p (.sl 12 (eAs ms0)), .p (.i .i64 p0)]]) (fun k s' => s' = armL (ms0.take k) s) s ⟨rfl, rfl, rfl, rfl⟩ rfl ?_
        intro j s3 hj hs3
        conv => whnf
        refine asplit ?_ ?_ <;> intro h9 <;> conv => whnf
        · have hj1 := ix_tt h9 (by rw [eAs_len]) hj (by omega)
          obtain ⟨b, hb1⟩ : ∃ b, ms0[j]? = some b := ⟨ms0[j], by simp [hj1]⟩
          refine aidxk (eAs_get hb1) (by omega) ?_
          have hbw := wE_body (k := k0) (n := n0) (t := t0) (ns := ns0) (ts := ts0) (xs := as0) (p := p0) (List.mem_of_getElem? hb1)
          have hbb := bound_le b.pat
          have hbs := bound_spec b.pat (by omega)
          have hc := under_of (boundF b.pat) b.body (by omega) (ih2 b (List.mem_of_getElem? hb1)) s3 (harm j b s3 hb1 (by rw [hs3]; exact hso j))
          have hts : armL (ms0.take (j + 1)) s = underF (boundF b.pat) b.body s3 := by rw [take_snoc hb1, armL_snoc, hs3]
          generalize underF (boundF b.pat) b.body s3 = s' at hc hts
          generalize boundF b.pat = bp at hbs hc hbb
          obtain ⟨⟨ck, cn, ct, ca⟩, ⟨c1, c2, c3, c4, c5, c6, c7, c8⟩⟩ := b
          conv => whnf
          refine apc hbs ?_
          conv => whnf
          refine amc [1000000000, 1000000001, 1000000002] 10000 hc ?_
          conv => whnf
          refine aneed (by kernel_rfl) ?_
          conv => whnf
          exact ⟨hj1, s', ⟨rfl, rfl, rfl, rfl⟩, hts.symm⟩
        · have hj1 := ix_ff h9 (by rw [eAs_len]) hj (by omega)
          have hs4 : armL ms0 s = s3 := by rw [hs3, hj1, List.take_length]
          rw [hs4] at hR
          subst hR
          exact ⟨.inl rfl, ⟨.inl rfl, .inl rfl, .inl rfl, trivial⟩, ⟨rfl, rfl⟩, ⟨rfl, rfl⟩, trivial⟩
      · have h8 : (k0 == 18) = false := h8
        rw [h8, cond_false] at hR
        subst hR
        exact ⟨.inl rfl, ⟨.inl rfl, .inl rfl, .inl rfl, trivial⟩, ⟨rfl, rfl⟩, ⟨rfl, rfl⟩, trivial⟩
theorem visit_spec (e : Ex) : wE e ≤ 1048640 → VisitS e :=
  Ex.ind (Q := fun e => wE e ≤ 1048640 → VisitS e) (fun k n t ns ts xs ms p h1 h2 h => visit_all (.mk k n t ns ts xs ms p) h (fun a ha => h1 a ha (by have := wE_args (k := k) (n := n) (t := t) (ns := ns) (ts := ts) (ms := ms) (p := p) (show a ∈ xs from ha); omega))
    (fun a ha => h2 a ha (by have := wE_body (k := k) (n := n) (t := t) (ns := ns) (ts := ts) (xs := xs) (p := p) (show a ∈ ms from ha); omega))) e

/-- Free -/
def freeF (e : Ex) : List ByteArray := (visitF e ⟨[], [], []⟩).out
theorem free_spec (e : Ex) (he : wE e ≤ 1048640) : APure Tryd.prog 14 [.p (eE e)] (.p (.sl 1 ((freeF e).map eStr))) := by
  have h1 := visit_spec e he ⟨[], [], []⟩ (by simp; omega)
  rw [freeF]
  generalize visitF e ⟨[], [], []⟩ = σ at h1
  obtain ⟨k0, n0, t0, ns0, ts0, as0, ms0, p0⟩ := e
  refine APure.intro (tyOf_ok Tryd.prog) hmix Tryd.func14 rfl (by rfl) (by kernel_rfl) (by show 1 ≤ _; decide) rfl ?_
  conv => whnf
  refine amcl [3, 4, 5] 10000 h1 ?_ ?_
  · conv => whnf
    exact .inr (.inl rfl)
  · exact ⟨rfl, ⟨.inl rfl, .inl rfl, .inr (.inr ⟨rfl, 0, rfl⟩), trivial⟩, rfl, ⟨rfl, rfl⟩, rfl, ⟨rfl, rfl⟩, trivial⟩
end TR

