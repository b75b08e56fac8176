/-
  DERIVED. Contracts of the functions that the law reaches, and the law itself, for every input. No conditions.
-/
import Derived.Test.YtbggmlepkjbbhaaDoorTR6
import Derived.Test.YtbggmlepkjbbhaaDoorTKD
import Derived.Test.YtbggmlepkjbbhaaDoorTK3
open Go Go.AM
set_option maxRecDepth 100000
namespace TR
/-! programs, whole -/
structure LUse where
  name : ByteArray
  low : Int
  high : Int
structure LMk where
  name : ByteArray
  ts : List Ty
structure LDt where
  name : ByteArray
  ps : List ByteArray
  makes : List LMk
structure LFu where
  name : ByteArray
  ps : List ByteArray
  ns : List ByteArray
  ts : List Ty
  out : Ty
  body : Ex
structure LTr where
  name : ByteArray
  funcs : List LFu
structure LIm where
  tr : ByteArray
  fo : ByteArray
  funcs : List LFu
structure LAc where
  name : ByteArray
  ns : List ByteArray
  ts : List Ty
  msg : Ty
  body : Ex
structure LPg where
  name : ByteArray
  ver : Int
  uses : List LUse
  datas : List LDt
  traits : List LTr
  impls : List LIm
  funcs : List LFu
  actors : List LAc
def elUse (u : LUse) : PV := .agg [.s u.name, .i .i64 u.low, .i .i64 u.high]
def elMk (m : LMk) : PV := .agg [.s m.name, .sl 3 (eTs m.ts)]
def elDt (m : LDt) : PV := .agg [.s m.name, .sl 1 (m.ps.map eStr), .sl 2 (m.makes.map elMk)]
def elFu (f : LFu) : PV := .agg (.s f.name :: .sl 1 (f.ps.map eStr) :: .sl 1 (f.ns.map eStr) :: .sl 3 (eTs f.ts) :: ((eT f.out).cells ++ (eE f.body).cells))
def elTr (m : LTr) : PV := .agg [.s m.name, .sl 15 (m.funcs.map elFu)]
def elIm (m : LIm) : PV := .agg [.s m.tr, .s m.fo, .sl 15 (m.funcs.map elFu)]
def elAc (f : LAc) : PV := .agg (.s f.name :: .sl 1 (f.ns.map eStr) :: .sl 3 (eTs f.ts) :: ((eT f.msg).cells ++ (eE f.body).cells))
def elPg (p : LPg) : PV := .agg [.s p.name, .i .i64 p.ver, .sl 3 (p.uses.map elUse), .sl 3 (p.datas.map elDt), .sl 2 (p.traits.map elTr), .sl 3 (p.impls.map elIm), .sl 15 (p.funcs.map elFu), .sl 14 (p.actors.map elAc)]
def wlFu (f : LFu) : Nat := PV.wt (elFu f)
theorem wlFu_eq (f : LFu) : wlFu f = f.name.size + 1 + (PV.wts (f.ps.map eStr) + 1) + (PV.wts (f.ns.map eStr) + 1) + (PV.wts (eTs f.ts) + 1) + wT f.out + wE f.body := by
  simp only [wlFu, elFu, PV.wt, PV.wts, PV.wts_append, wt_cells]; unfold wT wE; omega
theorem wlAc_eq (f : LAc) : PV.wt (elAc f) = f.name.size + 1 + (PV.wts (f.ns.map eStr) + 1) + (PV.wts (eTs f.ts) + 1) + wT f.msg + wE f.body := by
  simp only [elAc, PV.wt, PV.wts, PV.wts_append, wt_cells]; unfold wT wE; omega
theorem wlMk_eq (m : LMk) : PV.wt (elMk m) = m.name.size + 1 + (PV.wts (eTs m.ts) + 1) := by
  simp only [elMk, PV.wt, PV.wts] <;> try omega
theorem wlDt_eq (m : LDt) : PV.wt (elDt m) = m.name.size + 1 + (PV.wts (m.ps.map eStr) + 1) + (PV.wts (m.makes.map elMk) + 1) := by
  simp only [elDt, PV.wt, PV.wts] <;> try omega
theorem wlTr_eq (m : LTr) : PV.wt (elTr m) = m.name.size + 1 + (PV.wts (m.funcs.map elFu) + 1) := by
  simp only [elTr, PV.wt, PV.wts] <;> try omega
theorem wlIm_eq (m : LIm) : PV.wt (elIm m) = m.tr.size + 1 + (m.fo.size + 1) + (PV.wts (m.funcs.map elFu) + 1) := by
  simp only [elIm, PV.wt, PV.wts] <;> try omega
theorem wlUse_eq (u : LUse) : PV.wt (elUse u) = u.name.size + 3 := by
  simp only [elUse, PV.wt, PV.wts] <;> try omega
def wlPg (p : LPg) : Nat := PV.wt (elPg p)
theorem wlPg_eq (p : LPg) : wlPg p = p.name.size + 1 + 1 + (PV.wts (p.uses.map elUse) + 1) + (PV.wts (p.datas.map elDt) + 1) + (PV.wts (p.traits.map elTr) + 1) + (PV.wts (p.impls.map elIm) + 1) + (PV.wts (p.funcs.map elFu) + 1) + (PV.wts (p.actors.map elAc) + 1) := by
  simp only [wlPg, elPg, PV.wt, PV.wts] <;> try omega
theorem l_wts {α : Type} (f : α → PV) (h : ∀ x, 1 ≤ PV.wt (f x)) : ∀ (l : List α), l.length ≤ PV.wts (l.map f)
  | [] => by simp
  | x :: r => by have := h x; have := l_wts f h r; simp only [List.map_cons, PV.wts, List.length_cons]; omega
theorem l_mem {α : Type} (f : α → PV) {x : α} {l : List α} (h : x ∈ l) : PV.wt (f x) ≤ PV.wts (l.map f) := wts_mem (List.mem_map.2 ⟨x, h, rfl⟩)
/-! what is right -/
def eachF {α : Type} (φ : α → Int) : List α → Int
  | [] => 0
  | x :: r => bif φ x == 0 then eachF φ r else φ x
def orF : List Int → Int := eachF id
def lowB (s : ByteArray) : Bool := TK.lowF s.data.toList
def upB (s : ByteArray) : Bool := TK.upF s.data.toList
def plainF (n : Int) : Bool := decide (n ≥ 0) && decide (n ≤ 1000000)
def whenF (b : Bool) (e : Int) : Int := bif b then e else 0
def rUse (u : LUse) : Int := whenF (!lowB u.name || (!plainF u.low || (!plainF u.high || decide (u.low > u.high)))) 3
def rNames (l : List ByteArray) : Int := bif decide (l.length > 6) then 2 else eachF (fun s => whenF (!lowB s) 3) l
def isS (s : ByteArray) (l : Bs) : Bool := s.data.toList == l
def builtB (s : ByteArray) : Bool := isS s [82, 101, 102] || isS s [67, 101, 108, 108]
def goodT (k : Int) (n : ByteArray) (len : Nat) : Bool :=
  bif k == 5 then (len == 0 && (lowB n || isS n [115, 101, 108, 102]))
  else bif k == 6 then (upB n && (!builtB n && decide (len ≤ 6)))
  else bif k == 7 then (decide (len > 0) && isS n [])
  else bif k == 8 || k == 9 then (len == 1 && isS n [])
  else (len == 0 && isS n [])
mutual
def rT : Ty → Nat → Int
  | .mk k n xs, lv => bif decide (lv > 40) then 2 else bif decide (k < 1) || decide (k > 9) then 3 else bif decide (xs.length > 7) then 2 else bif goodT k n xs.length then rTs xs (lv + 1) else 3
def rTs : List Ty → Nat → Int
  | [], _ => 0
  | t :: r, lv => bif rT t lv == 0 then rTs r lv else rT t lv
end
theorem rTs_each (lv : Nat) : ∀ (l : List Ty), rTs l lv = eachF (fun t => rT t lv) l
  | [] => by rw [rTs, eachF]
  | t :: r => by rw [rTs, eachF, rTs_each lv r]
def rTypes (l : List Ty) : Int := eachF (fun t => rT t 1) l
end TR
open Go Go.AM Go.Proofs
set_option maxRecDepth 100000
namespace TR
theorem eachF_drop {α : Type} (φ : α → Int) (l : List α) (k : Nat) (x : α) (h : l[k]? = some x) : eachF φ (l.drop k) = bif φ x == 0 then eachF φ (l.drop (k + 1)) else φ x := by
  rw [drop_cons h, eachF]
theorem ne0 {x : Int} (h : (x != 0) = true) : (x == 0) = false := by simpa [bne] using h
theorem eq0 {x : Int} (h : (x != 0) = false) : (x == 0) = true := by simpa [bne] using h
/-! each: the first error -/
theorem eachUse (l : List LUse) (f : Nat) (φ : LUse → Int) (hl : l.length ≤ 1048576) (h : ∀ x ∈ l, APure Tryd.prog f [.p (elUse x)] (.p (.i .i64 (φ x)))) (R : Int) (hR : eachF φ l = R) :
    APure Tryd.prog 26 [.p (.sl 3 (l.map elUse)), .fn f [] []] (.p (.i .i64 R)) := by
  refine APure.intro (tyOf_ok Tryd.prog) hmix Tryd.func26 rfl (by rfl) (by kernel_rfl) (by show 2 ≤ _; decide) rfl ?_
  conv => whnf
  refine loopS (tyOf_ok _) hmix (by kernel_rfl) l.length [1, 8, 9, 10] [] (fun k _ => [.fn f [] [], .p (.sl 3 (l.map elUse)), .p (.i .i64 (l.map elUse).length), .p (.i .i64 (ix k))]) (fun _ _ => []) (fun k _ => eachF φ (l.drop k) = R) () ⟨rfl, rfl, rfl, rfl⟩ hR ?_
  intro k s hk hs
  conv => whnf
  refine asplit ?_ ?_ <;> intro h1 <;> conv => whnf
  · have hk1 := ix_tt h1 (by simp) hk (by omega)
    obtain ⟨x, hx⟩ : ∃ b, l[k]? = some b := ⟨_, List.getElem?_eq_getElem hk1⟩
    have hc := h x (List.mem_of_getElem? hx)
    rw [eachF_drop φ l k x hx] at hs
    refine aidxk (x := elUse x) (by simp [hx]) (by omega) ?_
    generalize φ x = r at hc hs
    obtain ⟨a, b, c⟩ := x
    conv => whnf
    refine apc hc ?_
    conv => whnf
    refine asplit ?_ ?_ <;> intro h2 <;> conv => whnf
    · rw [ne0 h2, cond_false] at hs
      exact .inl (pi hs)
    · rw [eq0 h2, cond_true] at hs
      exact ⟨hk1, (), ⟨rfl, rfl, rfl, rfl⟩, hs⟩
  · have hk1 := ix_ff h1 (by simp) hk (by omega)
    rw [hk1, List.drop_length, eachF] at hs
    exact .inl (pi hs)
theorem eachDt (l : List LDt) (f : Nat) (φ : LDt → Int) (hl : l.length ≤ 1048576) (h : ∀ x ∈ l, APure Tryd.prog f [.p (elDt x)] (.p (.i .i64 (φ x)))) (R : Int) (hR : eachF φ l = R) :
    APure Tryd.prog 28 [.p (.sl 3 (l.map elDt)), .fn f [] []] (.p (.i .i64 R)) := by
  refine APure.intro (tyOf_ok Tryd.prog) hmix Tryd.func28 rfl (by rfl) (by kernel_rfl) (by show 2 ≤ _; decide) rfl ?_
  conv => whnf
  refine loopS (tyOf_ok _) hmix (by kernel_rfl) l.length [1, 8, 9, 10] [] (fun k _ => [.fn f [] [], .p (.sl 3 (l.map elDt)), .p (.i .i64 (l.map elDt).length), .p (.i .i64 (ix k))]) (fun _ _ => []) (fun k _ => eachF φ (l.drop k) = R) () ⟨rfl, rfl, rfl, rfl⟩ hR ?_
  intro k s hk hs
  conv => whnf
  refine asplit ?_ ?_ <;> intro h1 <;> conv => whnf
  · have hk1 := ix_tt h1 (by simp) hk (by omega)
    obtain ⟨x, hx⟩ : ∃ b, l[k]? = some b := ⟨_, List.getElem?_eq_getElem hk1⟩
    have hc := h x (List.mem_of_getElem? hx)
    rw [eachF_drop φ l k x hx] at hs
    refine aidxk (x := elDt x) (by simp [hx]) (by omega) ?_
    generalize φ x = r at hc hs
    obtain ⟨a, b, c⟩ := x
    conv => whnf
    refine apc hc ?_
    conv => whnf
    refine asplit ?_ ?_ <;> intro h2 <;> conv => whnf
    · rw [ne0 h2, cond_false] at hs
      exact .inl (pi hs)
    · rw [eq0 h2, cond_true] at hs
      exact ⟨hk1, (), ⟨rfl, rfl, rfl, rfl⟩, hs⟩
  · have hk1 := ix_ff h1 (by simp) hk (by omega)
    rw [hk1, List.drop_length, eachF] at hs
    exact .inl (pi hs)
theorem eachTr (l : List LTr) (f : Nat) (φ : LTr → Int) (hl : l.length ≤ 1048576) (h : ∀ x ∈ l, APure Tryd.prog f [.p (elTr x)] (.p (.i .i64 (φ x)))) (R : Int) (hR : eachF φ l = R) :
    APure Tryd.prog 30 [.p (.sl 2 (l.map elTr)), .fn f [] []] (.p (.i .i64 R)) := by
  refine APure.intro (tyOf_ok Tryd.prog) hmix Tryd.func30 rfl (by rfl) (by kernel_rfl) (by show 2 ≤ _; decide) rfl ?_
  conv => whnf
  refine loopS (tyOf_ok _) hmix (by kernel_rfl) l.length [1, 8, 9, 10] [] (fun k _ => [.fn f [] [], .p (.sl 2 (l.map elTr)), .p (.i .i64 (l.map elTr).length), .p (.i .i64 (ix k))]) (fun _ _ => []) (fun k _ => eachF φ (l.drop k) = R) () ⟨rfl, rfl, rfl, rfl⟩ hR ?_
  intro k s hk hs
  conv => whnf
  refine asplit ?_ ?_ <;> intro h1 <;> conv => whnf
  · have hk1 := ix_tt h1 (by simp) hk (by omega)
    obtain ⟨x, hx⟩ : ∃ b, l[k]? = some b := ⟨_, List.getElem?_eq_getElem hk1⟩
    have hc := h x (List.mem_of_getElem? hx)
    rw [eachF_drop φ l k x hx] at hs
    refine aidxk (x := elTr x) (by simp [hx]) (by omega) ?_
    generalize φ x = r at hc hs
    obtain ⟨a, b⟩ := x
    conv => whnf
    refine apc hc ?_
    conv => whnf
    refine asplit ?_ ?_ <;> intro h2 <;> conv => whnf
    · rw [ne0 h2, cond_false] at hs
      exact .inl (pi hs)
    · rw [eq0 h2, cond_true] at hs
      exact ⟨hk1, (), ⟨rfl, rfl, rfl, rfl⟩, hs⟩
  · have hk1 := ix_ff h1 (by simp) hk (by omega)
    rw [hk1, List.drop_length, eachF] at hs
    exact .inl (pi hs)
theorem eachIm (l : List LIm) (f : Nat) (φ : LIm → Int) (hl : l.length ≤ 1048576) (h : ∀ x ∈ l, APure Tryd.prog f [.p (elIm x)] (.p (.i .i64 (φ x)))) (R : Int) (hR : eachF φ l = R) :
    APure Tryd.prog 32 [.p (.sl 3 (l.map elIm)), .fn f [] []] (.p (.i .i64 R)) := by
  refine APure.intro (tyOf_ok Tryd.prog) hmix Tryd.func32 rfl (by rfl) (by kernel_rfl) (by show 2 ≤ _; decide) rfl ?_
  conv => whnf
  refine loopS (tyOf_ok _) hmix (by kernel_rfl) l.length [1, 8, 9, 10] [] (fun k _ => [.fn f [] [], .p (.sl 3 (l.map elIm)), .p (.i .i64 (l.map elIm).length), .p (.i .i64 (ix k))]) (fun _ _ => []) (fun k _ => eachF φ (l.drop k) = R) () ⟨rfl, rfl, rfl, rfl⟩ hR ?_
  intro k s hk hs
  conv => whnf
  refine asplit ?_ ?_ <;> intro h1 <;> conv => whnf
  · have hk1 := ix_tt h1 (by simp) hk (by omega)
    obtain ⟨x, hx⟩ : ∃ b, l[k]? = some b := ⟨_, List.getElem?_eq_getElem hk1⟩
    have hc := h x (List.mem_of_getElem? hx)
    rw [eachF_drop φ l k x hx] at hs
    refine aidxk (x := elIm x) (by simp [hx]) (by omega) ?_
    generalize φ x = r at hc hs
    obtain ⟨a, b, c⟩ := x
    conv => whnf
    refine apc hc ?_
    conv => whnf
    refine asplit ?_ ?_ <;> intro h2 <;> conv => whnf
    · rw [ne0 h2, cond_false] at hs
      exact .inl (pi hs)
    · rw [eq0 h2, cond_true] at hs
      exact ⟨hk1, (), ⟨rfl, rfl, rfl, rfl⟩, hs⟩
  · have hk1 := ix_ff h1 (by simp) hk (by omega)
    rw [hk1, List.drop_length, eachF] at hs
    exact .inl (pi hs)
theorem eachFu (l : List LFu) (f : Nat) (φ : LFu → Int) (hl : l.length ≤ 1048576) (h : ∀ x ∈ l, APure Tryd.prog f [.p (elFu x)] (.p (.i .i64 (φ x)))) (R : Int) (hR : eachF φ l = R) :
    APure Tryd.prog 34 [.p (.sl 15 (l.map elFu)), .fn f [] []] (.p (.i .i64 R)) := by
  refine APure.intro (tyOf_ok Tryd.prog) hmix Tryd.func34 rfl (by rfl) (by kernel_rfl) (by show 2 ≤ _; decide) rfl ?_
  conv => whnf
  refine loopS (tyOf_ok _) hmix (by kernel_rfl) l.length [1, 8, 9, 10] [] (fun k _ => [.fn f [] [], .p (.sl 15 (l.map elFu)), .p (.i .i64 (l.map elFu).length), .p (.i .i64 (ix k))]) (fun _ _ => []) (fun k _ => eachF φ (l.drop k) = R) () ⟨rfl, rfl, rfl, rfl⟩ hR ?_
  intro k s hk hs
  conv => whnf
  refine asplit ?_ ?_ <;> intro h1 <;> conv => whnf
  · have hk1 := ix_tt h1 (by simp) hk (by omega)
    obtain ⟨x, hx⟩ : ∃ b, l[k]? = some b := ⟨_, List.getElem?_eq_getElem hk1⟩
    have hc := h x (List.mem_of_getElem? hx)
    rw [eachF_drop φ l k x hx] at hs
    refine aidxk (x := elFu x) (by simp [hx]) (by omega) ?_
    generalize φ x = r at hc hs
    obtain ⟨a, b, c, d, ⟨e1, e2, e3⟩, ⟨x1, x2, x3, x4, x5, x6, x7, x8⟩⟩ := x
    conv => whnf
    refine apc hc ?_
    conv => whnf
    refine asplit ?_ ?_ <;> intro h2 <;> conv => whnf
    · rw [ne0 h2, cond_false] at hs
      exact .inl (pi hs)
    · rw [eq0 h2, cond_true] at hs
      exact ⟨hk1, (), ⟨rfl, rfl, rfl, rfl⟩, hs⟩
  · have hk1 := ix_ff h1 (by simp) hk (by omega)
    rw [hk1, List.drop_length, eachF] at hs
    exact .inl (pi hs)
theorem eachAc (l : List LAc) (f : Nat) (φ : LAc → Int) (hl : l.length ≤ 1048576) (h : ∀ x ∈ l, APure Tryd.prog f [.p (elAc x)] (.p (.i .i64 (φ x)))) (R : Int) (hR : eachF φ l = R) :
    APure Tryd.prog 36 [.p (.sl 14 (l.map elAc)), .fn f [] []] (.p (.i .i64 R)) := by
  refine APure.intro (tyOf_ok Tryd.prog) hmix Tryd.func36 rfl (by rfl) (by kernel_rfl) (by show 2 ≤ _; decide) rfl ?_
  conv => whnf
  refine loopS (tyOf_ok _) hmix (by kernel_rfl) l.length [1, 8, 9, 10] [] (fun k _ => [.fn f [] [], .p (.sl 14 (l.map elAc)), .p (.i .i64 (l.map elAc).length), .p (.i .i64 (ix k))]) (fun _ _ => []) (fun k _ => eachF φ (l.drop k) = R) () ⟨rfl, rfl, rfl, rfl⟩ hR ?_
  intro k s hk hs
  conv => whnf
  refine asplit ?_ ?_ <;> intro h1 <;> conv => whnf
  · have hk1 := ix_tt h1 (by simp) hk (by omega)
    obtain ⟨x, hx⟩ : ∃ b, l[k]? = some b := ⟨_, List.getElem?_eq_getElem hk1⟩
    have hc := h x (List.mem_of_getElem? hx)
    rw [eachF_drop φ l k x hx] at hs
    refine aidxk (x := elAc x) (by simp [hx]) (by omega) ?_
    generalize φ x = r at hc hs
    obtain ⟨a, b, c, ⟨e1, e2, e3⟩, ⟨x1, x2, x3, x4, x5, x6, x7, x8⟩⟩ := x
    conv => whnf
    refine apc hc ?_
    conv => whnf
    refine asplit ?_ ?_ <;> intro h2 <;> conv => whnf
    · rw [ne0 h2, cond_false] at hs
      exact .inl (pi hs)
    · rw [eq0 h2, cond_true] at hs
      exact ⟨hk1, (), ⟨rfl, rfl, rfl, rfl⟩, hs⟩
  · have hk1 := ix_ff h1 (by simp) hk (by omega)
    rw [hk1, List.drop_length, eachF] at hs
    exact .inl (pi hs)
theorem eachMk (l : List LMk) (f : Nat) (φ : LMk → Int) (hl : l.length ≤ 1048576) (h : ∀ x ∈ l, APure Tryd.prog f [.p (elMk x)] (.p (.i .i64 (φ x)))) (R : Int) (hR : eachF φ l = R) :
    APure Tryd.prog 49 [.p (.sl 2 (l.map elMk)), .fn f [] []] (.p (.i .i64 R)) := by
  refine APure.intro (tyOf_ok Tryd.prog) hmix Tryd.func49 rfl (by rfl) (by kernel_rfl) (by show 2 ≤ _; decide) rfl ?_
  conv => whnf
  refine loopS (tyOf_ok _) hmix (by kernel_rfl) l.length [1, 8, 9, 10] [] (fun k _ => [.fn f [] [], .p (.sl 2 (l.map elMk)), .p (.i .i64 (l.map elMk).length), .p (.i .i64 (ix k))]) (fun _ _ => []) (fun k _ => eachF φ (l.drop k) = R) () ⟨rfl, rfl, rfl, rfl⟩ hR ?_
  intro k s hk hs
  conv => whnf
  refine asplit ?_ ?_ <;> intro h1 <;> conv => whnf
  · have hk1 := ix_tt h1 (by simp) hk (by omega)
    obtain ⟨x, hx⟩ : ∃ b, l[k]? = some b := ⟨_, List.getElem?_eq_getElem hk1⟩
    have hc := h x (List.mem_of_getElem? hx)
    rw [eachF_drop φ l k x hx] at hs
    refine aidxk (x := elMk x) (by simp [hx]) (by omega) ?_
    generalize φ x = r at hc hs
    obtain ⟨a, b⟩ := x
    conv => whnf
    refine apc hc ?_
    conv => whnf
    refine asplit ?_ ?_ <;> intro h2 <;> conv => whnf
    · rw [ne0 h2, cond_false] at hs
      exact .inl (pi hs)
    · rw [eq0 h2, cond_true] at hs
      exact ⟨hk1, (), ⟨rfl, rfl, rfl, rfl⟩, hs⟩
  · have hk1 := ix_ff h1 (by simp) hk (by omega)
    rw [hk1, List.drop_length, eachF] at hs
    exact .inl (pi hs)
theorem eachStr (l : List ByteArray) (f : Nat) (φ : ByteArray → Int) (hl : l.length ≤ 1048576) (h : ∀ x ∈ l, APure Tryd.prog f [.p (eStr x)] (.p (.i .i64 (φ x)))) (R : Int) (hR : eachF φ l = R) :
    APure Tryd.prog 64 [.p (.sl 1 (l.map eStr)), .fn f [] []] (.p (.i .i64 R)) := by
  refine APure.intro (tyOf_ok Tryd.prog) hmix Tryd.func64 rfl (by rfl) (by kernel_rfl) (by show 2 ≤ _; decide) rfl ?_
  conv => whnf
  refine loopS (tyOf_ok _) hmix (by kernel_rfl) l.length [1, 8, 9, 10] [] (fun k _ => [.fn f [] [], .p (.sl 1 (l.map eStr)), .p (.i .i64 (l.map eStr).length), .p (.i .i64 (ix k))]) (fun _ _ => []) (fun k _ => eachF φ (l.drop k) = R) () ⟨rfl, rfl, rfl, rfl⟩ hR ?_
  intro k s hk hs
  conv => whnf
  refine asplit ?_ ?_ <;> intro h1 <;> conv => whnf
  · have hk1 := ix_tt h1 (by simp) hk (by omega)
    obtain ⟨x, hx⟩ : ∃ b, l[k]? = some b := ⟨_, List.getElem?_eq_getElem hk1⟩
    have hc := h x (List.mem_of_getElem? hx)
    rw [eachF_drop φ l k x hx] at hs
    refine aidxk (x := eStr x) (by simp [hx]) (by omega) ?_
    generalize φ x = r at hc hs
    obtain ⟨a⟩ := x
    conv => whnf
    refine apc hc ?_
    conv => whnf
    refine asplit ?_ ?_ <;> intro h2 <;> conv => whnf
    · rw [ne0 h2, cond_false] at hs
      exact .inl (pi hs)
    · rw [eq0 h2, cond_true] at hs
      exact ⟨hk1, (), ⟨rfl, rfl, rfl, rfl⟩, hs⟩
  · have hk1 := ix_ff h1 (by simp) hk (by omega)
    rw [hk1, List.drop_length, eachF] at hs
    exact .inl (pi hs)
theorem eachTy (l : List Ty) (f : Nat) (φ : Ty → Int) (hl : l.length ≤ 1048576) (h : ∀ x ∈ l, APure Tryd.prog f [.p (eT x)] (.p (.i .i64 (φ x)))) (R : Int) (hR : eachF φ l = R) :
    APure Tryd.prog 66 [.p (.sl 3 (l.map eT)), .fn f [] []] (.p (.i .i64 R)) := by
  refine APure.intro (tyOf_ok Tryd.prog) hmix Tryd.func66 rfl (by rfl) (by kernel_rfl) (by show 2 ≤ _; decide) rfl ?_
  conv => whnf
  refine loopS (tyOf_ok _) hmix (by kernel_rfl) l.length [1, 8, 9, 10] [] (fun k _ => [.fn f [] [], .p (.sl 3 (l.map eT)), .p (.i .i64 (l.map eT).length), .p (.i .i64 (ix k))]) (fun _ _ => []) (fun k _ => eachF φ (l.drop k) = R) () ⟨rfl, rfl, rfl, rfl⟩ hR ?_
  intro k s hk hs
  conv => whnf
  refine asplit ?_ ?_ <;> intro h1 <;> conv => whnf
  · have hk1 := ix_tt h1 (by simp) hk (by omega)
    obtain ⟨x, hx⟩ : ∃ b, l[k]? = some b := ⟨_, List.getElem?_eq_getElem hk1⟩
    have hc := h x (List.mem_of_getElem? hx)
    rw [eachF_drop φ l k x hx] at hs
    refine aidxk (x := eT x) (by simp [hx]) (by omega) ?_
    generalize φ x = r at hc hs
    obtain ⟨a, b, c⟩ := x
    conv => whnf
    refine apc hc ?_
    conv => whnf
    refine asplit ?_ ?_ <;> intro h2 <;> conv => whnf
    · rw [ne0 h2, cond_false] at hs
      exact .inl (pi hs)
    · rw [eq0 h2, cond_true] at hs
      exact ⟨hk1, (), ⟨rfl, rfl, rfl, rfl⟩, hs⟩
  · have hk1 := ix_ff h1 (by simp) hk (by omega)
    rw [hk1, List.drop_length, eachF] at hs
    exact .inl (pi hs)
theorem eachPt (l : List Pt) (f : Nat) (φ : Pt → Int) (hl : l.length ≤ 1048576) (h : ∀ x ∈ l, APure Tryd.prog f [.p (eP x)] (.p (.i .i64 (φ x)))) (R : Int) (hR : eachF φ l = R) :
    APure Tryd.prog 84 [.p (.sl 4 (l.map eP)), .fn f [] []] (.p (.i .i64 R)) := by
  refine APure.intro (tyOf_ok Tryd.prog) hmix Tryd.func84 rfl (by rfl) (by kernel_rfl) (by show 2 ≤ _; decide) rfl ?_
  conv => whnf
  refine loopS (tyOf_ok _) hmix (by kernel_rfl) l.length [1, 8, 9, 10] [] (fun k _ => [.fn f [] [], .p (.sl 4 (l.map eP)), .p (.i .i64 (l.map eP).length), .p (.i .i64 (ix k))]) (fun _ _ => []) (fun k _ => eachF φ (l.drop k) = R) () ⟨rfl, rfl, rfl, rfl⟩ hR ?_
  intro k s hk hs
  conv => whnf
  refine asplit ?_ ?_ <;> intro h1 <;> conv => whnf
  · have hk1 := ix_tt h1 (by simp) hk (by omega)
    obtain ⟨x, hx⟩ : ∃ b, l[k]? = some b := ⟨_, List.getElem?_eq_getElem hk1⟩
    have hc := h x (List.mem_of_getElem? hx)
    rw [eachF_drop φ l k x hx] at hs
    refine aidxk (x := eP x) (by simp [hx]) (by omega) ?_
    generalize φ x = r at hc hs
    obtain ⟨a, b, c, d⟩ := x
    conv => whnf
    refine apc hc ?_
    conv => whnf
    refine asplit ?_ ?_ <;> intro h2 <;> conv => whnf
    · rw [ne0 h2, cond_false] at hs
      exact .inl (pi hs)
    · rw [eq0 h2, cond_true] at hs
      exact ⟨hk1, (), ⟨rfl, rfl, rfl, rfl⟩, hs⟩
  · have hk1 := ix_ff h1 (by simp) hk (by omega)
    rw [hk1, List.drop_length, eachF] at hs
    exact .inl (pi hs)
/-! .. with a function that reads a variable -/
theorem eachvTy (l : List Ty) (f : Nat) (lv : Nat) (φ : Ty → Int) (hl : l.length ≤ 1048576) (h : ∀ x ∈ l, AMem Tryd.prog f [.p (eT x), .ptr 1000000000 0] [(1000000000, .cells [.p (.i .i64 (lv : Nat))])] (.p (.i .i64 (φ x))) [(1000000000, .cells [.p (.i .i64 (lv : Nat))])]) (R : Int) (hR : eachF φ l = R) :
    AMem Tryd.prog 66 [.p (.sl 3 (l.map eT)), .fn f [] [.ptr 1000000000 0]] [(1000000000, .cells [.p (.i .i64 (lv : Nat))])] (.p (.i .i64 R)) [(1000000000, .cells [.p (.i .i64 (lv : Nat))])] := by
  refine AMem.intro (tyOf_ok Tryd.prog) hmix Tryd.func66 rfl (by rfl) (by kernel_rfl) (by show 2 ≤ _; decide) rfl ?_
  conv => whnf
  refine loopS (tyOf_ok _) hmix (by kernel_rfl) l.length [1, 8, 9, 10] [1000000000] (fun k _ => [.fn f [] [.ptr 1000000000 0], .p (.sl 3 (l.map eT)), .p (.i .i64 (l.map eT).length), .p (.i .i64 (ix k))]) (fun _ _ => [.cells [.p (.i .i64 (lv : Nat))]]) (fun k _ => eachF φ (l.drop k) = R) () ⟨rfl, rfl, rfl, rfl⟩ hR ?_
  intro k s hk hs
  conv => whnf
  refine asplit ?_ ?_ <;> intro h1 <;> conv => whnf
  · have hk1 := ix_tt h1 (by simp) hk (by omega)
    obtain ⟨x, hx⟩ : ∃ b, l[k]? = some b := ⟨_, List.getElem?_eq_getElem hk1⟩
    have hc := h x (List.mem_of_getElem? hx)
    rw [eachF_drop φ l k x hx] at hs
    refine aidxk (x := eT x) (by simp [hx]) (by omega) ?_
    generalize φ x = r at hc hs
    obtain ⟨a, b, c⟩ := x
    conv => whnf
    refine amc [1000000000] 10000 hc ?_
    conv => whnf
    refine asplit ?_ ?_ <;> intro h2 <;> conv => whnf
    · rw [ne0 h2, cond_false] at hs
      exact ⟨.inl (pi hs), ⟨.inl rfl, trivial⟩, trivial⟩
    · rw [eq0 h2, cond_true] at hs
      exact ⟨hk1, (), ⟨rfl, rfl, rfl, rfl⟩, hs⟩
  · have hk1 := ix_ff h1 (by simp) hk (by omega)
    rw [hk1, List.drop_length, eachF] at hs
    exact ⟨.inl (pi hs), ⟨.inl rfl, trivial⟩, trivial⟩
theorem eachvEx (l : List Ex) (f : Nat) (be : Bool) (φ : Ex → Int) (hl : l.length ≤ 1048576) (h : ∀ x ∈ l, AMem Tryd.prog f [.p (eE x), .ptr 1000000000 0] [(1000000000, .cells [.p (.b be)])] (.p (.i .i64 (φ x))) [(1000000000, .cells [.p (.b be)])]) (R : Int) (hR : eachF φ l = R) :
    AMem Tryd.prog 77 [.p (.sl 8 (l.map eE)), .fn f [] [.ptr 1000000000 0]] [(1000000000, .cells [.p (.b be)])] (.p (.i .i64 R)) [(1000000000, .cells [.p (.b be)])] := by
  refine AMem.intro (tyOf_ok Tryd.prog) hmix Tryd.func77 rfl (by rfl) (by kernel_rfl) (by show 2 ≤ _; decide) rfl ?_
  conv => whnf
  refine loopS (tyOf_ok _) hmix (by kernel_rfl) l.length [1, 8, 9, 10] [1000000000] (fun k _ => [.fn f [] [.ptr 1000000000 0], .p (.sl 8 (l.map eE)), .p (.i .i64 (l.map eE).length), .p (.i .i64 (ix k))]) (fun _ _ => [.cells [.p (.b be)]]) (fun k _ => eachF φ (l.drop k) = R) () ⟨rfl, rfl, rfl, rfl⟩ hR ?_
  intro k s hk hs
  conv => whnf
  refine asplit ?_ ?_ <;> intro h1 <;> conv => whnf
  · have hk1 := ix_tt h1 (by simp) hk (by omega)
    obtain ⟨x, hx⟩ : ∃ b, l[k]? = some b := ⟨_, List.getElem?_eq_getElem hk1⟩
    have hc := h x (List.mem_of_getElem? hx)
    rw [eachF_drop φ l k x hx] at hs
    refine aidxk (x := eE x) (by simp [hx]) (by omega) ?_
    generalize φ x = r at hc hs
    obtain ⟨x1, x2, x3, x4, x5, x6, x7, x8⟩ := x
    conv => whnf
    refine amc [1000000000] 10000 hc ?_
    conv => whnf
    refine asplit ?_ ?_ <;> intro h2 <;> conv => whnf
    · rw [ne0 h2, cond_false] at hs
      exact ⟨.inl (pi hs), ⟨.inl rfl, trivial⟩, trivial⟩
    · rw [eq0 h2, cond_true] at hs
      exact ⟨hk1, (), ⟨rfl, rfl, rfl, rfl⟩, hs⟩
  · have hk1 := ix_ff h1 (by simp) hk (by omega)
    rw [hk1, List.drop_length, eachF] at hs
    exact ⟨.inl (pi hs), ⟨.inl rfl, trivial⟩, trivial⟩
theorem eachvAr (l : List Arm) (f : Nat) (be : Bool) (φ : Arm → Int) (hl : l.length ≤ 1048576) (h : ∀ x ∈ l, AMem Tryd.prog f [.p (eA x), .ptr 1000000000 0] [(1000000000, .cells [.p (.b be)])] (.p (.i .i64 (φ x))) [(1000000000, .cells [.p (.b be)])]) (R : Int) (hR : eachF φ l = R) :
    AMem Tryd.prog 79 [.p (.sl 12 (l.map eA)), .fn f [] [.ptr 1000000000 0]] [(1000000000, .cells [.p (.b be)])] (.p (.i .i64 R)) [(1000000000, .cells [.p (.b be)])] := by
  refine AMem.intro (tyOf_ok Tryd.prog) hmix Tryd.func79 rfl (by rfl) (by kernel_rfl) (by show 2 ≤ _; decide) rfl ?_
  conv => whnf
  refine loopS (tyOf_ok _) hmix (by kernel_rfl) l.length [1, 8, 9, 10] [1000000000] (fun k _ => [.fn f [] [.ptr 1000000000 0], .p (.sl 12 (l.map eA)), .p (.i .i64 (l.map eA).length), .p (.i .i64 (ix k))]) (fun _ _ => [.cells [.p (.b be)]]) (fun k _ => eachF φ (l.drop k) = R) () ⟨rfl, rfl, rfl, rfl⟩ hR ?_
  intro k s hk hs
  conv => whnf
  refine asplit ?_ ?_ <;> intro h1 <;> conv => whnf
  · have hk1 := ix_tt h1 (by simp) hk (by omega)
    obtain ⟨x, hx⟩ : ∃ b, l[k]? = some b := ⟨_, List.getElem?_eq_getElem hk1⟩
    have hc := h x (List.mem_of_getElem? hx)
    rw [eachF_drop φ l k x hx] at hs
    refine aidxk (x := eA x) (by simp [hx]) (by omega) ?_
    generalize φ x = r at hc hs
    obtain ⟨⟨a, b, c, d⟩, ⟨x1, x2, x3, x4, x5, x6, x7, x8⟩⟩ := x
    conv => whnf
    refine amc [1000000000] 10000 hc ?_
    conv => whnf
    refine asplit ?_ ?_ <;> intro h2 <;> conv => whnf
    · rw [ne0 h2, cond_false] at hs
      exact ⟨.inl (pi hs), ⟨.inl rfl, trivial⟩, trivial⟩
    · rw [eq0 h2, cond_true] at hs
      exact ⟨hk1, (), ⟨rfl, rfl, rfl, rfl⟩, hs⟩
  · have hk1 := ix_ff h1 (by simp) hk (by omega)
    rw [hk1, List.drop_length, eachF] at hs
    exact ⟨.inl (pi hs), ⟨.inl rfl, trivial⟩, trivial⟩
end TR
open Go Go.AM Go.Proofs
set_option maxRecDepth 100000
namespace TR
theorem isS_eq (s : ByteArray) (l : Bs) : (s.toList == ByteArray.toList ⟨l.toArray⟩) = isS s l := by
  have h := B_beq s.data.toList l
  rw [← B_of] at h
  exact h
theorem lowB_spec (s : ByteArray) (h : s.size ≤ 1048576) : APure Tryd.prog 24 [.p (.s s)] (.p (.b (lowB s))) := by
  have hl : s.data.toList.length ≤ 1048576 := by rw [Array.length_toList]; exact h
  have := TK.low_spec s.data.toList hl
  rw [← B_of] at this; exact this
theorem upB_spec (s : ByteArray) (h : s.size ≤ 1048576) : APure Tryd.prog 45 [.p (.s s)] (.p (.b (upB s))) := by
  have hl : s.data.toList.length ≤ 1048576 := by rw [Array.length_toList]; exact h
  have := TK.up_spec s.data.toList hl
  rw [← B_of] at this; exact this
theorem when_spec (b : Bool) (x : Int) : APure Tryd.prog 44 [.p (.b b), .p (.i .i64 x)] (.p (.i .i64 (whenF b x))) := by
  refine APure.intro (tyOf_ok Tryd.prog) hmix Tryd.func44 rfl (by rfl) (by kernel_rfl) (by show 2 ≤ _; decide) rfl ?_
  conv => whnf
  refine asplit ?_ ?_ <;> intro h <;> conv => whnf
  · exact .inl (pi (by rw [h]; rfl))
  · exact .inl (pi (by rw [h]; rfl))
theorem plain_spec (n : Int) : APure Tryd.prog 25 [.p (.i .i64 n)] (.p (.b (plainF n))) := by
  refine APure.intro (tyOf_ok Tryd.prog) hmix Tryd.func25 rfl (by rfl) (by kernel_rfl) (by show 1 ≤ _; decide) rfl ?_
  conv => whnf
  refine asplit ?_ ?_ <;> intro h <;> conv => whnf
  · exact .inl (pb (by rw [plainF, h]; rfl))
  · exact .inl (pb (by rw [plainF, h]; rfl))
theorem built_spec (s : ByteArray) : APure Tryd.prog 46 [.p (.s s)] (.p (.b (builtB s))) := by
  have e1 := isS_eq s [82, 101, 102]
  have e2 := isS_eq s [67, 101, 108, 108]
  refine APure.intro (tyOf_ok Tryd.prog) hmix Tryd.func46 rfl (by rfl) (by kernel_rfl) (by show 1 ≤ _; decide) rfl ?_
  conv => whnf
  refine asplit ?_ ?_ <;> intro h <;> conv => whnf
  · exact .inl (pb (by rw [builtB, ← e1, show (s.toList == ByteArray.toList ⟨[82, 101, 102].toArray⟩) = true from h]; rfl))
  · exact .inl (pb (by rw [builtB, ← e1, ← e2, show (s.toList == ByteArray.toList ⟨[82, 101, 102].toArray⟩) = false from h]; rfl))
theorem or_spec (l : List Int) (hl : l.length ≤ 1048576) (R : Int) (hR : orF l = R) : APure Tryd.prog 47 [.p (.sl 1 (l.map vI))] (.p (.i .i64 R)) := by
  refine APure.intro (tyOf_ok Tryd.prog) hmix Tryd.func47 rfl (by rfl) (by kernel_rfl) (by show 1 ≤ _; decide) rfl ?_
  conv => whnf
  refine loopS (tyOf_ok _) hmix (by kernel_rfl) l.length [3, 6, 7, 8] [] (fun k _ => [.p (.i .i64 0), .p (.sl 1 (l.map vI)), .p (.i .i64 (l.map vI).length), .p (.i .i64 (ix k))]) (fun _ _ => []) (fun k _ => orF (l.drop k) = R) () ⟨rfl, rfl, rfl, rfl⟩ hR ?_
  intro k s hk hs
  conv => whnf
  refine asplit ?_ ?_ <;> intro h1 <;> conv => whnf
  · have hk1 := ix_tt h1 (by simp) hk (by omega)
    obtain ⟨x, hx⟩ : ∃ b, l[k]? = some b := ⟨_, List.getElem?_eq_getElem hk1⟩
    rw [orF, eachF_drop id l k x hx] at hs
    refine aidxk (x := vI x) (by simp [hx]) (by omega) ?_
    conv => whnf
    refine asplit ?_ ?_ <;> intro h2 <;> conv => whnf
    · rw [show (id x == 0) = false from ne0 h2, cond_false] at hs
      exact .inl (pi hs)
    · rw [show (id x == 0) = true from eq0 h2, cond_true] at hs
      exact ⟨hk1, (), ⟨rfl, rfl, rfl, rfl⟩, hs⟩
  · have hk1 := ix_ff h1 (by simp) hk (by omega)
    rw [hk1, List.drop_length, orF, eachF] at hs
    exact .inl (pi hs)
theorem rUse_spec (u : LUse) (hu : PV.wt (elUse u) ≤ 1048576) : APure Tryd.prog 27 [.p (elUse u)] (.p (.i .i64 (rUse u))) := by
  rw [wlUse_eq] at hu
  obtain ⟨nm, lo, hi⟩ := u
  have h1 := lowB_spec nm (by simp only at hu; omega)
  have h2 := plain_spec lo
  have h3 := plain_spec hi
  have hw : ∀ b, (!lowB nm || (!plainF lo || (!plainF hi || decide (lo > hi)))) = b → APure Tryd.prog 44 [.p (.b b), .p (.i .i64 3)] (.p (.i .i64 (rUse ⟨nm, lo, hi⟩))) := fun b hb => by
    rw [rUse, hb]; exact when_spec b 3
  generalize rUse ⟨nm, lo, hi⟩ = R at hw
  generalize lowB nm = a at *
  generalize plainF lo = b at *
  generalize plainF hi = c at *
  refine APure.intro (tyOf_ok Tryd.prog) hmix Tryd.func27 rfl (by rfl) (by kernel_rfl) (by show 1 ≤ _; decide) rfl ?_
  conv => whnf
  refine apc h1 ?_
  conv => whnf
  refine asplit ?_ ?_ <;> intro g1 <;> conv => whnf
  · refine apc (hw _ (by rw [g1]; rfl)) ?_
    conv => whnf
    exact .inl rfl
  refine apc h2 ?_
  conv => whnf
  refine asplit ?_ ?_ <;> intro g2 <;> conv => whnf
  · refine apc (hw _ (by rw [g1, g2]; rfl)) ?_
    conv => whnf
    exact .inl rfl
  refine apc h3 ?_
  conv => whnf
  refine asplit ?_ ?_ <;> intro g3 <;> conv => whnf
  · refine apc (hw _ (by rw [g1, g2, g3]; rfl)) ?_
    conv => whnf
    exact .inl rfl
  refine apc (hw _ (by rw [g1, g2, g3]; rfl)) ?_
  conv => whnf
  exact .inl rfl
theorem name1_spec (s : ByteArray) (h : s.size ≤ 1048576) : APure Tryd.prog 65 [.p (eStr s)] (.p (.i .i64 (whenF (!lowB s) 3))) := by
  have h1 := lowB_spec s h
  have h2 := when_spec (!lowB s) 3
  generalize lowB s = b at *
  generalize whenF (!b) 3 = R at *
  refine APure.intro (tyOf_ok Tryd.prog) hmix Tryd.func65 rfl (by rfl) (by kernel_rfl) (by show 1 ≤ _; decide) rfl ?_
  conv => whnf
  refine apc h1 ?_
  conv => whnf
  refine apc h2 ?_
  conv => whnf
  exact .inl rfl
theorem str_mem {s : ByteArray} {l : List ByteArray} (h : s ∈ l) : s.size + 1 ≤ PV.wts (l.map eStr) := by
  have := l_mem eStr h
  simpa [eStr, PV.wt] using this
theorem names_spec (l : List ByteArray) (hl : PV.wts (l.map eStr) ≤ 1048576) : APure Tryd.prog 48 [.p (.sl 1 (l.map eStr))] (.p (.i .i64 (rNames l))) := by
  have hlen := wSs_len l
  have hc := eachStr l 65 (fun s => whenF (!lowB s) 3) (by omega) (fun s hs => name1_spec s (by have := str_mem hs; omega)) _ rfl
  have hR : rNames l = bif decide (l.length > 6) then 2 else eachF (fun s => whenF (!lowB s) 3) l := rfl
  generalize eachF (fun s => whenF (!lowB s) 3) l = E at *
  generalize rNames l = R at *
  refine APure.intro (tyOf_ok Tryd.prog) hmix Tryd.func48 rfl (by rfl) (by kernel_rfl) (by show 1 ≤ _; decide) rfl ?_
  conv => whnf
  refine asplit ?_ ?_ <;> intro h1 <;> conv => whnf
  · rw [List.length_map] at h1
    rw [show decide (l.length > 6) = true by have := of_decide_eq_true h1; exact decide_eq_true (by omega), cond_true] at hR
    exact .inl (pi hR.symm)
  · rw [List.length_map] at h1
    rw [show decide (l.length > 6) = false by have := of_decide_eq_false h1; exact decide_eq_false (by omega), cond_false] at hR
    refine apc hc ?_
    conv => whnf
    exact .inl (pi hR.symm)
/-! types -/
theorem type1_of (t : Ty) (lv : Nat) (hlv : lv ≤ 40) (R : Int) (h : APure Tryd.prog 55 [.p (eT t), .p (.i .i64 (lv + 1 : Nat))] (.p (.i .i64 R))) :
    AMem Tryd.prog 70 [.p (eT t), .ptr 1000000000 0] [(1000000000, .cells [.p (.i .i64 lv)])] (.p (.i .i64 R)) [(1000000000, .cells [.p (.i .i64 lv)])] := by
  have w1 : IntKind.i64.wrap ((lv : Int) + 1) = ((lv + 1 : Nat) : Int) := by rw [wrap64 (by omega) (by omega)]; omega
  rw [← w1] at h
  obtain ⟨k, n, xs⟩ := t
  refine AMem.intro (tyOf_ok Tryd.prog) hmix Tryd.func70 rfl (by rfl) (by kernel_rfl) (by show 2 ≤ _; decide) rfl ?_
  conv => whnf
  refine apc h ?_
  conv => whnf
  exact ⟨.inl rfl, ⟨.inl rfl, trivial⟩, trivial⟩
theorem type_of (k : Int) (n : ByteArray) (xs : List Ty) (lv : Nat) (hlv : lv ≤ 41) (hn : n.size ≤ 1048576) (hx : xs.length ≤ 1048576) (ih : lv ≤ 40 → ∀ x ∈ xs, APure Tryd.prog 55 [.p (eT x), .p (.i .i64 (lv + 1 : Nat))] (.p (.i .i64 (rT x (lv + 1))))) :
    APure Tryd.prog 55 [.p (eT (.mk k n xs)), .p (.i .i64 lv)] (.p (.i .i64 (rT (.mk k n xs) lv))) := by
  have hR : rT (.mk k n xs) lv = bif decide (lv > 40) then 2 else bif decide (k < 1) || decide (k > 9) then 3 else bif decide (xs.length > 7) then 2 else bif goodT k n xs.length then rTs xs (lv + 1) else 3 := by rw [rT]
  generalize rT (.mk k n xs) lv = R at *
  have p1 := lowB_spec n hn
  have p2 := upB_spec n hn
  have p3 := built_spec n
  have e0 := isS_eq n []
  have e1 := isS_eq n [115, 101, 108, 102]
  have hxl := eTs_len xs
  refine APure.intro (tyOf_ok Tryd.prog) hmix Tryd.func55 rfl (by rfl) (by kernel_rfl) (by show 2 ≤ _; decide) rfl ?_
  conv => whnf
  refine asplit ?_ ?_ <;> intro h1 <;> conv => whnf
  · rw [show decide (lv > 40) = true by have := of_decide_eq_true h1; exact decide_eq_true (by omega), cond_true] at hR
    exact .inl (pi hR.symm)
  have hlv : lv ≤ 40 := by have := of_decide_eq_false h1; omega
  rw [show decide (lv > 40) = false from decide_eq_false (by omega), cond_false] at hR
  have hc := eachvTy xs 70 lv (fun x => rT x (lv + 1)) hx (fun x hx => type1_of x lv hlv _ (ih hlv x hx)) _ rfl
  rw [← eTs_map, ← rTs_each] at hc
  generalize rTs xs (lv + 1) = E at *
  refine asplit ?_ ?_ <;> intro h2 <;> conv => whnf
  · rw [h2, Bool.true_or, cond_true] at hR
    exact .inl (pi hR.symm)
  rw [h2, Bool.false_or] at hR
  refine asplit ?_ ?_ <;> intro h3 <;> conv => whnf
  · rw [h3, cond_true] at hR
    exact .inl (pi hR.symm)
  rw [h3, cond_false] at hR
  rw [hxl]
  refine asplit ?_ ?_ <;> intro h4 <;> conv => whnf
  · rw [show decide (xs.length > 7) = true by have := of_decide_eq_true h4; exact decide_eq_true (by omega), cond_true] at hR
    exact .inl (pi hR.symm)
  rw [show decide (xs.length > 7) = false by have := of_decide_eq_false h4; exact decide_eq_false (by omega), cond_false] at hR
  clear h1 h2 h3 h4
  have z0 : ∀ m : Nat, ((xs.length : Int) == (m : Int)) = (xs.length == m) := fun m => by
    by_cases q : xs.length = m
    · subst q; simp
    · rw [show (xs.length == m) = false by simpa using q]; simpa using fun h => q (by omega)
  refine asplit ?_ ?_ <;> intro k5 <;> conv => whnf
  · rw [hxl]
    refine asplit ?_ ?_ <;> intro g1 <;> conv => whnf
    · have g1 : (xs.length == 0) = true := by rw [← z0]; exact g1
      refine apc p1 ?_
      conv => whnf
      refine asplit ?_ ?_ <;> intro g2 <;> conv => whnf
      · rw [show goodT k n xs.length = true by (rw [goodT, k5, cond_true, g1, g2]; rfl), cond_true] at hR
        refine amc [3] 10000 hc ?_
        conv => whnf
        exact .inl (pi hR.symm)
      · refine asplit ?_ ?_ <;> intro q <;> conv => whnf
        · have q : (n.toList == ByteArray.toList ⟨[115, 101, 108, 102].toArray⟩) = false := by simpa using q
          rw [show goodT k n xs.length = false by (rw [goodT, k5, cond_true, g1, g2, ← e1, q]; rfl), cond_false] at hR
          exact .inl (pi hR.symm)
        · have q : (n.toList == ByteArray.toList ⟨[115, 101, 108, 102].toArray⟩) = true := by simpa using q
          rw [show goodT k n xs.length = true by (rw [goodT, k5, cond_true, g1, g2, ← e1, q]; rfl), cond_true] at hR
          refine amc [3] 10000 hc ?_
          conv => whnf
          exact .inl (pi hR.symm)
    · have g1 : (xs.length == 0) = false := by rw [← z0]; exact g1
      rw [show goodT k n xs.length = false by (rw [goodT, k5, cond_true, g1]; rfl), cond_false] at hR
      exact .inl (pi hR.symm)
  refine asplit ?_ ?_ <;> intro k6 <;> conv => whnf
  · refine apc p2 ?_
    conv => whnf
    refine asplit ?_ ?_ <;> intro g1 <;> conv => whnf
    · refine apc p3 ?_
      conv => whnf
      refine asplit ?_ ?_ <;> intro g2 <;> conv => whnf
      · rw [hxl]
        refine asplit ?_ ?_ <;> intro g3 <;> conv => whnf
        · have g3 : decide (xs.length ≤ 6) = false := by rw [Bool.not_eq_true'] at g3; have := of_decide_eq_false g3; exact decide_eq_false (by omega)
          rw [show goodT k n xs.length = false by (rw [goodT, k5, cond_false, k6, cond_true, g1, g2, g3]; rfl), cond_false] at hR
          exact .inl (pi hR.symm)
        · have g3 : decide (xs.length ≤ 6) = true := by rw [Bool.not_eq_false'] at g3; have := of_decide_eq_true g3; exact decide_eq_true (by omega)
          rw [show goodT k n xs.length = true by (rw [goodT, k5, cond_false, k6, cond_true, g1, g2, g3]; rfl), cond_true] at hR
          refine amc [3] 10000 hc ?_
          conv => whnf
          exact .inl (pi hR.symm)
      · rw [show goodT k n xs.length = false by (rw [goodT, k5, cond_false, k6, cond_true, g1, g2]; rfl), cond_false] at hR
        exact .inl (pi hR.symm)
    · rw [show goodT k n xs.length = false by (rw [goodT, k5, cond_false, k6, cond_true, g1]; rfl), cond_false] at hR
      exact .inl (pi hR.symm)
  refine asplit ?_ ?_ <;> intro k7 <;> conv => whnf
  · rw [hxl]
    refine asplit ?_ ?_ <;> intro g1 <;> conv => whnf
    · have g1 : decide (xs.length > 0) = true := by have := of_decide_eq_true g1; exact decide_eq_true (by omega)
      refine asplit ?_ ?_ <;> intro g2 <;> conv => whnf
      · have g2 : (n.toList == ByteArray.toList ⟨#[]⟩) = false := by simpa using g2
        rw [show goodT k n xs.length = false by (rw [goodT, k5, cond_false, k6, cond_false, k7, cond_true, g1, ← e0, show (n.toList == ByteArray.toList ⟨([] : Bs).toArray⟩) = false from g2]; rfl), cond_false] at hR
        exact .inl (pi hR.symm)
      · have g2 : (n.toList == ByteArray.toList ⟨#[]⟩) = true := by simpa using g2
        rw [show goodT k n xs.length = true by (rw [goodT, k5, cond_false, k6, cond_false, k7, cond_true, g1, ← e0, show (n.toList == ByteArray.toList ⟨([] : Bs).toArray⟩) = true from g2]; rfl), cond_true] at hR
        refine amc [3] 10000 hc ?_
        conv => whnf
        exact .inl (pi hR.symm)
    · have g1 : decide (xs.length > 0) = false := by have := of_decide_eq_false g1; exact decide_eq_false (by omega)
      rw [show goodT k n xs.length = false by (rw [goodT, k5, cond_false, k6, cond_false, k7, cond_true, g1]; rfl), cond_false] at hR
      exact .inl (pi hR.symm)
  refine asplit ?_ ?_ <;> intro k8 <;> conv => whnf
  · refine ast k8 ?_
    conv => whnf
    rw [hxl]
    refine asplit ?_ ?_ <;> intro g1 <;> conv => whnf
    · have g1 : (xs.length == 1) = true := by rw [← z0]; exact g1
      refine asplit ?_ ?_ <;> intro g2 <;> conv => whnf
      · have g2 : (n.toList == ByteArray.toList ⟨#[]⟩) = false := by simpa using g2
        rw [show goodT k n xs.length = false by (rw [goodT, k5, cond_false, k6, cond_false, k7, cond_false, k8, Bool.true_or, cond_true, g1, ← e0, show (n.toList == ByteArray.toList ⟨([] : Bs).toArray⟩) = false from g2]; rfl), cond_false] at hR
        exact .inl (pi hR.symm)
      · have g2 : (n.toList == ByteArray.toList ⟨#[]⟩) = true := by simpa using g2
        rw [show goodT k n xs.length = true by (rw [goodT, k5, cond_false, k6, cond_false, k7, cond_false, k8, Bool.true_or, cond_true, g1, ← e0, show (n.toList == ByteArray.toList ⟨([] : Bs).toArray⟩) = true from g2]; rfl), cond_true] at hR
        refine amc [3] 10000 hc ?_
        conv => whnf
        exact .inl (pi hR.symm)
    · have g1 : (xs.length == 1) = false := by rw [← z0]; exact g1
      rw [show goodT k n xs.length = false by (rw [goodT, k5, cond_false, k6, cond_false, k7, cond_false, k8, Bool.true_or, cond_true, g1]; rfl), cond_false] at hR
      exact .inl (pi hR.symm)
  refine asplit ?_ ?_ <;> intro k9 <;> conv => whnf
  · rw [hxl]
    refine asplit ?_ ?_ <;> intro g1 <;> conv => whnf
    · have g1 : (xs.length == 1) = true := by rw [← z0]; exact g1
      refine asplit ?_ ?_ <;> intro g2 <;> conv => whnf
      · have g2 : (n.toList == ByteArray.toList ⟨#[]⟩) = false := by simpa using g2
        rw [show goodT k n xs.length = false by (rw [goodT, k5, cond_false, k6, cond_false, k7, cond_false, k8, k9, Bool.false_or, cond_true, g1, ← e0, show (n.toList == ByteArray.toList ⟨([] : Bs).toArray⟩) = false from g2]; rfl), cond_false] at hR
        exact .inl (pi hR.symm)
      · have g2 : (n.toList == ByteArray.toList ⟨#[]⟩) = true := by simpa using g2
        rw [show goodT k n xs.length = true by (rw [goodT, k5, cond_false, k6, cond_false, k7, cond_false, k8, k9, Bool.false_or, cond_true, g1, ← e0, show (n.toList == ByteArray.toList ⟨([] : Bs).toArray⟩) = true from g2]; rfl), cond_true] at hR
        refine amc [3] 10000 hc ?_
        conv => whnf
        exact .inl (pi hR.symm)
    · have g1 : (xs.length == 1) = false := by rw [← z0]; exact g1
      rw [show goodT k n xs.length = false by (rw [goodT, k5, cond_false, k6, cond_false, k7, cond_false, k8, k9, Bool.false_or, cond_true, g1]; rfl), cond_false] at hR
      exact .inl (pi hR.symm)
  · rw [hxl]
    refine asplit ?_ ?_ <;> intro g1 <;> conv => whnf
    · have g1 : (xs.length == 0) = true := by rw [← z0]; exact g1
      refine asplit ?_ ?_ <;> intro g2 <;> conv => whnf
      · have g2 : (n.toList == ByteArray.toList ⟨#[]⟩) = false := by simpa using g2
        rw [show goodT k n xs.length = false by (rw [goodT, k5, cond_false, k6, cond_false, k7, cond_false, k8, k9, Bool.false_or, cond_false, g1, ← e0, show (n.toList == ByteArray.toList ⟨([] : Bs).toArray⟩) = false from g2]; rfl), cond_false] at hR
        exact .inl (pi hR.symm)
      · have g2 : (n.toList == ByteArray.toList ⟨#[]⟩) = true := by simpa using g2
        rw [show goodT k n xs.length = true by (rw [goodT, k5, cond_false, k6, cond_false, k7, cond_false, k8, k9, Bool.false_or, cond_false, g1, ← e0, show (n.toList == ByteArray.toList ⟨([] : Bs).toArray⟩) = true from g2]; rfl), cond_true] at hR
        refine amc [3] 10000 hc ?_
        conv => whnf
        exact .inl (pi hR.symm)
    · have g1 : (xs.length == 0) = false := by rw [← z0]; exact g1
      rw [show goodT k n xs.length = false by (rw [goodT, k5, cond_false, k6, cond_false, k7, cond_false, k8, k9, Bool.false_or, cond_false, g1]; rfl), cond_false] at hR
      exact .inl (pi hR.symm)
theorem type_spec (t : Ty) : wT t ≤ 1048576 → ∀ lv : Nat, lv ≤ 41 → APure Tryd.prog 55 [.p (eT t), .p (.i .i64 lv)] (.p (.i .i64 (rT t lv))) :=
  Ty.ind (Q := fun t => wT t ≤ 1048576 → ∀ lv : Nat, lv ≤ 41 → APure Tryd.prog 55 [.p (eT t), .p (.i .i64 lv)] (.p (.i .i64 (rT t lv)))) (fun k n xs ih hw lv hlv => by
    have hl := wTs_len xs
    rw [wT_mk] at hw
    exact type_of k n xs lv hlv (by omega) (by omega) (fun h x hx => ih x hx (by have := wTs_mem hx; omega) (lv + 1) (by omega))) t
theorem types1_spec (t : Ty) (hw : wT t ≤ 1048576) : APure Tryd.prog 67 [.p (eT t)] (.p (.i .i64 (rT t 1))) := by
  have h : APure Tryd.prog 55 [.p (eT t), .p (.i .i64 1)] (.p (.i .i64 (rT t 1))) := type_spec t hw 1 (by omega)
  generalize rT t 1 = R at *
  obtain ⟨k, n, xs⟩ := t
  refine APure.intro (tyOf_ok Tryd.prog) hmix Tryd.func67 rfl (by rfl) (by kernel_rfl) (by show 1 ≤ _; decide) rfl ?_
  conv => whnf
  refine apc h ?_
  conv => whnf
  exact .inl rfl
theorem types_spec (l : List Ty) (hw : PV.wts (eTs l) ≤ 1048576) : APure Tryd.prog 51 [.p (.sl 3 (eTs l))] (.p (.i .i64 (rTypes l))) := by
  have hl := wTs_len l
  have hc := eachTy l 67 (fun t => rT t 1) (by omega) (fun x hx => types1_spec x (by have := wTs_mem hx; omega)) _ rfl
  rw [rTypes]
  rw [← eTs_map] at hc
  generalize eachF (fun t => rT t 1) l = R at *
  refine APure.intro (tyOf_ok Tryd.prog) hmix Tryd.func51 rfl (by rfl) (by kernel_rfl) (by show 1 ≤ _; decide) rfl ?_
  conv => whnf
  refine apc hc ?_
  conv => whnf
  exact .inl rfl
end TR
