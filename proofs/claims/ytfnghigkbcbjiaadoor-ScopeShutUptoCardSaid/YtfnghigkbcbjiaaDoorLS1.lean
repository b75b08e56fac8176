/-
  DERIVED. Contracts of the functions that the law reaches, and the law itself, for every input. No conditions.
-/
import Derived.Test.YtfnghigkbcbjiaaDoorTR1
import Derived.Test.YtfnghigkbcbjiaaDoorTKD
open Go Go.AM
set_option maxRecDepth 100000
namespace TR
/-! programs, whole -/
structure LUse where
  name : ByteArray
  low : Int
  high : Int
structure LMk where
  name : ByteArray
  ts : List Ty
structure LDt where
  name : ByteArray
  ps : List ByteArray
  makes : List LMk
structure LFu where
  name : ByteArray
  ps : List ByteArray
  ns : List ByteArray
  ts : List Ty
  out : Ty
  body : Ex
structure LTr where
  name : ByteArray
  funcs : List LFu
structure LIm where
  tr : ByteArray
  fo : ByteArray
  funcs : List LFu
structure LAc where
  name : ByteArray
  ns : List ByteArray
  ts : List Ty
  msg : Ty
  body : Ex
structure LPg where
  name : ByteArray
  ver : Int
  uses : List LUse
  datas : List LDt
  traits : List LTr
  impls : List LIm
  funcs : List LFu
  actors : List LAc
def elUse (u : LUse) : PV := .agg [.s u.name, .i .i64 u.low, .i .i64 u.high]
def elMk (m : LMk) : PV := .agg [.s m.name, .sl 3 (eTs m.ts)]
def elDt (m : LDt) : PV := .agg [.s m.name, .sl 1 (m.ps.map eStr), .sl 2 (m.makes.map elMk)]
def elFu (f : LFu) : PV := .agg (.s f.name :: .sl 1 (f.ps.map eStr) :: .sl 1 (f.ns.map eStr) :: .sl 3 (eTs f.ts) :: ((eT f.out).cells ++ (eE f.body).cells))
def elTr (m : LTr) : PV := .agg [.s m.name, .sl 15 (m.funcs.map elFu)]
def elIm (m : LIm) : PV := .agg [.s m.tr, .s m.fo, .sl 15 (m.funcs.map elFu)]
def elAc (f : LAc) : PV := .agg (.s f.name :: .sl 1 (f.ns.map eStr) :: .sl 3 (eTs f.ts) :: ((eT f.msg).cells ++ (eE f.body).cells))
def elPg (p : LPg) : PV := .agg [.s p.name, .i .i64 p.ver, .sl 3 (p.uses.map elUse), .sl 3 (p.datas.map elDt), .sl 2 (p.traits.map elTr), .sl 3 (p.impls.map elIm), .sl 15 (p.funcs.map elFu), .sl 14 (p.actors.map elAc)]
def wlFu (f : LFu) : Nat := PV.wt (elFu f)
theorem wlFu_eq (f : LFu) : wlFu f = f.name.size + 1 + (PV.wts (f.ps.map eStr) + 1) + (PV.wts (f.ns.map eStr) + 1) + (PV.wts (eTs f.ts) + 1) + wT f.out + wE f.body := by
  simp only [wlFu, elFu, PV.wt, PV.wts, PV.wts_append, wt_cells]; unfold wT wE; omega
theorem wlAc_eq (f : LAc) : PV.wt (elAc f) = f.name.size + 1 + (PV.wts (f.ns.map eStr) + 1) + (PV.wts (eTs f.ts) + 1) + wT f.msg + wE f.body := by
  simp only [elAc, PV.wt, PV.wts, PV.wts_append, wt_cells]; unfold wT wE; omega
theorem wlMk_eq (m : LMk) : PV.wt (elMk m) = m.name.size + 1 + (PV.wts (eTs m.ts) + 1) := by
  simp only [elMk, PV.wt, PV.wts] <;> try omega
theorem wlDt_eq (m : LDt) : PV.wt (elDt m) = m.name.size + 1 + (PV.wts (m.ps.map eStr) + 1) + (PV.wts (m.makes.map elMk) + 1) := by
  simp only [elDt, PV.wt, PV.wts] <;> try omega
theorem wlTr_eq (m : LTr) : PV.wt (elTr m) = m.name.size + 1 + (PV.wts (m.funcs.map elFu) + 1) := by
  simp only [elTr, PV.wt, PV.wts] <;> try omega
theorem wlIm_eq (m : LIm) : PV.wt (elIm m) = m.tr.size + 1 + (m.fo.size + 1) + (PV.wts (m.funcs.map elFu) + 1) := by
  simp only [elIm, PV.wt, PV.wts] <;> try omega
theorem wlUse_eq (u : LUse) : PV.wt (elUse u) = u.name.size + 3 := by
  simp only [elUse, PV.wt, PV.wts] <;> try omega
def wlPg (p : LPg) : Nat := PV.wt (elPg p)
theorem wlPg_eq (p : LPg) : wlPg p = p.name.size + 1 + 1 + (PV.wts (p.uses.map elUse) + 1) + (PV.wts (p.datas.map elDt) + 1) + (PV.wts (p.traits.map elTr) + 1) + (PV.wts (p.impls.map elIm) + 1) + (PV.wts (p.funcs.map elFu) + 1) + (PV.wts (p.actors.map elAc) + 1) := by
  simp only [wlPg, elPg, PV.wt, PV.wts] <;> try omega
theorem l_wts {α : Type} (f : α → PV) (h : ∀ x, 1 ≤ PV.wt (f x)) : ∀ (l : List α), l.length ≤ PV.wts (l.map f)
  | [] => by simp
  | x :: r => by have := h x; have := l_wts f h r; simp only [List.map_cons, PV.wts, List.length_cons]; omega
theorem l_mem {α : Type} (f : α → PV) {x : α} {l : List α} (h : x ∈ l) : PV.wt (f x) ≤ PV.wts (l.map f) := wts_mem (List.mem_map.2 ⟨x, h, rfl⟩)
/-! what is right -/
def eachF {α : Type} (φ : α → Int) : List α → Int
  | [] => 0
  | x :: r => bif φ x == 0 then eachF φ r else φ x
def orF : List Int → Int := eachF id
def lowB (s : ByteArray) : Bool := TK.lowF s.data.toList
def upB (s : ByteArray) : Bool := TK.upF s.data.toList
def plainF (n : Int) : Bool := decide (n ≥ 0) && decide (n ≤ 1000000)
def whenF (b : Bool) (e : Int) : Int := bif b then e else 0
def rUse (u : LUse) : Int := whenF (!lowB u.name || (!plainF u.low || (!plainF u.high || decide (u.low > u.high)))) 3
def rNames (l : List ByteArray) : Int := bif decide (l.length > 6) then 2 else eachF (fun s => whenF (!lowB s) 3) l
def isS (s : ByteArray) (l : Bs) : Bool := s.data.toList == l
def builtB (s : ByteArray) : Bool := isS s [82, 101, 102] || isS s [67, 101, 108, 108]
def goodT (k : Int) (n : ByteArray) (len : Nat) : Bool :=
  bif k == 5 then (len == 0 && (lowB n || isS n [115, 101, 108, 102]))
  else bif k == 6 then (upB n && (!builtB n && decide (len ≤ 6)))
  else bif k == 7 then (decide (len > 0) && isS n [])
  else bif k == 8 || k == 9 then (len == 1 && isS n [])
  else (len == 0 && isS n [])
mutual
def rT : Ty → Nat → Int
  | .mk k n xs, lv => bif decide (lv > 40) then 2 else bif decide (k < 1) || decide (k > 9) then 3 else bif decide (xs.length > 7) then 2 else bif goodT k n xs.length then rTs xs (lv + 1) else 3
def rTs : List Ty → Nat → Int
  | [], _ => 0
  | t :: r, lv => bif rT t lv == 0 then rTs r lv else rT t lv
end
theorem rTs_each (lv : Nat) : ∀ (l : List Ty), rTs l lv = eachF (fun t => rT t lv) l
  | [] => by rw [rTs, eachF]
  | t :: r => by rw [rTs, eachF, rTs_each lv r]
def rTypes (l : List Ty) : Int := eachF (fun t => rT t 1) l
end TR
