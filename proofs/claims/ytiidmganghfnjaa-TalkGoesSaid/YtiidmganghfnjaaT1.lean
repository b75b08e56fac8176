/-
  DERIVED. Contracts of the functions that the law reaches, and the law itself, for every input. No conditions.
-/
import Derived.Test.YtiidmganghfnjaaChecked
import Derived.Test.YtiidmganghfnjaaAMRow
import Derived.Test.YtiidmganghfnjaaAMStr
open Go Go.AM Go.Proofs
namespace TK
theorem hmix : Try.prog.follows .mixedOrders = true := by kernel_rfl
structure Ln where
  a : Int
  b : Int
structure Dd where
  line : Int
  send : Bool
  msg : Int
structure Net where
  lines : List Ln
  who : List (List Dd)
def eL (l : Ln) : PV := .agg [.i .i64 l.a, .i .i64 l.b]
def eDd (d : Dd) : PV := .agg [.i .i64 d.line, .b d.send, .i .i64 d.msg]
def eW (w : List Dd) : PV := .sl 3 (w.map eDd)
def eN (n : Net) : PV := .agg [.sl 2 (n.lines.map eL), .sl 1 (n.who.map eW)]
def okN (n : Net) : Prop := n.lines.length < 9223372036854775807 ∧ n.who.length < 9223372036854775807 ∧ ∀ w ∈ n.who, w.length < 9223372036854775807

/-! Check -/
def lnBad (n : Int) (l : Ln) : Bool := decide (l.a < 0) || (decide (l.b < 0) || (decide (l.a ≥ n) || (decide (l.b ≥ n) || l.a == l.b)))
def ddBad (n : Int) (d : Dd) : Bool := decide (d.line < 0) || (decide (d.line ≥ n) || (decide (d.msg < 0) || decide (d.msg > 20)))
def lnAt (lines : List Ln) (i : Int) : Ln := (lines[i.toNat]?).getD ⟨0, 0⟩
def notOn (lines : List Ln) (w : Int) (d : Dd) : Bool := ((lnAt lines d.line).a != w) && ((lnAt lines d.line).b != w)
def ddsF (lines : List Ln) (w : Int) : List Dd → Int
  | [] => 0
  | d :: r => bif ddBad lines.length d then 1 else bif notOn lines w d then 7 else ddsF lines w r
def whoF (lines : List Ln) : List (List Dd) → Nat → Int
  | [], _ => 0
  | ds :: r, w => bif decide ((ds.length : Int) > 40) then 2 else bif ddsF lines w ds != 0 then ddsF lines w ds else whoF lines r (w + 1)
def lnsF (n : Net) : List Ln → Int
  | [] => whoF n.lines n.who 0
  | l :: r => bif lnBad n.who.length l then 1 else lnsF n r
def chkF (n : Net) : Int := bif decide ((n.who.length : Int) > 8) || decide ((n.lines.length : Int) > 12) then 2 else lnsF n n.lines

theorem check_spec (n : Net) (hn : okN n) : APure Try.prog 13 [.p (eN n)] (.p (.i .i64 (chkF n))) := by
  obtain ⟨lines, who⟩ := n
  obtain ⟨hn1, hn2, hn3⟩ := hn
  simp only at hn1 hn2 hn3
  refine APure.intro (tyOf_ok Try.prog) hmix Try.func13 rfl (by rfl) (by kernel_rfl) (by show 1 ≤ _; decide) rfl ?_
  conv => whnf
  refine asplit ?_ ?_ <;> intro h1 <;> conv => whnf
  · refine .inl (pi ?_); simp only [List.length_map] at h1; simp only [chkF, h1, Bool.true_or, cond_true]
  refine asplit ?_ ?_ <;> intro h2 <;> conv => whnf
  · refine .inl (pi ?_); simp only [List.length_map] at h2; simp only [chkF, h2, Bool.or_true, cond_true]
  have hc : chkF ⟨lines, who⟩ = lnsF ⟨lines, who⟩ lines := by simp only [List.length_map] at h1 h2; simp only [chkF, h1, h2, Bool.or_false, cond_false]
  rw [hc]
  refine loopS (tyOf_ok _) hmix (by kernel_rfl) lines.length [1, 21, 22, 23] [1] (fun k _ => [.ptr 1 0, .p (.sl 2 (lines.map eL)), .p (.i .i64 (lines.map eL).length), .p (.i .i64 (ix k))])
    (fun _ _ => [.cells [.p (.sl 2 (lines.map eL)), .p (.sl 1 (who.map eW))]]) (fun k _ => lnsF ⟨lines, who⟩ lines = lnsF ⟨lines, who⟩ (lines.drop k)) () ⟨rfl, rfl, rfl, rfl⟩ rfl ?_
  intro k _ hk hs
  conv => whnf
  refine asplit ?_ ?_ <;> intro g1 <;> conv => whnf
  · have hk1 := ix_tt g1 (by simp) hk hn1
    obtain ⟨b, hb1⟩ : ∃ b, lines[k]? = some b := ⟨lines[k], by simp [hk1]⟩
    refine aidxk (x := eL b) (by simp [hb1]) (by omega) ?_
    rw [drop_cons hb1, lnsF] at hs
    obtain ⟨la, lb⟩ := b
    conv => whnf
    refine asplit ?_ ?_ <;> intro q1 <;> conv => whnf
    · exact .inl (pi (by rw [hs]; simp only [lnBad, q1, Bool.true_or, cond_true]))
    refine asplit ?_ ?_ <;> intro q2 <;> conv => whnf
    · exact .inl (pi (by rw [hs]; simp only [lnBad, q2, Bool.true_or, Bool.or_true, cond_true]))
    refine asplit ?_ ?_ <;> intro q3 <;> conv => whnf
    · exact .inl (pi (by rw [hs]; simp only [List.length_map] at q3; simp only [lnBad, q3, Bool.true_or, Bool.or_true, cond_true]))
    refine asplit ?_ ?_ <;> intro q4 <;> conv => whnf
    · exact .inl (pi (by rw [hs]; simp only [List.length_map] at q4; simp only [lnBad, q4, Bool.true_or, Bool.or_true, cond_true]))
    refine asplit ?_ ?_ <;> intro q5 <;> conv => whnf
    · exact .inl (pi (by rw [hs]; simp only [lnBad, q5, Bool.or_true, cond_true]))
    refine ⟨hk1, (), ⟨rfl, rfl, rfl, rfl⟩, ?_⟩
    simp only [List.length_map] at q3 q4
    rw [hs]; simp only [lnBad, q1, q2, q3, q4, q5, Bool.or_false, cond_false]
  have hk1 := ix_ff g1 (by simp) hk hn1
  rw [List.drop_eq_nil_of_le (by omega), lnsF] at hs
  rw [hs]
  clear hs hk1 g1 hk
  refine loopS (tyOf_ok _) hmix (by kernel_rfl) who.length [1, 60, 61, 62] [1] (fun k _ => [.ptr 1 0, .p (.sl 1 (who.map eW)), .p (.i .i64 (who.map eW).length), .p (.i .i64 (ix k))])
    (fun _ _ => [.cells [.p (.sl 2 (lines.map eL)), .p (.sl 1 (who.map eW))]]) (fun k _ => whoF lines who 0 = whoF lines (who.drop k) k) () ⟨rfl, rfl, rfl, rfl⟩ rfl ?_
  intro k _ hk hs
  conv => whnf
  refine asplit ?_ ?_ <;> intro g1 <;> conv => whnf
  · have hk1 := ix_tt g1 (by simp) hk hn2
    obtain ⟨ds, hb1⟩ : ∃ b, who[k]? = some b := ⟨who[k], by simp [hk1]⟩
    have hdl := hn3 ds (List.mem_of_getElem? hb1)
    refine aidxk (x := eW ds) (by simp [hb1]) (by omega) ?_
    rw [drop_cons hb1, whoF] at hs
    conv => whnf
    refine asplit ?_ ?_ <;> intro q1 <;> conv => whnf
    · exact .inl (pi (by rw [hs]; simp only [List.length_map] at q1; simp only [q1, cond_true]))
    simp only [List.length_map] at q1
    rw [q1, cond_false] at hs
    refine loopS (tyOf_ok _) hmix (by kernel_rfl) ds.length [1, 5, 60, 61, 62, 70, 71, 72] [1] (fun j _ => [.ptr 1 0, .p (.i .i64 (ix k)), .p (.sl 1 (who.map eW)), .p (.i .i64 (who.map eW).length), .p (.i .i64 (ix k)), .p (.sl 3 (ds.map eDd)), .p (.i .i64 (ds.map eDd).length), .p (.i .i64 (ix j))])
      (fun _ _ => [.cells [.p (.sl 2 (lines.map eL)), .p (.sl 1 (who.map eW))]]) (fun j _ => ddsF lines k ds = ddsF lines k (ds.drop j)) () ⟨rfl, rfl, rfl, rfl⟩ rfl ?_
    intro j _ hj hs2
    conv => whnf
    refine asplit ?_ ?_ <;> intro g2 <;> conv => whnf
    · have hj1 := ix_tt g2 (by simp) hj hdl
      obtain ⟨d, hd1⟩ : ∃ b, ds[j]? = some b := ⟨ds[j], by simp [hj1]⟩
      refine aidxk (x := eDd d) (by simp [hd1]) (by omega) ?_
      rw [drop_cons hd1, ddsF] at hs2
      obtain ⟨dl, dsd, dm⟩ := d
      conv => whnf
      refine asplit ?_ ?_ <;> intro q2 <;> conv => whnf
      · exact .inl (pi (by rw [hs, hs2]; simp only [ddBad, q2, Bool.true_or, cond_true]; rfl))
      refine asplit ?_ ?_ <;> intro q3 <;> conv => whnf
      · exact .inl (pi (by rw [hs, hs2]; simp only [List.length_map] at q3; simp only [ddBad, q3, Bool.true_or, Bool.or_true, cond_true]; rfl))
      refine asplit ?_ ?_ <;> intro q4 <;> conv => whnf
      · exact .inl (pi (by rw [hs, hs2]; simp only [ddBad, q4, Bool.true_or, Bool.or_true, cond_true]; rfl))
      refine asplit ?_ ?_ <;> intro q5 <;> conv => whnf
      · exact .inl (pi (by rw [hs, hs2]; simp only [ddBad, q5, Bool.or_true, cond_true]; rfl))
      simp only [List.length_map] at q3
      have hbad : ddBad lines.length ⟨dl, dsd, dm⟩ = false := by simp only [ddBad, q2, q3, q4, q5, Bool.or_false]
      rw [hbad, cond_false] at hs2
      dsimp only at q2 q3
      have hlt : dl.toNat < lines.length := by have := of_decide_eq_false q2; have := of_decide_eq_false q3; omega
      have hl1 : lines[dl.toNat]? = some lines[dl.toNat] := List.getElem?_eq_getElem hlt
      refine ⟨eL lines[dl.toNat], by have := of_decide_eq_false q2; show 0 ≤ dl; omega, by simp [hl1], ?_⟩
      have hat : lnAt lines dl = lines[dl.toNat] := by simp [lnAt, hl1]
      generalize lines[dl.toNat] = ll at hat
      obtain ⟨la, lb⟩ := ll
      conv => whnf
      have hno : notOn lines k ⟨dl, dsd, dm⟩ = ((la != ix k) && (lb != ix k)) := by simp only [notOn, hat]; rw [ix_eq (by omega)]
      rw [hno] at hs2
      refine asplit ?_ ?_ <;> intro q6 <;> conv => whnf
      · refine asplit ?_ ?_ <;> intro q7 <;> conv => whnf
        · exact .inl (pi (by rw [hs, hs2, q6, q7]; rfl))
        · exact ⟨hj1, (), ⟨rfl, rfl, rfl, rfl⟩, by rw [hs2, q6, q7]; rfl⟩
      · exact ⟨hj1, (), ⟨rfl, rfl, rfl, rfl⟩, by rw [hs2, q6]; rfl⟩
    · have hj1 := ix_ff g2 (by simp) hj hdl
      rw [List.drop_eq_nil_of_le (by omega), ddsF] at hs2
      exact ⟨hk1, (), ⟨rfl, rfl, rfl, rfl⟩, by rw [hs, hs2]; rfl⟩
  · have hk1 := ix_ff g1 (by simp) hk hn2
    exact .inl (pi (by rw [hs, List.drop_eq_nil_of_le (by omega), whoF]))
end TK
