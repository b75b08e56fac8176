/-
  DERIVED. Contracts of the functions that the law reaches, and the law itself, for every input. No conditions.
-/
import Derived.Test.YtbggmlepkjbbhaaDoorLS1
open Go Go.AM Go.Proofs
set_option maxRecDepth 100000
namespace TR
/-! patterns -/
def patText (k : Int) (t : ByteArray) : Bool := bif k == 2 then lowB t else bif k == 5 then true else bif k == 6 then upB t else isS t []
def patNum (k m : Int) : Bool := bif k == 3 then true else bif k == 4 then (m == 0 || m == 1) else m == 0
mutual
def rP : Pt → Int
  | .mk k m t xs => bif (k == 5) && decide (t.size > 64) then 2 else bif decide (k < 1) || decide (k > 6) then 3 else bif !patText k t || (!patNum k m || (decide (xs.length > 0) && !(k == 6))) then 3
    else bif decide (xs.length > 6) then 2 else rPs xs
def rPs : List Pt → Int
  | [] => 0
  | p :: r => bif rP p == 0 then rPs r else rP p
end
theorem rPs_each : ∀ (l : List Pt), rPs l = eachF rP l
  | [] => by rw [rPs, eachF]
  | t :: r => by rw [rPs, eachF, rPs_each r]
theorem pat_of (k m : Int) (t : ByteArray) (xs : List Pt) (ht : t.size ≤ 1048576) (hx : xs.length ≤ 1048576) (ih : ∀ x ∈ xs, APure Tryd.prog 81 [.p (eP x)] (.p (.i .i64 (rP x)))) :
    APure Tryd.prog 81 [.p (eP (.mk k m t xs))] (.p (.i .i64 (rP (.mk k m t xs)))) := by
  have hR : (bif (k == 5) && decide (t.size > 64) then 2 else bif decide (k < 1) || decide (k > 6) then 3 else bif !patText k t || (!patNum k m || (decide (xs.length > 0) && !(k == 6))) then 3
    else bif decide (xs.length > 6) then 2 else rPs xs) = rP (.mk k m t xs) := by rw [rP]
  generalize rP (.mk k m t xs) = R at *
  have hc := eachPt xs 81 rP hx ih _ rfl
  rw [← rPs_each, ← ePs_map] at hc
  have p1 := lowB_spec t ht
  have p2 := upB_spec t ht
  have e0 : (t.toList == ByteArray.toList ⟨#[]⟩) = isS t [] := isS_eq t []
  have hxl := ePs_len xs
  have z3 : decide ((t.size : Int) > 64) = decide (t.size > 64) := decide_eq_decide.2 (by omega)
  generalize rPs xs = E at *
  rw [patText] at hR
  generalize isS t [] = b0 at *
  generalize lowB t = b1 at *
  generalize upB t = b2 at *
  refine APure.intro (tyOf_ok Tryd.prog) hmix Tryd.func81 rfl (by rfl) (by kernel_rfl) (by show 1 ≤ _; decide) rfl ?_
  conv => whnf
  refine asplit ?_ ?_ <;> intro g <;> conv => whnf
  · have hk := eq_of_beq g
    subst hk
    rw [z3]
    refine asplit ?_ ?_ <;> intro h64 <;> conv => whnf
    · exact .inl (pi (by rw [← hR, h64]; rfl))
    rw [e0]
    refine aneed (by kernel_rfl) ?_
    conv => whnf
    repeat' (refine asplit ?_ ?_ <;> intro _ <;> conv => whnf)
    all_goals first
      | (refine .inl (pi ?_)
         first
           | (simp_all [patNum]; done)
           | (simp_all [patNum]; rw [← hR, decide_eq_true (by omega)]; rfl))
      | (refine apc hc ?_
         conv => whnf
         refine .inl (pi ?_)
         first
           | (simp_all [patNum]; done)
           | (simp_all [patNum]; rw [← hR, decide_eq_false (by omega)]; rfl))
  rw [e0]
  refine aneed (by kernel_rfl) ?_
  conv => whnf
  have g5 : ¬ k = 5 := by simpa using g
  refine asplit ?_ ?_ <;> intro g <;> conv => whnf
  · have hk := eq_of_beq g
    subst hk
    repeat' (refine asplit ?_ ?_ <;> intro _ <;> conv => whnf)
    all_goals first
      | (refine .inl (pi ?_)
         first
           | (simp_all [patNum]; done)
           | (simp_all [patNum]; rw [← hR, decide_eq_true (by omega)]; rfl))
      | (refine apc hc ?_
         conv => whnf
         refine .inl (pi ?_)
         first
           | (simp_all [patNum]; done)
           | (simp_all [patNum]; rw [← hR, decide_eq_false (by omega)]; rfl))
  have g1 : ¬ k = 1 := by simpa using g
  refine asplit ?_ ?_ <;> intro g <;> conv => whnf
  · have hk := eq_of_beq g
    subst hk
    refine apc p1 ?_
    conv => whnf
    repeat' (refine asplit ?_ ?_ <;> intro _ <;> conv => whnf)
    all_goals first
      | (refine .inl (pi ?_)
         first
           | (simp_all [patNum]; done)
           | (simp_all [patNum]; rw [← hR, decide_eq_true (by omega)]; rfl))
      | (refine apc hc ?_
         conv => whnf
         refine .inl (pi ?_)
         first
           | (simp_all [patNum]; done)
           | (simp_all [patNum]; rw [← hR, decide_eq_false (by omega)]; rfl))
  have g2 : ¬ k = 2 := by simpa using g
  refine asplit ?_ ?_ <;> intro g <;> conv => whnf
  · have hk := eq_of_beq g
    subst hk
    repeat' (refine asplit ?_ ?_ <;> intro _ <;> conv => whnf)
    all_goals first
      | (refine .inl (pi ?_)
         first
           | (simp_all [patNum]; done)
           | (simp_all [patNum]; rw [← hR, decide_eq_true (by omega)]; rfl))
      | (refine apc hc ?_
         conv => whnf
         refine .inl (pi ?_)
         first
           | (simp_all [patNum]; done)
           | (simp_all [patNum]; rw [← hR, decide_eq_false (by omega)]; rfl))
  have g3 : ¬ k = 3 := by simpa using g
  refine asplit ?_ ?_ <;> intro g <;> conv => whnf
  · have hk := eq_of_beq g
    subst hk
    refine asplit ?_ ?_ <;> intro q1 <;> conv => whnf
    · repeat' (refine asplit ?_ ?_ <;> intro _ <;> conv => whnf)
      all_goals first
        | (refine .inl (pi ?_)
           first
             | (simp_all [patNum]; done)
             | (simp_all [patNum]; rw [← hR, decide_eq_true (by omega)]; rfl))
        | (refine apc hc ?_
           conv => whnf
           refine .inl (pi ?_)
           first
             | (simp_all [patNum]; done)
             | (simp_all [patNum]; rw [← hR, decide_eq_false (by omega)]; rfl))
    · repeat' (refine asplit ?_ ?_ <;> intro _ <;> conv => whnf)
      all_goals first
        | (refine .inl (pi ?_)
           first
             | (simp_all [patNum]; done)
             | (simp_all [patNum]; rw [← hR, decide_eq_true (by omega)]; rfl))
        | (refine apc hc ?_
           conv => whnf
           refine .inl (pi ?_)
           first
             | (simp_all [patNum]; done)
             | (simp_all [patNum]; rw [← hR, decide_eq_false (by omega)]; rfl))
  have g4 : ¬ k = 4 := by simpa using g
  refine asf (by simpa using g5) ?_
  conv => whnf
  refine asplit ?_ ?_ <;> intro g <;> conv => whnf
  · have hk := eq_of_beq g
    subst hk
    refine apc p2 ?_
    conv => whnf
    repeat' (refine asplit ?_ ?_ <;> intro _ <;> conv => whnf)
    all_goals first
      | (refine .inl (pi ?_)
         first
           | (simp_all [patNum]; done)
           | (simp_all [patNum]; rw [← hR, decide_eq_true (by omega)]; rfl))
      | (refine apc hc ?_
         conv => whnf
         refine .inl (pi ?_)
         first
           | (simp_all [patNum]; done)
           | (simp_all [patNum]; rw [← hR, decide_eq_false (by omega)]; rfl))
  have g6 : ¬ k = 6 := by simpa using g
  refine .inl (pi ?_)
  rw [← hR, show (k == 5) = false by simpa using g5, show (decide (k < 1) || decide (k > 6)) = true by simp; omega]
  rfl
theorem pat_spec (p : Pt) : wP p ≤ 1048576 → APure Tryd.prog 81 [.p (eP p)] (.p (.i .i64 (rP p))) :=
  Pt.ind (Q := fun p => wP p ≤ 1048576 → APure Tryd.prog 81 [.p (eP p)] (.p (.i .i64 (rP p)))) (fun k n t xs ih hw => by
    have hl := wP_lens k n t xs
    exact pat_of k n t xs (by omega) (by omega) (fun x hx => ih x hx (by have := wP_args (k := k) (n := n) (t := t) hx; omega))) p
/-! operators -/
def opsC : Bs := [43, 32, 45, 32, 42, 32, 47, 32, 37, 32, 60, 32, 61, 32, 94, 32, 97, 110, 100, 32, 111, 114]
def opF (s : ByteArray) (n : Nat) : Bool := bif isS s [110, 111, 116] then n == 1 else ((TK.splitF 32 opsC).contains s.data.toList && n == 2)
theorem op_aux (l : Bs) (n : Nat) (W : List Bs) (hW : W.length ≤ 1048576) (hs : APure Tryd.prog 73 [.p (.s ⟨#[43, 32, 45, 32, 42, 32, 47, 32, 37, 32, 60, 32, 61, 32, 94, 32, 97, 110, 100, 32, 111, 114]⟩), .p (.s ⟨#[32]⟩)] (.p (.sl 1 (W.map TK.eStr)))) (R : Bool) (hR : (bif l == [110, 111, 116] then n == 1 else (W.contains l && n == 2)) = R) :
    APure Tryd.prog 83 [.p (.s (B l)), .p (.i .i64 n)] (.p (.b R)) := by
  have e1 : ((B l).toList == ByteArray.toList ⟨#[110, 111, 116]⟩) = (l == [110, 111, 116]) := B_beq l [110, 111, 116]
  have z0 : ∀ m : Nat, ((n : Int) == (m : Int)) = (n == m) := fun m => by
    by_cases q : n = m
    · subst q; simp
    · rw [show (n == m) = false by simpa using q]; simpa using fun h => q (by omega)
  refine APure.intro (tyOf_ok Tryd.prog) hmix Tryd.func83 rfl (by rfl) (by kernel_rfl) (by show 2 ≤ _; decide) rfl ?_
  conv => whnf
  refine asplit ?_ ?_ <;> intro h1 <;> conv => whnf
  · rw [e1] at h1
    rw [h1, cond_true] at hR
    exact .inl (pb (by rw [← hR]; exact z0 1))
  rw [e1] at h1
  rw [h1, cond_false] at hR
  refine apc hs ?_
  conv => whnf
  refine loopS (tyOf_ok _) hmix (by kernel_rfl) W.length [0, 1, 11, 12, 13] [] (fun k _ => [.p (.s (B l)), .p (.i .i64 n), .p (.sl 1 (W.map TK.eStr)), .p (.i .i64 (W.map TK.eStr).length), .p (.i .i64 (ix k))]) (fun _ _ => []) (fun k _ => ((W.drop k).contains l && n == 2) = R) () ⟨rfl, rfl, rfl, rfl⟩ hR ?_
  intro k s hk hn
  conv => whnf
  refine asplit ?_ ?_ <;> intro h2 <;> conv => whnf
  · have hk1 := ix_tt h2 (by simp) hk (by omega)
    obtain ⟨x, hx⟩ : ∃ b, W[k]? = some b := ⟨_, List.getElem?_eq_getElem hk1⟩
    refine aidxk (x := TK.eStr x) (by simp [hx]) (by omega) ?_
    conv => whnf
    rw [drop_cons hx, List.contains_cons] at hn
    refine asplit ?_ ?_ <;> intro h3 <;> conv => whnf
    · rw [B_beq] at h3
      rw [show (l == x) = true by rw [eq_of_beq h3]; simp, Bool.true_or, Bool.true_and] at hn
      exact .inl (pb (by rw [← hn]; exact z0 2))
    · rw [B_beq] at h3
      rw [show (l == x) = false by simp only [beq_eq_false_iff_ne] at h3 ⊢; exact fun e => h3 e.symm, Bool.false_or] at hn
      exact ⟨hk1, (), ⟨rfl, rfl, rfl, rfl⟩, hn⟩
  · have hk1 := ix_ff h2 (by simp) hk (by omega)
    rw [hk1, List.drop_length] at hn
    exact .inl (pb hn)
theorem op_spec (s : ByteArray) (n : Nat) : APure Tryd.prog 83 [.p (.s s), .p (.i .i64 n)] (.p (.b (opF s n))) := by
  have hs := TK.split_spec opsC (B [32]) rfl (by decide)
  have := op_aux s.data.toList n (TK.splitF 32 opsC) (by rw [TK.split_len]; exact Nat.le_trans (Nat.succ_le_succ (TK.count_le' _ _)) (by decide)) hs _ rfl
  rw [← B_of] at this
  exact this
end TR
open Go Go.AM Go.Proofs
set_option maxRecDepth 100000
namespace TR
def mostF (k : Int) (a : Nat) : Nat := bif k == 9 || (k == 12 || (k == 14 || k == 17)) then 6 else bif k == 11 then 7 else a
def tooF (k : Int) (a m t : Nat) : Bool := decide (a > mostF k a) || (decide (m > 12) || decide (t > 64))
theorem too_aux (k m : Int) (t : ByteArray) (ns : List ByteArray) (ts : List Ty) (xs : List Ex) (ms : List Arm) (p : Int) (R : Bool) (hR : tooF k xs.length ms.length t.size = R) :
    APure Tryd.prog 75 [.p (eE (.mk k m t ns ts xs ms p))] (.p (.b R)) := by
  have hxl := eEs_len xs
  have hml := eAs_len ms
  have z1 : ∀ q : Nat, decide (((eEs xs).length : Int) > (q : Int)) = decide (xs.length > q) := fun q => by rw [hxl]; exact decide_eq_decide.2 (by omega)
  have z2 : decide (((eAs ms).length : Int) > 12) = decide (ms.length > 12) := by rw [hml]; exact decide_eq_decide.2 (by omega)
  have z3 : decide ((t.size : Int) > 64) = decide (t.size > 64) := decide_eq_decide.2 (by omega)
  have z4 : decide (((eEs xs).length : Int) > ((eEs xs).length : Int)) = decide (xs.length > xs.length) := by rw [hxl]; exact decide_eq_decide.2 (by omega)
  rw [tooF] at hR
  refine APure.intro (tyOf_ok Tryd.prog) hmix Tryd.func75 rfl (by rfl) (by kernel_rfl) (by show 1 ≤ _; decide) rfl ?_
  conv => whnf
  refine asplit ?_ ?_ <;> intro k1 <;> conv => whnf
  · refine ast k1 ?_
    conv => whnf
    rw [show decide (((eEs xs).length : Int) > 6) = _ from z1 6]
    refine asplit ?_ ?_ <;> intro g1 <;> conv => whnf
    · exact .inl (pb (by rw [← hR, show mostF k xs.length = 6 by rw [mostF, k1]; rfl, g1]; rfl))
    rw [z2]
    refine asplit ?_ ?_ <;> intro g2 <;> conv => whnf
    · exact .inl (pb (by rw [← hR, show mostF k xs.length = 6 by rw [mostF, k1]; rfl, g1, g2]; rfl))
    exact .inl (pb (by rw [← hR, show mostF k xs.length = 6 by rw [mostF, k1]; rfl, g1, g2, z3]; rfl))
  refine asplit ?_ ?_ <;> intro k2 <;> conv => whnf
  · refine ast k2 ?_
    conv => whnf
    rw [show decide (((eEs xs).length : Int) > 6) = _ from z1 6]
    refine asplit ?_ ?_ <;> intro g1 <;> conv => whnf
    · exact .inl (pb (by rw [← hR, show mostF k xs.length = 6 by rw [mostF, k1, k2]; rfl, g1]; rfl))
    rw [z2]
    refine asplit ?_ ?_ <;> intro g2 <;> conv => whnf
    · exact .inl (pb (by rw [← hR, show mostF k xs.length = 6 by rw [mostF, k1, k2]; rfl, g1, g2]; rfl))
    exact .inl (pb (by rw [← hR, show mostF k xs.length = 6 by rw [mostF, k1, k2]; rfl, g1, g2, z3]; rfl))
  refine asplit ?_ ?_ <;> intro k3 <;> conv => whnf
  · refine ast k3 ?_
    conv => whnf
    rw [show decide (((eEs xs).length : Int) > 6) = _ from z1 6]
    refine asplit ?_ ?_ <;> intro g1 <;> conv => whnf
    · exact .inl (pb (by rw [← hR, show mostF k xs.length = 6 by rw [mostF, k1, k2, k3]; rfl, g1]; rfl))
    rw [z2]
    refine asplit ?_ ?_ <;> intro g2 <;> conv => whnf
    · exact .inl (pb (by rw [← hR, show mostF k xs.length = 6 by rw [mostF, k1, k2, k3]; rfl, g1, g2]; rfl))
    exact .inl (pb (by rw [← hR, show mostF k xs.length = 6 by rw [mostF, k1, k2, k3]; rfl, g1, g2, z3]; rfl))
  refine asplit ?_ ?_ <;> intro k4 <;> conv => whnf
  · rw [show decide (((eEs xs).length : Int) > 6) = _ from z1 6]
    refine asplit ?_ ?_ <;> intro g1 <;> conv => whnf
    · exact .inl (pb (by rw [← hR, show mostF k xs.length = 6 by rw [mostF, k1, k2, k3, k4]; rfl, g1]; rfl))
    rw [z2]
    refine asplit ?_ ?_ <;> intro g2 <;> conv => whnf
    · exact .inl (pb (by rw [← hR, show mostF k xs.length = 6 by rw [mostF, k1, k2, k3, k4]; rfl, g1, g2]; rfl))
    exact .inl (pb (by rw [← hR, show mostF k xs.length = 6 by rw [mostF, k1, k2, k3, k4]; rfl, g1, g2, z3]; rfl))
  refine asplit ?_ ?_ <;> intro k5 <;> conv => whnf
  · rw [show decide (((eEs xs).length : Int) > 7) = _ from z1 7]
    refine asplit ?_ ?_ <;> intro g1 <;> conv => whnf
    · exact .inl (pb (by rw [← hR, show mostF k xs.length = 7 by rw [mostF, k1, k2, k3, k4, k5]; rfl, g1]; rfl))
    rw [z2]
    refine asplit ?_ ?_ <;> intro g2 <;> conv => whnf
    · exact .inl (pb (by rw [← hR, show mostF k xs.length = 7 by rw [mostF, k1, k2, k3, k4, k5]; rfl, g1, g2]; rfl))
    exact .inl (pb (by rw [← hR, show mostF k xs.length = 7 by rw [mostF, k1, k2, k3, k4, k5]; rfl, g1, g2, z3]; rfl))
  rw [z4]
  refine asplit ?_ ?_ <;> intro g1 <;> conv => whnf
  · exact .inl (pb (by rw [← hR, show mostF k xs.length = xs.length by rw [mostF, k1, k2, k3, k4, k5]; rfl, g1]; rfl))
  rw [z2]
  refine asplit ?_ ?_ <;> intro g2 <;> conv => whnf
  · exact .inl (pb (by rw [← hR, show mostF k xs.length = xs.length by rw [mostF, k1, k2, k3, k4, k5]; rfl, g1, g2]; rfl))
  exact .inl (pb (by rw [← hR, show mostF k xs.length = xs.length by rw [mostF, k1, k2, k3, k4, k5]; rfl, g1, g2, z3]; rfl))
/-! the fields of an expression -/
def textOK (k : Int) (t : ByteArray) (a : Nat) : Bool := bif k == 5 || (k == 6 || k == 9) then lowB t else bif k == 12 || k == 14 then upB t else bif k == 8 then opF t a else bif k == 4 then true else isS t []
def numOK (k m : Int) : Bool := bif k == 3 then (m == 0 || m == 1) else bif k == 2 then true else bif k == 18 then (m == -1 || plainF m) else m == 0
def armsOK (k : Int) (n : Nat) : Bool := bif k == 13 then !(n == 0) else bif k == 18 then true else n == 0
def partsR (k m : Int) (t : ByteArray) (nl tl a ml : Nat) : Bool := ((a : Int) == needsF k m a) && (textOK k t a && (numOK k m && (armsOK k ml && (k == 10 || nl + tl == 0))))
theorem parts_aux (k m : Int) (t : ByteArray) (ns : List ByteArray) (ts : List Ty) (xs : List Ex) (ms : List Arm) (p : Int) (R : Bool) (hR : partsR k m t ns.length ts.length xs.length ms.length = R)
    (ht : t.size ≤ 1048576) (hns : ns.length ≤ 1048576) (hts : ts.length ≤ 1048576) :
    APure Tryd.prog 76 [.p (eE (.mk k m t ns ts xs ms p))] (.p (.b R)) := by
  have hxl := eEs_len xs
  have hml := eAs_len ms
  have htl := eTs_len ts
  have p0 : APure Tryd.prog 56 [.p (eE (.mk k m t ns ts xs ms p))] (.p (.i .i64 (needsF k m xs.length))) := needs_spec (.mk k m t ns ts xs ms p)
  have p1 := lowB_spec t ht
  have p2 := upB_spec t ht
  have p3 := op_spec t xs.length
  have p4 := plain_spec m
  have e0 : (t.toList == ByteArray.toList ⟨#[]⟩) = isS t [] := isS_eq t []
  have z1 : (((eAs ms).length : Int) == 0) = (ms.length == 0) := by
    rw [hml]
    by_cases q : ms.length = 0
    · rw [q]; rfl
    · rw [show (ms.length == 0) = false by simpa using q]; simpa using q
  have z2 : (IntKind.i64.wrap (((ns.map eStr).length : Int) + ((eTs ts).length : Int)) == 0) = (ns.length + ts.length == 0) := by
    rw [List.length_map, htl, wrap64 (by omega) (by omega)]
    by_cases q : ns.length + ts.length = 0
    · rw [q]; have h1 : ns.length = 0 := by omega
      have h2 : ts.length = 0 := by omega
      rw [h1, h2]; rfl
    · rw [show (ns.length + ts.length == 0) = false by simpa using q]
      have : ¬ ((ns.length : Int) + (ts.length : Int) = 0) := by omega
      simpa using this
  rw [partsR, textOK, numOK, armsOK] at hR
  rw [← hxl] at hR p3
  generalize hN : (((eEs xs).length : Int) == needsF k m (eEs xs).length) = N at *
  rw [← hxl] at p0
  generalize needsF k m (eEs xs).length = nd at *
  generalize isS t [] = b0 at *
  generalize lowB t = b1 at *
  generalize upB t = b2 at *
  generalize opF t (eEs xs).length = b3 at *
  generalize plainF m = b4 at *
  generalize hM : (ms.length == 0) = b5 at *
  generalize (ns.length + ts.length == 0) = b6 at *
  clear ht hns hts hxl hml htl
  refine APure.intro (tyOf_ok Tryd.prog) hmix Tryd.func76 rfl (by rfl) (by kernel_rfl) (by show 1 ≤ _; decide) rfl ?_
  conv => whnf
  refine apc p0 ?_
  conv => whnf
  rw [e0, hN]
  refine aneed (by kernel_rfl) ?_
  conv => whnf
  refine asplit ?_ ?_ <;> intro g <;> conv => whnf
  · have hk := eq_of_beq g
    subst hk
    conv => whnf
    refine apc p1 ?_
    conv => whnf
    refine asplit ?_ ?_ <;> intro _ <;> conv => whnf
    rotate_left
    · refine .inl (pb ?_)
      clear z1 z2 p0 p1 p2 p3 p4
      simp_all
    refine asplit ?_ ?_ <;> intro _ <;> conv => whnf
    rotate_left
    · refine .inl (pb ?_)
      clear z1 z2 p0 p1 p2 p3 p4
      simp_all
    refine asplit ?_ ?_ <;> intro _ <;> conv => whnf
    rotate_left
    · refine .inl (pb ?_)
      clear z1 z2 p0 p1 p2 p3 p4
      simp_all
    rw [z1]
    refine asplit ?_ ?_ <;> intro _ <;> conv => whnf
    rotate_left
    · refine .inl (pb ?_)
      clear z1 z2 p0 p1 p2 p3 p4
      simp_all
    rw [z2]
    refine .inl (pb ?_)
    clear z1 z2 p0 p1 p2 p3 p4
    simp_all
  have g5 := g
  refine asplit ?_ ?_ <;> intro g <;> conv => whnf
  · have hk := eq_of_beq g
    subst hk
    conv => whnf
    refine apc p1 ?_
    conv => whnf
    refine asplit ?_ ?_ <;> intro _ <;> conv => whnf
    rotate_left
    · refine .inl (pb ?_)
      clear z1 z2 p0 p1 p2 p3 p4
      simp_all
    refine asplit ?_ ?_ <;> intro _ <;> conv => whnf
    rotate_left
    · refine .inl (pb ?_)
      clear z1 z2 p0 p1 p2 p3 p4
      simp_all
    refine asplit ?_ ?_ <;> intro _ <;> conv => whnf
    rotate_left
    · refine .inl (pb ?_)
      clear z1 z2 p0 p1 p2 p3 p4
      simp_all
    rw [z1]
    refine asplit ?_ ?_ <;> intro _ <;> conv => whnf
    rotate_left
    · refine .inl (pb ?_)
      clear z1 z2 p0 p1 p2 p3 p4
      simp_all
    rw [z2]
    refine .inl (pb ?_)
    clear z1 z2 p0 p1 p2 p3 p4
    simp_all
  have g6 := g
  refine asplit ?_ ?_ <;> intro g <;> conv => whnf
  · have hk := eq_of_beq g
    subst hk
    refine apc p1 ?_
    conv => whnf
    refine asplit ?_ ?_ <;> intro _ <;> conv => whnf
    rotate_left
    · refine .inl (pb ?_)
      clear z1 z2 p0 p1 p2 p3 p4
      simp_all
    refine asplit ?_ ?_ <;> intro _ <;> conv => whnf
    rotate_left
    · refine .inl (pb ?_)
      clear z1 z2 p0 p1 p2 p3 p4
      simp_all
    refine asplit ?_ ?_ <;> intro _ <;> conv => whnf
    rotate_left
    · refine .inl (pb ?_)
      clear z1 z2 p0 p1 p2 p3 p4
      simp_all
    rw [z1]
    refine asplit ?_ ?_ <;> intro _ <;> conv => whnf
    rotate_left
    · refine .inl (pb ?_)
      clear z1 z2 p0 p1 p2 p3 p4
      simp_all
    rw [z2]
    refine .inl (pb ?_)
    clear z1 z2 p0 p1 p2 p3 p4
    simp_all
  have g9 := g
  refine asplit ?_ ?_ <;> intro g <;> conv => whnf
  · have hk := eq_of_beq g
    subst hk
    conv => whnf
    refine apc p2 ?_
    conv => whnf
    refine asplit ?_ ?_ <;> intro _ <;> conv => whnf
    rotate_left
    · refine .inl (pb ?_)
      clear z1 z2 p0 p1 p2 p3 p4
      simp_all
    refine asplit ?_ ?_ <;> intro _ <;> conv => whnf
    rotate_left
    · refine .inl (pb ?_)
      clear z1 z2 p0 p1 p2 p3 p4
      simp_all
    refine asplit ?_ ?_ <;> intro _ <;> conv => whnf
    rotate_left
    · refine .inl (pb ?_)
      clear z1 z2 p0 p1 p2 p3 p4
      simp_all
    rw [z1]
    refine asplit ?_ ?_ <;> intro _ <;> conv => whnf
    rotate_left
    · refine .inl (pb ?_)
      clear z1 z2 p0 p1 p2 p3 p4
      simp_all
    rw [z2]
    refine .inl (pb ?_)
    clear z1 z2 p0 p1 p2 p3 p4
    simp_all
  have g12 := g
  refine asplit ?_ ?_ <;> intro g <;> conv => whnf
  · have hk := eq_of_beq g
    subst hk
    refine apc p2 ?_
    conv => whnf
    refine asplit ?_ ?_ <;> intro _ <;> conv => whnf
    rotate_left
    · refine .inl (pb ?_)
      clear z1 z2 p0 p1 p2 p3 p4
      simp_all
    refine asplit ?_ ?_ <;> intro _ <;> conv => whnf
    rotate_left
    · refine .inl (pb ?_)
      clear z1 z2 p0 p1 p2 p3 p4
      simp_all
    refine asplit ?_ ?_ <;> intro _ <;> conv => whnf
    rotate_left
    · refine .inl (pb ?_)
      clear z1 z2 p0 p1 p2 p3 p4
      simp_all
    rw [z1]
    refine asplit ?_ ?_ <;> intro _ <;> conv => whnf
    rotate_left
    · refine .inl (pb ?_)
      clear z1 z2 p0 p1 p2 p3 p4
      simp_all
    rw [z2]
    refine .inl (pb ?_)
    clear z1 z2 p0 p1 p2 p3 p4
    simp_all
  have g14 := g
  refine asplit ?_ ?_ <;> intro g <;> conv => whnf
  · have hk := eq_of_beq g
    subst hk
    refine apc p3 ?_
    conv => whnf
    refine asplit ?_ ?_ <;> intro _ <;> conv => whnf
    rotate_left
    · refine .inl (pb ?_)
      clear z1 z2 p0 p1 p2 p3 p4
      simp_all
    refine asplit ?_ ?_ <;> intro _ <;> conv => whnf
    rotate_left
    · refine .inl (pb ?_)
      clear z1 z2 p0 p1 p2 p3 p4
      simp_all
    refine asplit ?_ ?_ <;> intro _ <;> conv => whnf
    rotate_left
    · refine .inl (pb ?_)
      clear z1 z2 p0 p1 p2 p3 p4
      simp_all
    rw [z1]
    refine asplit ?_ ?_ <;> intro _ <;> conv => whnf
    rotate_left
    · refine .inl (pb ?_)
      clear z1 z2 p0 p1 p2 p3 p4
      simp_all
    rw [z2]
    refine .inl (pb ?_)
    clear z1 z2 p0 p1 p2 p3 p4
    simp_all
  have g8 := g
  refine asplit ?_ ?_ <;> intro g <;> conv => whnf
  · have hk := eq_of_beq g
    subst hk
    refine asplit ?_ ?_ <;> intro _ <;> conv => whnf
    rotate_left
    · refine .inl (pb ?_)
      clear z1 z2 p0 p1 p2 p3 p4
      simp_all
    refine asplit ?_ ?_ <;> intro _ <;> conv => whnf
    rotate_left
    · refine .inl (pb ?_)
      clear z1 z2 p0 p1 p2 p3 p4
      simp_all
    rw [z1]
    refine asplit ?_ ?_ <;> intro _ <;> conv => whnf
    rotate_left
    · refine .inl (pb ?_)
      clear z1 z2 p0 p1 p2 p3 p4
      simp_all
    rw [z2]
    refine .inl (pb ?_)
    clear z1 z2 p0 p1 p2 p3 p4
    simp_all
  have g4 := g
  refine asplit ?_ ?_ <;> intro g <;> conv => whnf
  · have hk := eq_of_beq g
    subst hk
    refine asplit ?_ ?_ <;> intro q <;> conv => whnf
    · refine asplit ?_ ?_ <;> intro _ <;> conv => whnf
      rotate_left
      · refine .inl (pb ?_)
        clear z1 z2 p0 p1 p2 p3 p4
        simp_all
      refine asplit ?_ ?_ <;> intro _ <;> conv => whnf
      rotate_left
      · refine .inl (pb ?_)
        clear z1 z2 p0 p1 p2 p3 p4
        simp_all
      rw [z1]
      refine asplit ?_ ?_ <;> intro _ <;> conv => whnf
      rotate_left
      · refine .inl (pb ?_)
        clear z1 z2 p0 p1 p2 p3 p4
        simp_all
      rw [z2]
      refine .inl (pb ?_)
      clear z1 z2 p0 p1 p2 p3 p4
      simp_all
    · refine asplit ?_ ?_ <;> intro _ <;> conv => whnf
      rotate_left
      · refine .inl (pb ?_)
        clear z1 z2 p0 p1 p2 p3 p4
        simp_all
      refine asplit ?_ ?_ <;> intro _ <;> conv => whnf
      rotate_left
      · refine .inl (pb ?_)
        clear z1 z2 p0 p1 p2 p3 p4
        simp_all
      refine asplit ?_ ?_ <;> intro _ <;> conv => whnf
      rotate_left
      · refine .inl (pb ?_)
        clear z1 z2 p0 p1 p2 p3 p4
        simp_all
      rw [z1]
      refine asplit ?_ ?_ <;> intro _ <;> conv => whnf
      rotate_left
      · refine .inl (pb ?_)
        clear z1 z2 p0 p1 p2 p3 p4
        simp_all
      rw [z2]
      refine .inl (pb ?_)
      clear z1 z2 p0 p1 p2 p3 p4
      simp_all
  have g3 := g
  refine asplit ?_ ?_ <;> intro g <;> conv => whnf
  · have hk := eq_of_beq g
    subst hk
    refine asplit ?_ ?_ <;> intro _ <;> conv => whnf
    rotate_left
    · refine .inl (pb ?_)
      clear z1 z2 p0 p1 p2 p3 p4
      simp_all
    refine asplit ?_ ?_ <;> intro _ <;> conv => whnf
    rotate_left
    · refine .inl (pb ?_)
      clear z1 z2 p0 p1 p2 p3 p4
      simp_all
    rw [z1]
    refine asplit ?_ ?_ <;> intro _ <;> conv => whnf
    rotate_left
    · refine .inl (pb ?_)
      clear z1 z2 p0 p1 p2 p3 p4
      simp_all
    rw [z2]
    refine .inl (pb ?_)
    clear z1 z2 p0 p1 p2 p3 p4
    simp_all
  have g2 := g
  refine asplit ?_ ?_ <;> intro g <;> conv => whnf
  · have hk := eq_of_beq g
    subst hk
    refine asplit ?_ ?_ <;> intro q <;> conv => whnf
    · refine asplit ?_ ?_ <;> intro _ <;> conv => whnf
      rotate_left
      · refine .inl (pb ?_)
        clear z1 z2 p0 p1 p2 p3 p4
        simp_all
      refine asplit ?_ ?_ <;> intro _ <;> conv => whnf
      rotate_left
      · refine .inl (pb ?_)
        clear z1 z2 p0 p1 p2 p3 p4
        simp_all
      rw [z2]
      refine .inl (pb ?_)
      clear z1 z2 p0 p1 p2 p3 p4
      simp_all
    · refine apc p4 ?_
      conv => whnf
      refine asplit ?_ ?_ <;> intro _ <;> conv => whnf
      rotate_left
      · refine .inl (pb ?_)
        clear z1 z2 p0 p1 p2 p3 p4
        simp_all
      refine asplit ?_ ?_ <;> intro _ <;> conv => whnf
      rotate_left
      · refine .inl (pb ?_)
        clear z1 z2 p0 p1 p2 p3 p4
        simp_all
      refine asplit ?_ ?_ <;> intro _ <;> conv => whnf
      rotate_left
      · refine .inl (pb ?_)
        clear z1 z2 p0 p1 p2 p3 p4
        simp_all
      rw [z2]
      refine .inl (pb ?_)
      clear z1 z2 p0 p1 p2 p3 p4
      simp_all
  have g18 := g
  refine asplit ?_ ?_ <;> intro g <;> conv => whnf
  · have hk := eq_of_beq g
    subst hk
    refine asplit ?_ ?_ <;> intro _ <;> conv => whnf
    rotate_left
    · refine .inl (pb ?_)
      clear z1 z2 p0 p1 p2 p3 p4
      simp_all
    refine asplit ?_ ?_ <;> intro _ <;> conv => whnf
    rotate_left
    · refine .inl (pb ?_)
      clear z1 z2 p0 p1 p2 p3 p4
      simp_all
    refine asplit ?_ ?_ <;> intro _ <;> conv => whnf
    rotate_left
    · refine .inl (pb ?_)
      clear z1 z2 p0 p1 p2 p3 p4
      simp_all
    rw [z1]
    refine asplit ?_ ?_ <;> intro _ <;> conv => whnf
    rotate_left
    · refine .inl (pb ?_)
      clear z1 z2 p0 p1 p2 p3 p4
      simp_all
    rw [z2]
    refine .inl (pb ?_)
    clear z1 z2 p0 p1 p2 p3 p4
    simp_all
  refine asf g18 ?_
  conv => whnf
  refine asplit ?_ ?_ <;> intro _ <;> conv => whnf
  rotate_left
  · refine .inl (pb ?_)
    clear z1 z2 p0 p1 p2 p3 p4
    simp_all
  refine asplit ?_ ?_ <;> intro _ <;> conv => whnf
  rotate_left
  · refine .inl (pb ?_)
    clear z1 z2 p0 p1 p2 p3 p4
    simp_all
  refine asplit ?_ ?_ <;> intro _ <;> conv => whnf
  rotate_left
  · refine .inl (pb ?_)
    clear z1 z2 p0 p1 p2 p3 p4
    simp_all
  rw [z1]
  refine asplit ?_ ?_ <;> intro _ <;> conv => whnf
  rotate_left
  · refine .inl (pb ?_)
    clear z1 z2 p0 p1 p2 p3 p4
    simp_all
  refine asplit ?_ ?_ <;> intro g10 <;> conv => whnf
  · refine .inl (pb ?_)
    clear z1 z2 p0 p1 p2 p3 p4
    simp_all
  rw [z2]
  refine .inl (pb ?_)
  clear z1 z2 p0 p1 p2 p3 p4
  simp_all
end TR
open Go Go.AM Go.Proofs
set_option maxRecDepth 100000
namespace TR
mutual
def rE : Ex → Bool → Int
  | .mk k m t ns ts xs ms _, be => bif decide (needsF k m xs.length < 0) then 3 else bif tooF k xs.length ms.length t.size then 2
    else bif !partsR k m t ns.length ts.length xs.length ms.length || (k == 17 && !be) then 3
    else bif k == 10 then (bif !(ns.length == ts.length) then 3 else bif orF [rNames ns, rTypes ts] == 0 then (bif rEs xs false == 0 then rAs ms false else rEs xs false) else orF [rNames ns, rTypes ts])
    else (bif rEs xs be == 0 then rAs ms be else rEs xs be)
def rEs : List Ex → Bool → Int
  | [], _ => 0
  | e :: r, be => bif rE e be == 0 then rEs r be else rE e be
def rAs : List Arm → Bool → Int
  | [], _ => 0
  | .mk p e :: r, be => bif (bif rP p == 0 then rE e be else rP p) == 0 then rAs r be else (bif rP p == 0 then rE e be else rP p)
end
def rA (be : Bool) (a : Arm) : Int := bif rP a.pat == 0 then rE a.body be else rP a.pat
theorem rEs_each (be : Bool) : ∀ (l : List Ex), rEs l be = eachF (fun e => rE e be) l
  | [] => by rw [rEs, eachF]
  | t :: r => by rw [rEs, eachF, rEs_each be r]
theorem rAs_each (be : Bool) : ∀ (l : List Arm), rAs l be = eachF (rA be) l
  | [] => by rw [rAs, eachF]
  | .mk p e :: r => by rw [rAs, eachF, rAs_each be r]; rfl
theorem expr1_of (e : Ex) (be : Bool) (R : Int) (h : APure Tryd.prog 69 [.p (eE e), .p (.b be)] (.p (.i .i64 R))) :
    AMem Tryd.prog 78 [.p (eE e), .ptr 1000000000 0] [(1000000000, .cells [.p (.b be)])] (.p (.i .i64 R)) [(1000000000, .cells [.p (.b be)])] := by
  obtain ⟨k, m, t, ns, ts, xs, ms, p⟩ := e
  refine AMem.intro (tyOf_ok Tryd.prog) hmix Tryd.func78 rfl (by rfl) (by kernel_rfl) (by show 2 ≤ _; decide) rfl ?_
  conv => whnf
  refine apc h ?_
  conv => whnf
  exact ⟨.inl rfl, ⟨.inl rfl, trivial⟩, trivial⟩
theorem expr2_of (a : Arm) (be : Bool) (h1 : APure Tryd.prog 81 [.p (eP a.pat)] (.p (.i .i64 (rP a.pat)))) (h2 : APure Tryd.prog 69 [.p (eE a.body), .p (.b be)] (.p (.i .i64 (rE a.body be)))) :
    AMem Tryd.prog 80 [.p (eA a), .ptr 1000000000 0] [(1000000000, .cells [.p (.b be)])] (.p (.i .i64 (rA be a))) [(1000000000, .cells [.p (.b be)])] := by
  rw [rA]
  generalize rP a.pat = u at *
  generalize rE a.body be = v at *
  obtain ⟨⟨pk, pm, pt, px⟩, ⟨k, m, t, ns, ts, xs, ms, p⟩⟩ := a
  simp only [Arm.pat, Arm.body] at h1 h2
  refine AMem.intro (tyOf_ok Tryd.prog) hmix Tryd.func80 rfl (by rfl) (by kernel_rfl) (by show 2 ≤ _; decide) rfl ?_
  conv => whnf
  refine apc h1 ?_
  conv => whnf
  refine asplit ?_ ?_ <;> intro g <;> conv => whnf
  · exact ⟨.inl (pi (by rw [ne0 g]; rfl)), ⟨.inl rfl, trivial⟩, trivial⟩
  · refine apc h2 ?_
    conv => whnf
    exact ⟨.inl (pi (by rw [eq0 g]; rfl)), ⟨.inl rfl, trivial⟩, trivial⟩
theorem expr_of (k m : Int) (t : ByteArray) (ns : List ByteArray) (ts : List Ty) (xs : List Ex) (ms : List Arm) (p : Int) (be : Bool) (hw : wE (.mk k m t ns ts xs ms p) ≤ 1048576)
    (ih1 : ∀ x ∈ xs, ∀ b, APure Tryd.prog 69 [.p (eE x), .p (.b b)] (.p (.i .i64 (rE x b)))) (ih2 : ∀ a ∈ ms, ∀ b, APure Tryd.prog 69 [.p (eE a.body), .p (.b b)] (.p (.i .i64 (rE a.body b)))) :
    APure Tryd.prog 69 [.p (eE (.mk k m t ns ts xs ms p)), .p (.b be)] (.p (.i .i64 (rE (.mk k m t ns ts xs ms p) be))) := by
  have hR : (bif decide (needsF k m xs.length < 0) then 3 else bif tooF k xs.length ms.length t.size then 2
    else bif !partsR k m t ns.length ts.length xs.length ms.length || (k == 17 && !be) then 3
    else bif k == 10 then (bif !(ns.length == ts.length) then 3 else bif orF [rNames ns, rTypes ts] == 0 then (bif rEs xs false == 0 then rAs ms false else rEs xs false) else orF [rNames ns, rTypes ts])
    else (bif rEs xs be == 0 then rAs ms be else rEs xs be)) = rE (.mk k m t ns ts xs ms p) be := by rw [rE]
  have hlen := wE_lens k m t ns ts xs ms p
  have hw2 := wE_mk k m t ns ts xs ms p
  have p0 : APure Tryd.prog 56 [.p (eE (.mk k m t ns ts xs ms p))] (.p (.i .i64 (needsF k m xs.length))) := needs_spec (.mk k m t ns ts xs ms p)
  have p1 := too_aux k m t ns ts xs ms p _ rfl
  have p2 := parts_aux k m t ns ts xs ms p _ rfl (by omega) (by omega) (by omega)
  have p3 := names_spec ns (by omega)
  have p4 := types_spec ts (by omega)
  have p5 := or_spec [rNames ns, rTypes ts] (by simp) _ rfl
  have hx : ∀ b, AMem Tryd.prog 77 [.p (.sl 8 (eEs xs)), .fn 78 [] [.ptr 1000000000 0]] [(1000000000, .cells [.p (.b b)])] (.p (.i .i64 (rEs xs b))) [(1000000000, .cells [.p (.b b)])] := fun b => by
    have := eachvEx xs 78 b (fun x => rE x b) (by omega) (fun x hx => expr1_of x b _ (ih1 x hx b)) _ rfl
    rw [← eEs_map, ← rEs_each] at this
    exact this
  have ha : ∀ b, AMem Tryd.prog 79 [.p (.sl 12 (eAs ms)), .fn 80 [] [.ptr 1000000000 0]] [(1000000000, .cells [.p (.b b)])] (.p (.i .i64 (rAs ms b))) [(1000000000, .cells [.p (.b b)])] := fun b => by
    have := eachvAr ms 80 b (rA b) (by omega) (fun x hx => expr2_of x b (pat_spec x.pat (by have := wE_body (k := k) (n := m) (t := t) (ns := ns) (ts := ts) (xs := xs) (p := p) hx; have := wE_pos x.body; omega)) (ih2 x hx b)) _ rfl
    rw [← eAs_map, ← rAs_each] at this
    exact this
  have z1 : (((ns.map eStr).length : Int) != ((eTs ts).length : Int)) = !(ns.length == ts.length) := by
    rw [List.length_map, eTs_len]
    by_cases q : ns.length = ts.length
    · rw [q]; simp
    · rw [show (ns.length == ts.length) = false by simpa using q]
      have : ¬ ((ns.length : Int) = (ts.length : Int)) := by omega
      simpa using this
  clear ih1 ih2 hw hw2 hlen
  generalize rE (.mk k m t ns ts xs ms p) be = R at *
  generalize needsF k m xs.length = nd at *
  generalize tooF k xs.length ms.length t.size = b1 at *
  generalize partsR k m t ns.length ts.length xs.length ms.length = b2 at *
  generalize orF [rNames ns, rTypes ts] = o at *
  generalize rNames ns = o1 at *
  generalize rTypes ts = o2 at *
  generalize rEs xs = EX at *
  generalize rAs ms = AX at *
  generalize (ns.length == ts.length) = b3 at *
  refine APure.intro (tyOf_ok Tryd.prog) hmix Tryd.func69 rfl (by rfl) (by kernel_rfl) (by show 2 ≤ _; decide) rfl ?_
  conv => whnf
  refine apc p0 ?_
  conv => whnf
  refine asplit ?_ ?_ <;> intro g1 <;> conv => whnf
  · exact .inl (pi (by rw [← hR, g1]; rfl))
  rw [g1, cond_false] at hR
  refine apc p1 ?_
  conv => whnf
  refine asplit ?_ ?_ <;> intro g2 <;> conv => whnf
  · exact .inl (pi (by rw [← hR, g2]; rfl))
  rw [g2, cond_false] at hR
  refine apc p2 ?_
  conv => whnf
  refine asplit ?_ ?_ <;> intro g3 <;> conv => whnf
  · exact .inl (pi (by rw [← hR, g3]; rfl))
  rw [g3, Bool.false_or] at hR
  refine asplit ?_ ?_ <;> intro g4 <;> conv => whnf
  · refine asplit ?_ ?_ <;> intro g5 <;> conv => whnf
    · exact .inl (pi (by rw [← hR, g4, g5]; rfl))
    · rw [g4, g5, Bool.and_false, cond_false] at hR
      have hk := eq_of_beq g4
      subst hk
      refine amc [3] 10000 (hx be) ?_
      conv => whnf
      refine asplit ?_ ?_ <;> intro q1 <;> conv => whnf
      · exact .inl (pi (by rw [← hR, ne0 q1]; rfl))
      · rw [eq0 q1, cond_true] at hR
        refine amc [3] 20000 (ha be) ?_
        conv => whnf
        exact .inl (pi hR)
  · rw [g4, Bool.false_and, cond_false] at hR
    refine asplit ?_ ?_ <;> intro g5 <;> conv => whnf
    · rw [g5, cond_true] at hR
      rw [z1]
      refine asplit ?_ ?_ <;> intro g6 <;> conv => whnf
      · exact .inl (pi (by rw [← hR, g6]; rfl))
      rw [g6, cond_false] at hR
      refine apc p3 ?_
      conv => whnf
      refine apc p4 ?_
      conv => whnf
      refine apc p5 ?_
      conv => whnf
      refine aneed (by kernel_rfl) ?_
      conv => whnf
      refine asplit ?_ ?_ <;> intro g7 <;> conv => whnf
      · exact .inl (pi (by rw [← hR, ne0 g7]; rfl))
      rw [eq0 g7, cond_true] at hR
      refine amc [3] 10000 (hx false) ?_
      conv => whnf
      refine asplit ?_ ?_ <;> intro q1 <;> conv => whnf
      · exact .inl (pi (by rw [← hR, ne0 q1]; rfl))
      · rw [eq0 q1, cond_true] at hR
        refine amc [3] 20000 (ha false) ?_
        conv => whnf
        exact .inl (pi hR)
    · rw [g5, cond_false] at hR
      refine amc [3] 10000 (hx be) ?_
      conv => whnf
      refine asplit ?_ ?_ <;> intro q1 <;> conv => whnf
      · exact .inl (pi (by rw [← hR, ne0 q1]; rfl))
      · rw [eq0 q1, cond_true] at hR
        refine amc [3] 20000 (ha be) ?_
        conv => whnf
        exact .inl (pi hR)
theorem expr_spec (e : Ex) : wE e ≤ 1048576 → ∀ be, APure Tryd.prog 69 [.p (eE e), .p (.b be)] (.p (.i .i64 (rE e be))) :=
  Ex.ind (Q := fun e => wE e ≤ 1048576 → ∀ be, APure Tryd.prog 69 [.p (eE e), .p (.b be)] (.p (.i .i64 (rE e be)))) (fun k m t ns ts xs ms p h1 h2 hw be =>
    expr_of k m t ns ts xs ms p be hw (fun x hx b => h1 x hx (by have := wE_args (k := k) (n := m) (t := t) (ns := ns) (ts := ts) (ms := ms) (p := p) hx; omega) b)
      (fun a ha b => h2 a ha (by have := wE_body (k := k) (n := m) (t := t) (ns := ns) (ts := ts) (xs := xs) (p := p) ha; omega) b)) e
def rBody (e : Ex) (be : Bool) : Int := bif decide (sizeF e > 400) || decide (deepF e > 40) then 2 else rE e be
theorem body_spec (e : Ex) (hw : wE e ≤ 1048576) (be : Bool) : APure Tryd.prog 54 [.p (eE e), .p (.b be)] (.p (.i .i64 (rBody e be))) := by
  have p1 := size_spec e hw
  have p2 := deep_spec e hw
  have p3 := expr_spec e hw be
  have z1 : ∀ (a b : Nat), decide ((a : Int) > (b : Int)) = decide (a > b) := fun a b => decide_eq_decide.2 (by omega)
  rw [rBody]
  generalize rE e be = R at *
  generalize sizeF e = s at *
  generalize deepF e = d at *
  obtain ⟨k, m, t, ns, ts, xs, ms, p⟩ := e
  refine APure.intro (tyOf_ok Tryd.prog) hmix Tryd.func54 rfl (by rfl) (by kernel_rfl) (by show 2 ≤ _; decide) rfl ?_
  conv => whnf
  refine apc p1 ?_
  conv => whnf
  refine asplit ?_ ?_ <;> intro g1 <;> conv => whnf
  · have g1 : decide (s > 400) = true := by rw [← z1]; exact g1
    exact .inl (pi (by rw [g1]; rfl))
  have g1 : decide (s > 400) = false := by rw [← z1]; exact g1
  refine apc p2 ?_
  conv => whnf
  refine asplit ?_ ?_ <;> intro g2 <;> conv => whnf
  · have g2 : decide (d > 40) = true := by rw [← z1]; exact g2
    exact .inl (pi (by rw [g1, g2]; rfl))
  have g2 : decide (d > 40) = false := by rw [← z1]; exact g2
  refine apc p3 ?_
  conv => whnf
  exact .inl (pi (by rw [g1, g2]; rfl))
end TR
