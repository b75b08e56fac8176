/-
  DERIVED. Contracts of the functions that the law reaches, and the law itself, for every input. No conditions.
-/
import Derived.Test.YtfnghigkbcbjiaaDoorChecked
import Derived.Test.YtfnghigkbcbjiaaDoorTKD
import Derived.Lib.Strings
import Derived.Lib.Slices
import Derived.Lib.Walk
import Derived.Lib.Bytealg
open Go Go.AM Go.Proofs
set_option maxRecDepth 100000
namespace TK
theorem hmix : Tryd.prog.follows .mixedOrders = true := by kernel_rfl
/-! the library's functions without a Go body -/
theorem pure_of {f : Nat} {args : List AV} {vs : List Value} {r : Value} {y : PV} (hb : hasBody Tryd.prog f) (hv : ∀ g w us, us.length = args.length → (∀ (j : Nat) (v : Value) (x : AV), us[j]? = some v → args[j]? = some x → VRel g w (fun _ => False) none v x) → us = vs)
    (hr : ∀ M, PRel M r y) (h : ∀ w, Calls Tryd.prog f vs.toArray w fun e w' => e = .returned r ∧ w' = w) : APure Tryd.prog f args (.p y) := by
  refine ⟨hb, fun g w us hno hl hrel => ?_⟩
  obtain rfl := hv g w us hl hrel
  refine (h w).mono ?_
  rintro e w' ⟨rfl, rfl⟩
  exact ⟨r, g, rfl, .p _ _ _ (hr _), Ext.refl g w'⟩
theorem vals2 {a b : PV} {x y : Value} (h1 : ∀ M v, PRel M v a → v = x) (h2 : ∀ M v, PRel M v b → v = y) : ∀ (g : Gh) (w : World) (us : List Value), us.length = [AV.p a, AV.p b].length → (∀ (j : Nat) (v : Value) (z : AV), us[j]? = some v → [AV.p a, AV.p b][j]? = some z → VRel g w (fun _ => False) none v z) → us = [x, y] := by
  intro g w us hl hr
  match us, hl with
  | [u, v], _ =>
    have q1 := (hr 0 u _ rfl rfl).pv
    have q2 := (hr 1 v _ rfl rfl).pv
    rw [h1 _ _ q1, h2 _ _ q2]
theorem body_of {f : Nat} {fn : Func} {c : Code} (hf : Tryd.prog.funcs[f]? = some fn) (hb : fn.body = some c) (hn : (fn.name == "runtime.NumGoroutine") = false) : hasBody Tryd.prog f := ⟨fn, c, hf, hb, hn⟩
set_option maxHeartbeats 1000000 in
theorem idxByte_run (s : ByteArray) (c : Int) (w : World) :
    Calls Tryd.prog 68 #[.string s, .int .u8 c] w fun e w' => e = .returned (.int .i64 (Lib.indexByte s.data.toList c.toNat.toUInt8)) ∧ w' = w := by
  go_enter Tryd.func68, Tryd.ntmps68
  go_wp2
  rw [run_callFunc_extern Tryd.func81 (by kernel_rfl) (by kernel_rfl) (by kernel_rfl) (e := Extern.BytealgIndexByte.indexByte) (by kernel_rfl), Lib.run_indexByteString]
  simp only [Result.andThen]
  rw [Oper.upon_value]
  go_wp2
  go_ret
  exact ⟨rfl, rfl⟩
set_option maxHeartbeats 1000000 in
theorem idxB0_spec (l : Bs) (c : UInt8) : APure Tryd.prog 68 [.p (.s (B l)), .p (.i .u8 c.toNat)] (.p (.i .i64 (Lib.indexByte l c))) := by
  refine pure_of (vs := [.string (B l), .int .u8 c.toNat]) (r := .int .i64 (Lib.indexByte l c)) (body_of Tryd.func68 rfl (by rfl)) (vals2 (fun M v h => by cases h; rfl) (fun M v h => by cases h; rfl)) (fun M => .i _ _) (fun w => ?_)
  have := idxByte_run (B l) c.toNat w
  rw [B_data] at this
  simpa using this
theorem idxB_spec (l : Bs) (c : UInt8) : APure Tryd.prog 54 [.p (.s (B l)), .p (.i .u8 c.toNat)] (.p (.i .i64 (Lib.indexByte l c))) := by
  have h := idxB0_spec l c
  generalize Lib.indexByte l c = q at h
  refine APure.intro (tyOf_ok Tryd.prog) hmix Tryd.func54 rfl (by rfl) (by kernel_rfl) (by show 2 ≤ _; decide) rfl ?_
  conv => whnf
  refine apc h ?_
  conv => whnf
  exact .inl rfl
end TK
open Go Go.AM Go.Proofs
set_option maxRecDepth 100000
namespace TK
/-! split -/
theorem idx_ge0 (l : Bs) (c : UInt8) (h : 0 < l.count c) : ∃ m : Nat, Lib.indexByte l c = m ∧ m < l.length ∧ splitF c l = l.take m :: splitF c (l.drop (m + 1)) ∧ (l.drop (m + 1)).count c + 1 = l.count c := by
  induction l with
  | nil => simp at h
  | cons x r ih =>
    rw [show splitF c (x :: r) = bif x == c then [] :: splitF c r else match splitF c r with | p :: ps => (x :: p) :: ps | [] => [[x]] from rfl]
    unfold Lib.indexByte
    cases hx : x == c with
    | true =>
      have e := eq_of_beq hx; subst e
      exact ⟨0, by simp, by simp, by simp, by simp⟩
    | false =>
      have hne : x ≠ c := by intro e; subst e; simp at hx
      have hc : r.count c = (x :: r).count c := by rw [List.count_cons_of_ne hne]
      obtain ⟨m, h1, h2, h3, h4⟩ := ih (by omega)
      refine ⟨m + 1, ?_, by simp; omega, ?_, ?_⟩
      · rw [h1, if_neg (by simp), if_neg (by simp)]; omega
      · rw [h3]; rfl
      · simp only [List.drop_succ_cons]; rw [← hc]; exact h4
theorem split_none (l : Bs) (c : UInt8) (h : l.count c = 0) : splitF c l = [l] := by
  induction l with
  | nil => rfl
  | cons x r ih =>
    have hne : x ≠ c := by intro e; subst e; simp at h
    have hx : (x == c) = false := by simpa using hne
    rw [splitF, hx, ih (by rw [List.count_cons_of_ne hne] at h; exact h)]; rfl
theorem split_len (l : Bs) (c : UInt8) : (splitF c l).length = l.count c + 1 := by
  induction l with
  | nil => rfl
  | cons x r ih =>
    rw [splitF]
    cases hx : x == c with
    | true => have e := eq_of_beq hx; subst e; simp [ih]
    | false =>
      have hne : x ≠ c := by intro e; subst e; simp at hx
      rw [List.count_cons_of_ne hne]
      cases hs : splitF c r with
      | nil => rw [hs] at ih; simp at ih
      | cons p ps => rw [hs] at ih; simpa using ih
theorem count_le' (l : Bs) (c : UInt8) : l.count c ≤ l.length := List.count_le_length
theorem ix_lt {k n : Nat} (hk : k ≤ 9223372036854775807) (hn : n ≤ 9223372036854775807) : decide (ix k < (n : Int)) = decide (k < n) := by
  rw [ix_eq hk]; simp
theorem set_mid {α : Type} (a : List α) (x y : α) (b : List α) : (a ++ x :: b).set a.length y = a ++ y :: b := by
  rw [List.set_append_right _ _ (Nat.le_refl _)]; simp
theorem set_at {α : Type} (a : List α) (k : Nat) (h : a.length = k) (x y : α) (b : List α) : (a ++ x :: b).set k y = a ++ y :: b := by subst h; exact set_mid a x y b
theorem repl_succ (n : Nat) (h : 0 < n) (x : PV) : List.replicate n x = x :: List.replicate (n - 1) x := by
  obtain ⟨m, rfl⟩ : ∃ m, n = m + 1 := ⟨n - 1, by omega⟩
  rfl
end TK
open Go Go.AM Go.Proofs
set_option maxRecDepth 100000
namespace TK
def idxF (x : Bs) : List Bs → Nat → Int
  | [], _ => -1
  | a :: r, k => bif x == a then (k : Int) else idxF x r (k + 1)
theorem idxF_ge (x : Bs) : ∀ (l : List Bs) (k : Nat), decide (idxF x l k ≥ 0) = l.contains x
  | [], k => by simp [idxF]
  | a :: r, k => by
    rw [idxF, List.contains_cons]
    cases h : x == a with
    | true => simp
    | false => rw [cond_false, idxF_ge x r (k + 1), Bool.false_or]
theorem sidx_spec (l : List Bs) (x : Bs) (hb : l.length < 9223372036854775807) : APure Tryd.prog 27 [.p (.sl 1 (l.map eStr)), .p (.s (B x))] (.p (.i .i64 (idxF x l 0))) := by
  refine APure.intro (tyOf_ok Tryd.prog) hmix Tryd.func27 rfl (by rfl) (by kernel_rfl) (by show 2 ≤ _; decide) rfl ?_
  conv => whnf
  refine loopS (tyOf_ok _) hmix (by kernel_rfl) l.length [0, 1, 6, 7, 8] [] (fun k _ => [.p (.sl 1 (l.map eStr)), .p (.s (B x)), .p (.sl 1 (l.map eStr)), .p (.i .i64 (l.map eStr).length), .p (.i .i64 (ix k))]) (fun _ _ => []) (fun k _ => idxF x l 0 = idxF x (l.drop k) k) () ⟨rfl, rfl, rfl, rfl⟩ rfl ?_
  intro k s hk hn
  conv => whnf
  refine asplit ?_ ?_ <;> intro h1 <;> conv => whnf
  · have hk1 := ix_tt h1 (by simp) hk (by omega)
    obtain ⟨b, hb1⟩ : ∃ b, l[k]? = some b := ⟨l[k], by simp [hk1]⟩
    rw [drop_cons hb1, idxF] at hn
    refine aidxk (x := eStr b) (by simp [hb1]) (by omega) ?_
    conv => whnf
    refine asplit ?_ ?_ <;> intro h2 <;> conv => whnf
    · rw [B_beq] at h2
      refine .inl (pi ?_)
      rw [hn, h2, ix_eq (by omega)]; rfl
    · rw [B_beq] at h2
      exact ⟨hk1, (), ⟨rfl, rfl, rfl, rfl⟩, by rw [hn, h2]; rfl⟩
  · have hk1 := ix_ff h1 (by simp) hk (by omega)
    rw [hk1, List.drop_length, idxF] at hn
    exact .inl (pi hn.symm)
theorem scont_aux (l : AV) (x : Bs) (i : Int) (h : APure Tryd.prog 27 [l, .p (.s (B x))] (.p (.i .i64 i))) (hl : ∃ s xs, l = .p (.sl s xs)) : APure Tryd.prog 7 [l, .p (.s (B x))] (.p (.b (decide (i ≥ 0)))) := by
  obtain ⟨s, xs, rfl⟩ := hl
  refine APure.intro (tyOf_ok Tryd.prog) hmix Tryd.func7 rfl (by rfl) (by kernel_rfl) (by show 2 ≤ _; decide) rfl ?_
  conv => whnf
  refine apc h ?_
  conv => whnf
  exact .inl rfl
theorem scont_spec (l : List Bs) (x : Bs) (hb : l.length < 9223372036854775807) : APure Tryd.prog 7 [.p (.sl 1 (l.map eStr)), .p (.s (B x))] (.p (.b (l.contains x))) := by
  rw [← idxF_ge x l 0]
  exact scont_aux _ x _ (sidx_spec l x hb) ⟨_, _, rfl⟩
/-! classes of bytes -/
end TK
