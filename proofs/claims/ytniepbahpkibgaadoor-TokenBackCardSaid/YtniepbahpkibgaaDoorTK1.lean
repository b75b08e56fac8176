/-
  DERIVED. Contracts of the functions that the law reaches, and the law itself, for every input. No conditions.
-/
import Derived.Test.YtniepbahpkibgaaDoorChecked
import Derived.Test.YtniepbahpkibgaaDoorTKD
import Derived.Lib.Strings
import Derived.Lib.Slices
import Derived.Lib.Walk
import Derived.Lib.Bytealg
open Go Go.AM Go.Proofs
set_option maxRecDepth 100000
namespace TK
theorem hmix : Tryd.prog.follows .mixedOrders = true := by kernel_rfl
/-! the library's functions without a Go body -/
theorem pure_of {f : Nat} {args : List AV} {vs : List Value} {r : Value} {y : PV} (hb : hasBody Tryd.prog f) (hv : ∀ g w us, us.length = args.length → (∀ (j : Nat) (v : Value) (x : AV), us[j]? = some v → args[j]? = some x → VRel g w (fun _ => False) none v x) → us = vs)
    (hr : ∀ M, PRel M r y) (h : ∀ w, Calls Tryd.prog f vs.toArray w fun e w' => e = .returned r ∧ w' = w) : APure Tryd.prog f args (.p y) := by
  refine ⟨hb, fun g w us hno hl hrel => ?_⟩
  obtain rfl := hv g w us hl hrel
  refine (h w).mono ?_
  rintro e w' ⟨rfl, rfl⟩
  exact ⟨r, g, rfl, .p _ _ _ (hr _), Ext.refl g w'⟩
theorem vals2 {a b : PV} {x y : Value} (h1 : ∀ M v, PRel M v a → v = x) (h2 : ∀ M v, PRel M v b → v = y) : ∀ (g : Gh) (w : World) (us : List Value), us.length = [AV.p a, AV.p b].length → (∀ (j : Nat) (v : Value) (z : AV), us[j]? = some v → [AV.p a, AV.p b][j]? = some z → VRel g w (fun _ => False) none v z) → us = [x, y] := by
  intro g w us hl hr
  match us, hl with
  | [u, v], _ =>
    have q1 := (hr 0 u _ rfl rfl).pv
    have q2 := (hr 1 v _ rfl rfl).pv
    rw [h1 _ _ q1, h2 _ _ q2]
theorem body_of {f : Nat} {fn : Func} {c : Code} (hf : Tryd.prog.funcs[f]? = some fn) (hb : fn.body = some c) (hn : (fn.name == "runtime.NumGoroutine") = false) : hasBody Tryd.prog f := ⟨fn, c, hf, hb, hn⟩
set_option maxHeartbeats 1000000 in
theorem idxByte_run (s : ByteArray) (c : Int) (w : World) :
    Calls Tryd.prog 45 #[.string s, .int .u8 c] w fun e w' => e = .returned (.int .i64 (Lib.indexByte s.data.toList c.toNat.toUInt8)) ∧ w' = w := by
  go_enter Tryd.func45, Tryd.ntmps45
  go_wp2
  rw [run_callFunc_extern Tryd.func52 (by kernel_rfl) (by kernel_rfl) (by kernel_rfl) (e := Extern.BytealgIndexByte.indexByte) (by kernel_rfl), Lib.run_indexByteString]
  simp only [Result.andThen]
  rw [Oper.upon_value]
  go_wp2
  go_ret
  exact ⟨rfl, rfl⟩
set_option maxHeartbeats 1000000 in
theorem count_run (s : ByteArray) (c : UInt8) (w : World) :
    Calls Tryd.prog 44 #[.string s, .string ⟨#[c]⟩] w fun e w' => e = .returned (.int .i64 (Lib.countByte s.data.toList c)) ∧ w' = w := by
  go_enter Tryd.func44, Tryd.ntmps44
  go_wp2
  rw [run_callFunc_extern Tryd.func51 (by kernel_rfl) (by kernel_rfl) (by kernel_rfl) (e := Extern.BytealgCount.count) (by kernel_rfl), Lib.run_countString]
  simp only [Result.andThen]
  rw [Oper.upon_value]
  go_wp2
  go_ret
  exact ⟨rfl, rfl⟩
theorem idxB0_spec (l : Bs) (c : UInt8) : APure Tryd.prog 45 [.p (.s (B l)), .p (.i .u8 c.toNat)] (.p (.i .i64 (Lib.indexByte l c))) := by
  refine pure_of (vs := [.string (B l), .int .u8 c.toNat]) (r := .int .i64 (Lib.indexByte l c)) (body_of Tryd.func45 rfl (by rfl)) (vals2 (fun M v h => by cases h; rfl) (fun M v h => by cases h; rfl)) (fun M => .i _ _) (fun w => ?_)
  have := idxByte_run (B l) c.toNat w
  rw [B_data] at this
  simpa using this
theorem count_spec (l : Bs) (c : UInt8) : APure Tryd.prog 44 [.p (.s (B l)), .p (.s (B [c]))] (.p (.i .i64 (Lib.countByte l c))) := by
  refine pure_of (vs := [.string (B l), .string (B [c])]) (r := .int .i64 (Lib.countByte l c)) (body_of Tryd.func44 rfl (by rfl)) (vals2 (fun M v h => by cases h; rfl) (fun M v h => by cases h; rfl)) (fun M => .i _ _) (fun w => ?_)
  have := count_run (B l) c w
  rw [B_data] at this
  exact this
theorem idxB_spec (l : Bs) (c : UInt8) : APure Tryd.prog 42 [.p (.s (B l)), .p (.i .u8 c.toNat)] (.p (.i .i64 (Lib.indexByte l c))) := by
  have h := idxB0_spec l c
  generalize Lib.indexByte l c = q at h
  refine APure.intro (tyOf_ok Tryd.prog) hmix Tryd.func42 rfl (by rfl) (by kernel_rfl) (by show 2 ≤ _; decide) rfl ?_
  conv => whnf
  refine apc h ?_
  conv => whnf
  exact .inl rfl
theorem index0_spec (l : Bs) (c : UInt8) : APure Tryd.prog 41 [.p (.s (B l)), .p (.s (B [c]))] (.p (.i .i64 (Lib.indexByte l c))) := by
  have h := idxB0_spec l c
  by_cases hl : l = [c]
  · subst hl
    rw [show Lib.indexByte [c] c = 0 by simp [Lib.indexByte]]
    refine APure.intro (tyOf_ok Tryd.prog) hmix Tryd.func41 rfl (by rfl) (by kernel_rfl) (by show 2 ≤ _; decide) rfl ?_
    conv => whnf
    refine ast (show ((B [c]).toList == (B [c]).toList) = true by rw [B_beq]; simp) ?_
    conv => whnf
    exact .inl rfl
  · generalize Lib.indexByte l c = q at h
    refine APure.intro (tyOf_ok Tryd.prog) hmix Tryd.func41 rfl (by rfl) (by kernel_rfl) (by show 2 ≤ _; decide) rfl ?_
    conv => whnf
    refine asf (show ((B [c]).toList == (B l).toList) = false by rw [B_beq]; simp only [beq_eq_false_iff_ne]; exact fun h => hl h.symm) ?_
    conv => whnf
    refine asix (l := [c]) (k := 0) (c := c) rfl rfl ?_
    conv => whnf
    refine apc h ?_
    conv => whnf
    exact .inl rfl
theorem index_spec (l : Bs) (c : UInt8) : APure Tryd.prog 36 [.p (.s (B l)), .p (.s (B [c]))] (.p (.i .i64 (Lib.indexByte l c))) := by
  have h := index0_spec l c
  generalize Lib.indexByte l c = q at h
  refine APure.intro (tyOf_ok Tryd.prog) hmix Tryd.func36 rfl (by rfl) (by kernel_rfl) (by show 2 ≤ _; decide) rfl ?_
  conv => whnf
  refine apc h ?_
  conv => whnf
  exact .inl rfl
theorem containsB_spec (l : Bs) (c : UInt8) : APure Tryd.prog 30 [.p (.s (B l)), .p (.s (B [c]))] (.p (.b (decide (Lib.indexByte l c ≥ 0)))) := by
  have h := index_spec l c
  generalize Lib.indexByte l c = q at h
  refine APure.intro (tyOf_ok Tryd.prog) hmix Tryd.func30 rfl (by rfl) (by kernel_rfl) (by show 2 ≤ _; decide) rfl ?_
  conv => whnf
  refine apc h ?_
  conv => whnf
  exact .inl rfl
end TK
