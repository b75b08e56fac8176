/-
  DERIVED. Contracts of the functions that the law reaches, and the law itself, for every input. No conditions.
-/
import Derived.Test.YtbggmlepkjbbhaaDoorLS4
open Go Go.AM Go.Proofs
set_option maxRecDepth 100000
namespace TR
theorem zgt (a b : Nat) : decide ((a : Int) > (b : Int)) = decide (a > b) := decide_eq_decide.2 (by omega)
theorem zeq (a b : Nat) : ((a : Int) == (b : Int)) = (a == b) := by
  by_cases q : a = b
  · subst q; simp
  · rw [show (a == b) = false by simpa using q]; simpa using fun h => q (by omega)
theorem zne (a b : Nat) : ((a : Int) != (b : Int)) = !(a == b) := by rw [bne, zeq]
def rMk (m : LMk) : Int := bif !upB m.name then 3 else bif decide (m.ts.length > 6) then 2 else rTypes m.ts
theorem mk_spec (m : LMk) (hw : PV.wt (elMk m) ≤ 1048576) : APure Tryd.prog 50 [.p (elMk m)] (.p (.i .i64 (rMk m))) := by
  rw [wlMk_eq] at hw
  rw [rMk]
  have p1 := upB_spec m.name (by omega)
  have p2 := types_spec m.ts (by omega)
  have z1 : decide (((eTs m.ts).length : Int) > 6) = decide (m.ts.length > 6) := by rw [eTs_len]; exact zgt _ 6
  generalize upB m.name = b at *
  generalize rTypes m.ts = R at *
  generalize decide (m.ts.length > 6) = c at *
  obtain ⟨nm, ts⟩ := m
  refine APure.intro (tyOf_ok Tryd.prog) hmix Tryd.func50 rfl (by rfl) (by kernel_rfl) (by show 1 ≤ _; decide) rfl ?_
  conv => whnf
  refine apc p1 ?_
  conv => whnf
  refine asplit ?_ ?_ <;> intro g1 <;> conv => whnf
  · exact .inl (pi (by rw [g1]; rfl))
  rw [z1]
  refine asplit ?_ ?_ <;> intro g2 <;> conv => whnf
  · exact .inl (pi (by rw [g1, g2]; rfl))
  refine apc p2 ?_
  conv => whnf
  exact .inl (pi (by rw [g1, g2]; rfl))
def rDt (d : LDt) : Int := bif !upB d.name || (builtB d.name || d.makes.length == 0) then 3 else bif orF [rNames d.ps, whenF (decide (d.makes.length > 12)) 2] == 0 then eachF rMk d.makes else orF [rNames d.ps, whenF (decide (d.makes.length > 12)) 2]
theorem dt_spec (d : LDt) (hw : PV.wt (elDt d) ≤ 1048576) : APure Tryd.prog 29 [.p (elDt d)] (.p (.i .i64 (rDt d))) := by
  rw [wlDt_eq] at hw
  rw [rDt]
  have hml := l_wts elMk (fun m => by rw [wlMk_eq]; omega) d.makes
  have p1 := upB_spec d.name (by omega)
  have p2 := built_spec d.name
  have p3 := names_spec d.ps (by omega)
  have p4 := when_spec (decide (d.makes.length > 12)) 2
  have p5 := or_spec [rNames d.ps, whenF (decide (d.makes.length > 12)) 2] (by simp) _ rfl
  have p6 := eachMk d.makes 50 rMk (by omega) (fun m hm => mk_spec m (by have := l_mem elMk hm; omega)) _ rfl
  have z1 : (((d.makes.map elMk).length : Int) == 0) = (d.makes.length == 0) := by rw [List.length_map]; exact zeq _ 0
  have z2 : decide (((d.makes.map elMk).length : Int) > 12) = decide (d.makes.length > 12) := by rw [List.length_map]; exact zgt _ 12
  generalize upB d.name = b at *
  generalize builtB d.name = c at *
  generalize orF [rNames d.ps, whenF (decide (d.makes.length > 12)) 2] = o at *
  generalize whenF (decide (d.makes.length > 12)) 2 = w at *
  generalize rNames d.ps = n at *
  generalize eachF rMk d.makes = E at *
  generalize decide (d.makes.length > 12) = q1 at *
  generalize (d.makes.length == 0) = q2 at *
  obtain ⟨nm, ps, ms⟩ := d
  refine APure.intro (tyOf_ok Tryd.prog) hmix Tryd.func29 rfl (by rfl) (by kernel_rfl) (by show 1 ≤ _; decide) rfl ?_
  conv => whnf
  refine apc p1 ?_
  conv => whnf
  refine asplit ?_ ?_ <;> intro g1 <;> conv => whnf
  · exact .inl (pi (by rw [g1]; rfl))
  refine apc p2 ?_
  conv => whnf
  refine asplit ?_ ?_ <;> intro g2 <;> conv => whnf
  · exact .inl (pi (by rw [g1, g2]; rfl))
  rw [z1]
  refine asplit ?_ ?_ <;> intro g3 <;> conv => whnf
  · exact .inl (pi (by rw [g1, g2, g3]; rfl))
  refine apc p3 ?_
  conv => whnf
  rw [z2]
  refine apc p4 ?_
  conv => whnf
  refine apc p5 ?_
  conv => whnf
  refine aneed (by kernel_rfl) ?_
  conv => whnf
  refine asplit ?_ ?_ <;> intro g4 <;> conv => whnf
  · exact .inl (pi (by rw [g1, g2, g3, ne0 g4]; rfl))
  refine apc p6 ?_
  conv => whnf
  exact .inl (pi (by rw [g1, g2, g3, eq0 g4]; rfl))
def rHead (f : LFu) : Int := bif !lowB f.name || !(f.ns.length == f.ts.length) then 3 else orF [rNames f.ps, rNames f.ns, rTypes f.ts, rT f.out 1]
theorem head_spec (f : LFu) (hw : wlFu f ≤ 1048576) : APure Tryd.prog 53 [.p (elFu f)] (.p (.i .i64 (rHead f))) := by
  rw [wlFu_eq] at hw
  rw [rHead]
  have p1 := lowB_spec f.name (by omega)
  have p2 := names_spec f.ps (by omega)
  have p3 := names_spec f.ns (by omega)
  have p4 := types_spec f.ts (by omega)
  have p5 : APure Tryd.prog 55 [.p (eT f.out), .p (.i .i64 1)] (.p (.i .i64 (rT f.out 1))) := type_spec f.out (by omega) 1 (by omega)
  have p6 := or_spec [rNames f.ps, rNames f.ns, rTypes f.ts, rT f.out 1] (by simp) _ rfl
  have z1 : (((f.ns.map eStr).length : Int) != ((eTs f.ts).length : Int)) = !(f.ns.length == f.ts.length) := by rw [List.length_map, eTs_len]; exact zne _ _
  generalize lowB f.name = b at *
  generalize orF [rNames f.ps, rNames f.ns, rTypes f.ts, rT f.out 1] = o at *
  generalize rNames f.ps = n1 at *
  generalize rNames f.ns = n2 at *
  generalize rTypes f.ts = n3 at *
  generalize rT f.out 1 = n4 at *
  generalize (f.ns.length == f.ts.length) = q at *
  obtain ⟨nm, ps, ns, ts, ⟨k, n, x⟩, ⟨x1, x2, x3, x4, x5, x6, x7, x8⟩⟩ := f
  refine APure.intro (tyOf_ok Tryd.prog) hmix Tryd.func53 rfl (by rfl) (by kernel_rfl) (by show 1 ≤ _; decide) rfl ?_
  conv => whnf
  refine apc p1 ?_
  conv => whnf
  refine asplit ?_ ?_ <;> intro g1 <;> conv => whnf
  · exact .inl (pi (by rw [g1]; rfl))
  rw [z1]
  refine asplit ?_ ?_ <;> intro g2 <;> conv => whnf
  · exact .inl (pi (by rw [g1, g2]; rfl))
  refine apc p2 ?_
  conv => whnf
  refine apc p3 ?_
  conv => whnf
  refine apc p4 ?_
  conv => whnf
  refine apc p5 ?_
  conv => whnf
  refine apc p6 ?_
  conv => whnf
  refine aneed (by kernel_rfl) ?_
  conv => whnf
  exact .inl (pi (by rw [g1, g2]; rfl))
def zeroE (e : Ex) : Bool := e.kind == 0 && (e.num == 0 && (isS e.text [] && e.names.length + e.types.length + e.args.length + e.arms.length == 0))
def rTF (f : LFu) : Int := orF [rHead f, whenF (!zeroE f.body) 3]
theorem tf_spec (f : LFu) (hw : wlFu f ≤ 1048576) : APure Tryd.prog 52 [.p (elFu f)] (.p (.i .i64 (rTF f))) := by
  have p1 := head_spec f hw
  rw [wlFu_eq] at hw
  have hl := wE_lens f.body.kind f.body.num f.body.text f.body.names f.body.types f.body.args f.body.arms f.body.pos
  have hb : f.body = .mk f.body.kind f.body.num f.body.text f.body.names f.body.types f.body.args f.body.arms f.body.pos := by cases f.body; rfl
  rw [← hb] at hl
  have p2 : ∀ b, when_spec b 3 = when_spec b 3 := fun _ => rfl
  have pw : ∀ b, zeroE f.body = b → APure Tryd.prog 44 [.p (.b (!b)), .p (.i .i64 3)] (.p (.i .i64 (whenF (!zeroE f.body) 3))) := fun b hb => by rw [hb]; exact when_spec _ 3
  have p3 := or_spec [rHead f, whenF (!zeroE f.body) 3] (by simp) _ rfl
  have e0 : (f.body.text.toList == ByteArray.toList ⟨#[]⟩) = isS f.body.text [] := isS_eq f.body.text []
  have w1 : ((IntKind.i64.wrap (IntKind.i64.wrap (IntKind.i64.wrap (((f.body.names.map eStr).length : Int) + ((eTs f.body.types).length : Int)) + ((eEs f.body.args).length : Int)) + ((eAs f.body.arms).length : Int))) == 0) = (f.body.names.length + f.body.types.length + f.body.args.length + f.body.arms.length == 0) := by
    rw [List.length_map, eTs_len, eEs_len, eAs_len, wrap64 (x := (f.body.names.length : Int) + _) (by omega) (by omega), wrap64 (x := (f.body.names.length : Int) + _ + _) (by omega) (by omega), wrap64 (by omega) (by omega)]
    have := zeq (f.body.names.length + f.body.types.length + f.body.args.length + f.body.arms.length) 0
    rw [← this]; rfl
  rw [rTF]
  clear p2 hb hl hw
  generalize orF [rHead f, whenF (!zeroE f.body) 3] = o at *
  generalize whenF (!zeroE f.body) 3 = w at *
  rw [zeroE] at pw
  generalize rHead f = h at *
  generalize (f.body.names.length + f.body.types.length + f.body.args.length + f.body.arms.length == 0) = q at *
  generalize isS f.body.text [] = b0 at *
  obtain ⟨nm, ps, ns, ts, ⟨k, n, x⟩, ⟨x1, x2, x3, x4, x5, x6, x7, x8⟩⟩ := f
  simp only [Ex.kind, Ex.num, Ex.text, Ex.names, Ex.types, Ex.args, Ex.arms] at pw e0 w1
  refine APure.intro (tyOf_ok Tryd.prog) hmix Tryd.func52 rfl (by rfl) (by kernel_rfl) (by show 1 ≤ _; decide) rfl ?_
  conv => whnf
  refine asplit ?_ ?_ <;> intro g1 <;> conv => whnf
  · refine asplit ?_ ?_ <;> intro g2 <;> conv => whnf
    · rw [e0]
      refine asplit ?_ ?_ <;> intro g3 <;> conv => whnf
      · rw [w1]
        conv => whnf
        refine apc p1 ?_
        conv => whnf
        refine apc (pw _ (by rw [g1, g2, g3]; rfl)) ?_
        conv => whnf
        refine apc p3 ?_
        conv => whnf
        exact .inl rfl
      · refine apc p1 ?_
        conv => whnf
        refine apc (pw _ (by rw [g1, g2, g3]; rfl)) ?_
        conv => whnf
        refine apc p3 ?_
        conv => whnf
        exact .inl rfl
    · refine apc p1 ?_
      conv => whnf
      refine apc (pw _ (by rw [g1, g2]; rfl)) ?_
      conv => whnf
      refine apc p3 ?_
      conv => whnf
      exact .inl rfl
  · refine apc p1 ?_
    conv => whnf
    refine apc (pw _ (by rw [g1]; rfl)) ?_
    conv => whnf
    refine apc p3 ?_
    conv => whnf
    exact .inl rfl
def rTr (t : LTr) : Int := bif !upB t.name then 3 else bif decide (t.funcs.length > 12) then 2 else eachF rTF t.funcs
theorem tr_spec (t : LTr) (hw : PV.wt (elTr t) ≤ 1048576) : APure Tryd.prog 31 [.p (elTr t)] (.p (.i .i64 (rTr t))) := by
  rw [wlTr_eq] at hw
  rw [rTr]
  have hfl := l_wts elFu (fun m => by have := wlFu_eq m; rw [wlFu] at this; omega) t.funcs
  have p1 := upB_spec t.name (by omega)
  have p2 := eachFu t.funcs 52 rTF (by omega) (fun m hm => tf_spec m (by have := l_mem elFu hm; rw [wlFu]; omega)) _ rfl
  have z1 : decide (((t.funcs.map elFu).length : Int) > 12) = decide (t.funcs.length > 12) := by rw [List.length_map]; exact zgt _ 12
  generalize upB t.name = b at *
  generalize eachF rTF t.funcs = R at *
  generalize decide (t.funcs.length > 12) = c at *
  obtain ⟨nm, fs⟩ := t
  refine APure.intro (tyOf_ok Tryd.prog) hmix Tryd.func31 rfl (by rfl) (by kernel_rfl) (by show 1 ≤ _; decide) rfl ?_
  conv => whnf
  refine apc p1 ?_
  conv => whnf
  refine asplit ?_ ?_ <;> intro g1 <;> conv => whnf
  · exact .inl (pi (by rw [g1]; rfl))
  rw [z1]
  refine asplit ?_ ?_ <;> intro g2 <;> conv => whnf
  · exact .inl (pi (by rw [g1, g2]; rfl))
  refine apc p2 ?_
  conv => whnf
  exact .inl (pi (by rw [g1, g2]; rfl))
def rFu (f : LFu) : Int := bif rHead f == 0 then rBody f.body false else rHead f
theorem fu_spec (f : LFu) (hw : wlFu f ≤ 1048576) : APure Tryd.prog 35 [.p (elFu f)] (.p (.i .i64 (rFu f))) := by
  have p1 := head_spec f hw
  rw [wlFu_eq] at hw
  rw [rFu]
  have p2 := body_spec f.body (by omega) false
  generalize rHead f = h at *
  generalize rBody f.body false = R at *
  obtain ⟨nm, ps, ns, ts, ⟨k, n, x⟩, ⟨x1, x2, x3, x4, x5, x6, x7, x8⟩⟩ := f
  refine APure.intro (tyOf_ok Tryd.prog) hmix Tryd.func35 rfl (by rfl) (by kernel_rfl) (by show 1 ≤ _; decide) rfl ?_
  conv => whnf
  refine apc p1 ?_
  conv => whnf
  refine asplit ?_ ?_ <;> intro g1 <;> conv => whnf
  · exact .inl (pi (by rw [ne0 g1]; rfl))
  refine apc p2 ?_
  conv => whnf
  exact .inl (pi (by rw [eq0 g1]; rfl))
def basicB (s : ByteArray) : Bool := isS s [105, 110, 116] || (isS s [98, 111, 111, 108] || (isS s [116, 101, 120, 116] || isS s [117, 110, 105, 116]))
def rIm (x : LIm) : Int := bif !upB x.tr || (!upB x.fo && !basicB x.fo) then 3 else bif decide (x.funcs.length > 12) then 2 else eachF rFu x.funcs
theorem im_spec (t : LIm) (hw : PV.wt (elIm t) ≤ 1048576) : APure Tryd.prog 33 [.p (elIm t)] (.p (.i .i64 (rIm t))) := by
  rw [wlIm_eq] at hw
  have hR : (bif !upB t.tr || (!upB t.fo && !(isS t.fo [105, 110, 116] || (isS t.fo [98, 111, 111, 108] || (isS t.fo [116, 101, 120, 116] || isS t.fo [117, 110, 105, 116])))) then 3 else bif decide (t.funcs.length > 12) then 2 else eachF rFu t.funcs) = rIm t := rfl
  have hfl := l_wts elFu (fun m => by have := wlFu_eq m; rw [wlFu] at this; omega) t.funcs
  have p1 := upB_spec t.tr (by omega)
  have p3 := upB_spec t.fo (by omega)
  have p2 := eachFu t.funcs 35 rFu (by omega) (fun m hm => fu_spec m (by have := l_mem elFu hm; rw [wlFu]; omega)) _ rfl
  have z1 : decide (((t.funcs.map elFu).length : Int) > 12) = decide (t.funcs.length > 12) := by rw [List.length_map]; exact zgt _ 12
  have e1 : (t.fo.toList == ByteArray.toList ⟨#[105, 110, 116]⟩) = isS t.fo [105, 110, 116] := isS_eq t.fo [105, 110, 116]
  have e2 : (t.fo.toList == ByteArray.toList ⟨#[98, 111, 111, 108]⟩) = isS t.fo [98, 111, 111, 108] := isS_eq t.fo [98, 111, 111, 108]
  have e3 : (t.fo.toList == ByteArray.toList ⟨#[116, 101, 120, 116]⟩) = isS t.fo [116, 101, 120, 116] := isS_eq t.fo [116, 101, 120, 116]
  have e4 : (t.fo.toList == ByteArray.toList ⟨#[117, 110, 105, 116]⟩) = isS t.fo [117, 110, 105, 116] := isS_eq t.fo [117, 110, 105, 116]
  generalize rIm t = R at *
  generalize upB t.tr = b at *
  generalize upB t.fo = c at *
  generalize isS t.fo [105, 110, 116] = b1 at *
  generalize isS t.fo [98, 111, 111, 108] = b2 at *
  generalize isS t.fo [116, 101, 120, 116] = b3 at *
  generalize isS t.fo [117, 110, 105, 116] = b4 at *
  generalize eachF rFu t.funcs = E at *
  generalize decide (t.funcs.length > 12) = q at *
  obtain ⟨nm, fo, fs⟩ := t
  refine APure.intro (tyOf_ok Tryd.prog) hmix Tryd.func33 rfl (by rfl) (by kernel_rfl) (by show 1 ≤ _; decide) rfl ?_
  conv => whnf
  rw [e1]
  refine asplit ?_ ?_ <;> intro g1 <;> conv => whnf
  · refine apc p1 ?_
    conv => whnf
    refine asplit ?_ ?_ <;> intro h1 <;> conv => whnf
    · exact .inl (pi (by rw [← hR, h1]; rfl))
    refine apc p3 ?_
    conv => whnf
    refine asplit ?_ ?_ <;> intro h2 <;> conv => whnf
    · rw [z1]
      refine asplit ?_ ?_ <;> intro r1 <;> conv => whnf
      · exact .inl (pi (by rw [← hR, h1, h2, g1, r1]; simp))
      refine apc p2 ?_
      conv => whnf
      exact .inl (pi (by rw [← hR, h1, h2, g1, r1]; simp))
    · rw [z1]
      refine asplit ?_ ?_ <;> intro r1 <;> conv => whnf
      · exact .inl (pi (by rw [← hR, h1, h2, g1, r1]; simp))
      refine apc p2 ?_
      conv => whnf
      exact .inl (pi (by rw [← hR, h1, h2, g1, r1]; simp))
  rw [e2]
  refine asplit ?_ ?_ <;> intro g2 <;> conv => whnf
  · refine apc p1 ?_
    conv => whnf
    refine asplit ?_ ?_ <;> intro h1 <;> conv => whnf
    · exact .inl (pi (by rw [← hR, h1]; rfl))
    refine apc p3 ?_
    conv => whnf
    refine asplit ?_ ?_ <;> intro h2 <;> conv => whnf
    · rw [z1]
      refine asplit ?_ ?_ <;> intro r1 <;> conv => whnf
      · exact .inl (pi (by rw [← hR, h1, h2, g1, g2, r1]; simp))
      refine apc p2 ?_
      conv => whnf
      exact .inl (pi (by rw [← hR, h1, h2, g1, g2, r1]; simp))
    · rw [z1]
      refine asplit ?_ ?_ <;> intro r1 <;> conv => whnf
      · exact .inl (pi (by rw [← hR, h1, h2, g1, g2, r1]; simp))
      refine apc p2 ?_
      conv => whnf
      exact .inl (pi (by rw [← hR, h1, h2, g1, g2, r1]; simp))
  rw [e3]
  refine asplit ?_ ?_ <;> intro g3 <;> conv => whnf
  · refine apc p1 ?_
    conv => whnf
    refine asplit ?_ ?_ <;> intro h1 <;> conv => whnf
    · exact .inl (pi (by rw [← hR, h1]; rfl))
    refine apc p3 ?_
    conv => whnf
    refine asplit ?_ ?_ <;> intro h2 <;> conv => whnf
    · rw [z1]
      refine asplit ?_ ?_ <;> intro r1 <;> conv => whnf
      · exact .inl (pi (by rw [← hR, h1, h2, g1, g2, g3, r1]; simp))
      refine apc p2 ?_
      conv => whnf
      exact .inl (pi (by rw [← hR, h1, h2, g1, g2, g3, r1]; simp))
    · rw [z1]
      refine asplit ?_ ?_ <;> intro r1 <;> conv => whnf
      · exact .inl (pi (by rw [← hR, h1, h2, g1, g2, g3, r1]; simp))
      refine apc p2 ?_
      conv => whnf
      exact .inl (pi (by rw [← hR, h1, h2, g1, g2, g3, r1]; simp))
  rw [e4]
  refine apc p1 ?_
  conv => whnf
  refine asplit ?_ ?_ <;> intro h1 <;> conv => whnf
  · exact .inl (pi (by rw [← hR, h1]; rfl))
  refine apc p3 ?_
  conv => whnf
  refine asplit ?_ ?_ <;> intro h2 <;> conv => whnf
  · refine asplit ?_ ?_ <;> intro h3 <;> conv => whnf
    · exact .inl (pi (by rw [← hR, h1, h2, g1, g2, g3, show b4 = false by simpa using h3]; rfl))
    · have h3 : b4 = true := by simpa using h3
      rw [z1]
      refine asplit ?_ ?_ <;> intro r1 <;> conv => whnf
      · exact .inl (pi (by rw [← hR, h1, h2, g1, g2, g3, h3, r1]; simp))
      refine apc p2 ?_
      conv => whnf
      exact .inl (pi (by rw [← hR, h1, h2, g1, g2, g3, h3, r1]; simp))
  · rw [z1]
    refine asplit ?_ ?_ <;> intro r1 <;> conv => whnf
    · exact .inl (pi (by rw [← hR, h1, h2, r1]; simp))
    refine apc p2 ?_
    conv => whnf
    exact .inl (pi (by rw [← hR, h1, h2, r1]; simp))
def rAc (a : LAc) : Int := bif !upB a.name || !(a.ns.length == a.ts.length) then 3 else bif orF [rNames a.ns, rTypes a.ts, rT a.msg 1] == 0 then rBody a.body true else orF [rNames a.ns, rTypes a.ts, rT a.msg 1]
theorem ac_spec (f : LAc) (hw : PV.wt (elAc f) ≤ 1048576) : APure Tryd.prog 37 [.p (elAc f)] (.p (.i .i64 (rAc f))) := by
  rw [wlAc_eq] at hw
  rw [rAc]
  have p1 := upB_spec f.name (by omega)
  have p3 := names_spec f.ns (by omega)
  have p4 := types_spec f.ts (by omega)
  have p5 : APure Tryd.prog 55 [.p (eT f.msg), .p (.i .i64 1)] (.p (.i .i64 (rT f.msg 1))) := type_spec f.msg (by omega) 1 (by omega)
  have p6 := or_spec [rNames f.ns, rTypes f.ts, rT f.msg 1] (by simp) _ rfl
  have p7 := body_spec f.body (by omega) true
  have z1 : (((f.ns.map eStr).length : Int) != ((eTs f.ts).length : Int)) = !(f.ns.length == f.ts.length) := by rw [List.length_map, eTs_len]; exact zne _ _
  generalize upB f.name = b at *
  generalize orF [rNames f.ns, rTypes f.ts, rT f.msg 1] = o at *
  generalize rNames f.ns = n2 at *
  generalize rTypes f.ts = n3 at *
  generalize rT f.msg 1 = n4 at *
  generalize rBody f.body true = R at *
  generalize (f.ns.length == f.ts.length) = q at *
  obtain ⟨nm, ns, ts, ⟨k, n, x⟩, ⟨x1, x2, x3, x4, x5, x6, x7, x8⟩⟩ := f
  refine APure.intro (tyOf_ok Tryd.prog) hmix Tryd.func37 rfl (by rfl) (by kernel_rfl) (by show 1 ≤ _; decide) rfl ?_
  conv => whnf
  refine apc p1 ?_
  conv => whnf
  refine asplit ?_ ?_ <;> intro g1 <;> conv => whnf
  · exact .inl (pi (by rw [g1]; rfl))
  rw [z1]
  refine asplit ?_ ?_ <;> intro g2 <;> conv => whnf
  · exact .inl (pi (by rw [g1, g2]; rfl))
  refine apc p3 ?_
  conv => whnf
  refine apc p4 ?_
  conv => whnf
  refine apc p5 ?_
  conv => whnf
  refine apc p6 ?_
  conv => whnf
  refine aneed (by kernel_rfl) ?_
  conv => whnf
  refine asplit ?_ ?_ <;> intro g3 <;> conv => whnf
  · exact .inl (pi (by rw [g1, g2, ne0 g3]; rfl))
  refine apc p7 ?_
  conv => whnf
  exact .inl (pi (by rw [g1, g2, eq0 g3]; rfl))
end TR
open Go Go.AM Go.Proofs
set_option maxRecDepth 100000
namespace TR
/-! Right -/
def elCells (p : LPg) : List AV := [.p (.s p.name), .p (.i .i64 p.ver), .p (.sl 3 (p.uses.map elUse)), .p (.sl 3 (p.datas.map elDt)), .p (.sl 2 (p.traits.map elTr)), .p (.sl 3 (p.impls.map elIm)), .p (.sl 15 (p.funcs.map elFu)), .p (.sl 14 (p.actors.map elAc))]
def bigF (l : List Int) : Bool := l.any fun n => decide (n > 40)
def nextE (c : Int) (x : Int) : Int := bif c == 0 then x else c
def rPg (p : LPg) : Int := bif bigF [((p.uses.map elUse).length : Int), ((p.datas.map elDt).length : Int), ((p.traits.map elTr).length : Int), ((p.impls.map elIm).length : Int), ((p.funcs.map elFu).length : Int), ((p.actors.map elAc).length : Int)] then 2
  else bif !lowB p.name || !plainF p.ver then 3
  else nextE (nextE (nextE (nextE (nextE (eachF rUse p.uses) (eachF rDt p.datas)) (eachF rTr p.traits)) (eachF rIm p.impls)) (eachF rFu p.funcs)) (eachF rAc p.actors)
theorem bigF_drop (l : List Int) (k : Nat) (x : Int) (h : l[k]? = some x) : bigF (l.drop k) = (decide (x > 40) || bigF (l.drop (k + 1))) := by
  rw [drop_cons h, bigF, List.any_cons]; rfl
theorem right_aux (p : LPg) (R U D T I F A : Int) (a b : Bool) (L : List Int) (hL : L = [((p.uses.map elUse).length : Int), ((p.datas.map elDt).length : Int), ((p.traits.map elTr).length : Int), ((p.impls.map elIm).length : Int), ((p.funcs.map elFu).length : Int), ((p.actors.map elAc).length : Int)])
    (hR : (bif bigF L then 2 else bif !a || !b then 3 else nextE (nextE (nextE (nextE (nextE U D) T) I) F) A) = R)
    (p1 : APure Tryd.prog 24 [.p (.s p.name)] (.p (.b a))) (p2 : APure Tryd.prog 25 [.p (.i .i64 p.ver)] (.p (.b b)))
    (hU : APure Tryd.prog 26 [.p (.sl 3 (p.uses.map elUse)), .fn 27 [] []] (.p (.i .i64 U)))
    (hD : APure Tryd.prog 28 [.p (.sl 3 (p.datas.map elDt)), .fn 29 [] []] (.p (.i .i64 D)))
    (hT : APure Tryd.prog 30 [.p (.sl 2 (p.traits.map elTr)), .fn 31 [] []] (.p (.i .i64 T)))
    (hI : APure Tryd.prog 32 [.p (.sl 3 (p.impls.map elIm)), .fn 33 [] []] (.p (.i .i64 I)))
    (hF : APure Tryd.prog 34 [.p (.sl 15 (p.funcs.map elFu)), .fn 35 [] []] (.p (.i .i64 F)))
    (hA : APure Tryd.prog 36 [.p (.sl 14 (p.actors.map elAc)), .fn 37 [] []] (.p (.i .i64 A))) :
    APure Tryd.prog 6 [.p (elPg p)] (.p (.i .i64 R)) := by
  have hLl : L.length = 6 := by rw [hL]; rfl
  obtain ⟨nm, ve, us, ds, ts, is, fs, acs⟩ := p
  simp only at *
  refine APure.intro (tyOf_ok Tryd.prog) hmix Tryd.func6 rfl (by rfl) (by kernel_rfl) (by show 1 ≤ _; decide) rfl ?_
  conv => whnf
  refine loopS (tyOf_ok _) hmix (by kernel_rfl) 6 [1, 24, 25, 26] [1] (fun k _ => [.ptr 1 0, .so 1 (L.map vI), .p (.i .i64 (6 : Nat)), .p (.i .i64 (ix k))]) (fun _ _ => [.cells (elCells ⟨nm, ve, us, ds, ts, is, fs, acs⟩)]) (fun k _ => bigF L = bigF (L.drop k)) () ⟨rfl, by rw [hL]; rfl, rfl, rfl⟩ rfl ?_
  intro k s hk hn
  conv => whnf
  refine asplit ?_ ?_ <;> intro h1 <;> conv => whnf
  · have hk1 : k < 6 := by rw [ix_eq (by omega)] at h1; have := of_decide_eq_true h1; omega
    obtain ⟨x, hx⟩ : ∃ b, L[k]? = some b := ⟨_, List.getElem?_eq_getElem (by omega)⟩
    rw [bigF_drop L k x hx] at hn
    refine aidxk (x := vI x) (by simp [hx]) (by omega) ?_
    conv => whnf
    refine asplit ?_ ?_ <;> intro h2 <;> conv => whnf
    · rw [h2, Bool.true_or] at hn
      exact .inl (pi (by rw [← hR, hn]; rfl))
    · rw [h2, Bool.false_or] at hn
      exact ⟨hk1, (), ⟨rfl, rfl, rfl, rfl⟩, hn⟩
  · have hk1 : k = 6 := by rw [ix_eq (by omega)] at h1; have := of_decide_eq_false h1; omega
    rw [hk1, List.drop_eq_nil_of_le (by omega)] at hn
    rw [show bigF L = false by rw [hn]; rfl, cond_false] at hR
    refine apc p1 ?_
    conv => whnf
    refine asplit ?_ ?_ <;> intro g1 <;> conv => whnf
    · exact .inl (pi (by rw [← hR, g1]; rfl))
    refine apc p2 ?_
    conv => whnf
    refine asplit ?_ ?_ <;> intro g2 <;> conv => whnf
    · exact .inl (pi (by rw [← hR, g1, g2]; rfl))
    rw [g1, g2, Bool.or_self, cond_false] at hR
    refine apc hU ?_
    conv => whnf
    refine asplit ?_ ?_ <;> intro u1 <;> conv => whnf
    · have e1 : nextE U D = D := by rw [nextE, u1]; rfl
      rw [e1] at hR
      refine apc hD ?_
      conv => whnf
      refine asplit ?_ ?_ <;> intro u2 <;> conv => whnf
      · have e2 : nextE D T = T := by rw [nextE, u2]; rfl
        rw [e2] at hR
        refine apc hT ?_
        conv => whnf
        refine asplit ?_ ?_ <;> intro u3 <;> conv => whnf
        · have e3 : nextE T I = I := by rw [nextE, u3]; rfl
          rw [e3] at hR
          refine apc hI ?_
          conv => whnf
          refine asplit ?_ ?_ <;> intro u4 <;> conv => whnf
          · have e4 : nextE I F = F := by rw [nextE, u4]; rfl
            rw [e4] at hR
            refine apc hF ?_
            conv => whnf
            refine asplit ?_ ?_ <;> intro u5 <;> conv => whnf
            · have e5 : nextE F A = A := by rw [nextE, u5]; rfl
              rw [e5] at hR
              refine apc hA ?_
              conv => whnf
              exact .inl (pi hR)
            · exact .inl (pi (by rw [← hR]; simp only [nextE, u5, cond_false]))
          · refine asf u4 ?_
            conv => whnf
            exact .inl (pi (by rw [← hR]; simp only [nextE, u4, cond_false]))
        · refine asf u3 ?_
          conv => whnf
          refine asf u3 ?_
          conv => whnf
          exact .inl (pi (by rw [← hR]; simp only [nextE, u3, cond_false]))
      · refine asf u2 ?_
        conv => whnf
        refine asf u2 ?_
        conv => whnf
        refine asf u2 ?_
        conv => whnf
        exact .inl (pi (by rw [← hR]; simp only [nextE, u2, cond_false]))
    · refine asf u1 ?_
      conv => whnf
      refine asf u1 ?_
      conv => whnf
      refine asf u1 ?_
      conv => whnf
      refine asf u1 ?_
      conv => whnf
      exact .inl (pi (by rw [← hR]; simp only [nextE, u1, cond_false]))
theorem right_spec (p : LPg) (hw : wlPg p ≤ 1048576) : APure Tryd.prog 6 [.p (elPg p)] (.p (.i .i64 (rPg p))) := by
  rw [wlPg_eq] at hw
  have h1 := l_wts elUse (fun m => by rw [wlUse_eq]; omega) p.uses
  have h2 := l_wts elDt (fun m => by rw [wlDt_eq]; omega) p.datas
  have h3 := l_wts elTr (fun m => by rw [wlTr_eq]; omega) p.traits
  have h4 := l_wts elIm (fun m => by rw [wlIm_eq]; omega) p.impls
  have h5 := l_wts elFu (fun m => by have := wlFu_eq m; rw [wlFu] at this; omega) p.funcs
  have h6 := l_wts elAc (fun m => by rw [wlAc_eq]; omega) p.actors
  exact right_aux p _ _ _ _ _ _ _ _ _ _ rfl rfl (lowB_spec p.name (by omega)) (plain_spec p.ver)
    (eachUse p.uses 27 rUse (by omega) (fun m hm => rUse_spec m (by have := l_mem elUse hm; omega)) _ rfl)
    (eachDt p.datas 29 rDt (by omega) (fun m hm => dt_spec m (by have := l_mem elDt hm; omega)) _ rfl)
    (eachTr p.traits 31 rTr (by omega) (fun m hm => tr_spec m (by have := l_mem elTr hm; omega)) _ rfl)
    (eachIm p.impls 33 rIm (by omega) (fun m hm => im_spec m (by have := l_mem elIm hm; omega)) _ rfl)
    (eachFu p.funcs 35 rFu (by omega) (fun m hm => fu_spec m (by have := l_mem elFu hm; rw [wlFu]; omega)) _ rfl)
    (eachAc p.actors 37 rAc (by omega) (fun m hm => ac_spec m (by have := l_mem elAc hm; omega)) _ rfl)
end TR
