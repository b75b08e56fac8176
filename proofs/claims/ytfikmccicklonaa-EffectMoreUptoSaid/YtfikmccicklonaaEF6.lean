/-
  DERIVED. Contracts of the functions that the law reaches, and the law itself, for every input. No conditions.
-/
import Derived.Test.YtfikmccicklonaaEF5
open Go Go.AM Go.Proofs
set_option maxRecDepth 100000
namespace TR
theorem effectLeast_spec (p : Pg) (hp : wPg p ≤ 1048576) : APure Try.prog 4 [.p (ePg p)] (.p (.b true)) := by
  have h1 := small_spec p hp
  have h2 := least_spec p hp
  have h3 := funsOf_spec p hp
  have hF := funsF_wts p
  have hFl := fus_len (funsF p)
  have hfm : ∀ f ∈ funsF p, wE f.body ≤ wPg p := fun f hf => by
    have := map_mem eFu hf; rw [wFu] at this; omega
  have hget := fun i f (h : (funsF p)[i]? = some f) => leastL_get h
  have hlt := least_lt p
  have hcs := fun f g (hf : f ∈ funsF p) => calls_sub (g := g) hf
  have hown := fun (f : Fu) => solF_own (solveF p).m (solveF p).a (ofF f.body)
  have hLl : (leastL p).length = (funsF p).length := by simp [leastL]
  have hbody := fun e he => body_spec p hp e he
  generalize leastL p = L at *
  generalize funsF p = F at *
  generalize decide (sumB (bodiesF p) 0 ≤ 400) = sm at h1
  generalize hZ : (fun e => solF (solveF p).m (solveF p).a (ofF e)) = Z at *
  have hZ' : ∀ e, solF (solveF p).m (solveF p).a (ofF e) = Z e := fun e => by rw [← hZ]
  simp only [hZ'] at *
  clear hZ hZ'
  generalize (solveF p).a = sa at *
  generalize wPg p = W0 at *
  obtain ⟨nm, ver, us, ds, ts, is, fs, acs⟩ := p
  refine APure.intro (tyOf_ok Try.prog) hmix Try.func4 rfl (by rfl) (by kernel_rfl) (by show 1 ≤ _; decide) rfl ?_
  conv => whnf
  refine apc h1 ?_
  conv => whnf
  refine asplit ?_ ?_ <;> intro g1 <;> conv => whnf
  · exact .inl rfl
  refine apc effects_spec ?_
  conv => whnf
  refine apc h2 ?_
  conv => whnf
  refine apc h3 ?_
  conv => whnf
  refine asf (by simp [hLl]) ?_
  conv => whnf
  refine loopS (tyOf_ok _) hmix (by kernel_rfl) F.length [1, 3, 5, 27, 28, 29] [1] (fun k (_ : Unit) => [.ptr 1 0, .p (.sl 1 (L.map vN)), .so 15 (F.map eFu), .p (.sl 15 (F.map eFu)), .p (.i .i64 (F.map eFu).length), .p (.i .i64 (ix k))])
    (fun _ _ => [.cells [.p (.s nm), .p (.i .i64 ver), .p (.sl 3 us), .p (.sl 3 (ds.map eDt)), .p (.sl 2 (ts.map eTr)), .p (.sl 3 (is.map eIm)), .p (.sl 15 (fs.map eFu)), .p (.sl 14 (acs.map eAc))]]) (fun k _ => True) () ⟨rfl, rfl, rfl, rfl⟩ trivial ?_
  intro k _ hk _
  conv => whnf
  refine asplit ?_ ?_ <;> intro g2 <;> conv => whnf
  · have hk1 := ix_tt g2 (by simp) hk (by omega)
    obtain ⟨b, hb1⟩ : ∃ b, F[k]? = some b := ⟨_, List.getElem?_eq_getElem hk1⟩
    refine aidxk (x := eFu b) (by simp [hb1]) (by omega) ?_
    have hbm := List.mem_of_getElem? hb1
    have hbw := hfm b hbm
    have c1 := hbody b.body (by omega)
    have c2 := own_spec b.body (by omega)
    have hg := hget k b hb1
    have hgl := hlt b
    have hol := ownF_lt b.body
    have hos : sub (ownF b.body) (Z b.body) := hown b
    have hcb := fun g => hcs b g hbm
    generalize Z b.body = z at *
    generalize ownF b.body = ow at *
    obtain ⟨a1, a2, a3, a4, a5, a6, a7, ⟨c1', c2', c3, c4, c5, c6, c7, c8⟩⟩ := b
    conv => whnf
    refine aidxk (x := vN z) (by simp [hg]) (by omega) ?_
    conv => whnf
    refine apc c1 ?_
    conv => whnf
    refine asf (by simp) ?_
    conv => whnf
    refine apc c2 ?_
    conv => whnf
    refine aidxk (x := vN z) (by simp [hg]) (by omega) ?_
    conv => whnf
    refine aneed (by kernel_rfl) ?_
    conv => whnf
    refine asf (by rw [andNotI hol hgl hos]; rfl) ?_
    conv => whnf
    refine loopS (tyOf_ok _) hmix (by kernel_rfl) F.length [1, 3, 5, 6, 7, 27, 28, 29, 54, 55, 56] [1, 7] (fun j (_ : Unit) => [.ptr 1 0, .p (.sl 1 (L.map vN)), .so 15 (F.map eFu), .p (.i .i64 (ix k)), .ptr 7 0, .p (.sl 15 (F.map eFu)), .p (.i .i64 (F.map eFu).length), .p (.i .i64 (ix k)), .p (.sl 15 (F.map eFu)), .p (.i .i64 (F.map eFu).length), .p (.i .i64 (ix j))])
      (fun _ _ => [.cells [.p (.s nm), .p (.i .i64 ver), .p (.sl 3 us), .p (.sl 3 (ds.map eDt)), .p (.sl 2 (ts.map eTr)), .p (.sl 3 (is.map eIm)), .p (.sl 15 (fs.map eFu)), .p (.sl 14 (acs.map eAc))], .cells [.p (.s a1), .p (.sl 1 a2), .p (.sl 1 a3), .p (.sl 3 a4), .p (.i .i64 a5), .p (.s a6), .p (.sl 3 a7), .p (.i .i64 c1'), .p (.i .i64 c2'), .p (.s c3), .p (.sl 1 (c4.map eStr)), .p (.sl 3 (eTs c5)), .p (.sl 8 (eEs c6)), .p (.sl 12 (eAs c7)), .p (.i .i64 c8)]]) (fun k _ => True) () ⟨rfl, rfl, rfl, rfl⟩ trivial ?_
    intro j _ hj _
    conv => whnf
    refine asplit ?_ ?_ <;> intro g3 <;> conv => whnf
    · have hj1 := ix_tt g3 (by simp) hj (by omega)
      obtain ⟨y, hy1⟩ : ∃ b, F[j]? = some b := ⟨_, List.getElem?_eq_getElem hj1⟩
      refine aidxk (x := eFu y) (by simp [hy1]) (by omega) ?_
      have hym := List.mem_of_getElem? hy1
      have hyw := hfm y hym
      have d1 := callsE_spec y.body (by omega)
      have hcl := calls_len y.body
      have d2 := containsS_spec (callsF y.body) a1 (by omega)
      have hmem := idx_mem a1 (callsF y.body) 0
      have hyg := hget j y hy1
      have hyl := hlt y
      have hcy : a1 ∈ callsF y.body → sub z (Z y.body) := hcb y
      generalize Z y.body = z2 at *
      generalize callsF y.body = cl at *
      obtain ⟨y1, y2, y3, y4, y5, y6, y7, ⟨x1, x2, x3, x4, x5, x6, x7, x8⟩⟩ := y
      conv => whnf
      refine apc d1 ?_
      conv => whnf
      refine apc d2 ?_
      conv => whnf
      refine asplit ?_ ?_ <;> intro g4 <;> conv => whnf
      · have hsub := hcy (hmem.1 g4)
        refine aidxk (x := vN z) (by simp [hg]) (by omega) ?_
        conv => whnf
        refine aidxk (x := vN z2) (by simp [hyg]) (by omega) ?_
        conv => whnf
        refine aneed (by kernel_rfl) ?_
        conv => whnf
        refine asf (by rw [andNotI hgl hyl hsub]; rfl) ?_
        conv => whnf
        exact ⟨hj1, (), ⟨rfl, rfl, rfl, rfl⟩, trivial⟩
      · refine aneed (by kernel_rfl) ?_
        conv => whnf
        exact ⟨hj1, (), ⟨rfl, rfl, rfl, rfl⟩, trivial⟩
    · exact ⟨hk1, (), ⟨rfl, rfl, rfl, rfl⟩, trivial⟩
  · exact .inl rfl
theorem effectMore_spec (p : Pg) (f : Fu) (hp : wPg p + PV.wt (eFu f) ≤ 1048576) : APure Try.prog 3 [.p (ePg p), .p (eFu f)] (.p (.b true)) := by
  have h1 := small_spec p (by omega)
  have h2 := least_spec p (by omega)
  have h3 := least_spec (moreP p f) (by rw [more_w]; exact hp)
  have hw := wPg_eq p
  have hfl := fus_len p.funcs
  have hcl := cloneF_spec p.funcs (by omega)
  have hwf := wFu f
  have h4 := sizeOf_spec f.body (by omega)
  have hle := more_le p f
  have hF := funsF_wts p
  have hFl := fus_len (funsF p)
  have hFn : (funsF p).length ≤ 1048576 := by omega
  clear hFl
  have hl1 : (leastL p).length = (funsF p).length := by simp [leastL]
  have hl2 : (leastL (moreP p f)).length = (funsF p).length + 1 := by rw [leastL, more_funs]; simp
  have ha1 := (solve_facts p).2.1.2
  have ha2 := (solve_facts (moreP p f)).2.1.2
  have hasub := hle.2
  have hmm : ∀ (i : Nat), i < (funsF p).length → ∃ x y, (leastL p)[i]? = some x ∧ (leastL (moreP p f))[i]? = some y ∧ sub x y ∧ x < 128 ∧ y < 128 := fun i hi => by
    have e1 : (funsF p)[i]? = some (funsF p)[i] := List.getElem?_eq_getElem hi
    have e2 : (funsF (moreP p f))[i]? = some (funsF p)[i] := by rw [more_funs, List.getElem?_append_left hi]; exact e1
    exact ⟨_, _, leastL_get e1, leastL_get e2, solF_mono hle _, least_lt p _, least_lt _ _⟩
  generalize leastL p = L1 at *
  generalize leastL (moreP p f) = L2 at *
  generalize decide (sumB (bodiesF p) 0 ≤ 400) = sm at h1
  generalize (solveF p).a = s1 at *
  generalize (solveF (moreP p f)).a = s2 at *
  generalize sizeF f.body = sz at *
  generalize (funsF p).length = Fn at *
  simp only [moreP, ePg, List.map_append, List.map_cons, List.map_nil] at h3
  clear hle hF hwf
  generalize wPg p = W0 at *
  generalize PV.wt (eFu f) = W1 at *
  obtain ⟨nm, ver, us, ds, ts, is, fs, acs⟩ := p
  obtain ⟨a1, a2, a3, a4, a5, a6, a7, ⟨c1, c2, c3, c4, c5, c6, c7, c8⟩⟩ := f
  simp only at *
  refine APure.intro (tyOf_ok Try.prog) hmix Try.func3 rfl (by rfl) (by kernel_rfl) (by show 2 ≤ _; decide) rfl ?_
  conv => whnf
  refine apc h1 ?_
  conv => whnf
  refine asplit ?_ ?_ <;> intro g1 <;> conv => whnf
  · exact .inl rfl
  refine apc h4 ?_
  conv => whnf
  refine asplit ?_ ?_ <;> intro g2 <;> conv => whnf
  · exact .inl rfl
  refine apc effects_spec ?_
  conv => whnf
  refine apc hcl ?_
  conv => whnf
  refine aneed (show ((fs.map eFu).length + 1) * 272 ≤ 140737488355328 by simp; omega) ?_
  conv => whnf
  refine aneed (by kernel_rfl) ?_
  conv => whnf
  refine apc h2 ?_
  conv => whnf
  refine apc h3 ?_
  conv => whnf
  have hn : (((L2.map vN).length : Nat) : Int) = IntKind.i64.wrap (((L1.map vN).length : Nat) + 1 : Int) := by
    rw [wrap64 (by simp; omega) (by simp; omega)]; simp [hl1, hl2]
  refine asf (by rw [hn]; simp) ?_
  conv => whnf
  refine asf (by rw [andNotI ha1 ha2 hasub]; rfl) ?_
  conv => whnf
  refine loopS (tyOf_ok _) hmix (by kernel_rfl) L1.length [6, 8, 53, 54] [] (fun k (_ : Unit) => [.p (.sl 1 (L1.map vN)), .p (.sl 1 (L2.map vN)), .p (.i .i64 (L1.map vN).length), .p (.i .i64 (ix k))]) (fun _ _ => []) (fun k _ => True) () ⟨rfl, rfl, rfl, rfl⟩ trivial ?_
  intro k _ hk _
  conv => whnf
  refine asplit ?_ ?_ <;> intro g3 <;> conv => whnf
  · have hk1 := ix_tt g3 (by simp) hk (by omega)
    obtain ⟨x, y, e1, e2, hs, hx, hy⟩ := hmm k (by omega)
    refine aidxk (x := vN x) (by simp [e1]) (by omega) ?_
    conv => whnf
    refine aidxk (x := vN y) (by simp [e2]) (by omega) ?_
    conv => whnf
    refine aneed (by kernel_rfl) ?_
    conv => whnf
    refine asf (by rw [andNotI hx hy hs]; rfl) ?_
    conv => whnf
    exact ⟨hk1, (), ⟨rfl, rfl, rfl, rfl⟩, trivial⟩
  · exact .inl rfl
end TR
