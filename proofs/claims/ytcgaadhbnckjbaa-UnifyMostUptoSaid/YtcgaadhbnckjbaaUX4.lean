/-
  DERIVED. Contracts of functions that the law reaches, and the law, for every input. No conditions.
-/
import Derived.Test.YtcgaadhbnckjbaaUX3
import Derived.Test.YtcgaadhbnckjbaaAMRlt
open Go Go.AM Go.Proofs
set_option maxRecDepth 100000
namespace KK
theorem head_small {m : TM} (hm : Good m) {t : Ty} (ht : nodes t ≤ 400) : nodes (headF m t) ≤ 400 := by
  obtain ⟨k, n, xs⟩ := t
  rw [headF]
  cases k == 5 with
  | false => exact ht
  | true =>
    rw [cond_true]
    cases hq : slook n m with
    | none => exact ht
    | some x => exact hm.look hq
theorem nodess_mem : ∀ {l : List Ty} {t : Ty}, t ∈ l → nodes t ≤ nodess l
  | [], _, h => by cases h
  | a :: r, t, h => by
    rw [nodess]
    rcases List.mem_cons.1 h with rfl | h
    · omega
    · have := nodess_mem h; omega
theorem uni_good : ∀ (f : Nat) {m : TM} {a b : Ty} {m' : TM}, Good m → nodes a ≤ 400 → nodes b ≤ 400 → uniF f m a b = some (0, m') → Good m'
  | 0, m, a, b, m', _, _, _, h => by rw [uniF] at h; cases h
  | f + 1, m, a, b, m', hm, ha, hb, h => by
    rw [uniF] at h
    have ha' := head_small hm ha
    have hb' := head_small hm hb
    generalize headF m a = a' at h ha'
    generalize headF m b = b' at h hb'
    obtain ⟨ak, an, ax⟩ := a'
    obtain ⟨bk, bn, bx⟩ := b'
    rw [uniH] at h
    have bg : ∀ {n : ByteArray} {t : Ty}, some (bindF m n t) = some (0, m') → Good m' := fun h => bind_good hm (by simpa using h)
    have ls : ∀ (xs ys : List Ty) (m1 : TM), Good m1 → nodess xs ≤ 400 → nodess ys ≤ 400 → uniFs f m1 xs ys = some (0, m') → Good m' := by
      intro xs
      induction xs with
      | nil => intro ys m1 h1 _ _ h; rw [uniFs] at h; cases h; exact h1; simp
      | cons x xs ih =>
        intro ys m1 h1 hx hy h
        cases ys with
        | nil => rw [uniFs] at h; cases h; exact h1; simp
        | cons y ys =>
          rw [uniFs] at h
          rw [nodess] at hx hy
          cases hq : uniF f m1 x y with
          | none => rw [hq] at h; cases h
          | some r =>
            obtain ⟨e, m2⟩ := r
            rw [hq] at h
            simp only at h
            cases he : e != 0 with
            | true => rw [he, cond_true] at h; cases h; simp at he
            | false =>
              rw [he, cond_false] at h
              obtain rfl : e = 0 := by simpa using he
              exact ih ys m2 (uni_good f h1 (by omega) (by omega) hq) (by omega) (by omega) h
    rw [nodes] at ha' hb'
    cases h1 : unkB (.mk ak an ax) with
    | true =>
      rw [h1, cond_true] at h
      cases h2 : unkB (.mk bk bn bx) with
      | true =>
        rw [h2, cond_true] at h
        cases h3 : an == bn with
        | true => rw [h3] at h; cases h; exact hm
        | false =>
          rw [h3, cond_false] at h
          cases h4 : gtB an bn <;> rw [h4] at h <;> exact bg h
      | false => rw [h2, cond_false] at h; exact bg h
    | false =>
      rw [h1, cond_false] at h
      cases h2 : unkB (.mk bk bn bx) with
      | true => rw [h2, cond_true] at h; exact bg h
      | false =>
        rw [h2, cond_false] at h
        cases h3 : (ak != bk || (an != bn || ax.length != bx.length)) with
        | true => rw [h3] at h; cases h
        | false => rw [h3, cond_false] at h; exact ls ax bx m hm (by omega) (by omega) h
def UniS (f : Nat) : Prop := ∀ (m : TM) (a b : Ty) (r : Int × TM), Good m → nodes a ≤ 400 → nodes b ≤ 400 → uniF f m a b = some r →
  AMem Try.prog 17 [.ptr 1000000000 0, .p (eT a), .p (eT b)] (hpS m) (.p (.i .i64 r.1)) (hpS r.2)
theorem uni_step (f : Nat) (ih : UniS f) : UniS (f + 1) := by
  intro m a b r hm ha hb hr
  rw [uniF] at hr
  have hha := head_spec m a
  have hhb := head_spec m b
  have ha' := head_small hm ha
  have hb' := head_small hm hb
  generalize headF m a = a' at hr hha ha'
  generalize headF m b = b' at hr hhb hb'
  have hua := unknown0_spec a'
  have hub := unknown0_spec b'
  have hbd : ∀ n t, nodes t ≤ 400 → AMem Try.prog 28 [.ptr 1000000000 0, .p (.s n), .p (eT t)] (hpS m) (.p (.i .i64 (bindF m n t).1)) (hpS (bindF m n t).2) := fun n t ht => bind_ok m hm n t ht
  obtain ⟨ak, an, ax⟩ := a'
  obtain ⟨bk, bn, bx⟩ := b'
  have hba := hbd an _ hb'
  have hbb := hbd bn _ ha'
  clear hbd
  obtain ⟨k0, n0, x0⟩ := a
  obtain ⟨k1, n1, x1⟩ := b
  rw [nodes] at ha' hb'
  have hla := nodes_len ax
  have hlb := nodes_len bx
  rw [uniH] at hr
  generalize unkB (.mk ak an ax) = qa at hr hua
  generalize unkB (.mk bk bn bx) = qb at hr hub
  generalize bindF m an (.mk bk bn bx) = ra at hr hba
  generalize bindF m bn (.mk ak an ax) = rb at hr hbb
  refine AMem.intro (tyOf_ok Try.prog) hmix Try.func17 rfl (by rfl) (by kernel_rfl) (by show 3 ≤ _; decide) rfl ?_
  conv => whnf
  refine amr [1000000000, 1000000001] 10000 hha ?_
  conv => whnf
  refine amr [1000000000, 1000000001] 10000 hhb ?_
  conv => whnf
  refine aneed (by kernel_rfl) ?_
  conv => whnf
  refine apc hua ?_
  conv => whnf
  refine apc hub ?_
  conv => whnf
  refine aneed (by kernel_rfl) ?_
  conv => whnf
  refine asplit ?_ ?_ <;> intro h1 <;> conv => whnf
  · subst h1
    rw [cond_true] at hr
    refine asplit ?_ ?_ <;> intro h2 <;> conv => whnf
    · subst h2
      rw [cond_true] at hr
      refine asplit ?_ ?_ <;> intro h3 <;> conv => whnf
      · rw [bl_iff] at h3
        rw [h3, cond_true] at hr
        cases hr
        exact ⟨.inl rfl, ⟨.inl rfl, trivial⟩, ⟨rfl, rfl⟩, trivial⟩
      · rw [bl_iff] at h3
        rw [h3, cond_false] at hr
        refine asplit ?_ ?_ <;> intro h4 <;> conv => whnf
        · replace h4 : gtB an bn = true := h4
          rw [h4, cond_true] at hr
          refine amc [1000000000, 1000000001] 10000 hba ?_
          conv => whnf
          cases hr
          exact ⟨.inl rfl, ⟨.inl rfl, trivial⟩, ⟨rfl, rfl⟩, trivial⟩
        · replace h4 : gtB an bn = false := h4
          rw [h4, cond_false] at hr
          refine amc [1000000000, 1000000001] 10000 hbb ?_
          conv => whnf
          cases hr
          exact ⟨.inl rfl, ⟨.inl rfl, trivial⟩, ⟨rfl, rfl⟩, trivial⟩
    · subst h2
      rw [cond_false] at hr
      refine amc [1000000000, 1000000001] 10000 hba ?_
      conv => whnf
      cases hr
      exact ⟨.inl rfl, ⟨.inl rfl, trivial⟩, ⟨rfl, rfl⟩, trivial⟩
  · subst h1
    rw [cond_false] at hr
    refine asplit ?_ ?_ <;> intro h2 <;> conv => whnf
    · subst h2
      rw [cond_true] at hr
      refine amc [1000000000, 1000000001] 10000 hbb ?_
      conv => whnf
      cases hr
      exact ⟨.inl rfl, ⟨.inl rfl, trivial⟩, ⟨rfl, rfl⟩, trivial⟩
    · subst h2
      rw [cond_false] at hr
      refine asplit ?_ ?_ <;> intro h5 <;> conv => whnf
      · replace h5 : (ak != bk) = true := h5
        rw [h5, Bool.true_or, cond_true] at hr
        cases hr
        exact ⟨.inl rfl, ⟨.inl rfl, trivial⟩, ⟨rfl, rfl⟩, trivial⟩
      replace h5 : (ak != bk) = false := h5
      rw [h5, Bool.false_or] at hr
      refine asplit ?_ ?_ <;> intro h6 <;> conv => whnf
      · rw [bl_iff] at h6
        replace h6 : (an != bn) = true := h6
        rw [h6, Bool.true_or, cond_true] at hr
        cases hr
        exact ⟨.inl rfl, ⟨.inl rfl, trivial⟩, ⟨rfl, rfl⟩, trivial⟩
      rw [bl_iff] at h6
      replace h6 : (an != bn) = false := h6
      rw [h6, Bool.false_or] at hr
      refine asplit ?_ ?_ <;> intro h7 <;> conv => whnf
      · replace h7 : (((eTs ax).length : Int) != ((eTs bx).length : Int)) = true := h7
        have h7' : (ax.length != bx.length) = true := by rw [eTs_len, eTs_len] at h7; simp at h7 ⊢; omega
        rw [h7', cond_true] at hr
        cases hr
        exact ⟨.inl rfl, ⟨.inl rfl, trivial⟩, ⟨rfl, rfl⟩, trivial⟩
      replace h7 : (((eTs ax).length : Int) != ((eTs bx).length : Int)) = false := h7
      have h7' : ax.length = bx.length := by rw [eTs_len, eTs_len] at h7; simp at h7; omega
      have h8 : (ax.length != bx.length) = false := by simp [h7']
      rw [h8, cond_false] at hr
      refine loopS (tyOf_ok _) hmix (by kernel_rfl) ax.length [0, 4, 5, 6, 81, 82] [4, 5, 1000000000, 1000000001] (fun k (_ : TM) => [.ptr 1000000000 0, .ptr 4 0, .ptr 5 0, .p (.i .i64 0), .p (.i .i64 (eTs ax).length), .p (.i .i64 (ix k))])
        (fun _ s => [.cells [.p (.i .i64 ak), .p (.s an), .p (.sl 3 (eTs ax))], .cells [.p (.i .i64 bk), .p (.s bn), .p (.sl 3 (eTs bx))], .cells [.mp 1000000001], .map .ks (eM eT s)]) (fun k s => Good s ∧ uniFs f s (ax.drop k) (bx.drop k) = some r) m ⟨rfl, rfl, rfl, rfl⟩ ⟨hm, hr⟩ ?_
      rintro k s hk ⟨hs, hrs⟩
      conv => whnf
      refine asplit ?_ ?_ <;> intro h9 <;> conv => whnf
      · have hk1 := ix_tt h9 (by rw [eTs_len]) hk (by omega)
        obtain ⟨x, hx⟩ : ∃ b, ax[k]? = some b := ⟨_, List.getElem?_eq_getElem hk1⟩
        obtain ⟨y, hy⟩ : ∃ b, bx[k]? = some b := ⟨_, List.getElem?_eq_getElem (by omega)⟩
        rw [drop_cons hx, drop_cons hy, uniFs] at hrs
        have hx1 := nodess_mem (List.mem_of_getElem? hx)
        have hy1 := nodess_mem (List.mem_of_getElem? hy)
        cases hq : uniF f s x y with
        | none => rw [hq] at hrs; cases hrs
        | some r1 =>
          obtain ⟨e1, m1⟩ := r1
          have hc := ih s x y (e1, m1) hs (by omega) (by omega) hq
          have hg : e1 = 0 → Good m1 := fun he => uni_good f (a := x) (b := y) hs (by omega) (by omega) (by rw [hq, he])
          rw [hq] at hrs
          simp only at hrs hc
          refine aidxk (eTs_get hx) (by omega) ?_
          obtain ⟨xk, xn, xx⟩ := x
          conv => whnf
          refine aidxk (eTs_get hy) (by omega) ?_
          obtain ⟨yk, yn, yx⟩ := y
          conv => whnf
          refine amc [1000000000, 1000000001] 10000 hc ?_
          conv => whnf
          refine aneed (by kernel_rfl) ?_
          conv => whnf
          refine asplit ?_ ?_ <;> intro hz <;> conv => whnf
          · replace hz : (e1 != 0) = true := hz
            rw [hz, cond_true] at hrs
            cases hrs
            exact ⟨.inl rfl, ⟨.inl rfl, trivial⟩, ⟨rfl, rfl⟩, trivial⟩
          · replace hz : (e1 != 0) = false := hz
            rw [hz, cond_false] at hrs
            obtain rfl : e1 = 0 := by simpa using hz
            exact ⟨hk1, m1, ⟨rfl, rfl, rfl, rfl⟩, hg rfl, hrs⟩
      · have hk1 := ix_ff h9 (by rw [eTs_len]) hk (by omega)
        rw [hk1, List.drop_length, uniFs] at hrs
        · cases hrs
          exact ⟨.inl rfl, ⟨.inl rfl, trivial⟩, ⟨rfl, rfl⟩, trivial⟩
        · simp
theorem uni_spec : ∀ (f : Nat), UniS f
  | 0 => fun m a b r _ _ _ h => by rw [uniF] at h; cases h
  | f + 1 => uni_step f (uni_spec f)
end KK
open Go Go.AM Go.Proofs
set_option maxRecDepth 100000
namespace KK
/-! Names, with bindings$1 -/
def eB (p : ByteArray × Ty) : PV := .agg (.s p.1 :: (eT p.2).cells)
noncomputable abbrev tyB : Nat → Option TI := hint (tyOf Try.prog) 29 [11]
theorem tyB_ok : TyOK Try.prog tyB := (tyOf_ok Try.prog).hint 29 [11]
theorem bnd1_spec (xs : List PV) (hx : xs.length ≤ 1099511627776) (k : ByteArray) (t : Ty) (ht : okT t) :
    AMem Try.prog 30 [.p (.s k), .p (eT t), .ptr 1000000000 0] [(1000000000, .cells [.al false 1000000001 4 xs.length]), (1000000001, .gr false 4 xs)] (.tup [])
      [(1000000000, .cells [.al false 11 4 (xs.length + 1)]), (1000000001, .dead), (11, .gr false 4 (xs ++ [eB (k, t)]))] := by
  have hc := copy_spec t ht
  obtain ⟨tk, tn, tx⟩ := t
  refine AMem.intro tyB_ok hmix Try.func30 rfl (by rfl) (by kernel_rfl) (by show 3 ≤ _; decide) rfl ?_
  conv => whnf
  refine apc hc ?_
  conv => whnf
  refine aneed (show xs.length = xs.length ∧ (xs.length + 1) * 64 ≤ 140737488355328 from ⟨rfl, by omega⟩) ?_
  conv => whnf
  refine aneed (by kernel_rfl) ?_
  conv => whnf
  exact ⟨.inl rfl, ⟨.inl rfl, trivial⟩, trivial, ⟨rfl, rfl, rfl⟩, trivial⟩
theorem seen_perm {N : Nat} {seen : List Nat} (h1 : seen.Nodup) (h2 : ∀ i ∈ seen, i < N) (h3 : seen.length = N) : seen.Perm (List.range N) :=
  (List.perm_ext_iff_of_nodup h1 List.nodup_range).2 fun i => by
    rw [List.mem_range]
    exact ⟨fun h => h2 i h, fun h => covers_all h1 h2 h3 h⟩
def atM (m : TM) (j : Nat) : ByteArray × Ty := (m[j]?).getD (⟨#[]⟩, zT)
theorem atM_range (m : TM) : (List.range m.length).map (atM m) = m := by
  apply List.ext_getElem?
  intro i
  rw [List.getElem?_map]
  rcases Nat.lt_or_ge i m.length with h | h
  · rw [List.getElem?_range h, Option.map_some, atM, List.getElem?_eq_getElem h]; rfl
  · rw [List.getElem?_eq_none (by simpa using h), List.getElem?_eq_none h]; rfl
theorem names_spec (m : TM) (hm : Good m) (hl : m.length ≤ 1000000000000) :
    AMemR Try.prog 29 [.ptr 1000000000 0, .fn 30 [] [.ptr 1000000002 0]]
      [(1000000000, .cells [.mp 1000000001]), (1000000001, .map .ks (eM eT m)), (1000000002, .cells [.al false 1000000003 4 0]), (1000000003, .gr false 4 [])]
      (fun l : TM => l.Perm m) (fun _ => .tup []) (fun l => [(1000000000, .cells [.mp 1000000001]), (1000000001, .map .ks (eM eT m)), (1000000002, .cells [.al false 900 4 (l.map eB).length]), (1000000003, .dead), (900, .gr false 4 (l.map eB))]) := by
  refine AMemR.introS (tyOf_ok Try.prog) Try.func29 rfl (by rfl) (by show 2 ≤ _; decide) (fun _ _ => rfl) ?_
  refine AWp.rng (tyOf_ok Try.prog) hmix (kt := 9) (et := 27) (σ := TM) (N := m.length) (kd := .ks) 4 1000000001 [0, 1] [1000000000, 1000000001, 1000000002, 1000000003, 900] (fun _ _ => [.ptr 1000000000 0, .fn 30 [] [.ptr 1000000002 0]])
    (fun _ s => [.cells [.mp 1000000001], .map .ks (eM eT m), .cells [.al false 900 4 (s.map eB).length], .dead, .gr false 4 (s.map eB)]) (fun seen s => s = seen.map (atM m) ∧ seen.Nodup ∧ ∀ i ∈ seen, i < m.length) (fun _ _ => eM eT m)
    ⟨rfl, rfl, rfl, rfl, rfl⟩ (by kernel_rfl) (by kernel_rfl) (fun _ _ _ _ h => h) ⟨rfl, rfl, rfl⟩ ⟨rfl, rfl, rfl⟩ ⟨rfl, rfl, rfl⟩ (by decide) (by decide) ⟨rfl, rfl, rfl, rfl⟩ (by kernel_rfl) (by kernel_rfl) (by decide) ?_ ?_ ?_ ?_
  · conv => whnf
    exact ⟨rfl, [], Tl.mv (L := 1000000003) (d := 900) ⟨rfl, rfl, rfl, rfl, rfl, rfl, rfl⟩, rfl, List.nodup_nil, by simp⟩
  · rintro seen s _
    exact ⟨rfl, by simp [eM]⟩
  · rintro seen s ⟨rfl, h1, h2⟩ h3
    refine ⟨seen.map (atM m), ?_, ?_⟩
    · have := (seen_perm h1 h2 h3).map (atM m)
      rw [atM_range] at this; exact this
    · conv => whnf
      exact ⟨.inl rfl, ⟨.inl rfl, trivial⟩, ⟨rfl, rfl⟩, ⟨.inl rfl, trivial⟩, trivial, ⟨rfl, rfl, rfl⟩, trivial⟩
  · rintro B seen s j x ⟨rfl, h1, h2⟩ hj hjs hlt hx
    obtain ⟨⟨ky, v⟩, hp⟩ : ∃ p, m[j]? = some p := ⟨_, List.getElem?_eq_getElem hj⟩
    have hx' : x = (.s ky, eT v) := by
      simp only [eM, List.getElem?_map, hp, Option.map_some, Option.some.injEq] at hx
      exact hx.symm
    subst hx'
    have hnd : (seen ++ [j]).Nodup := by
      rw [List.nodup_append]
      exact ⟨h1, by simp, fun a ha c hc => by simp at hc; subst hc; exact fun e => hjs (e ▸ ha)⟩
    have hin : ∀ i ∈ seen ++ [j], i < m.length := by
      intro i hi
      rcases List.mem_append.1 hi with hi | hi
      · exact h2 i hi
      · simp at hi; subst hi; exact hj
    have hov := okT_of_nodes v (by have := hm.2 _ (List.mem_of_getElem? hp); simp only at this; omega)
    have hc := bnd1_spec ((seen.map (atM m)).map eB) (by simp; omega) ky v hov
    have hat : atM m j = (ky, v) := by rw [atM, hp]; rfl
    obtain ⟨vk, vn, vx⟩ := v
    conv => whnf
    refine amc [1000000002, 900] 10000 hc ?_
    conv => whnf
    refine ⟨seen.map (atM m) ++ [(ky, .mk vk vn vx)], Tl.swap (x := 900) (y := 10011) ⟨?_, rfl, rfl, rfl, rfl⟩, by rw [List.map_append]; simp [hat], hnd, hin⟩
    rw [List.map_append, List.length_append]
    rfl
end KK
