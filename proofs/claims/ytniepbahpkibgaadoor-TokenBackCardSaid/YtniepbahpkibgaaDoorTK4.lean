/-
  DERIVED. Contracts of the functions that the law reaches, and the law itself, for every input. No conditions.
-/
import Derived.Test.YtniepbahpkibgaaDoorTK3
open Go Go.AM Go.Proofs
set_option maxRecDepth 100000
namespace TK
theorem B_emp (l : Bs) : ((B l).toList == ByteArray.toList ⟨#[]⟩) = (l == []) := B_beq l []
theorem word_aux (l : Bs) (W : List Bs) (b : Bool) (h1 : APure Tryd.prog 29 [] (.p (.sl 1 (W.map eStr)))) (h2 : APure Tryd.prog 28 [.p (.sl 1 (W.map eStr)), .p (.s (B l))] (.p (.b b))) :
    APure Tryd.prog 16 [.p (.s (B l))] (.p (.b (!(l == []) && b))) := by
  refine APure.intro (tyOf_ok Tryd.prog) hmix Tryd.func16 rfl (by rfl) (by kernel_rfl) (by show 1 ≤ _; decide) rfl ?_
  conv => whnf
  refine asplit ?_ ?_ <;> intro h <;> conv => whnf
  · rw [B_emp] at h
    refine apc h1 ?_
    conv => whnf
    refine apc h2 ?_
    conv => whnf
    exact .inl (pb (by rw [h]; rfl))
  · rw [B_emp] at h
    exact .inl (pb (by rw [h]; rfl))
theorem word_spec (l : Bs) : APure Tryd.prog 16 [.p (.s (B l))] (.p (.b (wordF l))) :=
  word_aux l wordsL _ words_spec (scont_spec wordsL l (by rw [wordsL, split_len]; exact Nat.lt_of_le_of_lt (Nat.succ_le_succ (count_le' _ _)) (by decide)))
theorem name_aux (l : Bs) (R : Bool) (hR : nameF l = R) (hl : l.length ≤ 1048576) : APure Tryd.prog 25 [.p (.s (B l))] (.p (.b R)) := by
  have hsz : (B l).size = l.length := B_size l
  refine APure.intro (tyOf_ok Tryd.prog) hmix Tryd.func25 rfl (by rfl) (by kernel_rfl) (by show 1 ≤ _; decide) rfl ?_
  conv => whnf
  refine asplit ?_ ?_ <;> intro h1 <;> conv => whnf
  · rw [B_emp] at h1
    exact .inl (pb (by rw [← hR, nameF, h1]; rfl))
  rw [B_emp] at h1
  refine asplit ?_ ?_ <;> intro h2 <;> conv => whnf
  · rw [hsz] at h2
    have : ¬ l.length ≤ 16 := by have := of_decide_eq_true h2; omega
    exact .inl (pb (by rw [← hR, nameF, h1]; simp [this]))
  rw [hsz] at h2
  have h16 : l.length ≤ 16 := by have := of_decide_eq_false h2; omega
  obtain ⟨c, r, rfl⟩ : ∃ c r, l = c :: r := by
    cases l with
    | nil => simp at h1
    | cons c r => exact ⟨c, r, rfl⟩
  refine asix (k := 0) (c := c) rfl rfl ?_
  conv => whnf
  have hc := letter_spec c
  have hR2 : (letterF c && (c :: r).all partF) = R := by rw [← hR, nameF]; simp only [h1, h16, decide_true, Bool.true_and, Bool.not_false, List.headD_cons]
  clear hR h1 h2
  generalize c :: r = l at *
  generalize letterF c = b at *
  refine apc hc ?_
  conv => whnf
  refine asplit ?_ ?_ <;> intro h3 <;> conv => whnf
  · have h3 : b = false := by simpa using h3
    subst h3
    exact .inl (pb hR2)
  have h3 : b = true := by simpa using h3
  subst h3
  rw [Bool.true_and] at hR2
  refine loopS (tyOf_ok _) hmix (by kernel_rfl) l.length [0, 18, 19] [] (fun k _ => [.p (.s (B l)), .p (.i .i64 (B l).size), .p (.i .i64 (ix k))]) (fun _ _ => []) (fun k _ => R = (l.drop k).all partF) () ⟨rfl, rfl, rfl, rfl⟩ hR2.symm ?_
  intro k s hk hn
  conv => whnf
  refine asplit ?_ ?_ <;> intro h4 <;> conv => whnf
  · have hk1 := ix_tt h4 (by rw [hsz]) hk (by omega)
    obtain ⟨d, hd⟩ : ∃ b, l[k]? = some b := ⟨_, List.getElem?_eq_getElem hk1⟩
    refine asix (ix_eq (by omega)) hd ?_
    conv => whnf
    have hp := part_spec d
    rw [drop_cons hd, List.all_cons] at hn
    generalize partF d = q at *
    refine apc hp ?_
    conv => whnf
    refine asplit ?_ ?_ <;> intro h5 <;> conv => whnf
    · have h5 : q = false := by simpa using h5
      subst h5
      exact .inl (pb hn.symm)
    · have h5 : q = true := by simpa using h5
      subst h5
      exact ⟨hk1, (), ⟨rfl, rfl, rfl, rfl⟩, by rw [hn]; rfl⟩
  · have hk1 := ix_ff h4 (by rw [hsz]) hk (by omega)
    rw [hk1, List.drop_length] at hn
    exact .inl (pb hn.symm)
theorem name_spec (l : Bs) (hl : l.length ≤ 1048576) : APure Tryd.prog 25 [.p (.s (B l))] (.p (.b (nameF l))) := name_aux l _ rfl hl
theorem low_aux (l : Bs) (a b : Bool) (c : UInt8) (h1 : APure Tryd.prog 25 [.p (.s (B l))] (.p (.b a))) (hc : a = true → l[0]? = some c) (b2 : Bool) (h2 : APure Tryd.prog 26 [.p (vU c)] (.p (.b b2))) (h3 : APure Tryd.prog 16 [.p (.s (B l))] (.p (.b b))) :
    APure Tryd.prog 14 [.p (.s (B l))] (.p (.b (a && (b2 && !b)))) := by
  refine APure.intro (tyOf_ok Tryd.prog) hmix Tryd.func14 rfl (by rfl) (by kernel_rfl) (by show 1 ≤ _; decide) rfl ?_
  conv => whnf
  refine apc h1 ?_
  conv => whnf
  refine asplit ?_ ?_ <;> intro h <;> conv => whnf
  · refine asix (k := 0) rfl (hc h) ?_
    conv => whnf
    refine apc h2 ?_
    conv => whnf
    refine asplit ?_ ?_ <;> intro h' <;> conv => whnf
    · refine apc h3 ?_
      conv => whnf
      exact .inl (pb (by rw [h, h']; rfl))
    · exact .inl (pb (by rw [h, h']; rfl))
  · exact .inl (pb (by rw [h]; rfl))
theorem name_head {l : Bs} (h : nameF l = true) : l[0]? = some (l.headD 0) := by
  cases l with
  | nil => simp [nameF] at h
  | cons c r => rfl
theorem low_spec (l : Bs) (hl : l.length ≤ 1048576) : APure Tryd.prog 14 [.p (.s (B l))] (.p (.b (lowF l))) :=
  low_aux l _ _ _ (name_spec l hl) name_head _ (small_spec _) (word_spec l)
theorem up_aux (l : Bs) (a : Bool) (c : UInt8) (h1 : APure Tryd.prog 25 [.p (.s (B l))] (.p (.b a))) (hc : a = true → l[0]? = some c) (b2 : Bool) (h2 : APure Tryd.prog 27 [.p (vU c)] (.p (.b b2))) :
    APure Tryd.prog 15 [.p (.s (B l))] (.p (.b (a && b2))) := by
  refine APure.intro (tyOf_ok Tryd.prog) hmix Tryd.func15 rfl (by rfl) (by kernel_rfl) (by show 1 ≤ _; decide) rfl ?_
  conv => whnf
  refine apc h1 ?_
  conv => whnf
  refine asplit ?_ ?_ <;> intro h <;> conv => whnf
  · refine asix (k := 0) rfl (hc h) ?_
    conv => whnf
    refine apc h2 ?_
    conv => whnf
    exact .inl (pb (by rw [h]; rfl))
  · exact .inl (pb (by rw [h]; rfl))
theorem up_spec (l : Bs) (hl : l.length ≤ 1048576) : APure Tryd.prog 15 [.p (.s (B l))] (.p (.b (upF l))) := up_aux l _ _ (name_spec l hl) name_head _ (cap_spec _)
theorem idxB_cont (c : UInt8) : ∀ (l : Bs), decide (Lib.indexByte l c ≥ 0) = l.contains c
  | [] => by simp [Lib.indexByte]
  | a :: r => by
    have ih := idxB_cont c r
    have hg := Lib.indexByte_ge r c
    rw [List.contains_cons, Lib.indexByte]
    by_cases h : a = c
    · subst h; simp
    · rw [if_neg (by simpa using h), ← ih, show (c == a) = false by simpa using fun e => h e.symm, Bool.false_or]
      by_cases h2 : Lib.indexByte r c = -1
      · rw [if_pos (by simpa using h2), h2]
      · rw [if_neg (by simpa using h2)]
        have : Lib.indexByte r c ≥ 0 := by omega
        simp only [this, decide_true, decide_eq_true_eq]; omega
theorem sign_aux (l : Bs) (b : Bool) (h : l.length = 1 → APure Tryd.prog 30 [.p (.s ⟨#[40, 41, 91, 93, 123, 125, 44, 59, 58, 61, 43, 45, 42, 47, 37, 60, 94, 124, 95]⟩), .p (.s (B l))] (.p (.b b))) :
    APure Tryd.prog 18 [.p (.s (B l))] (.p (.b ((l == [61, 62] || l == [45, 62]) || (decide (l.length = 1) && b)))) := by
  have e1 : ((B l).toList == ByteArray.toList ⟨#[61, 62]⟩) = (l == [61, 62]) := B_beq l [61, 62]
  have e2 : ((B l).toList == ByteArray.toList ⟨#[45, 62]⟩) = (l == [45, 62]) := B_beq l [45, 62]
  have hsz : (B l).size = l.length := B_size l
  refine APure.intro (tyOf_ok Tryd.prog) hmix Tryd.func18 rfl (by rfl) (by kernel_rfl) (by show 1 ≤ _; decide) rfl ?_
  conv => whnf
  refine asplit ?_ ?_ <;> intro h1 <;> conv => whnf
  · refine ast h1 ?_
    conv => whnf
    rw [e1] at h1
    exact .inl (pb (by rw [h1]; rfl))
  refine asplit ?_ ?_ <;> intro h2 <;> conv => whnf
  · rw [e2] at h2
    exact .inl (pb (by rw [h2]; simp))
  rw [e1] at h1
  rw [e2] at h2
  refine asplit ?_ ?_ <;> intro h3 <;> conv => whnf
  · have h3' : l.length = 1 := by rw [hsz] at h3; have := eq_of_beq h3; omega
    have hc := h h3'
    refine apc hc ?_
    conv => whnf
    exact .inl (pb (by rw [h1, h2, h3']; rfl))
  · have h3' : ¬ l.length = 1 := by intro e; rw [hsz, e] at h3; simp at h3
    exact .inl (pb (by rw [h1, h2]; simp [h3']))
theorem sign_spec (l : Bs) : APure Tryd.prog 18 [.p (.s (B l))] (.p (.b (signF l))) := by
  refine sign_aux l (signsL.contains (l.headD 0)) fun hl => ?_
  obtain ⟨c, rfl⟩ : ∃ c, l = [c] := by
    match l, hl with
    | [c], _ => exact ⟨c, rfl⟩
  have := containsB_spec signsL c
  rw [idxB_cont] at this
  exact this
theorem hex_aux (c : UInt8) (i : Int) (h : APure Tryd.prog 42 [.p (.s ⟨#[48, 49, 50, 51, 52, 53, 54, 55, 56, 57, 97, 98, 99, 100, 101, 102]⟩), .p (vU c)] (.p (.i .i64 i))) : APure Tryd.prog 39 [.p (vU c)] (.p (.i .i64 i)) := by
  refine APure.intro (tyOf_ok Tryd.prog) hmix Tryd.func39 rfl (by rfl) (by kernel_rfl) (by show 1 ≤ _; decide) rfl ?_
  conv => whnf
  refine apc h ?_
  conv => whnf
  exact .inl rfl
theorem hex_spec (c : UInt8) : APure Tryd.prog 39 [.p (vU c)] (.p (.i .i64 (hexF c))) := hex_aux c _ (idxB_spec hexL c)
theorem idxB_lt (c : UInt8) : ∀ (l : Bs), Lib.indexByte l c < l.length
  | [] => by simp [Lib.indexByte]
  | a :: r => by
    have ih := idxB_lt c r
    rw [Lib.indexByte, List.length_cons]
    split
    · omega
    · split
      · omega
      · omega
theorem hex_lt (c : UInt8) : hexF c ≤ 15 := by have := idxB_lt c hexL; simp only [hexL, List.length_cons, List.length_nil] at this; rw [hexF]; simp only [hexL]; omega
end TK
