/-
  DERIVED. Contracts of the functions that the law reaches, and the law itself, for every input. No conditions.
-/
import Derived.Test.YtfnghigkbcbjiaaDoorGL1
import Derived.Test.YtfnghigkbcbjiaaDoorTR1
import Derived.Test.YtfnghigkbcbjiaaDoorAMMv
import Derived.Test.YtfnghigkbcbjiaaDoorLS1
open Go Go.AM Go.Proofs Go.RowKit TR
set_option maxRecDepth 100000
namespace GL
/-! types -/
def hJ (tab : List Value) (e : Int) : Heap := [(1000000000, .cells [.p (.i .i64 e)]), (1000000001, .glob 0 tab)]
def tHead (S G : ByteArray → Bool) (k : Int) (n : ByteArray) (L : Int) : Bool :=
  bif k == 5 then (L == 0 && (S n || (n.toList == ByteArray.toList ⟨#[115, 101, 108, 102]⟩))) else
  bif k == 6 then (decide (L ≤ 6) && dataF G n) else
  bif k == 7 then (decide (L ≥ 1) && (n.toList == ByteArray.toList ⟨#[]⟩)) else
  bif k == 8 || k == 9 then (L == 1 && (n.toList == ByteArray.toList ⟨#[]⟩)) else (L == 0 && (n.toList == ByteArray.toList ⟨#[]⟩))
mutual
def typF (S G : ByteArray → Bool) : Ty → Int → Int → Int
  | .mk k n xs, d, e => bif !(mustF (mustF e (decide (d ≤ 40)) 2) (decide (k ≥ 1) && decide (k ≤ 9)) 3 == 0) then mustF (mustF e (decide (d ≤ 40)) 2) (decide (k ≥ 1) && decide (k ≤ 9)) 3
      else typFs S G xs (IntKind.i64.wrap (d + 1)) (mustF (mustF (mustF (mustF e (decide (d ≤ 40)) 2) (decide (k ≥ 1) && decide (k ≤ 9)) 3) (decide ((xs.length : Int) ≤ 7)) 2) (tHead S G k n xs.length) 3)
def typFs (S G : ByteArray → Bool) : List Ty → Int → Int → Int
  | [], _, e => e
  | t :: r, d, e => typFs S G r d (typF S G t d e)
end
def SmallS (S : ByteArray → Bool) (tab : List Value) : Prop := ∀ s, AMem Tryd.prog 18 [.p (.s s)] [(1000000000, .glob 0 tab)] (.p (.b (S s))) [(1000000000, .glob 0 tab)]
def GreatS (G : ByteArray → Bool) : Prop := ∀ s, APure Tryd.prog 22 [.p (.s s)] (.p (.b (G s)))
def TypS (S G : ByteArray → Bool) (tab : List Value) (t : Ty) : Prop := ∀ d e, AMem Tryd.prog 39 [.ptr 1000000000 0, .p (eT t), .p (.i .i64 d)] (hJ tab e) (.tup []) (hJ tab (typF S G t d e))
theorem typ_of (S G : ByteArray → Bool) (tab : List Value) (hS : SmallS S tab) (hG : GreatS G) (k : Int) (n : ByteArray) (xs : List Ty) (hx : xs.length ≤ 1048640) (ih : ∀ x ∈ xs, TypS S G tab x) : TypS S G tab (.mk k n xs) := by
  intro d e
  have hR : ∀ b2 b, (decide (k ≥ 1) && decide (k ≤ 9)) = b2 → tHead S G k n (eTs xs).length = b → typF S G (.mk k n xs) d e = bif !(mustF (mustF e (decide (d ≤ 40)) 2) b2 3 == 0) then mustF (mustF e (decide (d ≤ 40)) 2) b2 3 else typFs S G xs (IntKind.i64.wrap (d + 1)) (mustF (mustF (mustF (mustF e (decide (d ≤ 40)) 2) b2 3) (decide (((eTs xs).length : Int) ≤ 7)) 2) b 3) := by
    intro b2 b h1 h2
    subst h1; subst h2
    rw [typF, eTs_len]
  have f1 := few_spec e (decide (d ≤ 40))
  have hs := hS n
  have hg := data_spec G n (hG n)
  generalize typF S G (.mk k n xs) d e = R at *
  generalize mustF e (decide (d ≤ 40)) 2 = e1 at *
  unfold tHead at hR
  unfold hJ
  generalize hdn : dataF G n = DN at *
  generalize S n = SN at *
  refine AMem.intro (tyOf_ok Tryd.prog) hmix Tryd.func39 rfl (by rfl) (by kernel_rfl) (by show 3 ≤ _; decide) rfl ?_
  conv => whnf
  refine amc [1000000000] 50 f1 ?_
  conv => whnf
  refine asplit ?_ ?_ <;> intro g0 <;> conv => whnf
  · refine amc [1000000000] 60 (form_spec e1 (decide (k ≤ 9))) ?_
    conv => whnf
    replace hR := fun b => hR (decide (k ≤ 9)) b (by rw [g0]; rfl)
    generalize mustF e1 (decide (k ≤ 9)) 3 = e2 at *
    have f3 := few_spec e2 (decide (((eTs xs).length : Int) ≤ 7))
    generalize mustF e2 (decide (((eTs xs).length : Int) ≤ 7)) 2 = e3 at *
    refine asplit ?_ ?_ <;> intro q3 <;> conv => whnf
    · replace hR := hR _ rfl
      rw [show (!(e2 == 0)) = true from q3, cond_true] at hR
      subst hR
      exact ⟨.inl rfl, ⟨.inl rfl, trivial⟩, ⟨rfl, rfl⟩, trivial⟩
    replace q3 : (!(e2 == 0)) = false := q3
    refine amc [1000000000] 70 f3 ?_
    conv => whnf
    refine asplit ?_ ?_ <;> intro k5 <;> conv => whnf
    · refine asplit ?_ ?_ <;> intro g5 <;> conv => whnf
      · refine amc [1000000001] 80 hs ?_
        conv => whnf
        refine asplit ?_ ?_ <;> intro gs <;> conv => whnf
        · refine amc [1000000000] 50000 (form_spec e3 (true)) ?_
          conv => whnf
          replace hR := (hR (true) (by rw [k5, g5, gs]; rfl)).symm
          generalize mustF e3 (true) 3 = e4 at *
          rw [q3, cond_false] at hR
          refine loopS (tyOf_ok _) hmix (by kernel_rfl) xs.length [0, 2, 97, 98, 99] [1000000000, 1000000001] (fun j _ => [.ptr 1000000000 0, .p (.i .i64 d), .p (.sl 3 (eTs xs)), .p (.i .i64 (eTs xs).length), .p (.i .i64 (ix j))]) (fun j x => [.cells [.p (.i .i64 x)], .glob 0 tab]) (fun j x => typFs S G (xs.drop j) (IntKind.i64.wrap (d + 1)) x = R) e4 ⟨rfl, rfl, rfl, rfl⟩ hR ?_
          intro j x hj hn
          conv => whnf
          refine asplit ?_ ?_ <;> intro h1 <;> conv => whnf
          · have hj1 := ix_tt h1 (by rw [eTs_len]) hj (by omega)
            obtain ⟨b, hb1⟩ : ∃ b, xs[j]? = some b := ⟨_, List.getElem?_eq_getElem hj1⟩
            rw [drop_cons hb1, typFs] at hn
            refine aidxk (eTs_get hb1) (by omega) ?_
            have c := ih b (List.mem_of_getElem? hb1) (IntKind.i64.wrap (d + 1)) x
            unfold hJ at c
            generalize typF S G b (IntKind.i64.wrap (d + 1)) x = y at c hn
            obtain ⟨bk, bn, bx⟩ := b
            conv => whnf
            refine amc [1000000000, 1000000001] 70000 c ?_
            conv => whnf
            exact ⟨hj1, y, ⟨rfl, rfl, rfl, rfl⟩, hn⟩
          · have hj1 := ix_ff h1 (by rw [eTs_len]) hj (by omega)
            rw [hj1, List.drop_length, typFs] at hn
            subst hn
            exact ⟨.inl rfl, ⟨.inl rfl, trivial⟩, ⟨rfl, rfl⟩, trivial⟩
        · refine amc [1000000000] 50000 (form_spec e3 (n.toList == ByteArray.toList ⟨#[115, 101, 108, 102]⟩)) ?_
          conv => whnf
          replace hR := (hR (n.toList == ByteArray.toList ⟨#[115, 101, 108, 102]⟩) (by rw [k5, g5, gs]; rfl)).symm
          generalize mustF e3 (n.toList == ByteArray.toList ⟨#[115, 101, 108, 102]⟩) 3 = e4 at *
          rw [q3, cond_false] at hR
          refine loopS (tyOf_ok _) hmix (by kernel_rfl) xs.length [0, 2, 97, 98, 99] [1000000000, 1000000001] (fun j _ => [.ptr 1000000000 0, .p (.i .i64 d), .p (.sl 3 (eTs xs)), .p (.i .i64 (eTs xs).length), .p (.i .i64 (ix j))]) (fun j x => [.cells [.p (.i .i64 x)], .glob 0 tab]) (fun j x => typFs S G (xs.drop j) (IntKind.i64.wrap (d + 1)) x = R) e4 ⟨rfl, rfl, rfl, rfl⟩ hR ?_
          intro j x hj hn
          conv => whnf
          refine asplit ?_ ?_ <;> intro h1 <;> conv => whnf
          · have hj1 := ix_tt h1 (by rw [eTs_len]) hj (by omega)
            obtain ⟨b, hb1⟩ : ∃ b, xs[j]? = some b := ⟨_, List.getElem?_eq_getElem hj1⟩
            rw [drop_cons hb1, typFs] at hn
            refine aidxk (eTs_get hb1) (by omega) ?_
            have c := ih b (List.mem_of_getElem? hb1) (IntKind.i64.wrap (d + 1)) x
            unfold hJ at c
            generalize typF S G b (IntKind.i64.wrap (d + 1)) x = y at c hn
            obtain ⟨bk, bn, bx⟩ := b
            conv => whnf
            refine amc [1000000000, 1000000001] 70000 c ?_
            conv => whnf
            exact ⟨hj1, y, ⟨rfl, rfl, rfl, rfl⟩, hn⟩
          · have hj1 := ix_ff h1 (by rw [eTs_len]) hj (by omega)
            rw [hj1, List.drop_length, typFs] at hn
            subst hn
            exact ⟨.inl rfl, ⟨.inl rfl, trivial⟩, ⟨rfl, rfl⟩, trivial⟩
      · refine amc [1000000000] 50000 (form_spec e3 (false)) ?_
        conv => whnf
        replace hR := (hR (false) (by rw [k5, g5]; rfl)).symm
        generalize mustF e3 (false) 3 = e4 at *
        rw [q3, cond_false] at hR
        refine loopS (tyOf_ok _) hmix (by kernel_rfl) xs.length [0, 2, 97, 98, 99] [1000000000, 1000000001] (fun j _ => [.ptr 1000000000 0, .p (.i .i64 d), .p (.sl 3 (eTs xs)), .p (.i .i64 (eTs xs).length), .p (.i .i64 (ix j))]) (fun j x => [.cells [.p (.i .i64 x)], .glob 0 tab]) (fun j x => typFs S G (xs.drop j) (IntKind.i64.wrap (d + 1)) x = R) e4 ⟨rfl, rfl, rfl, rfl⟩ hR ?_
        intro j x hj hn
        conv => whnf
        refine asplit ?_ ?_ <;> intro h1 <;> conv => whnf
        · have hj1 := ix_tt h1 (by rw [eTs_len]) hj (by omega)
          obtain ⟨b, hb1⟩ : ∃ b, xs[j]? = some b := ⟨_, List.getElem?_eq_getElem hj1⟩
          rw [drop_cons hb1, typFs] at hn
          refine aidxk (eTs_get hb1) (by omega) ?_
          have c := ih b (List.mem_of_getElem? hb1) (IntKind.i64.wrap (d + 1)) x
          unfold hJ at c
          generalize typF S G b (IntKind.i64.wrap (d + 1)) x = y at c hn
          obtain ⟨bk, bn, bx⟩ := b
          conv => whnf
          refine amc [1000000000, 1000000001] 70000 c ?_
          conv => whnf
          exact ⟨hj1, y, ⟨rfl, rfl, rfl, rfl⟩, hn⟩
        · have hj1 := ix_ff h1 (by rw [eTs_len]) hj (by omega)
          rw [hj1, List.drop_length, typFs] at hn
          subst hn
          exact ⟨.inl rfl, ⟨.inl rfl, trivial⟩, ⟨rfl, rfl⟩, trivial⟩
    refine asplit ?_ ?_ <;> intro k6 <;> conv => whnf
    · refine asplit ?_ ?_ <;> intro g6 <;> conv => whnf
      · refine apc hg ?_
        conv => whnf
        refine amc [1000000000] 50000 (form_spec e3 (DN)) ?_
        conv => whnf
        replace hR := (hR (DN) (by rw [k5, k6, g6]; rfl)).symm
        generalize mustF e3 (DN) 3 = e4 at *
        rw [q3, cond_false] at hR
        refine loopS (tyOf_ok _) hmix (by kernel_rfl) xs.length [0, 2, 97, 98, 99] [1000000000, 1000000001] (fun j _ => [.ptr 1000000000 0, .p (.i .i64 d), .p (.sl 3 (eTs xs)), .p (.i .i64 (eTs xs).length), .p (.i .i64 (ix j))]) (fun j x => [.cells [.p (.i .i64 x)], .glob 0 tab]) (fun j x => typFs S G (xs.drop j) (IntKind.i64.wrap (d + 1)) x = R) e4 ⟨rfl, rfl, rfl, rfl⟩ hR ?_
        intro j x hj hn
        conv => whnf
        refine asplit ?_ ?_ <;> intro h1 <;> conv => whnf
        · have hj1 := ix_tt h1 (by rw [eTs_len]) hj (by omega)
          obtain ⟨b, hb1⟩ : ∃ b, xs[j]? = some b := ⟨_, List.getElem?_eq_getElem hj1⟩
          rw [drop_cons hb1, typFs] at hn
          refine aidxk (eTs_get hb1) (by omega) ?_
          have c := ih b (List.mem_of_getElem? hb1) (IntKind.i64.wrap (d + 1)) x
          unfold hJ at c
          generalize typF S G b (IntKind.i64.wrap (d + 1)) x = y at c hn
          obtain ⟨bk, bn, bx⟩ := b
          conv => whnf
          refine amc [1000000000, 1000000001] 70000 c ?_
          conv => whnf
          exact ⟨hj1, y, ⟨rfl, rfl, rfl, rfl⟩, hn⟩
        · have hj1 := ix_ff h1 (by rw [eTs_len]) hj (by omega)
          rw [hj1, List.drop_length, typFs] at hn
          subst hn
          exact ⟨.inl rfl, ⟨.inl rfl, trivial⟩, ⟨rfl, rfl⟩, trivial⟩
      · refine amc [1000000000] 50000 (form_spec e3 (false)) ?_
        conv => whnf
        replace hR := (hR (false) (by rw [k5, k6, g6]; rfl)).symm
        generalize mustF e3 (false) 3 = e4 at *
        rw [q3, cond_false] at hR
        refine loopS (tyOf_ok _) hmix (by kernel_rfl) xs.length [0, 2, 97, 98, 99] [1000000000, 1000000001] (fun j _ => [.ptr 1000000000 0, .p (.i .i64 d), .p (.sl 3 (eTs xs)), .p (.i .i64 (eTs xs).length), .p (.i .i64 (ix j))]) (fun j x => [.cells [.p (.i .i64 x)], .glob 0 tab]) (fun j x => typFs S G (xs.drop j) (IntKind.i64.wrap (d + 1)) x = R) e4 ⟨rfl, rfl, rfl, rfl⟩ hR ?_
        intro j x hj hn
        conv => whnf
        refine asplit ?_ ?_ <;> intro h1 <;> conv => whnf
        · have hj1 := ix_tt h1 (by rw [eTs_len]) hj (by omega)
          obtain ⟨b, hb1⟩ : ∃ b, xs[j]? = some b := ⟨_, List.getElem?_eq_getElem hj1⟩
          rw [drop_cons hb1, typFs] at hn
          refine aidxk (eTs_get hb1) (by omega) ?_
          have c := ih b (List.mem_of_getElem? hb1) (IntKind.i64.wrap (d + 1)) x
          unfold hJ at c
          generalize typF S G b (IntKind.i64.wrap (d + 1)) x = y at c hn
          obtain ⟨bk, bn, bx⟩ := b
          conv => whnf
          refine amc [1000000000, 1000000001] 70000 c ?_
          conv => whnf
          exact ⟨hj1, y, ⟨rfl, rfl, rfl, rfl⟩, hn⟩
        · have hj1 := ix_ff h1 (by rw [eTs_len]) hj (by omega)
          rw [hj1, List.drop_length, typFs] at hn
          subst hn
          exact ⟨.inl rfl, ⟨.inl rfl, trivial⟩, ⟨rfl, rfl⟩, trivial⟩
    refine asplit ?_ ?_ <;> intro k7 <;> conv => whnf
    · refine asplit ?_ ?_ <;> intro g7 <;> conv => whnf
      · refine amc [1000000000] 50000 (form_spec e3 (n.toList == ByteArray.toList ⟨#[]⟩)) ?_
        conv => whnf
        replace hR := (hR (n.toList == ByteArray.toList ⟨#[]⟩) (by rw [k5, k6, k7, g7]; rfl)).symm
        generalize mustF e3 (n.toList == ByteArray.toList ⟨#[]⟩) 3 = e4 at *
        rw [q3, cond_false] at hR
        refine loopS (tyOf_ok _) hmix (by kernel_rfl) xs.length [0, 2, 97, 98, 99] [1000000000, 1000000001] (fun j _ => [.ptr 1000000000 0, .p (.i .i64 d), .p (.sl 3 (eTs xs)), .p (.i .i64 (eTs xs).length), .p (.i .i64 (ix j))]) (fun j x => [.cells [.p (.i .i64 x)], .glob 0 tab]) (fun j x => typFs S G (xs.drop j) (IntKind.i64.wrap (d + 1)) x = R) e4 ⟨rfl, rfl, rfl, rfl⟩ hR ?_
        intro j x hj hn
        conv => whnf
        refine asplit ?_ ?_ <;> intro h1 <;> conv => whnf
        · have hj1 := ix_tt h1 (by rw [eTs_len]) hj (by omega)
          obtain ⟨b, hb1⟩ : ∃ b, xs[j]? = some b := ⟨_, List.getElem?_eq_getElem hj1⟩
          rw [drop_cons hb1, typFs] at hn
          refine aidxk (eTs_get hb1) (by omega) ?_
          have c := ih b (List.mem_of_getElem? hb1) (IntKind.i64.wrap (d + 1)) x
          unfold hJ at c
          generalize typF S G b (IntKind.i64.wrap (d + 1)) x = y at c hn
          obtain ⟨bk, bn, bx⟩ := b
          conv => whnf
          refine amc [1000000000, 1000000001] 70000 c ?_
          conv => whnf
          exact ⟨hj1, y, ⟨rfl, rfl, rfl, rfl⟩, hn⟩
        · have hj1 := ix_ff h1 (by rw [eTs_len]) hj (by omega)
          rw [hj1, List.drop_length, typFs] at hn
          subst hn
          exact ⟨.inl rfl, ⟨.inl rfl, trivial⟩, ⟨rfl, rfl⟩, trivial⟩
      · refine amc [1000000000] 50000 (form_spec e3 (false)) ?_
        conv => whnf
        replace hR := (hR (false) (by rw [k5, k6, k7, g7]; rfl)).symm
        generalize mustF e3 (false) 3 = e4 at *
        rw [q3, cond_false] at hR
        refine loopS (tyOf_ok _) hmix (by kernel_rfl) xs.length [0, 2, 97, 98, 99] [1000000000, 1000000001] (fun j _ => [.ptr 1000000000 0, .p (.i .i64 d), .p (.sl 3 (eTs xs)), .p (.i .i64 (eTs xs).length), .p (.i .i64 (ix j))]) (fun j x => [.cells [.p (.i .i64 x)], .glob 0 tab]) (fun j x => typFs S G (xs.drop j) (IntKind.i64.wrap (d + 1)) x = R) e4 ⟨rfl, rfl, rfl, rfl⟩ hR ?_
        intro j x hj hn
        conv => whnf
        refine asplit ?_ ?_ <;> intro h1 <;> conv => whnf
        · have hj1 := ix_tt h1 (by rw [eTs_len]) hj (by omega)
          obtain ⟨b, hb1⟩ : ∃ b, xs[j]? = some b := ⟨_, List.getElem?_eq_getElem hj1⟩
          rw [drop_cons hb1, typFs] at hn
          refine aidxk (eTs_get hb1) (by omega) ?_
          have c := ih b (List.mem_of_getElem? hb1) (IntKind.i64.wrap (d + 1)) x
          unfold hJ at c
          generalize typF S G b (IntKind.i64.wrap (d + 1)) x = y at c hn
          obtain ⟨bk, bn, bx⟩ := b
          conv => whnf
          refine amc [1000000000, 1000000001] 70000 c ?_
          conv => whnf
          exact ⟨hj1, y, ⟨rfl, rfl, rfl, rfl⟩, hn⟩
        · have hj1 := ix_ff h1 (by rw [eTs_len]) hj (by omega)
          rw [hj1, List.drop_length, typFs] at hn
          subst hn
          exact ⟨.inl rfl, ⟨.inl rfl, trivial⟩, ⟨rfl, rfl⟩, trivial⟩
    refine asplit ?_ ?_ <;> intro k8 <;> conv => whnf
    · refine ast k8 ?_
      conv => whnf
      refine asplit ?_ ?_ <;> intro g8 <;> conv => whnf
      · refine amc [1000000000] 50000 (form_spec e3 (n.toList == ByteArray.toList ⟨#[]⟩)) ?_
        conv => whnf
        replace hR := (hR (n.toList == ByteArray.toList ⟨#[]⟩) (by rw [k5, k6, k7, k8, g8]; rfl)).symm
        generalize mustF e3 (n.toList == ByteArray.toList ⟨#[]⟩) 3 = e4 at *
        rw [q3, cond_false] at hR
        refine loopS (tyOf_ok _) hmix (by kernel_rfl) xs.length [0, 2, 97, 98, 99] [1000000000, 1000000001] (fun j _ => [.ptr 1000000000 0, .p (.i .i64 d), .p (.sl 3 (eTs xs)), .p (.i .i64 (eTs xs).length), .p (.i .i64 (ix j))]) (fun j x => [.cells [.p (.i .i64 x)], .glob 0 tab]) (fun j x => typFs S G (xs.drop j) (IntKind.i64.wrap (d + 1)) x = R) e4 ⟨rfl, rfl, rfl, rfl⟩ hR ?_
        intro j x hj hn
        conv => whnf
        refine asplit ?_ ?_ <;> intro h1 <;> conv => whnf
        · have hj1 := ix_tt h1 (by rw [eTs_len]) hj (by omega)
          obtain ⟨b, hb1⟩ : ∃ b, xs[j]? = some b := ⟨_, List.getElem?_eq_getElem hj1⟩
          rw [drop_cons hb1, typFs] at hn
          refine aidxk (eTs_get hb1) (by omega) ?_
          have c := ih b (List.mem_of_getElem? hb1) (IntKind.i64.wrap (d + 1)) x
          unfold hJ at c
          generalize typF S G b (IntKind.i64.wrap (d + 1)) x = y at c hn
          obtain ⟨bk, bn, bx⟩ := b
          conv => whnf
          refine amc [1000000000, 1000000001] 70000 c ?_
          conv => whnf
          exact ⟨hj1, y, ⟨rfl, rfl, rfl, rfl⟩, hn⟩
        · have hj1 := ix_ff h1 (by rw [eTs_len]) hj (by omega)
          rw [hj1, List.drop_length, typFs] at hn
          subst hn
          exact ⟨.inl rfl, ⟨.inl rfl, trivial⟩, ⟨rfl, rfl⟩, trivial⟩
      · refine amc [1000000000] 50000 (form_spec e3 (false)) ?_
        conv => whnf
        replace hR := (hR (false) (by rw [k5, k6, k7, k8, g8]; rfl)).symm
        generalize mustF e3 (false) 3 = e4 at *
        rw [q3, cond_false] at hR
        refine loopS (tyOf_ok _) hmix (by kernel_rfl) xs.length [0, 2, 97, 98, 99] [1000000000, 1000000001] (fun j _ => [.ptr 1000000000 0, .p (.i .i64 d), .p (.sl 3 (eTs xs)), .p (.i .i64 (eTs xs).length), .p (.i .i64 (ix j))]) (fun j x => [.cells [.p (.i .i64 x)], .glob 0 tab]) (fun j x => typFs S G (xs.drop j) (IntKind.i64.wrap (d + 1)) x = R) e4 ⟨rfl, rfl, rfl, rfl⟩ hR ?_
        intro j x hj hn
        conv => whnf
        refine asplit ?_ ?_ <;> intro h1 <;> conv => whnf
        · have hj1 := ix_tt h1 (by rw [eTs_len]) hj (by omega)
          obtain ⟨b, hb1⟩ : ∃ b, xs[j]? = some b := ⟨_, List.getElem?_eq_getElem hj1⟩
          rw [drop_cons hb1, typFs] at hn
          refine aidxk (eTs_get hb1) (by omega) ?_
          have c := ih b (List.mem_of_getElem? hb1) (IntKind.i64.wrap (d + 1)) x
          unfold hJ at c
          generalize typF S G b (IntKind.i64.wrap (d + 1)) x = y at c hn
          obtain ⟨bk, bn, bx⟩ := b
          conv => whnf
          refine amc [1000000000, 1000000001] 70000 c ?_
          conv => whnf
          exact ⟨hj1, y, ⟨rfl, rfl, rfl, rfl⟩, hn⟩
        · have hj1 := ix_ff h1 (by rw [eTs_len]) hj (by omega)
          rw [hj1, List.drop_length, typFs] at hn
          subst hn
          exact ⟨.inl rfl, ⟨.inl rfl, trivial⟩, ⟨rfl, rfl⟩, trivial⟩
    refine asplit ?_ ?_ <;> intro k9 <;> conv => whnf
    · refine asplit ?_ ?_ <;> intro g9 <;> conv => whnf
      · refine amc [1000000000] 50000 (form_spec e3 (n.toList == ByteArray.toList ⟨#[]⟩)) ?_
        conv => whnf
        replace hR := (hR (n.toList == ByteArray.toList ⟨#[]⟩) (by rw [k5, k6, k7, k8, k9, g9]; rfl)).symm
        generalize mustF e3 (n.toList == ByteArray.toList ⟨#[]⟩) 3 = e4 at *
        rw [q3, cond_false] at hR
        refine loopS (tyOf_ok _) hmix (by kernel_rfl) xs.length [0, 2, 97, 98, 99] [1000000000, 1000000001] (fun j _ => [.ptr 1000000000 0, .p (.i .i64 d), .p (.sl 3 (eTs xs)), .p (.i .i64 (eTs xs).length), .p (.i .i64 (ix j))]) (fun j x => [.cells [.p (.i .i64 x)], .glob 0 tab]) (fun j x => typFs S G (xs.drop j) (IntKind.i64.wrap (d + 1)) x = R) e4 ⟨rfl, rfl, rfl, rfl⟩ hR ?_
        intro j x hj hn
        conv => whnf
        refine asplit ?_ ?_ <;> intro h1 <;> conv => whnf
        · have hj1 := ix_tt h1 (by rw [eTs_len]) hj (by omega)
          obtain ⟨b, hb1⟩ : ∃ b, xs[j]? = some b := ⟨_, List.getElem?_eq_getElem hj1⟩
          rw [drop_cons hb1, typFs] at hn
          refine aidxk (eTs_get hb1) (by omega) ?_
          have c := ih b (List.mem_of_getElem? hb1) (IntKind.i64.wrap (d + 1)) x
          unfold hJ at c
          generalize typF S G b (IntKind.i64.wrap (d + 1)) x = y at c hn
          obtain ⟨bk, bn, bx⟩ := b
          conv => whnf
          refine amc [1000000000, 1000000001] 70000 c ?_
          conv => whnf
          exact ⟨hj1, y, ⟨rfl, rfl, rfl, rfl⟩, hn⟩
        · have hj1 := ix_ff h1 (by rw [eTs_len]) hj (by omega)
          rw [hj1, List.drop_length, typFs] at hn
          subst hn
          exact ⟨.inl rfl, ⟨.inl rfl, trivial⟩, ⟨rfl, rfl⟩, trivial⟩
      · refine amc [1000000000] 50000 (form_spec e3 (false)) ?_
        conv => whnf
        replace hR := (hR (false) (by rw [k5, k6, k7, k8, k9, g9]; rfl)).symm
        generalize mustF e3 (false) 3 = e4 at *
        rw [q3, cond_false] at hR
        refine loopS (tyOf_ok _) hmix (by kernel_rfl) xs.length [0, 2, 97, 98, 99] [1000000000, 1000000001] (fun j _ => [.ptr 1000000000 0, .p (.i .i64 d), .p (.sl 3 (eTs xs)), .p (.i .i64 (eTs xs).length), .p (.i .i64 (ix j))]) (fun j x => [.cells [.p (.i .i64 x)], .glob 0 tab]) (fun j x => typFs S G (xs.drop j) (IntKind.i64.wrap (d + 1)) x = R) e4 ⟨rfl, rfl, rfl, rfl⟩ hR ?_
        intro j x hj hn
        conv => whnf
        refine asplit ?_ ?_ <;> intro h1 <;> conv => whnf
        · have hj1 := ix_tt h1 (by rw [eTs_len]) hj (by omega)
          obtain ⟨b, hb1⟩ : ∃ b, xs[j]? = some b := ⟨_, List.getElem?_eq_getElem hj1⟩
          rw [drop_cons hb1, typFs] at hn
          refine aidxk (eTs_get hb1) (by omega) ?_
          have c := ih b (List.mem_of_getElem? hb1) (IntKind.i64.wrap (d + 1)) x
          unfold hJ at c
          generalize typF S G b (IntKind.i64.wrap (d + 1)) x = y at c hn
          obtain ⟨bk, bn, bx⟩ := b
          conv => whnf
          refine amc [1000000000, 1000000001] 70000 c ?_
          conv => whnf
          exact ⟨hj1, y, ⟨rfl, rfl, rfl, rfl⟩, hn⟩
        · have hj1 := ix_ff h1 (by rw [eTs_len]) hj (by omega)
          rw [hj1, List.drop_length, typFs] at hn
          subst hn
          exact ⟨.inl rfl, ⟨.inl rfl, trivial⟩, ⟨rfl, rfl⟩, trivial⟩
    · refine asplit ?_ ?_ <;> intro ga <;> conv => whnf
      · refine amc [1000000000] 50000 (form_spec e3 (n.toList == ByteArray.toList ⟨#[]⟩)) ?_
        conv => whnf
        replace hR := (hR (n.toList == ByteArray.toList ⟨#[]⟩) (by rw [k5, k6, k7, k8, k9, ga]; rfl)).symm
        generalize mustF e3 (n.toList == ByteArray.toList ⟨#[]⟩) 3 = e4 at *
        rw [q3, cond_false] at hR
        refine loopS (tyOf_ok _) hmix (by kernel_rfl) xs.length [0, 2, 97, 98, 99] [1000000000, 1000000001] (fun j _ => [.ptr 1000000000 0, .p (.i .i64 d), .p (.sl 3 (eTs xs)), .p (.i .i64 (eTs xs).length), .p (.i .i64 (ix j))]) (fun j x => [.cells [.p (.i .i64 x)], .glob 0 tab]) (fun j x => typFs S G (xs.drop j) (IntKind.i64.wrap (d + 1)) x = R) e4 ⟨rfl, rfl, rfl, rfl⟩ hR ?_
        intro j x hj hn
        conv => whnf
        refine asplit ?_ ?_ <;> intro h1 <;> conv => whnf
        · have hj1 := ix_tt h1 (by rw [eTs_len]) hj (by omega)
          obtain ⟨b, hb1⟩ : ∃ b, xs[j]? = some b := ⟨_, List.getElem?_eq_getElem hj1⟩
          rw [drop_cons hb1, typFs] at hn
          refine aidxk (eTs_get hb1) (by omega) ?_
          have c := ih b (List.mem_of_getElem? hb1) (IntKind.i64.wrap (d + 1)) x
          unfold hJ at c
          generalize typF S G b (IntKind.i64.wrap (d + 1)) x = y at c hn
          obtain ⟨bk, bn, bx⟩ := b
          conv => whnf
          refine amc [1000000000, 1000000001] 70000 c ?_
          conv => whnf
          exact ⟨hj1, y, ⟨rfl, rfl, rfl, rfl⟩, hn⟩
        · have hj1 := ix_ff h1 (by rw [eTs_len]) hj (by omega)
          rw [hj1, List.drop_length, typFs] at hn
          subst hn
          exact ⟨.inl rfl, ⟨.inl rfl, trivial⟩, ⟨rfl, rfl⟩, trivial⟩
      · refine amc [1000000000] 50000 (form_spec e3 (false)) ?_
        conv => whnf
        replace hR := (hR (false) (by rw [k5, k6, k7, k8, k9, ga]; rfl)).symm
        generalize mustF e3 (false) 3 = e4 at *
        rw [q3, cond_false] at hR
        refine loopS (tyOf_ok _) hmix (by kernel_rfl) xs.length [0, 2, 97, 98, 99] [1000000000, 1000000001] (fun j _ => [.ptr 1000000000 0, .p (.i .i64 d), .p (.sl 3 (eTs xs)), .p (.i .i64 (eTs xs).length), .p (.i .i64 (ix j))]) (fun j x => [.cells [.p (.i .i64 x)], .glob 0 tab]) (fun j x => typFs S G (xs.drop j) (IntKind.i64.wrap (d + 1)) x = R) e4 ⟨rfl, rfl, rfl, rfl⟩ hR ?_
        intro j x hj hn
        conv => whnf
        refine asplit ?_ ?_ <;> intro h1 <;> conv => whnf
        · have hj1 := ix_tt h1 (by rw [eTs_len]) hj (by omega)
          obtain ⟨b, hb1⟩ : ∃ b, xs[j]? = some b := ⟨_, List.getElem?_eq_getElem hj1⟩
          rw [drop_cons hb1, typFs] at hn
          refine aidxk (eTs_get hb1) (by omega) ?_
          have c := ih b (List.mem_of_getElem? hb1) (IntKind.i64.wrap (d + 1)) x
          unfold hJ at c
          generalize typF S G b (IntKind.i64.wrap (d + 1)) x = y at c hn
          obtain ⟨bk, bn, bx⟩ := b
          conv => whnf
          refine amc [1000000000, 1000000001] 70000 c ?_
          conv => whnf
          exact ⟨hj1, y, ⟨rfl, rfl, rfl, rfl⟩, hn⟩
        · have hj1 := ix_ff h1 (by rw [eTs_len]) hj (by omega)
          rw [hj1, List.drop_length, typFs] at hn
          subst hn
          exact ⟨.inl rfl, ⟨.inl rfl, trivial⟩, ⟨rfl, rfl⟩, trivial⟩
  · refine amc [1000000000] 60 (form_spec e1 (false)) ?_
    conv => whnf
    replace hR := fun b => hR (false) b (by rw [g0]; rfl)
    generalize mustF e1 (false) 3 = e2 at *
    have f3 := few_spec e2 (decide (((eTs xs).length : Int) ≤ 7))
    generalize mustF e2 (decide (((eTs xs).length : Int) ≤ 7)) 2 = e3 at *
    refine asplit ?_ ?_ <;> intro q3 <;> conv => whnf
    · replace hR := hR _ rfl
      rw [show (!(e2 == 0)) = true from q3, cond_true] at hR
      subst hR
      exact ⟨.inl rfl, ⟨.inl rfl, trivial⟩, ⟨rfl, rfl⟩, trivial⟩
    replace q3 : (!(e2 == 0)) = false := q3
    refine amc [1000000000] 70 f3 ?_
    conv => whnf
    refine asplit ?_ ?_ <;> intro k5 <;> conv => whnf
    · refine asplit ?_ ?_ <;> intro g5 <;> conv => whnf
      · refine amc [1000000001] 80 hs ?_
        conv => whnf
        refine asplit ?_ ?_ <;> intro gs <;> conv => whnf
        · refine amc [1000000000] 50000 (form_spec e3 (true)) ?_
          conv => whnf
          replace hR := (hR (true) (by rw [k5, g5, gs]; rfl)).symm
          generalize mustF e3 (true) 3 = e4 at *
          rw [q3, cond_false] at hR
          refine loopS (tyOf_ok _) hmix (by kernel_rfl) xs.length [0, 2, 97, 98, 99] [1000000000, 1000000001] (fun j _ => [.ptr 1000000000 0, .p (.i .i64 d), .p (.sl 3 (eTs xs)), .p (.i .i64 (eTs xs).length), .p (.i .i64 (ix j))]) (fun j x => [.cells [.p (.i .i64 x)], .glob 0 tab]) (fun j x => typFs S G (xs.drop j) (IntKind.i64.wrap (d + 1)) x = R) e4 ⟨rfl, rfl, rfl, rfl⟩ hR ?_
          intro j x hj hn
          conv => whnf
          refine asplit ?_ ?_ <;> intro h1 <;> conv => whnf
          · have hj1 := ix_tt h1 (by rw [eTs_len]) hj (by omega)
            obtain ⟨b, hb1⟩ : ∃ b, xs[j]? = some b := ⟨_, List.getElem?_eq_getElem hj1⟩
            rw [drop_cons hb1, typFs] at hn
            refine aidxk (eTs_get hb1) (by omega) ?_
            have c := ih b (List.mem_of_getElem? hb1) (IntKind.i64.wrap (d + 1)) x
            unfold hJ at c
            generalize typF S G b (IntKind.i64.wrap (d + 1)) x = y at c hn
            obtain ⟨bk, bn, bx⟩ := b
            conv => whnf
            refine amc [1000000000, 1000000001] 70000 c ?_
            conv => whnf
            exact ⟨hj1, y, ⟨rfl, rfl, rfl, rfl⟩, hn⟩
          · have hj1 := ix_ff h1 (by rw [eTs_len]) hj (by omega)
            rw [hj1, List.drop_length, typFs] at hn
            subst hn
            exact ⟨.inl rfl, ⟨.inl rfl, trivial⟩, ⟨rfl, rfl⟩, trivial⟩
        · refine amc [1000000000] 50000 (form_spec e3 (n.toList == ByteArray.toList ⟨#[115, 101, 108, 102]⟩)) ?_
          conv => whnf
          replace hR := (hR (n.toList == ByteArray.toList ⟨#[115, 101, 108, 102]⟩) (by rw [k5, g5, gs]; rfl)).symm
          generalize mustF e3 (n.toList == ByteArray.toList ⟨#[115, 101, 108, 102]⟩) 3 = e4 at *
          rw [q3, cond_false] at hR
          refine loopS (tyOf_ok _) hmix (by kernel_rfl) xs.length [0, 2, 97, 98, 99] [1000000000, 1000000001] (fun j _ => [.ptr 1000000000 0, .p (.i .i64 d), .p (.sl 3 (eTs xs)), .p (.i .i64 (eTs xs).length), .p (.i .i64 (ix j))]) (fun j x => [.cells [.p (.i .i64 x)], .glob 0 tab]) (fun j x => typFs S G (xs.drop j) (IntKind.i64.wrap (d + 1)) x = R) e4 ⟨rfl, rfl, rfl, rfl⟩ hR ?_
          intro j x hj hn
          conv => whnf
          refine asplit ?_ ?_ <;> intro h1 <;> conv => whnf
          · have hj1 := ix_tt h1 (by rw [eTs_len]) hj (by omega)
            obtain ⟨b, hb1⟩ : ∃ b, xs[j]? = some b := ⟨_, List.getElem?_eq_getElem hj1⟩
            rw [drop_cons hb1, typFs] at hn
            refine aidxk (eTs_get hb1) (by omega) ?_
            have c := ih b (List.mem_of_getElem? hb1) (IntKind.i64.wrap (d + 1)) x
            unfold hJ at c
            generalize typF S G b (IntKind.i64.wrap (d + 1)) x = y at c hn
            obtain ⟨bk, bn, bx⟩ := b
            conv => whnf
            refine amc [1000000000, 1000000001] 70000 c ?_
            conv => whnf
            exact ⟨hj1, y, ⟨rfl, rfl, rfl, rfl⟩, hn⟩
          · have hj1 := ix_ff h1 (by rw [eTs_len]) hj (by omega)
            rw [hj1, List.drop_length, typFs] at hn
            subst hn
            exact ⟨.inl rfl, ⟨.inl rfl, trivial⟩, ⟨rfl, rfl⟩, trivial⟩
      · refine amc [1000000000] 50000 (form_spec e3 (false)) ?_
        conv => whnf
        replace hR := (hR (false) (by rw [k5, g5]; rfl)).symm
        generalize mustF e3 (false) 3 = e4 at *
        rw [q3, cond_false] at hR
        refine loopS (tyOf_ok _) hmix (by kernel_rfl) xs.length [0, 2, 97, 98, 99] [1000000000, 1000000001] (fun j _ => [.ptr 1000000000 0, .p (.i .i64 d), .p (.sl 3 (eTs xs)), .p (.i .i64 (eTs xs).length), .p (.i .i64 (ix j))]) (fun j x => [.cells [.p (.i .i64 x)], .glob 0 tab]) (fun j x => typFs S G (xs.drop j) (IntKind.i64.wrap (d + 1)) x = R) e4 ⟨rfl, rfl, rfl, rfl⟩ hR ?_
        intro j x hj hn
        conv => whnf
        refine asplit ?_ ?_ <;> intro h1 <;> conv => whnf
        · have hj1 := ix_tt h1 (by rw [eTs_len]) hj (by omega)
          obtain ⟨b, hb1⟩ : ∃ b, xs[j]? = some b := ⟨_, List.getElem?_eq_getElem hj1⟩
          rw [drop_cons hb1, typFs] at hn
          refine aidxk (eTs_get hb1) (by omega) ?_
          have c := ih b (List.mem_of_getElem? hb1) (IntKind.i64.wrap (d + 1)) x
          unfold hJ at c
          generalize typF S G b (IntKind.i64.wrap (d + 1)) x = y at c hn
          obtain ⟨bk, bn, bx⟩ := b
          conv => whnf
          refine amc [1000000000, 1000000001] 70000 c ?_
          conv => whnf
          exact ⟨hj1, y, ⟨rfl, rfl, rfl, rfl⟩, hn⟩
        · have hj1 := ix_ff h1 (by rw [eTs_len]) hj (by omega)
          rw [hj1, List.drop_length, typFs] at hn
          subst hn
          exact ⟨.inl rfl, ⟨.inl rfl, trivial⟩, ⟨rfl, rfl⟩, trivial⟩
    refine asplit ?_ ?_ <;> intro k6 <;> conv => whnf
    · refine asplit ?_ ?_ <;> intro g6 <;> conv => whnf
      · refine apc hg ?_
        conv => whnf
        refine amc [1000000000] 50000 (form_spec e3 (DN)) ?_
        conv => whnf
        replace hR := (hR (DN) (by rw [k5, k6, g6]; rfl)).symm
        generalize mustF e3 (DN) 3 = e4 at *
        rw [q3, cond_false] at hR
        refine loopS (tyOf_ok _) hmix (by kernel_rfl) xs.length [0, 2, 97, 98, 99] [1000000000, 1000000001] (fun j _ => [.ptr 1000000000 0, .p (.i .i64 d), .p (.sl 3 (eTs xs)), .p (.i .i64 (eTs xs).length), .p (.i .i64 (ix j))]) (fun j x => [.cells [.p (.i .i64 x)], .glob 0 tab]) (fun j x => typFs S G (xs.drop j) (IntKind.i64.wrap (d + 1)) x = R) e4 ⟨rfl, rfl, rfl, rfl⟩ hR ?_
        intro j x hj hn
        conv => whnf
        refine asplit ?_ ?_ <;> intro h1 <;> conv => whnf
        · have hj1 := ix_tt h1 (by rw [eTs_len]) hj (by omega)
          obtain ⟨b, hb1⟩ : ∃ b, xs[j]? = some b := ⟨_, List.getElem?_eq_getElem hj1⟩
          rw [drop_cons hb1, typFs] at hn
          refine aidxk (eTs_get hb1) (by omega) ?_
          have c := ih b (List.mem_of_getElem? hb1) (IntKind.i64.wrap (d + 1)) x
          unfold hJ at c
          generalize typF S G b (IntKind.i64.wrap (d + 1)) x = y at c hn
          obtain ⟨bk, bn, bx⟩ := b
          conv => whnf
          refine amc [1000000000, 1000000001] 70000 c ?_
          conv => whnf
          exact ⟨hj1, y, ⟨rfl, rfl, rfl, rfl⟩, hn⟩
        · have hj1 := ix_ff h1 (by rw [eTs_len]) hj (by omega)
          rw [hj1, List.drop_length, typFs] at hn
          subst hn
          exact ⟨.inl rfl, ⟨.inl rfl, trivial⟩, ⟨rfl, rfl⟩, trivial⟩
      · refine amc [1000000000] 50000 (form_spec e3 (false)) ?_
        conv => whnf
        replace hR := (hR (false) (by rw [k5, k6, g6]; rfl)).symm
        generalize mustF e3 (false) 3 = e4 at *
        rw [q3, cond_false] at hR
        refine loopS (tyOf_ok _) hmix (by kernel_rfl) xs.length [0, 2, 97, 98, 99] [1000000000, 1000000001] (fun j _ => [.ptr 1000000000 0, .p (.i .i64 d), .p (.sl 3 (eTs xs)), .p (.i .i64 (eTs xs).length), .p (.i .i64 (ix j))]) (fun j x => [.cells [.p (.i .i64 x)], .glob 0 tab]) (fun j x => typFs S G (xs.drop j) (IntKind.i64.wrap (d + 1)) x = R) e4 ⟨rfl, rfl, rfl, rfl⟩ hR ?_
        intro j x hj hn
        conv => whnf
        refine asplit ?_ ?_ <;> intro h1 <;> conv => whnf
        · have hj1 := ix_tt h1 (by rw [eTs_len]) hj (by omega)
          obtain ⟨b, hb1⟩ : ∃ b, xs[j]? = some b := ⟨_, List.getElem?_eq_getElem hj1⟩
          rw [drop_cons hb1, typFs] at hn
          refine aidxk (eTs_get hb1) (by omega) ?_
          have c := ih b (List.mem_of_getElem? hb1) (IntKind.i64.wrap (d + 1)) x
          unfold hJ at c
          generalize typF S G b (IntKind.i64.wrap (d + 1)) x = y at c hn
          obtain ⟨bk, bn, bx⟩ := b
          conv => whnf
          refine amc [1000000000, 1000000001] 70000 c ?_
          conv => whnf
          exact ⟨hj1, y, ⟨rfl, rfl, rfl, rfl⟩, hn⟩
        · have hj1 := ix_ff h1 (by rw [eTs_len]) hj (by omega)
          rw [hj1, List.drop_length, typFs] at hn
          subst hn
          exact ⟨.inl rfl, ⟨.inl rfl, trivial⟩, ⟨rfl, rfl⟩, trivial⟩
    refine asplit ?_ ?_ <;> intro k7 <;> conv => whnf
    · refine asplit ?_ ?_ <;> intro g7 <;> conv => whnf
      · refine amc [1000000000] 50000 (form_spec e3 (n.toList == ByteArray.toList ⟨#[]⟩)) ?_
        conv => whnf
        replace hR := (hR (n.toList == ByteArray.toList ⟨#[]⟩) (by rw [k5, k6, k7, g7]; rfl)).symm
        generalize mustF e3 (n.toList == ByteArray.toList ⟨#[]⟩) 3 = e4 at *
        rw [q3, cond_false] at hR
        refine loopS (tyOf_ok _) hmix (by kernel_rfl) xs.length [0, 2, 97, 98, 99] [1000000000, 1000000001] (fun j _ => [.ptr 1000000000 0, .p (.i .i64 d), .p (.sl 3 (eTs xs)), .p (.i .i64 (eTs xs).length), .p (.i .i64 (ix j))]) (fun j x => [.cells [.p (.i .i64 x)], .glob 0 tab]) (fun j x => typFs S G (xs.drop j) (IntKind.i64.wrap (d + 1)) x = R) e4 ⟨rfl, rfl, rfl, rfl⟩ hR ?_
        intro j x hj hn
        conv => whnf
        refine asplit ?_ ?_ <;> intro h1 <;> conv => whnf
        · have hj1 := ix_tt h1 (by rw [eTs_len]) hj (by omega)
          obtain ⟨b, hb1⟩ : ∃ b, xs[j]? = some b := ⟨_, List.getElem?_eq_getElem hj1⟩
          rw [drop_cons hb1, typFs] at hn
          refine aidxk (eTs_get hb1) (by omega) ?_
          have c := ih b (List.mem_of_getElem? hb1) (IntKind.i64.wrap (d + 1)) x
          unfold hJ at c
          generalize typF S G b (IntKind.i64.wrap (d + 1)) x = y at c hn
          obtain ⟨bk, bn, bx⟩ := b
          conv => whnf
          refine amc [1000000000, 1000000001] 70000 c ?_
          conv => whnf
          exact ⟨hj1, y, ⟨rfl, rfl, rfl, rfl⟩, hn⟩
        · have hj1 := ix_ff h1 (by rw [eTs_len]) hj (by omega)
          rw [hj1, List.drop_length, typFs] at hn
          subst hn
          exact ⟨.inl rfl, ⟨.inl rfl, trivial⟩, ⟨rfl, rfl⟩, trivial⟩
      · refine amc [1000000000] 50000 (form_spec e3 (false)) ?_
        conv => whnf
        replace hR := (hR (false) (by rw [k5, k6, k7, g7]; rfl)).symm
        generalize mustF e3 (false) 3 = e4 at *
        rw [q3, cond_false] at hR
        refine loopS (tyOf_ok _) hmix (by kernel_rfl) xs.length [0, 2, 97, 98, 99] [1000000000, 1000000001] (fun j _ => [.ptr 1000000000 0, .p (.i .i64 d), .p (.sl 3 (eTs xs)), .p (.i .i64 (eTs xs).length), .p (.i .i64 (ix j))]) (fun j x => [.cells [.p (.i .i64 x)], .glob 0 tab]) (fun j x => typFs S G (xs.drop j) (IntKind.i64.wrap (d + 1)) x = R) e4 ⟨rfl, rfl, rfl, rfl⟩ hR ?_
        intro j x hj hn
        conv => whnf
        refine asplit ?_ ?_ <;> intro h1 <;> conv => whnf
        · have hj1 := ix_tt h1 (by rw [eTs_len]) hj (by omega)
          obtain ⟨b, hb1⟩ : ∃ b, xs[j]? = some b := ⟨_, List.getElem?_eq_getElem hj1⟩
          rw [drop_cons hb1, typFs] at hn
          refine aidxk (eTs_get hb1) (by omega) ?_
          have c := ih b (List.mem_of_getElem? hb1) (IntKind.i64.wrap (d + 1)) x
          unfold hJ at c
          generalize typF S G b (IntKind.i64.wrap (d + 1)) x = y at c hn
          obtain ⟨bk, bn, bx⟩ := b
          conv => whnf
          refine amc [1000000000, 1000000001] 70000 c ?_
          conv => whnf
          exact ⟨hj1, y, ⟨rfl, rfl, rfl, rfl⟩, hn⟩
        · have hj1 := ix_ff h1 (by rw [eTs_len]) hj (by omega)
          rw [hj1, List.drop_length, typFs] at hn
          subst hn
          exact ⟨.inl rfl, ⟨.inl rfl, trivial⟩, ⟨rfl, rfl⟩, trivial⟩
    refine asplit ?_ ?_ <;> intro k8 <;> conv => whnf
    · refine ast k8 ?_
      conv => whnf
      refine asplit ?_ ?_ <;> intro g8 <;> conv => whnf
      · refine amc [1000000000] 50000 (form_spec e3 (n.toList == ByteArray.toList ⟨#[]⟩)) ?_
        conv => whnf
        replace hR := (hR (n.toList == ByteArray.toList ⟨#[]⟩) (by rw [k5, k6, k7, k8, g8]; rfl)).symm
        generalize mustF e3 (n.toList == ByteArray.toList ⟨#[]⟩) 3 = e4 at *
        rw [q3, cond_false] at hR
        refine loopS (tyOf_ok _) hmix (by kernel_rfl) xs.length [0, 2, 97, 98, 99] [1000000000, 1000000001] (fun j _ => [.ptr 1000000000 0, .p (.i .i64 d), .p (.sl 3 (eTs xs)), .p (.i .i64 (eTs xs).length), .p (.i .i64 (ix j))]) (fun j x => [.cells [.p (.i .i64 x)], .glob 0 tab]) (fun j x => typFs S G (xs.drop j) (IntKind.i64.wrap (d + 1)) x = R) e4 ⟨rfl, rfl, rfl, rfl⟩ hR ?_
        intro j x hj hn
        conv => whnf
        refine asplit ?_ ?_ <;> intro h1 <;> conv => whnf
        · have hj1 := ix_tt h1 (by rw [eTs_len]) hj (by omega)
          obtain ⟨b, hb1⟩ : ∃ b, xs[j]? = some b := ⟨_, List.getElem?_eq_getElem hj1⟩
          rw [drop_cons hb1, typFs] at hn
          refine aidxk (eTs_get hb1) (by omega) ?_
          have c := ih b (List.mem_of_getElem? hb1) (IntKind.i64.wrap (d + 1)) x
          unfold hJ at c
          generalize typF S G b (IntKind.i64.wrap (d + 1)) x = y at c hn
          obtain ⟨bk, bn, bx⟩ := b
          conv => whnf
          refine amc [1000000000, 1000000001] 70000 c ?_
          conv => whnf
          exact ⟨hj1, y, ⟨rfl, rfl, rfl, rfl⟩, hn⟩
        · have hj1 := ix_ff h1 (by rw [eTs_len]) hj (by omega)
          rw [hj1, List.drop_length, typFs] at hn
          subst hn
          exact ⟨.inl rfl, ⟨.inl rfl, trivial⟩, ⟨rfl, rfl⟩, trivial⟩
      · refine amc [1000000000] 50000 (form_spec e3 (false)) ?_
        conv => whnf
        replace hR := (hR (false) (by rw [k5, k6, k7, k8, g8]; rfl)).symm
        generalize mustF e3 (false) 3 = e4 at *
        rw [q3, cond_false] at hR
        refine loopS (tyOf_ok _) hmix (by kernel_rfl) xs.length [0, 2, 97, 98, 99] [1000000000, 1000000001] (fun j _ => [.ptr 1000000000 0, .p (.i .i64 d), .p (.sl 3 (eTs xs)), .p (.i .i64 (eTs xs).length), .p (.i .i64 (ix j))]) (fun j x => [.cells [.p (.i .i64 x)], .glob 0 tab]) (fun j x => typFs S G (xs.drop j) (IntKind.i64.wrap (d + 1)) x = R) e4 ⟨rfl, rfl, rfl, rfl⟩ hR ?_
        intro j x hj hn
        conv => whnf
        refine asplit ?_ ?_ <;> intro h1 <;> conv => whnf
        · have hj1 := ix_tt h1 (by rw [eTs_len]) hj (by omega)
          obtain ⟨b, hb1⟩ : ∃ b, xs[j]? = some b := ⟨_, List.getElem?_eq_getElem hj1⟩
          rw [drop_cons hb1, typFs] at hn
          refine aidxk (eTs_get hb1) (by omega) ?_
          have c := ih b (List.mem_of_getElem? hb1) (IntKind.i64.wrap (d + 1)) x
          unfold hJ at c
          generalize typF S G b (IntKind.i64.wrap (d + 1)) x = y at c hn
          obtain ⟨bk, bn, bx⟩ := b
          conv => whnf
          refine amc [1000000000, 1000000001] 70000 c ?_
          conv => whnf
          exact ⟨hj1, y, ⟨rfl, rfl, rfl, rfl⟩, hn⟩
        · have hj1 := ix_ff h1 (by rw [eTs_len]) hj (by omega)
          rw [hj1, List.drop_length, typFs] at hn
          subst hn
          exact ⟨.inl rfl, ⟨.inl rfl, trivial⟩, ⟨rfl, rfl⟩, trivial⟩
    refine asplit ?_ ?_ <;> intro k9 <;> conv => whnf
    · refine asplit ?_ ?_ <;> intro g9 <;> conv => whnf
      · refine amc [1000000000] 50000 (form_spec e3 (n.toList == ByteArray.toList ⟨#[]⟩)) ?_
        conv => whnf
        replace hR := (hR (n.toList == ByteArray.toList ⟨#[]⟩) (by rw [k5, k6, k7, k8, k9, g9]; rfl)).symm
        generalize mustF e3 (n.toList == ByteArray.toList ⟨#[]⟩) 3 = e4 at *
        rw [q3, cond_false] at hR
        refine loopS (tyOf_ok _) hmix (by kernel_rfl) xs.length [0, 2, 97, 98, 99] [1000000000, 1000000001] (fun j _ => [.ptr 1000000000 0, .p (.i .i64 d), .p (.sl 3 (eTs xs)), .p (.i .i64 (eTs xs).length), .p (.i .i64 (ix j))]) (fun j x => [.cells [.p (.i .i64 x)], .glob 0 tab]) (fun j x => typFs S G (xs.drop j) (IntKind.i64.wrap (d + 1)) x = R) e4 ⟨rfl, rfl, rfl, rfl⟩ hR ?_
        intro j x hj hn
        conv => whnf
        refine asplit ?_ ?_ <;> intro h1 <;> conv => whnf
        · have hj1 := ix_tt h1 (by rw [eTs_len]) hj (by omega)
          obtain ⟨b, hb1⟩ : ∃ b, xs[j]? = some b := ⟨_, List.getElem?_eq_getElem hj1⟩
          rw [drop_cons hb1, typFs] at hn
          refine aidxk (eTs_get hb1) (by omega) ?_
          have c := ih b (List.mem_of_getElem? hb1) (IntKind.i64.wrap (d + 1)) x
          unfold hJ at c
          generalize typF S G b (IntKind.i64.wrap (d + 1)) x = y at c hn
          obtain ⟨bk, bn, bx⟩ := b
          conv => whnf
          refine amc [1000000000, 1000000001] 70000 c ?_
          conv => whnf
          exact ⟨hj1, y, ⟨rfl, rfl, rfl, rfl⟩, hn⟩
        · have hj1 := ix_ff h1 (by rw [eTs_len]) hj (by omega)
          rw [hj1, List.drop_length, typFs] at hn
          subst hn
          exact ⟨.inl rfl, ⟨.inl rfl, trivial⟩, ⟨rfl, rfl⟩, trivial⟩
      · refine amc [1000000000] 50000 (form_spec e3 (false)) ?_
        conv => whnf
        replace hR := (hR (false) (by rw [k5, k6, k7, k8, k9, g9]; rfl)).symm
        generalize mustF e3 (false) 3 = e4 at *
        rw [q3, cond_false] at hR
        refine loopS (tyOf_ok _) hmix (by kernel_rfl) xs.length [0, 2, 97, 98, 99] [1000000000, 1000000001] (fun j _ => [.ptr 1000000000 0, .p (.i .i64 d), .p (.sl 3 (eTs xs)), .p (.i .i64 (eTs xs).length), .p (.i .i64 (ix j))]) (fun j x => [.cells [.p (.i .i64 x)], .glob 0 tab]) (fun j x => typFs S G (xs.drop j) (IntKind.i64.wrap (d + 1)) x = R) e4 ⟨rfl, rfl, rfl, rfl⟩ hR ?_
        intro j x hj hn
        conv => whnf
        refine asplit ?_ ?_ <;> intro h1 <;> conv => whnf
        · have hj1 := ix_tt h1 (by rw [eTs_len]) hj (by omega)
          obtain ⟨b, hb1⟩ : ∃ b, xs[j]? = some b := ⟨_, List.getElem?_eq_getElem hj1⟩
          rw [drop_cons hb1, typFs] at hn
          refine aidxk (eTs_get hb1) (by omega) ?_
          have c := ih b (List.mem_of_getElem? hb1) (IntKind.i64.wrap (d + 1)) x
          unfold hJ at c
          generalize typF S G b (IntKind.i64.wrap (d + 1)) x = y at c hn
          obtain ⟨bk, bn, bx⟩ := b
          conv => whnf
          refine amc [1000000000, 1000000001] 70000 c ?_
          conv => whnf
          exact ⟨hj1, y, ⟨rfl, rfl, rfl, rfl⟩, hn⟩
        · have hj1 := ix_ff h1 (by rw [eTs_len]) hj (by omega)
          rw [hj1, List.drop_length, typFs] at hn
          subst hn
          exact ⟨.inl rfl, ⟨.inl rfl, trivial⟩, ⟨rfl, rfl⟩, trivial⟩
    · refine asplit ?_ ?_ <;> intro ga <;> conv => whnf
      · refine amc [1000000000] 50000 (form_spec e3 (n.toList == ByteArray.toList ⟨#[]⟩)) ?_
        conv => whnf
        replace hR := (hR (n.toList == ByteArray.toList ⟨#[]⟩) (by rw [k5, k6, k7, k8, k9, ga]; rfl)).symm
        generalize mustF e3 (n.toList == ByteArray.toList ⟨#[]⟩) 3 = e4 at *
        rw [q3, cond_false] at hR
        refine loopS (tyOf_ok _) hmix (by kernel_rfl) xs.length [0, 2, 97, 98, 99] [1000000000, 1000000001] (fun j _ => [.ptr 1000000000 0, .p (.i .i64 d), .p (.sl 3 (eTs xs)), .p (.i .i64 (eTs xs).length), .p (.i .i64 (ix j))]) (fun j x => [.cells [.p (.i .i64 x)], .glob 0 tab]) (fun j x => typFs S G (xs.drop j) (IntKind.i64.wrap (d + 1)) x = R) e4 ⟨rfl, rfl, rfl, rfl⟩ hR ?_
        intro j x hj hn
        conv => whnf
        refine asplit ?_ ?_ <;> intro h1 <;> conv => whnf
        · have hj1 := ix_tt h1 (by rw [eTs_len]) hj (by omega)
          obtain ⟨b, hb1⟩ : ∃ b, xs[j]? = some b := ⟨_, List.getElem?_eq_getElem hj1⟩
          rw [drop_cons hb1, typFs] at hn
          refine aidxk (eTs_get hb1) (by omega) ?_
          have c := ih b (List.mem_of_getElem? hb1) (IntKind.i64.wrap (d + 1)) x
          unfold hJ at c
          generalize typF S G b (IntKind.i64.wrap (d + 1)) x = y at c hn
          obtain ⟨bk, bn, bx⟩ := b
          conv => whnf
          refine amc [1000000000, 1000000001] 70000 c ?_
          conv => whnf
          exact ⟨hj1, y, ⟨rfl, rfl, rfl, rfl⟩, hn⟩
        · have hj1 := ix_ff h1 (by rw [eTs_len]) hj (by omega)
          rw [hj1, List.drop_length, typFs] at hn
          subst hn
          exact ⟨.inl rfl, ⟨.inl rfl, trivial⟩, ⟨rfl, rfl⟩, trivial⟩
      · refine amc [1000000000] 50000 (form_spec e3 (false)) ?_
        conv => whnf
        replace hR := (hR (false) (by rw [k5, k6, k7, k8, k9, ga]; rfl)).symm
        generalize mustF e3 (false) 3 = e4 at *
        rw [q3, cond_false] at hR
        refine loopS (tyOf_ok _) hmix (by kernel_rfl) xs.length [0, 2, 97, 98, 99] [1000000000, 1000000001] (fun j _ => [.ptr 1000000000 0, .p (.i .i64 d), .p (.sl 3 (eTs xs)), .p (.i .i64 (eTs xs).length), .p (.i .i64 (ix j))]) (fun j x => [.cells [.p (.i .i64 x)], .glob 0 tab]) (fun j x => typFs S G (xs.drop j) (IntKind.i64.wrap (d + 1)) x = R) e4 ⟨rfl, rfl, rfl, rfl⟩ hR ?_
        intro j x hj hn
        conv => whnf
        refine asplit ?_ ?_ <;> intro h1 <;> conv => whnf
        · have hj1 := ix_tt h1 (by rw [eTs_len]) hj (by omega)
          obtain ⟨b, hb1⟩ : ∃ b, xs[j]? = some b := ⟨_, List.getElem?_eq_getElem hj1⟩
          rw [drop_cons hb1, typFs] at hn
          refine aidxk (eTs_get hb1) (by omega) ?_
          have c := ih b (List.mem_of_getElem? hb1) (IntKind.i64.wrap (d + 1)) x
          unfold hJ at c
          generalize typF S G b (IntKind.i64.wrap (d + 1)) x = y at c hn
          obtain ⟨bk, bn, bx⟩ := b
          conv => whnf
          refine amc [1000000000, 1000000001] 70000 c ?_
          conv => whnf
          exact ⟨hj1, y, ⟨rfl, rfl, rfl, rfl⟩, hn⟩
        · have hj1 := ix_ff h1 (by rw [eTs_len]) hj (by omega)
          rw [hj1, List.drop_length, typFs] at hn
          subst hn
          exact ⟨.inl rfl, ⟨.inl rfl, trivial⟩, ⟨rfl, rfl⟩, trivial⟩
end GL
open Go Go.AM Go.Proofs Go.RowKit TR
set_option maxRecDepth 100000
namespace GL
theorem typ_spec (S G : ByteArray → Bool) (tab : List Value) (hS : SmallS S tab) (hG : GreatS G) (t : Ty) : wT t ≤ 1048640 → TypS S G tab t := by
  induction t using Ty.ind with
  | h k n xs ih =>
  intro hw
  have h1 := wT_mk k n xs
  have h2 := wTs_len xs
  exact typ_of S G tab hS hG k n xs (by omega) (fun x hx => ih x hx (by have := wTs_mem hx; omega))
theorem types_spec (S G : ByteArray → Bool) (tab : List Value) (hS : SmallS S tab) (hG : GreatS G) (l : List Ty) (hl : PV.wts (eTs l) ≤ 1048640) (e : Int) :
    AMem Tryd.prog 23 [.ptr 1000000000 0, .p (.sl 3 (eTs l))] (hJ tab e) (.tup []) (hJ tab (typFs S G l 1 e)) := by
  have hlen := wTs_len l
  generalize hR : typFs S G l 1 e = R
  unfold hJ
  refine AMem.intro (tyOf_ok Tryd.prog) hmix Tryd.func23 rfl (by rfl) (by kernel_rfl) (by show 2 ≤ _; decide) rfl ?_
  conv => whnf
  refine loopS (tyOf_ok _) hmix (by kernel_rfl) l.length [0, 6, 7, 8] [1000000000, 1000000001] (fun j _ => [.ptr 1000000000 0, .p (.sl 3 (eTs l)), .p (.i .i64 (eTs l).length), .p (.i .i64 (ix j))]) (fun j x => [.cells [.p (.i .i64 x)], .glob 0 tab]) (fun j x => typFs S G (l.drop j) 1 x = R) e ⟨rfl, rfl, rfl, rfl⟩ hR ?_
  intro j x hj hn
  conv => whnf
  refine asplit ?_ ?_ <;> intro h1 <;> conv => whnf
  · have hj1 := ix_tt h1 (by rw [eTs_len]) hj (by omega)
    obtain ⟨b, hb1⟩ : ∃ b, l[j]? = some b := ⟨_, List.getElem?_eq_getElem hj1⟩
    rw [drop_cons hb1, typFs] at hn
    refine aidxk (eTs_get hb1) (by omega) ?_
    have c := typ_spec S G tab hS hG b (by have := wTs_mem (List.mem_of_getElem? hb1); omega) 1 x
    unfold hJ at c
    generalize typF S G b 1 x = y at c hn
    obtain ⟨bk, bn, bx⟩ := b
    conv => whnf
    refine amc [1000000000, 1000000001] 70000 c ?_
    conv => whnf
    exact ⟨hj1, y, ⟨rfl, rfl, rfl, rfl⟩, hn⟩
  · have hj1 := ix_ff h1 (by rw [eTs_len]) hj (by omega)
    rw [hj1, List.drop_length, typFs] at hn
    subst hn
    exact ⟨.inl rfl, ⟨.inl rfl, trivial⟩, ⟨rfl, rfl⟩, trivial⟩
/-! patterns -/
def pHead (S G : ByteArray → Bool) (k m : Int) (t : ByteArray) : Bool :=
  bif k == 1 then (m == 0 && (t.toList == ByteArray.toList ⟨#[]⟩)) else
  bif k == 2 then (m == 0 && S t) else
  bif k == 3 then (t.toList == ByteArray.toList ⟨#[]⟩) else
  bif k == 4 then ((m == 0 || m == 1) && (t.toList == ByteArray.toList ⟨#[]⟩)) else
  bif k == 5 then m == 0 else
  bif k == 6 then (m == 0 && G t) else false
def pForm (S G : ByteArray → Bool) (k m : Int) (t : ByteArray) (L : Int) : Bool := pHead S G k m t && (k == 6 || L == 0)
def pFew (k : Int) (t : ByteArray) : Bool := k != 5 || decide ((t.size : Int) ≤ 64)
mutual
def patF (S G : ByteArray → Bool) : Pt → Int → Int
  | .mk k m t xs, e => bif !(mustF (mustF (mustF e (pFew k t) 2) (pForm S G k m t xs.length) 3) (decide ((xs.length : Int) ≤ 6)) 2 == 0) then mustF (mustF (mustF e (pFew k t) 2) (pForm S G k m t xs.length) 3) (decide ((xs.length : Int) ≤ 6)) 2
      else patFs S G xs (mustF (mustF (mustF e (pFew k t) 2) (pForm S G k m t xs.length) 3) (decide ((xs.length : Int) ≤ 6)) 2)
def patFs (S G : ByteArray → Bool) : List Pt → Int → Int
  | [], e => e
  | t :: r, e => patFs S G r (patF S G t e)
end
def PatS (S G : ByteArray → Bool) (tab : List Value) (t : Pt) : Prop := ∀ e, AMem Tryd.prog 65 [.ptr 1000000000 0, .p (eP t)] (hJ tab e) (.tup []) (hJ tab (patF S G t e))
theorem pat_of (S G : ByteArray → Bool) (tab : List Value) (hS : SmallS S tab) (hG : GreatS G) (k m : Int) (n : ByteArray) (xs : List Pt) (hx : xs.length ≤ 1048640) (ih : ∀ x ∈ xs, PatS S G tab x) : PatS S G tab (.mk k m n xs) := by
  intro e
  have hR : ∀ a c b, pFew k n = a → pHead S G k m n = c → (c && (k == 6 || ((ePs xs).length : Int) == 0)) = b → patF S G (.mk k m n xs) e = bif !(mustF (mustF (mustF e a 2) b 3) (decide (((ePs xs).length : Int) ≤ 6)) 2 == 0) then mustF (mustF (mustF e a 2) b 3) (decide (((ePs xs).length : Int) ≤ 6)) 2 else patFs S G xs (mustF (mustF (mustF e a 2) b 3) (decide (((ePs xs).length : Int) ≤ 6)) 2) := by
    intro a c b h1 h2 h3
    subst h1; subst h2; subst h3
    rw [patF, ePs_len]; rfl
  have hs := hS n
  have hg := hG n
  unfold hJ
  generalize patF S G (.mk k m n xs) e = R at *
  unfold pFew pHead at hR
  generalize hdn : G n = DN at *
  generalize S n = SN at *
  refine AMem.intro (tyOf_ok Tryd.prog) hmix Tryd.func65 rfl (by rfl) (by kernel_rfl) (by show 2 ≤ _; decide) rfl ?_
  conv => whnf
  refine asplit ?_ ?_ <;> intro g0 <;> conv => whnf
  · refine amc [1000000000] 50 (few_spec e (true)) ?_
    conv => whnf
    replace hR := fun c b => hR (true) c b (by rw [g0]; rfl)
    generalize mustF e (true) 2 = e1 at *
    refine asplit ?_ ?_ <;> intro k1 <;> conv => whnf
    · refine asplit ?_ ?_ <;> intro g1 <;> conv => whnf
      · replace hR := fun b => hR (n.toList == ByteArray.toList ⟨#[]⟩) b (by rw [k1, g1]; rfl)
        refine asplit ?_ ?_ <;> intro t1 <;> conv => whnf
        · refine asplit ?_ ?_ <;> intro t2 <;> conv => whnf
          · refine amc [1000000000] 60 (form_spec e1 (true)) ?_
            conv => whnf
            replace hR := hR (true) (by rw [show (n.toList == ByteArray.toList ⟨#[]⟩) = true from t1, t2]; rfl)
            generalize mustF e1 (true) 3 = e2 at *
            have f3 := few_spec e2 (decide (((ePs xs).length : Int) ≤ 6))
            generalize mustF e2 (decide (((ePs xs).length : Int) ≤ 6)) 2 = e3 at *
            refine amc [1000000000] 70 f3 ?_
            conv => whnf
            refine asplit ?_ ?_ <;> intro q3 <;> conv => whnf
            · rw [show (!(e3 == 0)) = true from q3, cond_true] at hR
              subst hR
              exact ⟨.inl rfl, ⟨.inl rfl, trivial⟩, ⟨rfl, rfl⟩, trivial⟩
            replace q3 : (!(e3 == 0)) = false := q3
            rw [q3, cond_false] at hR
            replace hR := hR.symm
            refine loopS (tyOf_ok _) hmix (by kernel_rfl) xs.length [0, 95, 96, 97] [1000000000, 1000000001] (fun j _ => [.ptr 1000000000 0, .p (.sl 4 (ePs xs)), .p (.i .i64 (ePs xs).length), .p (.i .i64 (ix j))]) (fun j x => [.cells [.p (.i .i64 x)], .glob 0 tab]) (fun j x => patFs S G (xs.drop j) x = R) e3 ⟨rfl, rfl, rfl, rfl⟩ hR ?_
            intro j x hj hn
            conv => whnf
            refine asplit ?_ ?_ <;> intro h1 <;> conv => whnf
            · have hj1 := ix_tt h1 (by rw [ePs_len]) hj (by omega)
              obtain ⟨b, hb1⟩ : ∃ b, xs[j]? = some b := ⟨_, List.getElem?_eq_getElem hj1⟩
              rw [drop_cons hb1, patFs] at hn
              refine aidxk (ePs_get hb1) (by omega) ?_
              have c := ih b (List.mem_of_getElem? hb1) x
              unfold hJ at c
              generalize patF S G b x = y at c hn
              obtain ⟨bk, bm, bn, bx⟩ := b
              conv => whnf
              refine amc [1000000000, 1000000001] 70000 c ?_
              conv => whnf
              exact ⟨hj1, y, ⟨rfl, rfl, rfl, rfl⟩, hn⟩
            · have hj1 := ix_ff h1 (by rw [ePs_len]) hj (by omega)
              rw [hj1, List.drop_length, patFs] at hn
              subst hn
              exact ⟨.inl rfl, ⟨.inl rfl, trivial⟩, ⟨rfl, rfl⟩, trivial⟩
          · refine amc [1000000000] 60 (form_spec e1 (((ePs xs).length : Int) == 0)) ?_
            conv => whnf
            replace hR := hR (((ePs xs).length : Int) == 0) (by rw [show (n.toList == ByteArray.toList ⟨#[]⟩) = true from t1, t2]; rfl)
            generalize mustF e1 (((ePs xs).length : Int) == 0) 3 = e2 at *
            have f3 := few_spec e2 (decide (((ePs xs).length : Int) ≤ 6))
            generalize mustF e2 (decide (((ePs xs).length : Int) ≤ 6)) 2 = e3 at *
            refine amc [1000000000] 70 f3 ?_
            conv => whnf
            refine asplit ?_ ?_ <;> intro q3 <;> conv => whnf
            · rw [show (!(e3 == 0)) = true from q3, cond_true] at hR
              subst hR
              exact ⟨.inl rfl, ⟨.inl rfl, trivial⟩, ⟨rfl, rfl⟩, trivial⟩
            replace q3 : (!(e3 == 0)) = false := q3
            rw [q3, cond_false] at hR
            replace hR := hR.symm
            refine loopS (tyOf_ok _) hmix (by kernel_rfl) xs.length [0, 95, 96, 97] [1000000000, 1000000001] (fun j _ => [.ptr 1000000000 0, .p (.sl 4 (ePs xs)), .p (.i .i64 (ePs xs).length), .p (.i .i64 (ix j))]) (fun j x => [.cells [.p (.i .i64 x)], .glob 0 tab]) (fun j x => patFs S G (xs.drop j) x = R) e3 ⟨rfl, rfl, rfl, rfl⟩ hR ?_
            intro j x hj hn
            conv => whnf
            refine asplit ?_ ?_ <;> intro h1 <;> conv => whnf
            · have hj1 := ix_tt h1 (by rw [ePs_len]) hj (by omega)
              obtain ⟨b, hb1⟩ : ∃ b, xs[j]? = some b := ⟨_, List.getElem?_eq_getElem hj1⟩
              rw [drop_cons hb1, patFs] at hn
              refine aidxk (ePs_get hb1) (by omega) ?_
              have c := ih b (List.mem_of_getElem? hb1) x
              unfold hJ at c
              generalize patF S G b x = y at c hn
              obtain ⟨bk, bm, bn, bx⟩ := b
              conv => whnf
              refine amc [1000000000, 1000000001] 70000 c ?_
              conv => whnf
              exact ⟨hj1, y, ⟨rfl, rfl, rfl, rfl⟩, hn⟩
            · have hj1 := ix_ff h1 (by rw [ePs_len]) hj (by omega)
              rw [hj1, List.drop_length, patFs] at hn
              subst hn
              exact ⟨.inl rfl, ⟨.inl rfl, trivial⟩, ⟨rfl, rfl⟩, trivial⟩
        · refine amc [1000000000] 60 (form_spec e1 (false)) ?_
          conv => whnf
          replace hR := hR (false) (by rw [show (n.toList == ByteArray.toList ⟨#[]⟩) = false from t1]; rfl)
          generalize mustF e1 (false) 3 = e2 at *
          have f3 := few_spec e2 (decide (((ePs xs).length : Int) ≤ 6))
          generalize mustF e2 (decide (((ePs xs).length : Int) ≤ 6)) 2 = e3 at *
          refine amc [1000000000] 70 f3 ?_
          conv => whnf
          refine asplit ?_ ?_ <;> intro q3 <;> conv => whnf
          · rw [show (!(e3 == 0)) = true from q3, cond_true] at hR
            subst hR
            exact ⟨.inl rfl, ⟨.inl rfl, trivial⟩, ⟨rfl, rfl⟩, trivial⟩
          replace q3 : (!(e3 == 0)) = false := q3
          rw [q3, cond_false] at hR
          replace hR := hR.symm
          refine loopS (tyOf_ok _) hmix (by kernel_rfl) xs.length [0, 95, 96, 97] [1000000000, 1000000001] (fun j _ => [.ptr 1000000000 0, .p (.sl 4 (ePs xs)), .p (.i .i64 (ePs xs).length), .p (.i .i64 (ix j))]) (fun j x => [.cells [.p (.i .i64 x)], .glob 0 tab]) (fun j x => patFs S G (xs.drop j) x = R) e3 ⟨rfl, rfl, rfl, rfl⟩ hR ?_
          intro j x hj hn
          conv => whnf
          refine asplit ?_ ?_ <;> intro h1 <;> conv => whnf
          · have hj1 := ix_tt h1 (by rw [ePs_len]) hj (by omega)
            obtain ⟨b, hb1⟩ : ∃ b, xs[j]? = some b := ⟨_, List.getElem?_eq_getElem hj1⟩
            rw [drop_cons hb1, patFs] at hn
            refine aidxk (ePs_get hb1) (by omega) ?_
            have c := ih b (List.mem_of_getElem? hb1) x
            unfold hJ at c
            generalize patF S G b x = y at c hn
            obtain ⟨bk, bm, bn, bx⟩ := b
            conv => whnf
            refine amc [1000000000, 1000000001] 70000 c ?_
            conv => whnf
            exact ⟨hj1, y, ⟨rfl, rfl, rfl, rfl⟩, hn⟩
          · have hj1 := ix_ff h1 (by rw [ePs_len]) hj (by omega)
            rw [hj1, List.drop_length, patFs] at hn
            subst hn
            exact ⟨.inl rfl, ⟨.inl rfl, trivial⟩, ⟨rfl, rfl⟩, trivial⟩
      · replace hR := fun b => hR false b (by rw [k1, g1]; rfl)
        refine amc [1000000000] 60 (form_spec e1 (false)) ?_
        conv => whnf
        replace hR := hR (false) rfl
        generalize mustF e1 (false) 3 = e2 at *
        have f3 := few_spec e2 (decide (((ePs xs).length : Int) ≤ 6))
        generalize mustF e2 (decide (((ePs xs).length : Int) ≤ 6)) 2 = e3 at *
        refine amc [1000000000] 70 f3 ?_
        conv => whnf
        refine asplit ?_ ?_ <;> intro q3 <;> conv => whnf
        · rw [show (!(e3 == 0)) = true from q3, cond_true] at hR
          subst hR
          exact ⟨.inl rfl, ⟨.inl rfl, trivial⟩, ⟨rfl, rfl⟩, trivial⟩
        replace q3 : (!(e3 == 0)) = false := q3
        rw [q3, cond_false] at hR
        replace hR := hR.symm
        refine loopS (tyOf_ok _) hmix (by kernel_rfl) xs.length [0, 95, 96, 97] [1000000000, 1000000001] (fun j _ => [.ptr 1000000000 0, .p (.sl 4 (ePs xs)), .p (.i .i64 (ePs xs).length), .p (.i .i64 (ix j))]) (fun j x => [.cells [.p (.i .i64 x)], .glob 0 tab]) (fun j x => patFs S G (xs.drop j) x = R) e3 ⟨rfl, rfl, rfl, rfl⟩ hR ?_
        intro j x hj hn
        conv => whnf
        refine asplit ?_ ?_ <;> intro h1 <;> conv => whnf
        · have hj1 := ix_tt h1 (by rw [ePs_len]) hj (by omega)
          obtain ⟨b, hb1⟩ : ∃ b, xs[j]? = some b := ⟨_, List.getElem?_eq_getElem hj1⟩
          rw [drop_cons hb1, patFs] at hn
          refine aidxk (ePs_get hb1) (by omega) ?_
          have c := ih b (List.mem_of_getElem? hb1) x
          unfold hJ at c
          generalize patF S G b x = y at c hn
          obtain ⟨bk, bm, bn, bx⟩ := b
          conv => whnf
          refine amc [1000000000, 1000000001] 70000 c ?_
          conv => whnf
          exact ⟨hj1, y, ⟨rfl, rfl, rfl, rfl⟩, hn⟩
        · have hj1 := ix_ff h1 (by rw [ePs_len]) hj (by omega)
          rw [hj1, List.drop_length, patFs] at hn
          subst hn
          exact ⟨.inl rfl, ⟨.inl rfl, trivial⟩, ⟨rfl, rfl⟩, trivial⟩
    refine asplit ?_ ?_ <;> intro k2 <;> conv => whnf
    · refine asplit ?_ ?_ <;> intro g1 <;> conv => whnf
      · refine amc [1000000001] 80 hs ?_
        conv => whnf
        replace hR := fun b => hR (SN) b (by rw [k1, k2, g1]; rfl)
        refine asplit ?_ ?_ <;> intro t1 <;> conv => whnf
        · refine asplit ?_ ?_ <;> intro t2 <;> conv => whnf
          · refine amc [1000000000] 60 (form_spec e1 (true)) ?_
            conv => whnf
            replace hR := hR (true) (by rw [show (SN) = true from t1, t2]; rfl)
            generalize mustF e1 (true) 3 = e2 at *
            have f3 := few_spec e2 (decide (((ePs xs).length : Int) ≤ 6))
            generalize mustF e2 (decide (((ePs xs).length : Int) ≤ 6)) 2 = e3 at *
            refine amc [1000000000] 70 f3 ?_
            conv => whnf
            refine asplit ?_ ?_ <;> intro q3 <;> conv => whnf
            · rw [show (!(e3 == 0)) = true from q3, cond_true] at hR
              subst hR
              exact ⟨.inl rfl, ⟨.inl rfl, trivial⟩, ⟨rfl, rfl⟩, trivial⟩
            replace q3 : (!(e3 == 0)) = false := q3
            rw [q3, cond_false] at hR
            replace hR := hR.symm
            refine loopS (tyOf_ok _) hmix (by kernel_rfl) xs.length [0, 95, 96, 97] [1000000000, 1000000001] (fun j _ => [.ptr 1000000000 0, .p (.sl 4 (ePs xs)), .p (.i .i64 (ePs xs).length), .p (.i .i64 (ix j))]) (fun j x => [.cells [.p (.i .i64 x)], .glob 0 tab]) (fun j x => patFs S G (xs.drop j) x = R) e3 ⟨rfl, rfl, rfl, rfl⟩ hR ?_
            intro j x hj hn
            conv => whnf
            refine asplit ?_ ?_ <;> intro h1 <;> conv => whnf
            · have hj1 := ix_tt h1 (by rw [ePs_len]) hj (by omega)
              obtain ⟨b, hb1⟩ : ∃ b, xs[j]? = some b := ⟨_, List.getElem?_eq_getElem hj1⟩
              rw [drop_cons hb1, patFs] at hn
              refine aidxk (ePs_get hb1) (by omega) ?_
              have c := ih b (List.mem_of_getElem? hb1) x
              unfold hJ at c
              generalize patF S G b x = y at c hn
              obtain ⟨bk, bm, bn, bx⟩ := b
              conv => whnf
              refine amc [1000000000, 1000000001] 70000 c ?_
              conv => whnf
              exact ⟨hj1, y, ⟨rfl, rfl, rfl, rfl⟩, hn⟩
            · have hj1 := ix_ff h1 (by rw [ePs_len]) hj (by omega)
              rw [hj1, List.drop_length, patFs] at hn
              subst hn
              exact ⟨.inl rfl, ⟨.inl rfl, trivial⟩, ⟨rfl, rfl⟩, trivial⟩
          · refine amc [1000000000] 60 (form_spec e1 (((ePs xs).length : Int) == 0)) ?_
            conv => whnf
            replace hR := hR (((ePs xs).length : Int) == 0) (by rw [show (SN) = true from t1, t2]; rfl)
            generalize mustF e1 (((ePs xs).length : Int) == 0) 3 = e2 at *
            have f3 := few_spec e2 (decide (((ePs xs).length : Int) ≤ 6))
            generalize mustF e2 (decide (((ePs xs).length : Int) ≤ 6)) 2 = e3 at *
            refine amc [1000000000] 70 f3 ?_
            conv => whnf
            refine asplit ?_ ?_ <;> intro q3 <;> conv => whnf
            · rw [show (!(e3 == 0)) = true from q3, cond_true] at hR
              subst hR
              exact ⟨.inl rfl, ⟨.inl rfl, trivial⟩, ⟨rfl, rfl⟩, trivial⟩
            replace q3 : (!(e3 == 0)) = false := q3
            rw [q3, cond_false] at hR
            replace hR := hR.symm
            refine loopS (tyOf_ok _) hmix (by kernel_rfl) xs.length [0, 95, 96, 97] [1000000000, 1000000001] (fun j _ => [.ptr 1000000000 0, .p (.sl 4 (ePs xs)), .p (.i .i64 (ePs xs).length), .p (.i .i64 (ix j))]) (fun j x => [.cells [.p (.i .i64 x)], .glob 0 tab]) (fun j x => patFs S G (xs.drop j) x = R) e3 ⟨rfl, rfl, rfl, rfl⟩ hR ?_
            intro j x hj hn
            conv => whnf
            refine asplit ?_ ?_ <;> intro h1 <;> conv => whnf
            · have hj1 := ix_tt h1 (by rw [ePs_len]) hj (by omega)
              obtain ⟨b, hb1⟩ : ∃ b, xs[j]? = some b := ⟨_, List.getElem?_eq_getElem hj1⟩
              rw [drop_cons hb1, patFs] at hn
              refine aidxk (ePs_get hb1) (by omega) ?_
              have c := ih b (List.mem_of_getElem? hb1) x
              unfold hJ at c
              generalize patF S G b x = y at c hn
              obtain ⟨bk, bm, bn, bx⟩ := b
              conv => whnf
              refine amc [1000000000, 1000000001] 70000 c ?_
              conv => whnf
              exact ⟨hj1, y, ⟨rfl, rfl, rfl, rfl⟩, hn⟩
            · have hj1 := ix_ff h1 (by rw [ePs_len]) hj (by omega)
              rw [hj1, List.drop_length, patFs] at hn
              subst hn
              exact ⟨.inl rfl, ⟨.inl rfl, trivial⟩, ⟨rfl, rfl⟩, trivial⟩
        · refine amc [1000000000] 60 (form_spec e1 (false)) ?_
          conv => whnf
          replace hR := hR (false) (by rw [show (SN) = false from t1]; rfl)
          generalize mustF e1 (false) 3 = e2 at *
          have f3 := few_spec e2 (decide (((ePs xs).length : Int) ≤ 6))
          generalize mustF e2 (decide (((ePs xs).length : Int) ≤ 6)) 2 = e3 at *
          refine amc [1000000000] 70 f3 ?_
          conv => whnf
          refine asplit ?_ ?_ <;> intro q3 <;> conv => whnf
          · rw [show (!(e3 == 0)) = true from q3, cond_true] at hR
            subst hR
            exact ⟨.inl rfl, ⟨.inl rfl, trivial⟩, ⟨rfl, rfl⟩, trivial⟩
          replace q3 : (!(e3 == 0)) = false := q3
          rw [q3, cond_false] at hR
          replace hR := hR.symm
          refine loopS (tyOf_ok _) hmix (by kernel_rfl) xs.length [0, 95, 96, 97] [1000000000, 1000000001] (fun j _ => [.ptr 1000000000 0, .p (.sl 4 (ePs xs)), .p (.i .i64 (ePs xs).length), .p (.i .i64 (ix j))]) (fun j x => [.cells [.p (.i .i64 x)], .glob 0 tab]) (fun j x => patFs S G (xs.drop j) x = R) e3 ⟨rfl, rfl, rfl, rfl⟩ hR ?_
          intro j x hj hn
          conv => whnf
          refine asplit ?_ ?_ <;> intro h1 <;> conv => whnf
          · have hj1 := ix_tt h1 (by rw [ePs_len]) hj (by omega)
            obtain ⟨b, hb1⟩ : ∃ b, xs[j]? = some b := ⟨_, List.getElem?_eq_getElem hj1⟩
            rw [drop_cons hb1, patFs] at hn
            refine aidxk (ePs_get hb1) (by omega) ?_
            have c := ih b (List.mem_of_getElem? hb1) x
            unfold hJ at c
            generalize patF S G b x = y at c hn
            obtain ⟨bk, bm, bn, bx⟩ := b
            conv => whnf
            refine amc [1000000000, 1000000001] 70000 c ?_
            conv => whnf
            exact ⟨hj1, y, ⟨rfl, rfl, rfl, rfl⟩, hn⟩
          · have hj1 := ix_ff h1 (by rw [ePs_len]) hj (by omega)
            rw [hj1, List.drop_length, patFs] at hn
            subst hn
            exact ⟨.inl rfl, ⟨.inl rfl, trivial⟩, ⟨rfl, rfl⟩, trivial⟩
      · replace hR := fun b => hR false b (by rw [k1, k2, g1]; rfl)
        refine amc [1000000000] 60 (form_spec e1 (false)) ?_
        conv => whnf
        replace hR := hR (false) rfl
        generalize mustF e1 (false) 3 = e2 at *
        have f3 := few_spec e2 (decide (((ePs xs).length : Int) ≤ 6))
        generalize mustF e2 (decide (((ePs xs).length : Int) ≤ 6)) 2 = e3 at *
        refine amc [1000000000] 70 f3 ?_
        conv => whnf
        refine asplit ?_ ?_ <;> intro q3 <;> conv => whnf
        · rw [show (!(e3 == 0)) = true from q3, cond_true] at hR
          subst hR
          exact ⟨.inl rfl, ⟨.inl rfl, trivial⟩, ⟨rfl, rfl⟩, trivial⟩
        replace q3 : (!(e3 == 0)) = false := q3
        rw [q3, cond_false] at hR
        replace hR := hR.symm
        refine loopS (tyOf_ok _) hmix (by kernel_rfl) xs.length [0, 95, 96, 97] [1000000000, 1000000001] (fun j _ => [.ptr 1000000000 0, .p (.sl 4 (ePs xs)), .p (.i .i64 (ePs xs).length), .p (.i .i64 (ix j))]) (fun j x => [.cells [.p (.i .i64 x)], .glob 0 tab]) (fun j x => patFs S G (xs.drop j) x = R) e3 ⟨rfl, rfl, rfl, rfl⟩ hR ?_
        intro j x hj hn
        conv => whnf
        refine asplit ?_ ?_ <;> intro h1 <;> conv => whnf
        · have hj1 := ix_tt h1 (by rw [ePs_len]) hj (by omega)
          obtain ⟨b, hb1⟩ : ∃ b, xs[j]? = some b := ⟨_, List.getElem?_eq_getElem hj1⟩
          rw [drop_cons hb1, patFs] at hn
          refine aidxk (ePs_get hb1) (by omega) ?_
          have c := ih b (List.mem_of_getElem? hb1) x
          unfold hJ at c
          generalize patF S G b x = y at c hn
          obtain ⟨bk, bm, bn, bx⟩ := b
          conv => whnf
          refine amc [1000000000, 1000000001] 70000 c ?_
          conv => whnf
          exact ⟨hj1, y, ⟨rfl, rfl, rfl, rfl⟩, hn⟩
        · have hj1 := ix_ff h1 (by rw [ePs_len]) hj (by omega)
          rw [hj1, List.drop_length, patFs] at hn
          subst hn
          exact ⟨.inl rfl, ⟨.inl rfl, trivial⟩, ⟨rfl, rfl⟩, trivial⟩
    refine asplit ?_ ?_ <;> intro k3 <;> conv => whnf
    · replace hR := fun b => hR (n.toList == ByteArray.toList ⟨#[]⟩) b (by rw [k1, k2, k3]; rfl)
      refine asplit ?_ ?_ <;> intro t1 <;> conv => whnf
      · refine asplit ?_ ?_ <;> intro t2 <;> conv => whnf
        · refine amc [1000000000] 60 (form_spec e1 (true)) ?_
          conv => whnf
          replace hR := hR (true) (by rw [show (n.toList == ByteArray.toList ⟨#[]⟩) = true from t1, t2]; rfl)
          generalize mustF e1 (true) 3 = e2 at *
          have f3 := few_spec e2 (decide (((ePs xs).length : Int) ≤ 6))
          generalize mustF e2 (decide (((ePs xs).length : Int) ≤ 6)) 2 = e3 at *
          refine amc [1000000000] 70 f3 ?_
          conv => whnf
          refine asplit ?_ ?_ <;> intro q3 <;> conv => whnf
          · rw [show (!(e3 == 0)) = true from q3, cond_true] at hR
            subst hR
            exact ⟨.inl rfl, ⟨.inl rfl, trivial⟩, ⟨rfl, rfl⟩, trivial⟩
          replace q3 : (!(e3 == 0)) = false := q3
          rw [q3, cond_false] at hR
          replace hR := hR.symm
          refine loopS (tyOf_ok _) hmix (by kernel_rfl) xs.length [0, 95, 96, 97] [1000000000, 1000000001] (fun j _ => [.ptr 1000000000 0, .p (.sl 4 (ePs xs)), .p (.i .i64 (ePs xs).length), .p (.i .i64 (ix j))]) (fun j x => [.cells [.p (.i .i64 x)], .glob 0 tab]) (fun j x => patFs S G (xs.drop j) x = R) e3 ⟨rfl, rfl, rfl, rfl⟩ hR ?_
          intro j x hj hn
          conv => whnf
          refine asplit ?_ ?_ <;> intro h1 <;> conv => whnf
          · have hj1 := ix_tt h1 (by rw [ePs_len]) hj (by omega)
            obtain ⟨b, hb1⟩ : ∃ b, xs[j]? = some b := ⟨_, List.getElem?_eq_getElem hj1⟩
            rw [drop_cons hb1, patFs] at hn
            refine aidxk (ePs_get hb1) (by omega) ?_
            have c := ih b (List.mem_of_getElem? hb1) x
            unfold hJ at c
            generalize patF S G b x = y at c hn
            obtain ⟨bk, bm, bn, bx⟩ := b
            conv => whnf
            refine amc [1000000000, 1000000001] 70000 c ?_
            conv => whnf
            exact ⟨hj1, y, ⟨rfl, rfl, rfl, rfl⟩, hn⟩
          · have hj1 := ix_ff h1 (by rw [ePs_len]) hj (by omega)
            rw [hj1, List.drop_length, patFs] at hn
            subst hn
            exact ⟨.inl rfl, ⟨.inl rfl, trivial⟩, ⟨rfl, rfl⟩, trivial⟩
        · refine amc [1000000000] 60 (form_spec e1 (((ePs xs).length : Int) == 0)) ?_
          conv => whnf
          replace hR := hR (((ePs xs).length : Int) == 0) (by rw [show (n.toList == ByteArray.toList ⟨#[]⟩) = true from t1, t2]; rfl)
          generalize mustF e1 (((ePs xs).length : Int) == 0) 3 = e2 at *
          have f3 := few_spec e2 (decide (((ePs xs).length : Int) ≤ 6))
          generalize mustF e2 (decide (((ePs xs).length : Int) ≤ 6)) 2 = e3 at *
          refine amc [1000000000] 70 f3 ?_
          conv => whnf
          refine asplit ?_ ?_ <;> intro q3 <;> conv => whnf
          · rw [show (!(e3 == 0)) = true from q3, cond_true] at hR
            subst hR
            exact ⟨.inl rfl, ⟨.inl rfl, trivial⟩, ⟨rfl, rfl⟩, trivial⟩
          replace q3 : (!(e3 == 0)) = false := q3
          rw [q3, cond_false] at hR
          replace hR := hR.symm
          refine loopS (tyOf_ok _) hmix (by kernel_rfl) xs.length [0, 95, 96, 97] [1000000000, 1000000001] (fun j _ => [.ptr 1000000000 0, .p (.sl 4 (ePs xs)), .p (.i .i64 (ePs xs).length), .p (.i .i64 (ix j))]) (fun j x => [.cells [.p (.i .i64 x)], .glob 0 tab]) (fun j x => patFs S G (xs.drop j) x = R) e3 ⟨rfl, rfl, rfl, rfl⟩ hR ?_
          intro j x hj hn
          conv => whnf
          refine asplit ?_ ?_ <;> intro h1 <;> conv => whnf
          · have hj1 := ix_tt h1 (by rw [ePs_len]) hj (by omega)
            obtain ⟨b, hb1⟩ : ∃ b, xs[j]? = some b := ⟨_, List.getElem?_eq_getElem hj1⟩
            rw [drop_cons hb1, patFs] at hn
            refine aidxk (ePs_get hb1) (by omega) ?_
            have c := ih b (List.mem_of_getElem? hb1) x
            unfold hJ at c
            generalize patF S G b x = y at c hn
            obtain ⟨bk, bm, bn, bx⟩ := b
            conv => whnf
            refine amc [1000000000, 1000000001] 70000 c ?_
            conv => whnf
            exact ⟨hj1, y, ⟨rfl, rfl, rfl, rfl⟩, hn⟩
          · have hj1 := ix_ff h1 (by rw [ePs_len]) hj (by omega)
            rw [hj1, List.drop_length, patFs] at hn
            subst hn
            exact ⟨.inl rfl, ⟨.inl rfl, trivial⟩, ⟨rfl, rfl⟩, trivial⟩
      · refine amc [1000000000] 60 (form_spec e1 (false)) ?_
        conv => whnf
        replace hR := hR (false) (by rw [show (n.toList == ByteArray.toList ⟨#[]⟩) = false from t1]; rfl)
        generalize mustF e1 (false) 3 = e2 at *
        have f3 := few_spec e2 (decide (((ePs xs).length : Int) ≤ 6))
        generalize mustF e2 (decide (((ePs xs).length : Int) ≤ 6)) 2 = e3 at *
        refine amc [1000000000] 70 f3 ?_
        conv => whnf
        refine asplit ?_ ?_ <;> intro q3 <;> conv => whnf
        · rw [show (!(e3 == 0)) = true from q3, cond_true] at hR
          subst hR
          exact ⟨.inl rfl, ⟨.inl rfl, trivial⟩, ⟨rfl, rfl⟩, trivial⟩
        replace q3 : (!(e3 == 0)) = false := q3
        rw [q3, cond_false] at hR
        replace hR := hR.symm
        refine loopS (tyOf_ok _) hmix (by kernel_rfl) xs.length [0, 95, 96, 97] [1000000000, 1000000001] (fun j _ => [.ptr 1000000000 0, .p (.sl 4 (ePs xs)), .p (.i .i64 (ePs xs).length), .p (.i .i64 (ix j))]) (fun j x => [.cells [.p (.i .i64 x)], .glob 0 tab]) (fun j x => patFs S G (xs.drop j) x = R) e3 ⟨rfl, rfl, rfl, rfl⟩ hR ?_
        intro j x hj hn
        conv => whnf
        refine asplit ?_ ?_ <;> intro h1 <;> conv => whnf
        · have hj1 := ix_tt h1 (by rw [ePs_len]) hj (by omega)
          obtain ⟨b, hb1⟩ : ∃ b, xs[j]? = some b := ⟨_, List.getElem?_eq_getElem hj1⟩
          rw [drop_cons hb1, patFs] at hn
          refine aidxk (ePs_get hb1) (by omega) ?_
          have c := ih b (List.mem_of_getElem? hb1) x
          unfold hJ at c
          generalize patF S G b x = y at c hn
          obtain ⟨bk, bm, bn, bx⟩ := b
          conv => whnf
          refine amc [1000000000, 1000000001] 70000 c ?_
          conv => whnf
          exact ⟨hj1, y, ⟨rfl, rfl, rfl, rfl⟩, hn⟩
        · have hj1 := ix_ff h1 (by rw [ePs_len]) hj (by omega)
          rw [hj1, List.drop_length, patFs] at hn
          subst hn
          exact ⟨.inl rfl, ⟨.inl rfl, trivial⟩, ⟨rfl, rfl⟩, trivial⟩
    refine asplit ?_ ?_ <;> intro k4 <;> conv => whnf
    · refine asplit ?_ ?_ <;> intro g1 <;> conv => whnf
      · replace hR := fun b => hR (n.toList == ByteArray.toList ⟨#[]⟩) b (by rw [k1, k2, k3, k4, g1]; rfl)
        refine asplit ?_ ?_ <;> intro t1 <;> conv => whnf
        · refine asplit ?_ ?_ <;> intro t2 <;> conv => whnf
          · refine amc [1000000000] 60 (form_spec e1 (true)) ?_
            conv => whnf
            replace hR := hR (true) (by rw [show (n.toList == ByteArray.toList ⟨#[]⟩) = true from t1, t2]; rfl)
            generalize mustF e1 (true) 3 = e2 at *
            have f3 := few_spec e2 (decide (((ePs xs).length : Int) ≤ 6))
            generalize mustF e2 (decide (((ePs xs).length : Int) ≤ 6)) 2 = e3 at *
            refine amc [1000000000] 70 f3 ?_
            conv => whnf
            refine asplit ?_ ?_ <;> intro q3 <;> conv => whnf
            · rw [show (!(e3 == 0)) = true from q3, cond_true] at hR
              subst hR
              exact ⟨.inl rfl, ⟨.inl rfl, trivial⟩, ⟨rfl, rfl⟩, trivial⟩
            replace q3 : (!(e3 == 0)) = false := q3
            rw [q3, cond_false] at hR
            replace hR := hR.symm
            refine loopS (tyOf_ok _) hmix (by kernel_rfl) xs.length [0, 95, 96, 97] [1000000000, 1000000001] (fun j _ => [.ptr 1000000000 0, .p (.sl 4 (ePs xs)), .p (.i .i64 (ePs xs).length), .p (.i .i64 (ix j))]) (fun j x => [.cells [.p (.i .i64 x)], .glob 0 tab]) (fun j x => patFs S G (xs.drop j) x = R) e3 ⟨rfl, rfl, rfl, rfl⟩ hR ?_
            intro j x hj hn
            conv => whnf
            refine asplit ?_ ?_ <;> intro h1 <;> conv => whnf
            · have hj1 := ix_tt h1 (by rw [ePs_len]) hj (by omega)
              obtain ⟨b, hb1⟩ : ∃ b, xs[j]? = some b := ⟨_, List.getElem?_eq_getElem hj1⟩
              rw [drop_cons hb1, patFs] at hn
              refine aidxk (ePs_get hb1) (by omega) ?_
              have c := ih b (List.mem_of_getElem? hb1) x
              unfold hJ at c
              generalize patF S G b x = y at c hn
              obtain ⟨bk, bm, bn, bx⟩ := b
              conv => whnf
              refine amc [1000000000, 1000000001] 70000 c ?_
              conv => whnf
              exact ⟨hj1, y, ⟨rfl, rfl, rfl, rfl⟩, hn⟩
            · have hj1 := ix_ff h1 (by rw [ePs_len]) hj (by omega)
              rw [hj1, List.drop_length, patFs] at hn
              subst hn
              exact ⟨.inl rfl, ⟨.inl rfl, trivial⟩, ⟨rfl, rfl⟩, trivial⟩
          · refine amc [1000000000] 60 (form_spec e1 (((ePs xs).length : Int) == 0)) ?_
            conv => whnf
            replace hR := hR (((ePs xs).length : Int) == 0) (by rw [show (n.toList == ByteArray.toList ⟨#[]⟩) = true from t1, t2]; rfl)
            generalize mustF e1 (((ePs xs).length : Int) == 0) 3 = e2 at *
            have f3 := few_spec e2 (decide (((ePs xs).length : Int) ≤ 6))
            generalize mustF e2 (decide (((ePs xs).length : Int) ≤ 6)) 2 = e3 at *
            refine amc [1000000000] 70 f3 ?_
            conv => whnf
            refine asplit ?_ ?_ <;> intro q3 <;> conv => whnf
            · rw [show (!(e3 == 0)) = true from q3, cond_true] at hR
              subst hR
              exact ⟨.inl rfl, ⟨.inl rfl, trivial⟩, ⟨rfl, rfl⟩, trivial⟩
            replace q3 : (!(e3 == 0)) = false := q3
            rw [q3, cond_false] at hR
            replace hR := hR.symm
            refine loopS (tyOf_ok _) hmix (by kernel_rfl) xs.length [0, 95, 96, 97] [1000000000, 1000000001] (fun j _ => [.ptr 1000000000 0, .p (.sl 4 (ePs xs)), .p (.i .i64 (ePs xs).length), .p (.i .i64 (ix j))]) (fun j x => [.cells [.p (.i .i64 x)], .glob 0 tab]) (fun j x => patFs S G (xs.drop j) x = R) e3 ⟨rfl, rfl, rfl, rfl⟩ hR ?_
            intro j x hj hn
            conv => whnf
            refine asplit ?_ ?_ <;> intro h1 <;> conv => whnf
            · have hj1 := ix_tt h1 (by rw [ePs_len]) hj (by omega)
              obtain ⟨b, hb1⟩ : ∃ b, xs[j]? = some b := ⟨_, List.getElem?_eq_getElem hj1⟩
              rw [drop_cons hb1, patFs] at hn
              refine aidxk (ePs_get hb1) (by omega) ?_
              have c := ih b (List.mem_of_getElem? hb1) x
              unfold hJ at c
              generalize patF S G b x = y at c hn
              obtain ⟨bk, bm, bn, bx⟩ := b
              conv => whnf
              refine amc [1000000000, 1000000001] 70000 c ?_
              conv => whnf
              exact ⟨hj1, y, ⟨rfl, rfl, rfl, rfl⟩, hn⟩
            · have hj1 := ix_ff h1 (by rw [ePs_len]) hj (by omega)
              rw [hj1, List.drop_length, patFs] at hn
              subst hn
              exact ⟨.inl rfl, ⟨.inl rfl, trivial⟩, ⟨rfl, rfl⟩, trivial⟩
        · refine amc [1000000000] 60 (form_spec e1 (false)) ?_
          conv => whnf
          replace hR := hR (false) (by rw [show (n.toList == ByteArray.toList ⟨#[]⟩) = false from t1]; rfl)
          generalize mustF e1 (false) 3 = e2 at *
          have f3 := few_spec e2 (decide (((ePs xs).length : Int) ≤ 6))
          generalize mustF e2 (decide (((ePs xs).length : Int) ≤ 6)) 2 = e3 at *
          refine amc [1000000000] 70 f3 ?_
          conv => whnf
          refine asplit ?_ ?_ <;> intro q3 <;> conv => whnf
          · rw [show (!(e3 == 0)) = true from q3, cond_true] at hR
            subst hR
            exact ⟨.inl rfl, ⟨.inl rfl, trivial⟩, ⟨rfl, rfl⟩, trivial⟩
          replace q3 : (!(e3 == 0)) = false := q3
          rw [q3, cond_false] at hR
          replace hR := hR.symm
          refine loopS (tyOf_ok _) hmix (by kernel_rfl) xs.length [0, 95, 96, 97] [1000000000, 1000000001] (fun j _ => [.ptr 1000000000 0, .p (.sl 4 (ePs xs)), .p (.i .i64 (ePs xs).length), .p (.i .i64 (ix j))]) (fun j x => [.cells [.p (.i .i64 x)], .glob 0 tab]) (fun j x => patFs S G (xs.drop j) x = R) e3 ⟨rfl, rfl, rfl, rfl⟩ hR ?_
          intro j x hj hn
          conv => whnf
          refine asplit ?_ ?_ <;> intro h1 <;> conv => whnf
          · have hj1 := ix_tt h1 (by rw [ePs_len]) hj (by omega)
            obtain ⟨b, hb1⟩ : ∃ b, xs[j]? = some b := ⟨_, List.getElem?_eq_getElem hj1⟩
            rw [drop_cons hb1, patFs] at hn
            refine aidxk (ePs_get hb1) (by omega) ?_
            have c := ih b (List.mem_of_getElem? hb1) x
            unfold hJ at c
            generalize patF S G b x = y at c hn
            obtain ⟨bk, bm, bn, bx⟩ := b
            conv => whnf
            refine amc [1000000000, 1000000001] 70000 c ?_
            conv => whnf
            exact ⟨hj1, y, ⟨rfl, rfl, rfl, rfl⟩, hn⟩
          · have hj1 := ix_ff h1 (by rw [ePs_len]) hj (by omega)
            rw [hj1, List.drop_length, patFs] at hn
            subst hn
            exact ⟨.inl rfl, ⟨.inl rfl, trivial⟩, ⟨rfl, rfl⟩, trivial⟩
      · refine asplit ?_ ?_ <;> intro g2 <;> conv => whnf
        · replace hR := fun b => hR (n.toList == ByteArray.toList ⟨#[]⟩) b (by rw [k1, k2, k3, k4, g1, g2]; rfl)
          refine asplit ?_ ?_ <;> intro t1 <;> conv => whnf
          · refine asplit ?_ ?_ <;> intro t2 <;> conv => whnf
            · refine amc [1000000000] 60 (form_spec e1 (true)) ?_
              conv => whnf
              replace hR := hR (true) (by rw [show (n.toList == ByteArray.toList ⟨#[]⟩) = true from t1, t2]; rfl)
              generalize mustF e1 (true) 3 = e2 at *
              have f3 := few_spec e2 (decide (((ePs xs).length : Int) ≤ 6))
              generalize mustF e2 (decide (((ePs xs).length : Int) ≤ 6)) 2 = e3 at *
              refine amc [1000000000] 70 f3 ?_
              conv => whnf
              refine asplit ?_ ?_ <;> intro q3 <;> conv => whnf
              · rw [show (!(e3 == 0)) = true from q3, cond_true] at hR
                subst hR
                exact ⟨.inl rfl, ⟨.inl rfl, trivial⟩, ⟨rfl, rfl⟩, trivial⟩
              replace q3 : (!(e3 == 0)) = false := q3
              rw [q3, cond_false] at hR
              replace hR := hR.symm
              refine loopS (tyOf_ok _) hmix (by kernel_rfl) xs.length [0, 95, 96, 97] [1000000000, 1000000001] (fun j _ => [.ptr 1000000000 0, .p (.sl 4 (ePs xs)), .p (.i .i64 (ePs xs).length), .p (.i .i64 (ix j))]) (fun j x => [.cells [.p (.i .i64 x)], .glob 0 tab]) (fun j x => patFs S G (xs.drop j) x = R) e3 ⟨rfl, rfl, rfl, rfl⟩ hR ?_
              intro j x hj hn
              conv => whnf
              refine asplit ?_ ?_ <;> intro h1 <;> conv => whnf
              · have hj1 := ix_tt h1 (by rw [ePs_len]) hj (by omega)
                obtain ⟨b, hb1⟩ : ∃ b, xs[j]? = some b := ⟨_, List.getElem?_eq_getElem hj1⟩
                rw [drop_cons hb1, patFs] at hn
                refine aidxk (ePs_get hb1) (by omega) ?_
                have c := ih b (List.mem_of_getElem? hb1) x
                unfold hJ at c
                generalize patF S G b x = y at c hn
                obtain ⟨bk, bm, bn, bx⟩ := b
                conv => whnf
                refine amc [1000000000, 1000000001] 70000 c ?_
                conv => whnf
                exact ⟨hj1, y, ⟨rfl, rfl, rfl, rfl⟩, hn⟩
              · have hj1 := ix_ff h1 (by rw [ePs_len]) hj (by omega)
                rw [hj1, List.drop_length, patFs] at hn
                subst hn
                exact ⟨.inl rfl, ⟨.inl rfl, trivial⟩, ⟨rfl, rfl⟩, trivial⟩
            · refine amc [1000000000] 60 (form_spec e1 (((ePs xs).length : Int) == 0)) ?_
              conv => whnf
              replace hR := hR (((ePs xs).length : Int) == 0) (by rw [show (n.toList == ByteArray.toList ⟨#[]⟩) = true from t1, t2]; rfl)
              generalize mustF e1 (((ePs xs).length : Int) == 0) 3 = e2 at *
              have f3 := few_spec e2 (decide (((ePs xs).length : Int) ≤ 6))
              generalize mustF e2 (decide (((ePs xs).length : Int) ≤ 6)) 2 = e3 at *
              refine amc [1000000000] 70 f3 ?_
              conv => whnf
              refine asplit ?_ ?_ <;> intro q3 <;> conv => whnf
              · rw [show (!(e3 == 0)) = true from q3, cond_true] at hR
                subst hR
                exact ⟨.inl rfl, ⟨.inl rfl, trivial⟩, ⟨rfl, rfl⟩, trivial⟩
              replace q3 : (!(e3 == 0)) = false := q3
              rw [q3, cond_false] at hR
              replace hR := hR.symm
              refine loopS (tyOf_ok _) hmix (by kernel_rfl) xs.length [0, 95, 96, 97] [1000000000, 1000000001] (fun j _ => [.ptr 1000000000 0, .p (.sl 4 (ePs xs)), .p (.i .i64 (ePs xs).length), .p (.i .i64 (ix j))]) (fun j x => [.cells [.p (.i .i64 x)], .glob 0 tab]) (fun j x => patFs S G (xs.drop j) x = R) e3 ⟨rfl, rfl, rfl, rfl⟩ hR ?_
              intro j x hj hn
              conv => whnf
              refine asplit ?_ ?_ <;> intro h1 <;> conv => whnf
              · have hj1 := ix_tt h1 (by rw [ePs_len]) hj (by omega)
                obtain ⟨b, hb1⟩ : ∃ b, xs[j]? = some b := ⟨_, List.getElem?_eq_getElem hj1⟩
                rw [drop_cons hb1, patFs] at hn
                refine aidxk (ePs_get hb1) (by omega) ?_
                have c := ih b (List.mem_of_getElem? hb1) x
                unfold hJ at c
                generalize patF S G b x = y at c hn
                obtain ⟨bk, bm, bn, bx⟩ := b
                conv => whnf
                refine amc [1000000000, 1000000001] 70000 c ?_
                conv => whnf
                exact ⟨hj1, y, ⟨rfl, rfl, rfl, rfl⟩, hn⟩
              · have hj1 := ix_ff h1 (by rw [ePs_len]) hj (by omega)
                rw [hj1, List.drop_length, patFs] at hn
                subst hn
                exact ⟨.inl rfl, ⟨.inl rfl, trivial⟩, ⟨rfl, rfl⟩, trivial⟩
          · refine amc [1000000000] 60 (form_spec e1 (false)) ?_
            conv => whnf
            replace hR := hR (false) (by rw [show (n.toList == ByteArray.toList ⟨#[]⟩) = false from t1]; rfl)
            generalize mustF e1 (false) 3 = e2 at *
            have f3 := few_spec e2 (decide (((ePs xs).length : Int) ≤ 6))
            generalize mustF e2 (decide (((ePs xs).length : Int) ≤ 6)) 2 = e3 at *
            refine amc [1000000000] 70 f3 ?_
            conv => whnf
            refine asplit ?_ ?_ <;> intro q3 <;> conv => whnf
            · rw [show (!(e3 == 0)) = true from q3, cond_true] at hR
              subst hR
              exact ⟨.inl rfl, ⟨.inl rfl, trivial⟩, ⟨rfl, rfl⟩, trivial⟩
            replace q3 : (!(e3 == 0)) = false := q3
            rw [q3, cond_false] at hR
            replace hR := hR.symm
            refine loopS (tyOf_ok _) hmix (by kernel_rfl) xs.length [0, 95, 96, 97] [1000000000, 1000000001] (fun j _ => [.ptr 1000000000 0, .p (.sl 4 (ePs xs)), .p (.i .i64 (ePs xs).length), .p (.i .i64 (ix j))]) (fun j x => [.cells [.p (.i .i64 x)], .glob 0 tab]) (fun j x => patFs S G (xs.drop j) x = R) e3 ⟨rfl, rfl, rfl, rfl⟩ hR ?_
            intro j x hj hn
            conv => whnf
            refine asplit ?_ ?_ <;> intro h1 <;> conv => whnf
            · have hj1 := ix_tt h1 (by rw [ePs_len]) hj (by omega)
              obtain ⟨b, hb1⟩ : ∃ b, xs[j]? = some b := ⟨_, List.getElem?_eq_getElem hj1⟩
              rw [drop_cons hb1, patFs] at hn
              refine aidxk (ePs_get hb1) (by omega) ?_
              have c := ih b (List.mem_of_getElem? hb1) x
              unfold hJ at c
              generalize patF S G b x = y at c hn
              obtain ⟨bk, bm, bn, bx⟩ := b
              conv => whnf
              refine amc [1000000000, 1000000001] 70000 c ?_
              conv => whnf
              exact ⟨hj1, y, ⟨rfl, rfl, rfl, rfl⟩, hn⟩
            · have hj1 := ix_ff h1 (by rw [ePs_len]) hj (by omega)
              rw [hj1, List.drop_length, patFs] at hn
              subst hn
              exact ⟨.inl rfl, ⟨.inl rfl, trivial⟩, ⟨rfl, rfl⟩, trivial⟩
        · replace hR := fun b => hR false b (by rw [k1, k2, k3, k4, g1, g2]; rfl)
          refine amc [1000000000] 60 (form_spec e1 (false)) ?_
          conv => whnf
          replace hR := hR (false) rfl
          generalize mustF e1 (false) 3 = e2 at *
          have f3 := few_spec e2 (decide (((ePs xs).length : Int) ≤ 6))
          generalize mustF e2 (decide (((ePs xs).length : Int) ≤ 6)) 2 = e3 at *
          refine amc [1000000000] 70 f3 ?_
          conv => whnf
          refine asplit ?_ ?_ <;> intro q3 <;> conv => whnf
          · rw [show (!(e3 == 0)) = true from q3, cond_true] at hR
            subst hR
            exact ⟨.inl rfl, ⟨.inl rfl, trivial⟩, ⟨rfl, rfl⟩, trivial⟩
          replace q3 : (!(e3 == 0)) = false := q3
          rw [q3, cond_false] at hR
          replace hR := hR.symm
          refine loopS (tyOf_ok _) hmix (by kernel_rfl) xs.length [0, 95, 96, 97] [1000000000, 1000000001] (fun j _ => [.ptr 1000000000 0, .p (.sl 4 (ePs xs)), .p (.i .i64 (ePs xs).length), .p (.i .i64 (ix j))]) (fun j x => [.cells [.p (.i .i64 x)], .glob 0 tab]) (fun j x => patFs S G (xs.drop j) x = R) e3 ⟨rfl, rfl, rfl, rfl⟩ hR ?_
          intro j x hj hn
          conv => whnf
          refine asplit ?_ ?_ <;> intro h1 <;> conv => whnf
          · have hj1 := ix_tt h1 (by rw [ePs_len]) hj (by omega)
            obtain ⟨b, hb1⟩ : ∃ b, xs[j]? = some b := ⟨_, List.getElem?_eq_getElem hj1⟩
            rw [drop_cons hb1, patFs] at hn
            refine aidxk (ePs_get hb1) (by omega) ?_
            have c := ih b (List.mem_of_getElem? hb1) x
            unfold hJ at c
            generalize patF S G b x = y at c hn
            obtain ⟨bk, bm, bn, bx⟩ := b
            conv => whnf
            refine amc [1000000000, 1000000001] 70000 c ?_
            conv => whnf
            exact ⟨hj1, y, ⟨rfl, rfl, rfl, rfl⟩, hn⟩
          · have hj1 := ix_ff h1 (by rw [ePs_len]) hj (by omega)
            rw [hj1, List.drop_length, patFs] at hn
            subst hn
            exact ⟨.inl rfl, ⟨.inl rfl, trivial⟩, ⟨rfl, rfl⟩, trivial⟩
    refine asplit ?_ ?_ <;> intro k5 <;> conv => whnf
    · replace hR := fun b => hR (m == 0) b (by rw [k1, k2, k3, k4, k5]; rfl)
      refine asplit ?_ ?_ <;> intro t1 <;> conv => whnf
      · refine asplit ?_ ?_ <;> intro t2 <;> conv => whnf
        · refine amc [1000000000] 60 (form_spec e1 (true)) ?_
          conv => whnf
          replace hR := hR (true) (by rw [show (m == 0) = true from t1, t2]; rfl)
          generalize mustF e1 (true) 3 = e2 at *
          have f3 := few_spec e2 (decide (((ePs xs).length : Int) ≤ 6))
          generalize mustF e2 (decide (((ePs xs).length : Int) ≤ 6)) 2 = e3 at *
          refine amc [1000000000] 70 f3 ?_
          conv => whnf
          refine asplit ?_ ?_ <;> intro q3 <;> conv => whnf
          · rw [show (!(e3 == 0)) = true from q3, cond_true] at hR
            subst hR
            exact ⟨.inl rfl, ⟨.inl rfl, trivial⟩, ⟨rfl, rfl⟩, trivial⟩
          replace q3 : (!(e3 == 0)) = false := q3
          rw [q3, cond_false] at hR
          replace hR := hR.symm
          refine loopS (tyOf_ok _) hmix (by kernel_rfl) xs.length [0, 95, 96, 97] [1000000000, 1000000001] (fun j _ => [.ptr 1000000000 0, .p (.sl 4 (ePs xs)), .p (.i .i64 (ePs xs).length), .p (.i .i64 (ix j))]) (fun j x => [.cells [.p (.i .i64 x)], .glob 0 tab]) (fun j x => patFs S G (xs.drop j) x = R) e3 ⟨rfl, rfl, rfl, rfl⟩ hR ?_
          intro j x hj hn
          conv => whnf
          refine asplit ?_ ?_ <;> intro h1 <;> conv => whnf
          · have hj1 := ix_tt h1 (by rw [ePs_len]) hj (by omega)
            obtain ⟨b, hb1⟩ : ∃ b, xs[j]? = some b := ⟨_, List.getElem?_eq_getElem hj1⟩
            rw [drop_cons hb1, patFs] at hn
            refine aidxk (ePs_get hb1) (by omega) ?_
            have c := ih b (List.mem_of_getElem? hb1) x
            unfold hJ at c
            generalize patF S G b x = y at c hn
            obtain ⟨bk, bm, bn, bx⟩ := b
            conv => whnf
            refine amc [1000000000, 1000000001] 70000 c ?_
            conv => whnf
            exact ⟨hj1, y, ⟨rfl, rfl, rfl, rfl⟩, hn⟩
          · have hj1 := ix_ff h1 (by rw [ePs_len]) hj (by omega)
            rw [hj1, List.drop_length, patFs] at hn
            subst hn
            exact ⟨.inl rfl, ⟨.inl rfl, trivial⟩, ⟨rfl, rfl⟩, trivial⟩
        · refine amc [1000000000] 60 (form_spec e1 (((ePs xs).length : Int) == 0)) ?_
          conv => whnf
          replace hR := hR (((ePs xs).length : Int) == 0) (by rw [show (m == 0) = true from t1, t2]; rfl)
          generalize mustF e1 (((ePs xs).length : Int) == 0) 3 = e2 at *
          have f3 := few_spec e2 (decide (((ePs xs).length : Int) ≤ 6))
          generalize mustF e2 (decide (((ePs xs).length : Int) ≤ 6)) 2 = e3 at *
          refine amc [1000000000] 70 f3 ?_
          conv => whnf
          refine asplit ?_ ?_ <;> intro q3 <;> conv => whnf
          · rw [show (!(e3 == 0)) = true from q3, cond_true] at hR
            subst hR
            exact ⟨.inl rfl, ⟨.inl rfl, trivial⟩, ⟨rfl, rfl⟩, trivial⟩
          replace q3 : (!(e3 == 0)) = false := q3
          rw [q3, cond_false] at hR
          replace hR := hR.symm
          refine loopS (tyOf_ok _) hmix (by kernel_rfl) xs.length [0, 95, 96, 97] [1000000000, 1000000001] (fun j _ => [.ptr 1000000000 0, .p (.sl 4 (ePs xs)), .p (.i .i64 (ePs xs).length), .p (.i .i64 (ix j))]) (fun j x => [.cells [.p (.i .i64 x)], .glob 0 tab]) (fun j x => patFs S G (xs.drop j) x = R) e3 ⟨rfl, rfl, rfl, rfl⟩ hR ?_
          intro j x hj hn
          conv => whnf
          refine asplit ?_ ?_ <;> intro h1 <;> conv => whnf
          · have hj1 := ix_tt h1 (by rw [ePs_len]) hj (by omega)
            obtain ⟨b, hb1⟩ : ∃ b, xs[j]? = some b := ⟨_, List.getElem?_eq_getElem hj1⟩
            rw [drop_cons hb1, patFs] at hn
            refine aidxk (ePs_get hb1) (by omega) ?_
            have c := ih b (List.mem_of_getElem? hb1) x
            unfold hJ at c
            generalize patF S G b x = y at c hn
            obtain ⟨bk, bm, bn, bx⟩ := b
            conv => whnf
            refine amc [1000000000, 1000000001] 70000 c ?_
            conv => whnf
            exact ⟨hj1, y, ⟨rfl, rfl, rfl, rfl⟩, hn⟩
          · have hj1 := ix_ff h1 (by rw [ePs_len]) hj (by omega)
            rw [hj1, List.drop_length, patFs] at hn
            subst hn
            exact ⟨.inl rfl, ⟨.inl rfl, trivial⟩, ⟨rfl, rfl⟩, trivial⟩
      · refine amc [1000000000] 60 (form_spec e1 (false)) ?_
        conv => whnf
        replace hR := hR (false) (by rw [show (m == 0) = false from t1]; rfl)
        generalize mustF e1 (false) 3 = e2 at *
        have f3 := few_spec e2 (decide (((ePs xs).length : Int) ≤ 6))
        generalize mustF e2 (decide (((ePs xs).length : Int) ≤ 6)) 2 = e3 at *
        refine amc [1000000000] 70 f3 ?_
        conv => whnf
        refine asplit ?_ ?_ <;> intro q3 <;> conv => whnf
        · rw [show (!(e3 == 0)) = true from q3, cond_true] at hR
          subst hR
          exact ⟨.inl rfl, ⟨.inl rfl, trivial⟩, ⟨rfl, rfl⟩, trivial⟩
        replace q3 : (!(e3 == 0)) = false := q3
        rw [q3, cond_false] at hR
        replace hR := hR.symm
        refine loopS (tyOf_ok _) hmix (by kernel_rfl) xs.length [0, 95, 96, 97] [1000000000, 1000000001] (fun j _ => [.ptr 1000000000 0, .p (.sl 4 (ePs xs)), .p (.i .i64 (ePs xs).length), .p (.i .i64 (ix j))]) (fun j x => [.cells [.p (.i .i64 x)], .glob 0 tab]) (fun j x => patFs S G (xs.drop j) x = R) e3 ⟨rfl, rfl, rfl, rfl⟩ hR ?_
        intro j x hj hn
        conv => whnf
        refine asplit ?_ ?_ <;> intro h1 <;> conv => whnf
        · have hj1 := ix_tt h1 (by rw [ePs_len]) hj (by omega)
          obtain ⟨b, hb1⟩ : ∃ b, xs[j]? = some b := ⟨_, List.getElem?_eq_getElem hj1⟩
          rw [drop_cons hb1, patFs] at hn
          refine aidxk (ePs_get hb1) (by omega) ?_
          have c := ih b (List.mem_of_getElem? hb1) x
          unfold hJ at c
          generalize patF S G b x = y at c hn
          obtain ⟨bk, bm, bn, bx⟩ := b
          conv => whnf
          refine amc [1000000000, 1000000001] 70000 c ?_
          conv => whnf
          exact ⟨hj1, y, ⟨rfl, rfl, rfl, rfl⟩, hn⟩
        · have hj1 := ix_ff h1 (by rw [ePs_len]) hj (by omega)
          rw [hj1, List.drop_length, patFs] at hn
          subst hn
          exact ⟨.inl rfl, ⟨.inl rfl, trivial⟩, ⟨rfl, rfl⟩, trivial⟩
    refine asplit ?_ ?_ <;> intro k6 <;> conv => whnf
    · refine asplit ?_ ?_ <;> intro g1 <;> conv => whnf
      · refine apc hg ?_
        conv => whnf
        replace hR := fun b => hR (DN) b (by rw [k1, k2, k3, k4, k5, k6, g1]; rfl)
        refine asplit ?_ ?_ <;> intro t1 <;> conv => whnf
        · refine asplit ?_ ?_ <;> intro t2 <;> conv => whnf
          · refine amc [1000000000] 60 (form_spec e1 (true)) ?_
            conv => whnf
            replace hR := hR (true) (by rw [show (DN) = true from t1, t2]; rfl)
            generalize mustF e1 (true) 3 = e2 at *
            have f3 := few_spec e2 (decide (((ePs xs).length : Int) ≤ 6))
            generalize mustF e2 (decide (((ePs xs).length : Int) ≤ 6)) 2 = e3 at *
            refine amc [1000000000] 70 f3 ?_
            conv => whnf
            refine asplit ?_ ?_ <;> intro q3 <;> conv => whnf
            · rw [show (!(e3 == 0)) = true from q3, cond_true] at hR
              subst hR
              exact ⟨.inl rfl, ⟨.inl rfl, trivial⟩, ⟨rfl, rfl⟩, trivial⟩
            replace q3 : (!(e3 == 0)) = false := q3
            rw [q3, cond_false] at hR
            replace hR := hR.symm
            refine loopS (tyOf_ok _) hmix (by kernel_rfl) xs.length [0, 95, 96, 97] [1000000000, 1000000001] (fun j _ => [.ptr 1000000000 0, .p (.sl 4 (ePs xs)), .p (.i .i64 (ePs xs).length), .p (.i .i64 (ix j))]) (fun j x => [.cells [.p (.i .i64 x)], .glob 0 tab]) (fun j x => patFs S G (xs.drop j) x = R) e3 ⟨rfl, rfl, rfl, rfl⟩ hR ?_
            intro j x hj hn
            conv => whnf
            refine asplit ?_ ?_ <;> intro h1 <;> conv => whnf
            · have hj1 := ix_tt h1 (by rw [ePs_len]) hj (by omega)
              obtain ⟨b, hb1⟩ : ∃ b, xs[j]? = some b := ⟨_, List.getElem?_eq_getElem hj1⟩
              rw [drop_cons hb1, patFs] at hn
              refine aidxk (ePs_get hb1) (by omega) ?_
              have c := ih b (List.mem_of_getElem? hb1) x
              unfold hJ at c
              generalize patF S G b x = y at c hn
              obtain ⟨bk, bm, bn, bx⟩ := b
              conv => whnf
              refine amc [1000000000, 1000000001] 70000 c ?_
              conv => whnf
              exact ⟨hj1, y, ⟨rfl, rfl, rfl, rfl⟩, hn⟩
            · have hj1 := ix_ff h1 (by rw [ePs_len]) hj (by omega)
              rw [hj1, List.drop_length, patFs] at hn
              subst hn
              exact ⟨.inl rfl, ⟨.inl rfl, trivial⟩, ⟨rfl, rfl⟩, trivial⟩
          · refine amc [1000000000] 60 (form_spec e1 (((ePs xs).length : Int) == 0)) ?_
            conv => whnf
            replace hR := hR (((ePs xs).length : Int) == 0) (by rw [show (DN) = true from t1, t2]; rfl)
            generalize mustF e1 (((ePs xs).length : Int) == 0) 3 = e2 at *
            have f3 := few_spec e2 (decide (((ePs xs).length : Int) ≤ 6))
            generalize mustF e2 (decide (((ePs xs).length : Int) ≤ 6)) 2 = e3 at *
            refine amc [1000000000] 70 f3 ?_
            conv => whnf
            refine asplit ?_ ?_ <;> intro q3 <;> conv => whnf
            · rw [show (!(e3 == 0)) = true from q3, cond_true] at hR
              subst hR
              exact ⟨.inl rfl, ⟨.inl rfl, trivial⟩, ⟨rfl, rfl⟩, trivial⟩
            replace q3 : (!(e3 == 0)) = false := q3
            rw [q3, cond_false] at hR
            replace hR := hR.symm
            refine loopS (tyOf_ok _) hmix (by kernel_rfl) xs.length [0, 95, 96, 97] [1000000000, 1000000001] (fun j _ => [.ptr 1000000000 0, .p (.sl 4 (ePs xs)), .p (.i .i64 (ePs xs).length), .p (.i .i64 (ix j))]) (fun j x => [.cells [.p (.i .i64 x)], .glob 0 tab]) (fun j x => patFs S G (xs.drop j) x = R) e3 ⟨rfl, rfl, rfl, rfl⟩ hR ?_
            intro j x hj hn
            conv => whnf
            refine asplit ?_ ?_ <;> intro h1 <;> conv => whnf
            · have hj1 := ix_tt h1 (by rw [ePs_len]) hj (by omega)
              obtain ⟨b, hb1⟩ : ∃ b, xs[j]? = some b := ⟨_, List.getElem?_eq_getElem hj1⟩
              rw [drop_cons hb1, patFs] at hn
              refine aidxk (ePs_get hb1) (by omega) ?_
              have c := ih b (List.mem_of_getElem? hb1) x
              unfold hJ at c
              generalize patF S G b x = y at c hn
              obtain ⟨bk, bm, bn, bx⟩ := b
              conv => whnf
              refine amc [1000000000, 1000000001] 70000 c ?_
              conv => whnf
              exact ⟨hj1, y, ⟨rfl, rfl, rfl, rfl⟩, hn⟩
            · have hj1 := ix_ff h1 (by rw [ePs_len]) hj (by omega)
              rw [hj1, List.drop_length, patFs] at hn
              subst hn
              exact ⟨.inl rfl, ⟨.inl rfl, trivial⟩, ⟨rfl, rfl⟩, trivial⟩
        · refine amc [1000000000] 60 (form_spec e1 (false)) ?_
          conv => whnf
          replace hR := hR (false) (by rw [show (DN) = false from t1]; rfl)
          generalize mustF e1 (false) 3 = e2 at *
          have f3 := few_spec e2 (decide (((ePs xs).length : Int) ≤ 6))
          generalize mustF e2 (decide (((ePs xs).length : Int) ≤ 6)) 2 = e3 at *
          refine amc [1000000000] 70 f3 ?_
          conv => whnf
          refine asplit ?_ ?_ <;> intro q3 <;> conv => whnf
          · rw [show (!(e3 == 0)) = true from q3, cond_true] at hR
            subst hR
            exact ⟨.inl rfl, ⟨.inl rfl, trivial⟩, ⟨rfl, rfl⟩, trivial⟩
          replace q3 : (!(e3 == 0)) = false := q3
          rw [q3, cond_false] at hR
          replace hR := hR.symm
          refine loopS (tyOf_ok _) hmix (by kernel_rfl) xs.length [0, 95, 96, 97] [1000000000, 1000000001] (fun j _ => [.ptr 1000000000 0, .p (.sl 4 (ePs xs)), .p (.i .i64 (ePs xs).length), .p (.i .i64 (ix j))]) (fun j x => [.cells [.p (.i .i64 x)], .glob 0 tab]) (fun j x => patFs S G (xs.drop j) x = R) e3 ⟨rfl, rfl, rfl, rfl⟩ hR ?_
          intro j x hj hn
          conv => whnf
          refine asplit ?_ ?_ <;> intro h1 <;> conv => whnf
          · have hj1 := ix_tt h1 (by rw [ePs_len]) hj (by omega)
            obtain ⟨b, hb1⟩ : ∃ b, xs[j]? = some b := ⟨_, List.getElem?_eq_getElem hj1⟩
            rw [drop_cons hb1, patFs] at hn
            refine aidxk (ePs_get hb1) (by omega) ?_
            have c := ih b (List.mem_of_getElem? hb1) x
            unfold hJ at c
            generalize patF S G b x = y at c hn
            obtain ⟨bk, bm, bn, bx⟩ := b
            conv => whnf
            refine amc [1000000000, 1000000001] 70000 c ?_
            conv => whnf
            exact ⟨hj1, y, ⟨rfl, rfl, rfl, rfl⟩, hn⟩
          · have hj1 := ix_ff h1 (by rw [ePs_len]) hj (by omega)
            rw [hj1, List.drop_length, patFs] at hn
            subst hn
            exact ⟨.inl rfl, ⟨.inl rfl, trivial⟩, ⟨rfl, rfl⟩, trivial⟩
      · replace hR := fun b => hR false b (by rw [k1, k2, k3, k4, k5, k6, g1]; rfl)
        refine amc [1000000000] 60 (form_spec e1 (false)) ?_
        conv => whnf
        replace hR := hR (false) rfl
        generalize mustF e1 (false) 3 = e2 at *
        have f3 := few_spec e2 (decide (((ePs xs).length : Int) ≤ 6))
        generalize mustF e2 (decide (((ePs xs).length : Int) ≤ 6)) 2 = e3 at *
        refine amc [1000000000] 70 f3 ?_
        conv => whnf
        refine asplit ?_ ?_ <;> intro q3 <;> conv => whnf
        · rw [show (!(e3 == 0)) = true from q3, cond_true] at hR
          subst hR
          exact ⟨.inl rfl, ⟨.inl rfl, trivial⟩, ⟨rfl, rfl⟩, trivial⟩
        replace q3 : (!(e3 == 0)) = false := q3
        rw [q3, cond_false] at hR
        replace hR := hR.symm
        refine loopS (tyOf_ok _) hmix (by kernel_rfl) xs.length [0, 95, 96, 97] [1000000000, 1000000001] (fun j _ => [.ptr 1000000000 0, .p (.sl 4 (ePs xs)), .p (.i .i64 (ePs xs).length), .p (.i .i64 (ix j))]) (fun j x => [.cells [.p (.i .i64 x)], .glob 0 tab]) (fun j x => patFs S G (xs.drop j) x = R) e3 ⟨rfl, rfl, rfl, rfl⟩ hR ?_
        intro j x hj hn
        conv => whnf
        refine asplit ?_ ?_ <;> intro h1 <;> conv => whnf
        · have hj1 := ix_tt h1 (by rw [ePs_len]) hj (by omega)
          obtain ⟨b, hb1⟩ : ∃ b, xs[j]? = some b := ⟨_, List.getElem?_eq_getElem hj1⟩
          rw [drop_cons hb1, patFs] at hn
          refine aidxk (ePs_get hb1) (by omega) ?_
          have c := ih b (List.mem_of_getElem? hb1) x
          unfold hJ at c
          generalize patF S G b x = y at c hn
          obtain ⟨bk, bm, bn, bx⟩ := b
          conv => whnf
          refine amc [1000000000, 1000000001] 70000 c ?_
          conv => whnf
          exact ⟨hj1, y, ⟨rfl, rfl, rfl, rfl⟩, hn⟩
        · have hj1 := ix_ff h1 (by rw [ePs_len]) hj (by omega)
          rw [hj1, List.drop_length, patFs] at hn
          subst hn
          exact ⟨.inl rfl, ⟨.inl rfl, trivial⟩, ⟨rfl, rfl⟩, trivial⟩
    · replace hR := fun b => hR false b (by rw [k1, k2, k3, k4, k5, k6]; rfl)
      refine amc [1000000000] 60 (form_spec e1 (false)) ?_
      conv => whnf
      replace hR := hR (false) rfl
      generalize mustF e1 (false) 3 = e2 at *
      have f3 := few_spec e2 (decide (((ePs xs).length : Int) ≤ 6))
      generalize mustF e2 (decide (((ePs xs).length : Int) ≤ 6)) 2 = e3 at *
      refine amc [1000000000] 70 f3 ?_
      conv => whnf
      refine asplit ?_ ?_ <;> intro q3 <;> conv => whnf
      · rw [show (!(e3 == 0)) = true from q3, cond_true] at hR
        subst hR
        exact ⟨.inl rfl, ⟨.inl rfl, trivial⟩, ⟨rfl, rfl⟩, trivial⟩
      replace q3 : (!(e3 == 0)) = false := q3
      rw [q3, cond_false] at hR
      replace hR := hR.symm
      refine loopS (tyOf_ok _) hmix (by kernel_rfl) xs.length [0, 95, 96, 97] [1000000000, 1000000001] (fun j _ => [.ptr 1000000000 0, .p (.sl 4 (ePs xs)), .p (.i .i64 (ePs xs).length), .p (.i .i64 (ix j))]) (fun j x => [.cells [.p (.i .i64 x)], .glob 0 tab]) (fun j x => patFs S G (xs.drop j) x = R) e3 ⟨rfl, rfl, rfl, rfl⟩ hR ?_
      intro j x hj hn
      conv => whnf
      refine asplit ?_ ?_ <;> intro h1 <;> conv => whnf
      · have hj1 := ix_tt h1 (by rw [ePs_len]) hj (by omega)
        obtain ⟨b, hb1⟩ : ∃ b, xs[j]? = some b := ⟨_, List.getElem?_eq_getElem hj1⟩
        rw [drop_cons hb1, patFs] at hn
        refine aidxk (ePs_get hb1) (by omega) ?_
        have c := ih b (List.mem_of_getElem? hb1) x
        unfold hJ at c
        generalize patF S G b x = y at c hn
        obtain ⟨bk, bm, bn, bx⟩ := b
        conv => whnf
        refine amc [1000000000, 1000000001] 70000 c ?_
        conv => whnf
        exact ⟨hj1, y, ⟨rfl, rfl, rfl, rfl⟩, hn⟩
      · have hj1 := ix_ff h1 (by rw [ePs_len]) hj (by omega)
        rw [hj1, List.drop_length, patFs] at hn
        subst hn
        exact ⟨.inl rfl, ⟨.inl rfl, trivial⟩, ⟨rfl, rfl⟩, trivial⟩
  · refine amc [1000000000] 50 (few_spec e (decide ((n.size : Int) ≤ 64))) ?_
    conv => whnf
    replace hR := fun c b => hR (decide ((n.size : Int) ≤ 64)) c b (by rw [g0]; rfl)
    generalize mustF e (decide ((n.size : Int) ≤ 64)) 2 = e1 at *
    refine asplit ?_ ?_ <;> intro k1 <;> conv => whnf
    · refine asplit ?_ ?_ <;> intro g1 <;> conv => whnf
      · replace hR := fun b => hR (n.toList == ByteArray.toList ⟨#[]⟩) b (by rw [k1, g1]; rfl)
        refine asplit ?_ ?_ <;> intro t1 <;> conv => whnf
        · refine asplit ?_ ?_ <;> intro t2 <;> conv => whnf
          · refine amc [1000000000] 60 (form_spec e1 (true)) ?_
            conv => whnf
            replace hR := hR (true) (by rw [show (n.toList == ByteArray.toList ⟨#[]⟩) = true from t1, t2]; rfl)
            generalize mustF e1 (true) 3 = e2 at *
            have f3 := few_spec e2 (decide (((ePs xs).length : Int) ≤ 6))
            generalize mustF e2 (decide (((ePs xs).length : Int) ≤ 6)) 2 = e3 at *
            refine amc [1000000000] 70 f3 ?_
            conv => whnf
            refine asplit ?_ ?_ <;> intro q3 <;> conv => whnf
            · rw [show (!(e3 == 0)) = true from q3, cond_true] at hR
              subst hR
              exact ⟨.inl rfl, ⟨.inl rfl, trivial⟩, ⟨rfl, rfl⟩, trivial⟩
            replace q3 : (!(e3 == 0)) = false := q3
            rw [q3, cond_false] at hR
            replace hR := hR.symm
            refine loopS (tyOf_ok _) hmix (by kernel_rfl) xs.length [0, 95, 96, 97] [1000000000, 1000000001] (fun j _ => [.ptr 1000000000 0, .p (.sl 4 (ePs xs)), .p (.i .i64 (ePs xs).length), .p (.i .i64 (ix j))]) (fun j x => [.cells [.p (.i .i64 x)], .glob 0 tab]) (fun j x => patFs S G (xs.drop j) x = R) e3 ⟨rfl, rfl, rfl, rfl⟩ hR ?_
            intro j x hj hn
            conv => whnf
            refine asplit ?_ ?_ <;> intro h1 <;> conv => whnf
            · have hj1 := ix_tt h1 (by rw [ePs_len]) hj (by omega)
              obtain ⟨b, hb1⟩ : ∃ b, xs[j]? = some b := ⟨_, List.getElem?_eq_getElem hj1⟩
              rw [drop_cons hb1, patFs] at hn
              refine aidxk (ePs_get hb1) (by omega) ?_
              have c := ih b (List.mem_of_getElem? hb1) x
              unfold hJ at c
              generalize patF S G b x = y at c hn
              obtain ⟨bk, bm, bn, bx⟩ := b
              conv => whnf
              refine amc [1000000000, 1000000001] 70000 c ?_
              conv => whnf
              exact ⟨hj1, y, ⟨rfl, rfl, rfl, rfl⟩, hn⟩
            · have hj1 := ix_ff h1 (by rw [ePs_len]) hj (by omega)
              rw [hj1, List.drop_length, patFs] at hn
              subst hn
              exact ⟨.inl rfl, ⟨.inl rfl, trivial⟩, ⟨rfl, rfl⟩, trivial⟩
          · refine amc [1000000000] 60 (form_spec e1 (((ePs xs).length : Int) == 0)) ?_
            conv => whnf
            replace hR := hR (((ePs xs).length : Int) == 0) (by rw [show (n.toList == ByteArray.toList ⟨#[]⟩) = true from t1, t2]; rfl)
            generalize mustF e1 (((ePs xs).length : Int) == 0) 3 = e2 at *
            have f3 := few_spec e2 (decide (((ePs xs).length : Int) ≤ 6))
            generalize mustF e2 (decide (((ePs xs).length : Int) ≤ 6)) 2 = e3 at *
            refine amc [1000000000] 70 f3 ?_
            conv => whnf
            refine asplit ?_ ?_ <;> intro q3 <;> conv => whnf
            · rw [show (!(e3 == 0)) = true from q3, cond_true] at hR
              subst hR
              exact ⟨.inl rfl, ⟨.inl rfl, trivial⟩, ⟨rfl, rfl⟩, trivial⟩
            replace q3 : (!(e3 == 0)) = false := q3
            rw [q3, cond_false] at hR
            replace hR := hR.symm
            refine loopS (tyOf_ok _) hmix (by kernel_rfl) xs.length [0, 95, 96, 97] [1000000000, 1000000001] (fun j _ => [.ptr 1000000000 0, .p (.sl 4 (ePs xs)), .p (.i .i64 (ePs xs).length), .p (.i .i64 (ix j))]) (fun j x => [.cells [.p (.i .i64 x)], .glob 0 tab]) (fun j x => patFs S G (xs.drop j) x = R) e3 ⟨rfl, rfl, rfl, rfl⟩ hR ?_
            intro j x hj hn
            conv => whnf
            refine asplit ?_ ?_ <;> intro h1 <;> conv => whnf
            · have hj1 := ix_tt h1 (by rw [ePs_len]) hj (by omega)
              obtain ⟨b, hb1⟩ : ∃ b, xs[j]? = some b := ⟨_, List.getElem?_eq_getElem hj1⟩
              rw [drop_cons hb1, patFs] at hn
              refine aidxk (ePs_get hb1) (by omega) ?_
              have c := ih b (List.mem_of_getElem? hb1) x
              unfold hJ at c
              generalize patF S G b x = y at c hn
              obtain ⟨bk, bm, bn, bx⟩ := b
              conv => whnf
              refine amc [1000000000, 1000000001] 70000 c ?_
              conv => whnf
              exact ⟨hj1, y, ⟨rfl, rfl, rfl, rfl⟩, hn⟩
            · have hj1 := ix_ff h1 (by rw [ePs_len]) hj (by omega)
              rw [hj1, List.drop_length, patFs] at hn
              subst hn
              exact ⟨.inl rfl, ⟨.inl rfl, trivial⟩, ⟨rfl, rfl⟩, trivial⟩
        · refine amc [1000000000] 60 (form_spec e1 (false)) ?_
          conv => whnf
          replace hR := hR (false) (by rw [show (n.toList == ByteArray.toList ⟨#[]⟩) = false from t1]; rfl)
          generalize mustF e1 (false) 3 = e2 at *
          have f3 := few_spec e2 (decide (((ePs xs).length : Int) ≤ 6))
          generalize mustF e2 (decide (((ePs xs).length : Int) ≤ 6)) 2 = e3 at *
          refine amc [1000000000] 70 f3 ?_
          conv => whnf
          refine asplit ?_ ?_ <;> intro q3 <;> conv => whnf
          · rw [show (!(e3 == 0)) = true from q3, cond_true] at hR
            subst hR
            exact ⟨.inl rfl, ⟨.inl rfl, trivial⟩, ⟨rfl, rfl⟩, trivial⟩
          replace q3 : (!(e3 == 0)) = false := q3
          rw [q3, cond_false] at hR
          replace hR := hR.symm
          refine loopS (tyOf_ok _) hmix (by kernel_rfl) xs.length [0, 95, 96, 97] [1000000000, 1000000001] (fun j _ => [.ptr 1000000000 0, .p (.sl 4 (ePs xs)), .p (.i .i64 (ePs xs).length), .p (.i .i64 (ix j))]) (fun j x => [.cells [.p (.i .i64 x)], .glob 0 tab]) (fun j x => patFs S G (xs.drop j) x = R) e3 ⟨rfl, rfl, rfl, rfl⟩ hR ?_
          intro j x hj hn
          conv => whnf
          refine asplit ?_ ?_ <;> intro h1 <;> conv => whnf
          · have hj1 := ix_tt h1 (by rw [ePs_len]) hj (by omega)
            obtain ⟨b, hb1⟩ : ∃ b, xs[j]? = some b := ⟨_, List.getElem?_eq_getElem hj1⟩
            rw [drop_cons hb1, patFs] at hn
            refine aidxk (ePs_get hb1) (by omega) ?_
            have c := ih b (List.mem_of_getElem? hb1) x
            unfold hJ at c
            generalize patF S G b x = y at c hn
            obtain ⟨bk, bm, bn, bx⟩ := b
            conv => whnf
            refine amc [1000000000, 1000000001] 70000 c ?_
            conv => whnf
            exact ⟨hj1, y, ⟨rfl, rfl, rfl, rfl⟩, hn⟩
          · have hj1 := ix_ff h1 (by rw [ePs_len]) hj (by omega)
            rw [hj1, List.drop_length, patFs] at hn
            subst hn
            exact ⟨.inl rfl, ⟨.inl rfl, trivial⟩, ⟨rfl, rfl⟩, trivial⟩
      · replace hR := fun b => hR false b (by rw [k1, g1]; rfl)
        refine amc [1000000000] 60 (form_spec e1 (false)) ?_
        conv => whnf
        replace hR := hR (false) rfl
        generalize mustF e1 (false) 3 = e2 at *
        have f3 := few_spec e2 (decide (((ePs xs).length : Int) ≤ 6))
        generalize mustF e2 (decide (((ePs xs).length : Int) ≤ 6)) 2 = e3 at *
        refine amc [1000000000] 70 f3 ?_
        conv => whnf
        refine asplit ?_ ?_ <;> intro q3 <;> conv => whnf
        · rw [show (!(e3 == 0)) = true from q3, cond_true] at hR
          subst hR
          exact ⟨.inl rfl, ⟨.inl rfl, trivial⟩, ⟨rfl, rfl⟩, trivial⟩
        replace q3 : (!(e3 == 0)) = false := q3
        rw [q3, cond_false] at hR
        replace hR := hR.symm
        refine loopS (tyOf_ok _) hmix (by kernel_rfl) xs.length [0, 95, 96, 97] [1000000000, 1000000001] (fun j _ => [.ptr 1000000000 0, .p (.sl 4 (ePs xs)), .p (.i .i64 (ePs xs).length), .p (.i .i64 (ix j))]) (fun j x => [.cells [.p (.i .i64 x)], .glob 0 tab]) (fun j x => patFs S G (xs.drop j) x = R) e3 ⟨rfl, rfl, rfl, rfl⟩ hR ?_
        intro j x hj hn
        conv => whnf
        refine asplit ?_ ?_ <;> intro h1 <;> conv => whnf
        · have hj1 := ix_tt h1 (by rw [ePs_len]) hj (by omega)
          obtain ⟨b, hb1⟩ : ∃ b, xs[j]? = some b := ⟨_, List.getElem?_eq_getElem hj1⟩
          rw [drop_cons hb1, patFs] at hn
          refine aidxk (ePs_get hb1) (by omega) ?_
          have c := ih b (List.mem_of_getElem? hb1) x
          unfold hJ at c
          generalize patF S G b x = y at c hn
          obtain ⟨bk, bm, bn, bx⟩ := b
          conv => whnf
          refine amc [1000000000, 1000000001] 70000 c ?_
          conv => whnf
          exact ⟨hj1, y, ⟨rfl, rfl, rfl, rfl⟩, hn⟩
        · have hj1 := ix_ff h1 (by rw [ePs_len]) hj (by omega)
          rw [hj1, List.drop_length, patFs] at hn
          subst hn
          exact ⟨.inl rfl, ⟨.inl rfl, trivial⟩, ⟨rfl, rfl⟩, trivial⟩
    refine asplit ?_ ?_ <;> intro k2 <;> conv => whnf
    · refine asplit ?_ ?_ <;> intro g1 <;> conv => whnf
      · refine amc [1000000001] 80 hs ?_
        conv => whnf
        replace hR := fun b => hR (SN) b (by rw [k1, k2, g1]; rfl)
        refine asplit ?_ ?_ <;> intro t1 <;> conv => whnf
        · refine asplit ?_ ?_ <;> intro t2 <;> conv => whnf
          · refine amc [1000000000] 60 (form_spec e1 (true)) ?_
            conv => whnf
            replace hR := hR (true) (by rw [show (SN) = true from t1, t2]; rfl)
            generalize mustF e1 (true) 3 = e2 at *
            have f3 := few_spec e2 (decide (((ePs xs).length : Int) ≤ 6))
            generalize mustF e2 (decide (((ePs xs).length : Int) ≤ 6)) 2 = e3 at *
            refine amc [1000000000] 70 f3 ?_
            conv => whnf
            refine asplit ?_ ?_ <;> intro q3 <;> conv => whnf
            · rw [show (!(e3 == 0)) = true from q3, cond_true] at hR
              subst hR
              exact ⟨.inl rfl, ⟨.inl rfl, trivial⟩, ⟨rfl, rfl⟩, trivial⟩
            replace q3 : (!(e3 == 0)) = false := q3
            rw [q3, cond_false] at hR
            replace hR := hR.symm
            refine loopS (tyOf_ok _) hmix (by kernel_rfl) xs.length [0, 95, 96, 97] [1000000000, 1000000001] (fun j _ => [.ptr 1000000000 0, .p (.sl 4 (ePs xs)), .p (.i .i64 (ePs xs).length), .p (.i .i64 (ix j))]) (fun j x => [.cells [.p (.i .i64 x)], .glob 0 tab]) (fun j x => patFs S G (xs.drop j) x = R) e3 ⟨rfl, rfl, rfl, rfl⟩ hR ?_
            intro j x hj hn
            conv => whnf
            refine asplit ?_ ?_ <;> intro h1 <;> conv => whnf
            · have hj1 := ix_tt h1 (by rw [ePs_len]) hj (by omega)
              obtain ⟨b, hb1⟩ : ∃ b, xs[j]? = some b := ⟨_, List.getElem?_eq_getElem hj1⟩
              rw [drop_cons hb1, patFs] at hn
              refine aidxk (ePs_get hb1) (by omega) ?_
              have c := ih b (List.mem_of_getElem? hb1) x
              unfold hJ at c
              generalize patF S G b x = y at c hn
              obtain ⟨bk, bm, bn, bx⟩ := b
              conv => whnf
              refine amc [1000000000, 1000000001] 70000 c ?_
              conv => whnf
              exact ⟨hj1, y, ⟨rfl, rfl, rfl, rfl⟩, hn⟩
            · have hj1 := ix_ff h1 (by rw [ePs_len]) hj (by omega)
              rw [hj1, List.drop_length, patFs] at hn
              subst hn
              exact ⟨.inl rfl, ⟨.inl rfl, trivial⟩, ⟨rfl, rfl⟩, trivial⟩
          · refine amc [1000000000] 60 (form_spec e1 (((ePs xs).length : Int) == 0)) ?_
            conv => whnf
            replace hR := hR (((ePs xs).length : Int) == 0) (by rw [show (SN) = true from t1, t2]; rfl)
            generalize mustF e1 (((ePs xs).length : Int) == 0) 3 = e2 at *
            have f3 := few_spec e2 (decide (((ePs xs).length : Int) ≤ 6))
            generalize mustF e2 (decide (((ePs xs).length : Int) ≤ 6)) 2 = e3 at *
            refine amc [1000000000] 70 f3 ?_
            conv => whnf
            refine asplit ?_ ?_ <;> intro q3 <;> conv => whnf
            · rw [show (!(e3 == 0)) = true from q3, cond_true] at hR
              subst hR
              exact ⟨.inl rfl, ⟨.inl rfl, trivial⟩, ⟨rfl, rfl⟩, trivial⟩
            replace q3 : (!(e3 == 0)) = false := q3
            rw [q3, cond_false] at hR
            replace hR := hR.symm
            refine loopS (tyOf_ok _) hmix (by kernel_rfl) xs.length [0, 95, 96, 97] [1000000000, 1000000001] (fun j _ => [.ptr 1000000000 0, .p (.sl 4 (ePs xs)), .p (.i .i64 (ePs xs).length), .p (.i .i64 (ix j))]) (fun j x => [.cells [.p (.i .i64 x)], .glob 0 tab]) (fun j x => patFs S G (xs.drop j) x = R) e3 ⟨rfl, rfl, rfl, rfl⟩ hR ?_
            intro j x hj hn
            conv => whnf
            refine asplit ?_ ?_ <;> intro h1 <;> conv => whnf
            · have hj1 := ix_tt h1 (by rw [ePs_len]) hj (by omega)
              obtain ⟨b, hb1⟩ : ∃ b, xs[j]? = some b := ⟨_, List.getElem?_eq_getElem hj1⟩
              rw [drop_cons hb1, patFs] at hn
              refine aidxk (ePs_get hb1) (by omega) ?_
              have c := ih b (List.mem_of_getElem? hb1) x
              unfold hJ at c
              generalize patF S G b x = y at c hn
              obtain ⟨bk, bm, bn, bx⟩ := b
              conv => whnf
              refine amc [1000000000, 1000000001] 70000 c ?_
              conv => whnf
              exact ⟨hj1, y, ⟨rfl, rfl, rfl, rfl⟩, hn⟩
            · have hj1 := ix_ff h1 (by rw [ePs_len]) hj (by omega)
              rw [hj1, List.drop_length, patFs] at hn
              subst hn
              exact ⟨.inl rfl, ⟨.inl rfl, trivial⟩, ⟨rfl, rfl⟩, trivial⟩
        · refine amc [1000000000] 60 (form_spec e1 (false)) ?_
          conv => whnf
          replace hR := hR (false) (by rw [show (SN) = false from t1]; rfl)
          generalize mustF e1 (false) 3 = e2 at *
          have f3 := few_spec e2 (decide (((ePs xs).length : Int) ≤ 6))
          generalize mustF e2 (decide (((ePs xs).length : Int) ≤ 6)) 2 = e3 at *
          refine amc [1000000000] 70 f3 ?_
          conv => whnf
          refine asplit ?_ ?_ <;> intro q3 <;> conv => whnf
          · rw [show (!(e3 == 0)) = true from q3, cond_true] at hR
            subst hR
            exact ⟨.inl rfl, ⟨.inl rfl, trivial⟩, ⟨rfl, rfl⟩, trivial⟩
          replace q3 : (!(e3 == 0)) = false := q3
          rw [q3, cond_false] at hR
          replace hR := hR.symm
          refine loopS (tyOf_ok _) hmix (by kernel_rfl) xs.length [0, 95, 96, 97] [1000000000, 1000000001] (fun j _ => [.ptr 1000000000 0, .p (.sl 4 (ePs xs)), .p (.i .i64 (ePs xs).length), .p (.i .i64 (ix j))]) (fun j x => [.cells [.p (.i .i64 x)], .glob 0 tab]) (fun j x => patFs S G (xs.drop j) x = R) e3 ⟨rfl, rfl, rfl, rfl⟩ hR ?_
          intro j x hj hn
          conv => whnf
          refine asplit ?_ ?_ <;> intro h1 <;> conv => whnf
          · have hj1 := ix_tt h1 (by rw [ePs_len]) hj (by omega)
            obtain ⟨b, hb1⟩ : ∃ b, xs[j]? = some b := ⟨_, List.getElem?_eq_getElem hj1⟩
            rw [drop_cons hb1, patFs] at hn
            refine aidxk (ePs_get hb1) (by omega) ?_
            have c := ih b (List.mem_of_getElem? hb1) x
            unfold hJ at c
            generalize patF S G b x = y at c hn
            obtain ⟨bk, bm, bn, bx⟩ := b
            conv => whnf
            refine amc [1000000000, 1000000001] 70000 c ?_
            conv => whnf
            exact ⟨hj1, y, ⟨rfl, rfl, rfl, rfl⟩, hn⟩
          · have hj1 := ix_ff h1 (by rw [ePs_len]) hj (by omega)
            rw [hj1, List.drop_length, patFs] at hn
            subst hn
            exact ⟨.inl rfl, ⟨.inl rfl, trivial⟩, ⟨rfl, rfl⟩, trivial⟩
      · replace hR := fun b => hR false b (by rw [k1, k2, g1]; rfl)
        refine amc [1000000000] 60 (form_spec e1 (false)) ?_
        conv => whnf
        replace hR := hR (false) rfl
        generalize mustF e1 (false) 3 = e2 at *
        have f3 := few_spec e2 (decide (((ePs xs).length : Int) ≤ 6))
        generalize mustF e2 (decide (((ePs xs).length : Int) ≤ 6)) 2 = e3 at *
        refine amc [1000000000] 70 f3 ?_
        conv => whnf
        refine asplit ?_ ?_ <;> intro q3 <;> conv => whnf
        · rw [show (!(e3 == 0)) = true from q3, cond_true] at hR
          subst hR
          exact ⟨.inl rfl, ⟨.inl rfl, trivial⟩, ⟨rfl, rfl⟩, trivial⟩
        replace q3 : (!(e3 == 0)) = false := q3
        rw [q3, cond_false] at hR
        replace hR := hR.symm
        refine loopS (tyOf_ok _) hmix (by kernel_rfl) xs.length [0, 95, 96, 97] [1000000000, 1000000001] (fun j _ => [.ptr 1000000000 0, .p (.sl 4 (ePs xs)), .p (.i .i64 (ePs xs).length), .p (.i .i64 (ix j))]) (fun j x => [.cells [.p (.i .i64 x)], .glob 0 tab]) (fun j x => patFs S G (xs.drop j) x = R) e3 ⟨rfl, rfl, rfl, rfl⟩ hR ?_
        intro j x hj hn
        conv => whnf
        refine asplit ?_ ?_ <;> intro h1 <;> conv => whnf
        · have hj1 := ix_tt h1 (by rw [ePs_len]) hj (by omega)
          obtain ⟨b, hb1⟩ : ∃ b, xs[j]? = some b := ⟨_, List.getElem?_eq_getElem hj1⟩
          rw [drop_cons hb1, patFs] at hn
          refine aidxk (ePs_get hb1) (by omega) ?_
          have c := ih b (List.mem_of_getElem? hb1) x
          unfold hJ at c
          generalize patF S G b x = y at c hn
          obtain ⟨bk, bm, bn, bx⟩ := b
          conv => whnf
          refine amc [1000000000, 1000000001] 70000 c ?_
          conv => whnf
          exact ⟨hj1, y, ⟨rfl, rfl, rfl, rfl⟩, hn⟩
        · have hj1 := ix_ff h1 (by rw [ePs_len]) hj (by omega)
          rw [hj1, List.drop_length, patFs] at hn
          subst hn
          exact ⟨.inl rfl, ⟨.inl rfl, trivial⟩, ⟨rfl, rfl⟩, trivial⟩
    refine asplit ?_ ?_ <;> intro k3 <;> conv => whnf
    · replace hR := fun b => hR (n.toList == ByteArray.toList ⟨#[]⟩) b (by rw [k1, k2, k3]; rfl)
      refine asplit ?_ ?_ <;> intro t1 <;> conv => whnf
      · refine asplit ?_ ?_ <;> intro t2 <;> conv => whnf
        · refine amc [1000000000] 60 (form_spec e1 (true)) ?_
          conv => whnf
          replace hR := hR (true) (by rw [show (n.toList == ByteArray.toList ⟨#[]⟩) = true from t1, t2]; rfl)
          generalize mustF e1 (true) 3 = e2 at *
          have f3 := few_spec e2 (decide (((ePs xs).length : Int) ≤ 6))
          generalize mustF e2 (decide (((ePs xs).length : Int) ≤ 6)) 2 = e3 at *
          refine amc [1000000000] 70 f3 ?_
          conv => whnf
          refine asplit ?_ ?_ <;> intro q3 <;> conv => whnf
          · rw [show (!(e3 == 0)) = true from q3, cond_true] at hR
            subst hR
            exact ⟨.inl rfl, ⟨.inl rfl, trivial⟩, ⟨rfl, rfl⟩, trivial⟩
          replace q3 : (!(e3 == 0)) = false := q3
          rw [q3, cond_false] at hR
          replace hR := hR.symm
          refine loopS (tyOf_ok _) hmix (by kernel_rfl) xs.length [0, 95, 96, 97] [1000000000, 1000000001] (fun j _ => [.ptr 1000000000 0, .p (.sl 4 (ePs xs)), .p (.i .i64 (ePs xs).length), .p (.i .i64 (ix j))]) (fun j x => [.cells [.p (.i .i64 x)], .glob 0 tab]) (fun j x => patFs S G (xs.drop j) x = R) e3 ⟨rfl, rfl, rfl, rfl⟩ hR ?_
          intro j x hj hn
          conv => whnf
          refine asplit ?_ ?_ <;> intro h1 <;> conv => whnf
          · have hj1 := ix_tt h1 (by rw [ePs_len]) hj (by omega)
            obtain ⟨b, hb1⟩ : ∃ b, xs[j]? = some b := ⟨_, List.getElem?_eq_getElem hj1⟩
            rw [drop_cons hb1, patFs] at hn
            refine aidxk (ePs_get hb1) (by omega) ?_
            have c := ih b (List.mem_of_getElem? hb1) x
            unfold hJ at c
            generalize patF S G b x = y at c hn
            obtain ⟨bk, bm, bn, bx⟩ := b
            conv => whnf
            refine amc [1000000000, 1000000001] 70000 c ?_
            conv => whnf
            exact ⟨hj1, y, ⟨rfl, rfl, rfl, rfl⟩, hn⟩
          · have hj1 := ix_ff h1 (by rw [ePs_len]) hj (by omega)
            rw [hj1, List.drop_length, patFs] at hn
            subst hn
            exact ⟨.inl rfl, ⟨.inl rfl, trivial⟩, ⟨rfl, rfl⟩, trivial⟩
        · refine amc [1000000000] 60 (form_spec e1 (((ePs xs).length : Int) == 0)) ?_
          conv => whnf
          replace hR := hR (((ePs xs).length : Int) == 0) (by rw [show (n.toList == ByteArray.toList ⟨#[]⟩) = true from t1, t2]; rfl)
          generalize mustF e1 (((ePs xs).length : Int) == 0) 3 = e2 at *
          have f3 := few_spec e2 (decide (((ePs xs).length : Int) ≤ 6))
          generalize mustF e2 (decide (((ePs xs).length : Int) ≤ 6)) 2 = e3 at *
          refine amc [1000000000] 70 f3 ?_
          conv => whnf
          refine asplit ?_ ?_ <;> intro q3 <;> conv => whnf
          · rw [show (!(e3 == 0)) = true from q3, cond_true] at hR
            subst hR
            exact ⟨.inl rfl, ⟨.inl rfl, trivial⟩, ⟨rfl, rfl⟩, trivial⟩
          replace q3 : (!(e3 == 0)) = false := q3
          rw [q3, cond_false] at hR
          replace hR := hR.symm
          refine loopS (tyOf_ok _) hmix (by kernel_rfl) xs.length [0, 95, 96, 97] [1000000000, 1000000001] (fun j _ => [.ptr 1000000000 0, .p (.sl 4 (ePs xs)), .p (.i .i64 (ePs xs).length), .p (.i .i64 (ix j))]) (fun j x => [.cells [.p (.i .i64 x)], .glob 0 tab]) (fun j x => patFs S G (xs.drop j) x = R) e3 ⟨rfl, rfl, rfl, rfl⟩ hR ?_
          intro j x hj hn
          conv => whnf
          refine asplit ?_ ?_ <;> intro h1 <;> conv => whnf
          · have hj1 := ix_tt h1 (by rw [ePs_len]) hj (by omega)
            obtain ⟨b, hb1⟩ : ∃ b, xs[j]? = some b := ⟨_, List.getElem?_eq_getElem hj1⟩
            rw [drop_cons hb1, patFs] at hn
            refine aidxk (ePs_get hb1) (by omega) ?_
            have c := ih b (List.mem_of_getElem? hb1) x
            unfold hJ at c
            generalize patF S G b x = y at c hn
            obtain ⟨bk, bm, bn, bx⟩ := b
            conv => whnf
            refine amc [1000000000, 1000000001] 70000 c ?_
            conv => whnf
            exact ⟨hj1, y, ⟨rfl, rfl, rfl, rfl⟩, hn⟩
          · have hj1 := ix_ff h1 (by rw [ePs_len]) hj (by omega)
            rw [hj1, List.drop_length, patFs] at hn
            subst hn
            exact ⟨.inl rfl, ⟨.inl rfl, trivial⟩, ⟨rfl, rfl⟩, trivial⟩
      · refine amc [1000000000] 60 (form_spec e1 (false)) ?_
        conv => whnf
        replace hR := hR (false) (by rw [show (n.toList == ByteArray.toList ⟨#[]⟩) = false from t1]; rfl)
        generalize mustF e1 (false) 3 = e2 at *
        have f3 := few_spec e2 (decide (((ePs xs).length : Int) ≤ 6))
        generalize mustF e2 (decide (((ePs xs).length : Int) ≤ 6)) 2 = e3 at *
        refine amc [1000000000] 70 f3 ?_
        conv => whnf
        refine asplit ?_ ?_ <;> intro q3 <;> conv => whnf
        · rw [show (!(e3 == 0)) = true from q3, cond_true] at hR
          subst hR
          exact ⟨.inl rfl, ⟨.inl rfl, trivial⟩, ⟨rfl, rfl⟩, trivial⟩
        replace q3 : (!(e3 == 0)) = false := q3
        rw [q3, cond_false] at hR
        replace hR := hR.symm
        refine loopS (tyOf_ok _) hmix (by kernel_rfl) xs.length [0, 95, 96, 97] [1000000000, 1000000001] (fun j _ => [.ptr 1000000000 0, .p (.sl 4 (ePs xs)), .p (.i .i64 (ePs xs).length), .p (.i .i64 (ix j))]) (fun j x => [.cells [.p (.i .i64 x)], .glob 0 tab]) (fun j x => patFs S G (xs.drop j) x = R) e3 ⟨rfl, rfl, rfl, rfl⟩ hR ?_
        intro j x hj hn
        conv => whnf
        refine asplit ?_ ?_ <;> intro h1 <;> conv => whnf
        · have hj1 := ix_tt h1 (by rw [ePs_len]) hj (by omega)
          obtain ⟨b, hb1⟩ : ∃ b, xs[j]? = some b := ⟨_, List.getElem?_eq_getElem hj1⟩
          rw [drop_cons hb1, patFs] at hn
          refine aidxk (ePs_get hb1) (by omega) ?_
          have c := ih b (List.mem_of_getElem? hb1) x
          unfold hJ at c
          generalize patF S G b x = y at c hn
          obtain ⟨bk, bm, bn, bx⟩ := b
          conv => whnf
          refine amc [1000000000, 1000000001] 70000 c ?_
          conv => whnf
          exact ⟨hj1, y, ⟨rfl, rfl, rfl, rfl⟩, hn⟩
        · have hj1 := ix_ff h1 (by rw [ePs_len]) hj (by omega)
          rw [hj1, List.drop_length, patFs] at hn
          subst hn
          exact ⟨.inl rfl, ⟨.inl rfl, trivial⟩, ⟨rfl, rfl⟩, trivial⟩
    refine asplit ?_ ?_ <;> intro k4 <;> conv => whnf
    · refine asplit ?_ ?_ <;> intro g1 <;> conv => whnf
      · replace hR := fun b => hR (n.toList == ByteArray.toList ⟨#[]⟩) b (by rw [k1, k2, k3, k4, g1]; rfl)
        refine asplit ?_ ?_ <;> intro t1 <;> conv => whnf
        · refine asplit ?_ ?_ <;> intro t2 <;> conv => whnf
          · refine amc [1000000000] 60 (form_spec e1 (true)) ?_
            conv => whnf
            replace hR := hR (true) (by rw [show (n.toList == ByteArray.toList ⟨#[]⟩) = true from t1, t2]; rfl)
            generalize mustF e1 (true) 3 = e2 at *
            have f3 := few_spec e2 (decide (((ePs xs).length : Int) ≤ 6))
            generalize mustF e2 (decide (((ePs xs).length : Int) ≤ 6)) 2 = e3 at *
            refine amc [1000000000] 70 f3 ?_
            conv => whnf
            refine asplit ?_ ?_ <;> intro q3 <;> conv => whnf
            · rw [show (!(e3 == 0)) = true from q3, cond_true] at hR
              subst hR
              exact ⟨.inl rfl, ⟨.inl rfl, trivial⟩, ⟨rfl, rfl⟩, trivial⟩
            replace q3 : (!(e3 == 0)) = false := q3
            rw [q3, cond_false] at hR
            replace hR := hR.symm
            refine loopS (tyOf_ok _) hmix (by kernel_rfl) xs.length [0, 95, 96, 97] [1000000000, 1000000001] (fun j _ => [.ptr 1000000000 0, .p (.sl 4 (ePs xs)), .p (.i .i64 (ePs xs).length), .p (.i .i64 (ix j))]) (fun j x => [.cells [.p (.i .i64 x)], .glob 0 tab]) (fun j x => patFs S G (xs.drop j) x = R) e3 ⟨rfl, rfl, rfl, rfl⟩ hR ?_
            intro j x hj hn
            conv => whnf
            refine asplit ?_ ?_ <;> intro h1 <;> conv => whnf
            · have hj1 := ix_tt h1 (by rw [ePs_len]) hj (by omega)
              obtain ⟨b, hb1⟩ : ∃ b, xs[j]? = some b := ⟨_, List.getElem?_eq_getElem hj1⟩
              rw [drop_cons hb1, patFs] at hn
              refine aidxk (ePs_get hb1) (by omega) ?_
              have c := ih b (List.mem_of_getElem? hb1) x
              unfold hJ at c
              generalize patF S G b x = y at c hn
              obtain ⟨bk, bm, bn, bx⟩ := b
              conv => whnf
              refine amc [1000000000, 1000000001] 70000 c ?_
              conv => whnf
              exact ⟨hj1, y, ⟨rfl, rfl, rfl, rfl⟩, hn⟩
            · have hj1 := ix_ff h1 (by rw [ePs_len]) hj (by omega)
              rw [hj1, List.drop_length, patFs] at hn
              subst hn
              exact ⟨.inl rfl, ⟨.inl rfl, trivial⟩, ⟨rfl, rfl⟩, trivial⟩
          · refine amc [1000000000] 60 (form_spec e1 (((ePs xs).length : Int) == 0)) ?_
            conv => whnf
            replace hR := hR (((ePs xs).length : Int) == 0) (by rw [show (n.toList == ByteArray.toList ⟨#[]⟩) = true from t1, t2]; rfl)
            generalize mustF e1 (((ePs xs).length : Int) == 0) 3 = e2 at *
            have f3 := few_spec e2 (decide (((ePs xs).length : Int) ≤ 6))
            generalize mustF e2 (decide (((ePs xs).length : Int) ≤ 6)) 2 = e3 at *
            refine amc [1000000000] 70 f3 ?_
            conv => whnf
            refine asplit ?_ ?_ <;> intro q3 <;> conv => whnf
            · rw [show (!(e3 == 0)) = true from q3, cond_true] at hR
              subst hR
              exact ⟨.inl rfl, ⟨.inl rfl, trivial⟩, ⟨rfl, rfl⟩, trivial⟩
            replace q3 : (!(e3 == 0)) = false := q3
            rw [q3, cond_false] at hR
            replace hR := hR.symm
            refine loopS (tyOf_ok _) hmix (by kernel_rfl) xs.length [0, 95, 96, 97] [1000000000, 1000000001] (fun j _ => [.ptr 1000000000 0, .p (.sl 4 (ePs xs)), .p (.i .i64 (ePs xs).length), .p (.i .i64 (ix j))]) (fun j x => [.cells [.p (.i .i64 x)], .glob 0 tab]) (fun j x => patFs S G (xs.drop j) x = R) e3 ⟨rfl, rfl, rfl, rfl⟩ hR ?_
            intro j x hj hn
            conv => whnf
            refine asplit ?_ ?_ <;> intro h1 <;> conv => whnf
            · have hj1 := ix_tt h1 (by rw [ePs_len]) hj (by omega)
              obtain ⟨b, hb1⟩ : ∃ b, xs[j]? = some b := ⟨_, List.getElem?_eq_getElem hj1⟩
              rw [drop_cons hb1, patFs] at hn
              refine aidxk (ePs_get hb1) (by omega) ?_
              have c := ih b (List.mem_of_getElem? hb1) x
              unfold hJ at c
              generalize patF S G b x = y at c hn
              obtain ⟨bk, bm, bn, bx⟩ := b
              conv => whnf
              refine amc [1000000000, 1000000001] 70000 c ?_
              conv => whnf
              exact ⟨hj1, y, ⟨rfl, rfl, rfl, rfl⟩, hn⟩
            · have hj1 := ix_ff h1 (by rw [ePs_len]) hj (by omega)
              rw [hj1, List.drop_length, patFs] at hn
              subst hn
              exact ⟨.inl rfl, ⟨.inl rfl, trivial⟩, ⟨rfl, rfl⟩, trivial⟩
        · refine amc [1000000000] 60 (form_spec e1 (false)) ?_
          conv => whnf
          replace hR := hR (false) (by rw [show (n.toList == ByteArray.toList ⟨#[]⟩) = false from t1]; rfl)
          generalize mustF e1 (false) 3 = e2 at *
          have f3 := few_spec e2 (decide (((ePs xs).length : Int) ≤ 6))
          generalize mustF e2 (decide (((ePs xs).length : Int) ≤ 6)) 2 = e3 at *
          refine amc [1000000000] 70 f3 ?_
          conv => whnf
          refine asplit ?_ ?_ <;> intro q3 <;> conv => whnf
          · rw [show (!(e3 == 0)) = true from q3, cond_true] at hR
            subst hR
            exact ⟨.inl rfl, ⟨.inl rfl, trivial⟩, ⟨rfl, rfl⟩, trivial⟩
          replace q3 : (!(e3 == 0)) = false := q3
          rw [q3, cond_false] at hR
          replace hR := hR.symm
          refine loopS (tyOf_ok _) hmix (by kernel_rfl) xs.length [0, 95, 96, 97] [1000000000, 1000000001] (fun j _ => [.ptr 1000000000 0, .p (.sl 4 (ePs xs)), .p (.i .i64 (ePs xs).length), .p (.i .i64 (ix j))]) (fun j x => [.cells [.p (.i .i64 x)], .glob 0 tab]) (fun j x => patFs S G (xs.drop j) x = R) e3 ⟨rfl, rfl, rfl, rfl⟩ hR ?_
          intro j x hj hn
          conv => whnf
          refine asplit ?_ ?_ <;> intro h1 <;> conv => whnf
          · have hj1 := ix_tt h1 (by rw [ePs_len]) hj (by omega)
            obtain ⟨b, hb1⟩ : ∃ b, xs[j]? = some b := ⟨_, List.getElem?_eq_getElem hj1⟩
            rw [drop_cons hb1, patFs] at hn
            refine aidxk (ePs_get hb1) (by omega) ?_
            have c := ih b (List.mem_of_getElem? hb1) x
            unfold hJ at c
            generalize patF S G b x = y at c hn
            obtain ⟨bk, bm, bn, bx⟩ := b
            conv => whnf
            refine amc [1000000000, 1000000001] 70000 c ?_
            conv => whnf
            exact ⟨hj1, y, ⟨rfl, rfl, rfl, rfl⟩, hn⟩
          · have hj1 := ix_ff h1 (by rw [ePs_len]) hj (by omega)
            rw [hj1, List.drop_length, patFs] at hn
            subst hn
            exact ⟨.inl rfl, ⟨.inl rfl, trivial⟩, ⟨rfl, rfl⟩, trivial⟩
      · refine asplit ?_ ?_ <;> intro g2 <;> conv => whnf
        · replace hR := fun b => hR (n.toList == ByteArray.toList ⟨#[]⟩) b (by rw [k1, k2, k3, k4, g1, g2]; rfl)
          refine asplit ?_ ?_ <;> intro t1 <;> conv => whnf
          · refine asplit ?_ ?_ <;> intro t2 <;> conv => whnf
            · refine amc [1000000000] 60 (form_spec e1 (true)) ?_
              conv => whnf
              replace hR := hR (true) (by rw [show (n.toList == ByteArray.toList ⟨#[]⟩) = true from t1, t2]; rfl)
              generalize mustF e1 (true) 3 = e2 at *
              have f3 := few_spec e2 (decide (((ePs xs).length : Int) ≤ 6))
              generalize mustF e2 (decide (((ePs xs).length : Int) ≤ 6)) 2 = e3 at *
              refine amc [1000000000] 70 f3 ?_
              conv => whnf
              refine asplit ?_ ?_ <;> intro q3 <;> conv => whnf
              · rw [show (!(e3 == 0)) = true from q3, cond_true] at hR
                subst hR
                exact ⟨.inl rfl, ⟨.inl rfl, trivial⟩, ⟨rfl, rfl⟩, trivial⟩
              replace q3 : (!(e3 == 0)) = false := q3
              rw [q3, cond_false] at hR
              replace hR := hR.symm
              refine loopS (tyOf_ok _) hmix (by kernel_rfl) xs.length [0, 95, 96, 97] [1000000000, 1000000001] (fun j _ => [.ptr 1000000000 0, .p (.sl 4 (ePs xs)), .p (.i .i64 (ePs xs).length), .p (.i .i64 (ix j))]) (fun j x => [.cells [.p (.i .i64 x)], .glob 0 tab]) (fun j x => patFs S G (xs.drop j) x = R) e3 ⟨rfl, rfl, rfl, rfl⟩ hR ?_
              intro j x hj hn
              conv => whnf
              refine asplit ?_ ?_ <;> intro h1 <;> conv => whnf
              · have hj1 := ix_tt h1 (by rw [ePs_len]) hj (by omega)
                obtain ⟨b, hb1⟩ : ∃ b, xs[j]? = some b := ⟨_, List.getElem?_eq_getElem hj1⟩
                rw [drop_cons hb1, patFs] at hn
                refine aidxk (ePs_get hb1) (by omega) ?_
                have c := ih b (List.mem_of_getElem? hb1) x
                unfold hJ at c
                generalize patF S G b x = y at c hn
                obtain ⟨bk, bm, bn, bx⟩ := b
                conv => whnf
                refine amc [1000000000, 1000000001] 70000 c ?_
                conv => whnf
                exact ⟨hj1, y, ⟨rfl, rfl, rfl, rfl⟩, hn⟩
              · have hj1 := ix_ff h1 (by rw [ePs_len]) hj (by omega)
                rw [hj1, List.drop_length, patFs] at hn
                subst hn
                exact ⟨.inl rfl, ⟨.inl rfl, trivial⟩, ⟨rfl, rfl⟩, trivial⟩
            · refine amc [1000000000] 60 (form_spec e1 (((ePs xs).length : Int) == 0)) ?_
              conv => whnf
              replace hR := hR (((ePs xs).length : Int) == 0) (by rw [show (n.toList == ByteArray.toList ⟨#[]⟩) = true from t1, t2]; rfl)
              generalize mustF e1 (((ePs xs).length : Int) == 0) 3 = e2 at *
              have f3 := few_spec e2 (decide (((ePs xs).length : Int) ≤ 6))
              generalize mustF e2 (decide (((ePs xs).length : Int) ≤ 6)) 2 = e3 at *
              refine amc [1000000000] 70 f3 ?_
              conv => whnf
              refine asplit ?_ ?_ <;> intro q3 <;> conv => whnf
              · rw [show (!(e3 == 0)) = true from q3, cond_true] at hR
                subst hR
                exact ⟨.inl rfl, ⟨.inl rfl, trivial⟩, ⟨rfl, rfl⟩, trivial⟩
              replace q3 : (!(e3 == 0)) = false := q3
              rw [q3, cond_false] at hR
              replace hR := hR.symm
              refine loopS (tyOf_ok _) hmix (by kernel_rfl) xs.length [0, 95, 96, 97] [1000000000, 1000000001] (fun j _ => [.ptr 1000000000 0, .p (.sl 4 (ePs xs)), .p (.i .i64 (ePs xs).length), .p (.i .i64 (ix j))]) (fun j x => [.cells [.p (.i .i64 x)], .glob 0 tab]) (fun j x => patFs S G (xs.drop j) x = R) e3 ⟨rfl, rfl, rfl, rfl⟩ hR ?_
              intro j x hj hn
              conv => whnf
              refine asplit ?_ ?_ <;> intro h1 <;> conv => whnf
              · have hj1 := ix_tt h1 (by rw [ePs_len]) hj (by omega)
                obtain ⟨b, hb1⟩ : ∃ b, xs[j]? = some b := ⟨_, List.getElem?_eq_getElem hj1⟩
                rw [drop_cons hb1, patFs] at hn
                refine aidxk (ePs_get hb1) (by omega) ?_
                have c := ih b (List.mem_of_getElem? hb1) x
                unfold hJ at c
                generalize patF S G b x = y at c hn
                obtain ⟨bk, bm, bn, bx⟩ := b
                conv => whnf
                refine amc [1000000000, 1000000001] 70000 c ?_
                conv => whnf
                exact ⟨hj1, y, ⟨rfl, rfl, rfl, rfl⟩, hn⟩
              · have hj1 := ix_ff h1 (by rw [ePs_len]) hj (by omega)
                rw [hj1, List.drop_length, patFs] at hn
                subst hn
                exact ⟨.inl rfl, ⟨.inl rfl, trivial⟩, ⟨rfl, rfl⟩, trivial⟩
          · refine amc [1000000000] 60 (form_spec e1 (false)) ?_
            conv => whnf
            replace hR := hR (false) (by rw [show (n.toList == ByteArray.toList ⟨#[]⟩) = false from t1]; rfl)
            generalize mustF e1 (false) 3 = e2 at *
            have f3 := few_spec e2 (decide (((ePs xs).length : Int) ≤ 6))
            generalize mustF e2 (decide (((ePs xs).length : Int) ≤ 6)) 2 = e3 at *
            refine amc [1000000000] 70 f3 ?_
            conv => whnf
            refine asplit ?_ ?_ <;> intro q3 <;> conv => whnf
            · rw [show (!(e3 == 0)) = true from q3, cond_true] at hR
              subst hR
              exact ⟨.inl rfl, ⟨.inl rfl, trivial⟩, ⟨rfl, rfl⟩, trivial⟩
            replace q3 : (!(e3 == 0)) = false := q3
            rw [q3, cond_false] at hR
            replace hR := hR.symm
            refine loopS (tyOf_ok _) hmix (by kernel_rfl) xs.length [0, 95, 96, 97] [1000000000, 1000000001] (fun j _ => [.ptr 1000000000 0, .p (.sl 4 (ePs xs)), .p (.i .i64 (ePs xs).length), .p (.i .i64 (ix j))]) (fun j x => [.cells [.p (.i .i64 x)], .glob 0 tab]) (fun j x => patFs S G (xs.drop j) x = R) e3 ⟨rfl, rfl, rfl, rfl⟩ hR ?_
            intro j x hj hn
            conv => whnf
            refine asplit ?_ ?_ <;> intro h1 <;> conv => whnf
            · have hj1 := ix_tt h1 (by rw [ePs_len]) hj (by omega)
              obtain ⟨b, hb1⟩ : ∃ b, xs[j]? = some b := ⟨_, List.getElem?_eq_getElem hj1⟩
              rw [drop_cons hb1, patFs] at hn
              refine aidxk (ePs_get hb1) (by omega) ?_
              have c := ih b (List.mem_of_getElem? hb1) x
              unfold hJ at c
              generalize patF S G b x = y at c hn
              obtain ⟨bk, bm, bn, bx⟩ := b
              conv => whnf
              refine amc [1000000000, 1000000001] 70000 c ?_
              conv => whnf
              exact ⟨hj1, y, ⟨rfl, rfl, rfl, rfl⟩, hn⟩
            · have hj1 := ix_ff h1 (by rw [ePs_len]) hj (by omega)
              rw [hj1, List.drop_length, patFs] at hn
              subst hn
              exact ⟨.inl rfl, ⟨.inl rfl, trivial⟩, ⟨rfl, rfl⟩, trivial⟩
        · replace hR := fun b => hR false b (by rw [k1, k2, k3, k4, g1, g2]; rfl)
          refine amc [1000000000] 60 (form_spec e1 (false)) ?_
          conv => whnf
          replace hR := hR (false) rfl
          generalize mustF e1 (false) 3 = e2 at *
          have f3 := few_spec e2 (decide (((ePs xs).length : Int) ≤ 6))
          generalize mustF e2 (decide (((ePs xs).length : Int) ≤ 6)) 2 = e3 at *
          refine amc [1000000000] 70 f3 ?_
          conv => whnf
          refine asplit ?_ ?_ <;> intro q3 <;> conv => whnf
          · rw [show (!(e3 == 0)) = true from q3, cond_true] at hR
            subst hR
            exact ⟨.inl rfl, ⟨.inl rfl, trivial⟩, ⟨rfl, rfl⟩, trivial⟩
          replace q3 : (!(e3 == 0)) = false := q3
          rw [q3, cond_false] at hR
          replace hR := hR.symm
          refine loopS (tyOf_ok _) hmix (by kernel_rfl) xs.length [0, 95, 96, 97] [1000000000, 1000000001] (fun j _ => [.ptr 1000000000 0, .p (.sl 4 (ePs xs)), .p (.i .i64 (ePs xs).length), .p (.i .i64 (ix j))]) (fun j x => [.cells [.p (.i .i64 x)], .glob 0 tab]) (fun j x => patFs S G (xs.drop j) x = R) e3 ⟨rfl, rfl, rfl, rfl⟩ hR ?_
          intro j x hj hn
          conv => whnf
          refine asplit ?_ ?_ <;> intro h1 <;> conv => whnf
          · have hj1 := ix_tt h1 (by rw [ePs_len]) hj (by omega)
            obtain ⟨b, hb1⟩ : ∃ b, xs[j]? = some b := ⟨_, List.getElem?_eq_getElem hj1⟩
            rw [drop_cons hb1, patFs] at hn
            refine aidxk (ePs_get hb1) (by omega) ?_
            have c := ih b (List.mem_of_getElem? hb1) x
            unfold hJ at c
            generalize patF S G b x = y at c hn
            obtain ⟨bk, bm, bn, bx⟩ := b
            conv => whnf
            refine amc [1000000000, 1000000001] 70000 c ?_
            conv => whnf
            exact ⟨hj1, y, ⟨rfl, rfl, rfl, rfl⟩, hn⟩
          · have hj1 := ix_ff h1 (by rw [ePs_len]) hj (by omega)
            rw [hj1, List.drop_length, patFs] at hn
            subst hn
            exact ⟨.inl rfl, ⟨.inl rfl, trivial⟩, ⟨rfl, rfl⟩, trivial⟩
    refine asplit ?_ ?_ <;> intro k5 <;> conv => whnf
    · replace hR := fun b => hR (m == 0) b (by rw [k1, k2, k3, k4, k5]; rfl)
      refine asplit ?_ ?_ <;> intro t1 <;> conv => whnf
      · refine asplit ?_ ?_ <;> intro t2 <;> conv => whnf
        · refine amc [1000000000] 60 (form_spec e1 (true)) ?_
          conv => whnf
          replace hR := hR (true) (by rw [show (m == 0) = true from t1, t2]; rfl)
          generalize mustF e1 (true) 3 = e2 at *
          have f3 := few_spec e2 (decide (((ePs xs).length : Int) ≤ 6))
          generalize mustF e2 (decide (((ePs xs).length : Int) ≤ 6)) 2 = e3 at *
          refine amc [1000000000] 70 f3 ?_
          conv => whnf
          refine asplit ?_ ?_ <;> intro q3 <;> conv => whnf
          · rw [show (!(e3 == 0)) = true from q3, cond_true] at hR
            subst hR
            exact ⟨.inl rfl, ⟨.inl rfl, trivial⟩, ⟨rfl, rfl⟩, trivial⟩
          replace q3 : (!(e3 == 0)) = false := q3
          rw [q3, cond_false] at hR
          replace hR := hR.symm
          refine loopS (tyOf_ok _) hmix (by kernel_rfl) xs.length [0, 95, 96, 97] [1000000000, 1000000001] (fun j _ => [.ptr 1000000000 0, .p (.sl 4 (ePs xs)), .p (.i .i64 (ePs xs).length), .p (.i .i64 (ix j))]) (fun j x => [.cells [.p (.i .i64 x)], .glob 0 tab]) (fun j x => patFs S G (xs.drop j) x = R) e3 ⟨rfl, rfl, rfl, rfl⟩ hR ?_
          intro j x hj hn
          conv => whnf
          refine asplit ?_ ?_ <;> intro h1 <;> conv => whnf
          · have hj1 := ix_tt h1 (by rw [ePs_len]) hj (by omega)
            obtain ⟨b, hb1⟩ : ∃ b, xs[j]? = some b := ⟨_, List.getElem?_eq_getElem hj1⟩
            rw [drop_cons hb1, patFs] at hn
            refine aidxk (ePs_get hb1) (by omega) ?_
            have c := ih b (List.mem_of_getElem? hb1) x
            unfold hJ at c
            generalize patF S G b x = y at c hn
            obtain ⟨bk, bm, bn, bx⟩ := b
            conv => whnf
            refine amc [1000000000, 1000000001] 70000 c ?_
            conv => whnf
            exact ⟨hj1, y, ⟨rfl, rfl, rfl, rfl⟩, hn⟩
          · have hj1 := ix_ff h1 (by rw [ePs_len]) hj (by omega)
            rw [hj1, List.drop_length, patFs] at hn
            subst hn
            exact ⟨.inl rfl, ⟨.inl rfl, trivial⟩, ⟨rfl, rfl⟩, trivial⟩
        · refine amc [1000000000] 60 (form_spec e1 (((ePs xs).length : Int) == 0)) ?_
          conv => whnf
          replace hR := hR (((ePs xs).length : Int) == 0) (by rw [show (m == 0) = true from t1, t2]; rfl)
          generalize mustF e1 (((ePs xs).length : Int) == 0) 3 = e2 at *
          have f3 := few_spec e2 (decide (((ePs xs).length : Int) ≤ 6))
          generalize mustF e2 (decide (((ePs xs).length : Int) ≤ 6)) 2 = e3 at *
          refine amc [1000000000] 70 f3 ?_
          conv => whnf
          refine asplit ?_ ?_ <;> intro q3 <;> conv => whnf
          · rw [show (!(e3 == 0)) = true from q3, cond_true] at hR
            subst hR
            exact ⟨.inl rfl, ⟨.inl rfl, trivial⟩, ⟨rfl, rfl⟩, trivial⟩
          replace q3 : (!(e3 == 0)) = false := q3
          rw [q3, cond_false] at hR
          replace hR := hR.symm
          refine loopS (tyOf_ok _) hmix (by kernel_rfl) xs.length [0, 95, 96, 97] [1000000000, 1000000001] (fun j _ => [.ptr 1000000000 0, .p (.sl 4 (ePs xs)), .p (.i .i64 (ePs xs).length), .p (.i .i64 (ix j))]) (fun j x => [.cells [.p (.i .i64 x)], .glob 0 tab]) (fun j x => patFs S G (xs.drop j) x = R) e3 ⟨rfl, rfl, rfl, rfl⟩ hR ?_
          intro j x hj hn
          conv => whnf
          refine asplit ?_ ?_ <;> intro h1 <;> conv => whnf
          · have hj1 := ix_tt h1 (by rw [ePs_len]) hj (by omega)
            obtain ⟨b, hb1⟩ : ∃ b, xs[j]? = some b := ⟨_, List.getElem?_eq_getElem hj1⟩
            rw [drop_cons hb1, patFs] at hn
            refine aidxk (ePs_get hb1) (by omega) ?_
            have c := ih b (List.mem_of_getElem? hb1) x
            unfold hJ at c
            generalize patF S G b x = y at c hn
            obtain ⟨bk, bm, bn, bx⟩ := b
            conv => whnf
            refine amc [1000000000, 1000000001] 70000 c ?_
            conv => whnf
            exact ⟨hj1, y, ⟨rfl, rfl, rfl, rfl⟩, hn⟩
          · have hj1 := ix_ff h1 (by rw [ePs_len]) hj (by omega)
            rw [hj1, List.drop_length, patFs] at hn
            subst hn
            exact ⟨.inl rfl, ⟨.inl rfl, trivial⟩, ⟨rfl, rfl⟩, trivial⟩
      · refine amc [1000000000] 60 (form_spec e1 (false)) ?_
        conv => whnf
        replace hR := hR (false) (by rw [show (m == 0) = false from t1]; rfl)
        generalize mustF e1 (false) 3 = e2 at *
        have f3 := few_spec e2 (decide (((ePs xs).length : Int) ≤ 6))
        generalize mustF e2 (decide (((ePs xs).length : Int) ≤ 6)) 2 = e3 at *
        refine amc [1000000000] 70 f3 ?_
        conv => whnf
        refine asplit ?_ ?_ <;> intro q3 <;> conv => whnf
        · rw [show (!(e3 == 0)) = true from q3, cond_true] at hR
          subst hR
          exact ⟨.inl rfl, ⟨.inl rfl, trivial⟩, ⟨rfl, rfl⟩, trivial⟩
        replace q3 : (!(e3 == 0)) = false := q3
        rw [q3, cond_false] at hR
        replace hR := hR.symm
        refine loopS (tyOf_ok _) hmix (by kernel_rfl) xs.length [0, 95, 96, 97] [1000000000, 1000000001] (fun j _ => [.ptr 1000000000 0, .p (.sl 4 (ePs xs)), .p (.i .i64 (ePs xs).length), .p (.i .i64 (ix j))]) (fun j x => [.cells [.p (.i .i64 x)], .glob 0 tab]) (fun j x => patFs S G (xs.drop j) x = R) e3 ⟨rfl, rfl, rfl, rfl⟩ hR ?_
        intro j x hj hn
        conv => whnf
        refine asplit ?_ ?_ <;> intro h1 <;> conv => whnf
        · have hj1 := ix_tt h1 (by rw [ePs_len]) hj (by omega)
          obtain ⟨b, hb1⟩ : ∃ b, xs[j]? = some b := ⟨_, List.getElem?_eq_getElem hj1⟩
          rw [drop_cons hb1, patFs] at hn
          refine aidxk (ePs_get hb1) (by omega) ?_
          have c := ih b (List.mem_of_getElem? hb1) x
          unfold hJ at c
          generalize patF S G b x = y at c hn
          obtain ⟨bk, bm, bn, bx⟩ := b
          conv => whnf
          refine amc [1000000000, 1000000001] 70000 c ?_
          conv => whnf
          exact ⟨hj1, y, ⟨rfl, rfl, rfl, rfl⟩, hn⟩
        · have hj1 := ix_ff h1 (by rw [ePs_len]) hj (by omega)
          rw [hj1, List.drop_length, patFs] at hn
          subst hn
          exact ⟨.inl rfl, ⟨.inl rfl, trivial⟩, ⟨rfl, rfl⟩, trivial⟩
    refine asplit ?_ ?_ <;> intro k6 <;> conv => whnf
    · refine asplit ?_ ?_ <;> intro g1 <;> conv => whnf
      · refine apc hg ?_
        conv => whnf
        replace hR := fun b => hR (DN) b (by rw [k1, k2, k3, k4, k5, k6, g1]; rfl)
        refine asplit ?_ ?_ <;> intro t1 <;> conv => whnf
        · refine asplit ?_ ?_ <;> intro t2 <;> conv => whnf
          · refine amc [1000000000] 60 (form_spec e1 (true)) ?_
            conv => whnf
            replace hR := hR (true) (by rw [show (DN) = true from t1, t2]; rfl)
            generalize mustF e1 (true) 3 = e2 at *
            have f3 := few_spec e2 (decide (((ePs xs).length : Int) ≤ 6))
            generalize mustF e2 (decide (((ePs xs).length : Int) ≤ 6)) 2 = e3 at *
            refine amc [1000000000] 70 f3 ?_
            conv => whnf
            refine asplit ?_ ?_ <;> intro q3 <;> conv => whnf
            · rw [show (!(e3 == 0)) = true from q3, cond_true] at hR
              subst hR
              exact ⟨.inl rfl, ⟨.inl rfl, trivial⟩, ⟨rfl, rfl⟩, trivial⟩
            replace q3 : (!(e3 == 0)) = false := q3
            rw [q3, cond_false] at hR
            replace hR := hR.symm
            refine loopS (tyOf_ok _) hmix (by kernel_rfl) xs.length [0, 95, 96, 97] [1000000000, 1000000001] (fun j _ => [.ptr 1000000000 0, .p (.sl 4 (ePs xs)), .p (.i .i64 (ePs xs).length), .p (.i .i64 (ix j))]) (fun j x => [.cells [.p (.i .i64 x)], .glob 0 tab]) (fun j x => patFs S G (xs.drop j) x = R) e3 ⟨rfl, rfl, rfl, rfl⟩ hR ?_
            intro j x hj hn
            conv => whnf
            refine asplit ?_ ?_ <;> intro h1 <;> conv => whnf
            · have hj1 := ix_tt h1 (by rw [ePs_len]) hj (by omega)
              obtain ⟨b, hb1⟩ : ∃ b, xs[j]? = some b := ⟨_, List.getElem?_eq_getElem hj1⟩
              rw [drop_cons hb1, patFs] at hn
              refine aidxk (ePs_get hb1) (by omega) ?_
              have c := ih b (List.mem_of_getElem? hb1) x
              unfold hJ at c
              generalize patF S G b x = y at c hn
              obtain ⟨bk, bm, bn, bx⟩ := b
              conv => whnf
              refine amc [1000000000, 1000000001] 70000 c ?_
              conv => whnf
              exact ⟨hj1, y, ⟨rfl, rfl, rfl, rfl⟩, hn⟩
            · have hj1 := ix_ff h1 (by rw [ePs_len]) hj (by omega)
              rw [hj1, List.drop_length, patFs] at hn
              subst hn
              exact ⟨.inl rfl, ⟨.inl rfl, trivial⟩, ⟨rfl, rfl⟩, trivial⟩
          · refine amc [1000000000] 60 (form_spec e1 (((ePs xs).length : Int) == 0)) ?_
            conv => whnf
            replace hR := hR (((ePs xs).length : Int) == 0) (by rw [show (DN) = true from t1, t2]; rfl)
            generalize mustF e1 (((ePs xs).length : Int) == 0) 3 = e2 at *
            have f3 := few_spec e2 (decide (((ePs xs).length : Int) ≤ 6))
            generalize mustF e2 (decide (((ePs xs).length : Int) ≤ 6)) 2 = e3 at *
            refine amc [1000000000] 70 f3 ?_
            conv => whnf
            refine asplit ?_ ?_ <;> intro q3 <;> conv => whnf
            · rw [show (!(e3 == 0)) = true from q3, cond_true] at hR
              subst hR
              exact ⟨.inl rfl, ⟨.inl rfl, trivial⟩, ⟨rfl, rfl⟩, trivial⟩
            replace q3 : (!(e3 == 0)) = false := q3
            rw [q3, cond_false] at hR
            replace hR := hR.symm
            refine loopS (tyOf_ok _) hmix (by kernel_rfl) xs.length [0, 95, 96, 97] [1000000000, 1000000001] (fun j _ => [.ptr 1000000000 0, .p (.sl 4 (ePs xs)), .p (.i .i64 (ePs xs).length), .p (.i .i64 (ix j))]) (fun j x => [.cells [.p (.i .i64 x)], .glob 0 tab]) (fun j x => patFs S G (xs.drop j) x = R) e3 ⟨rfl, rfl, rfl, rfl⟩ hR ?_
            intro j x hj hn
            conv => whnf
            refine asplit ?_ ?_ <;> intro h1 <;> conv => whnf
            · have hj1 := ix_tt h1 (by rw [ePs_len]) hj (by omega)
              obtain ⟨b, hb1⟩ : ∃ b, xs[j]? = some b := ⟨_, List.getElem?_eq_getElem hj1⟩
              rw [drop_cons hb1, patFs] at hn
              refine aidxk (ePs_get hb1) (by omega) ?_
              have c := ih b (List.mem_of_getElem? hb1) x
              unfold hJ at c
              generalize patF S G b x = y at c hn
              obtain ⟨bk, bm, bn, bx⟩ := b
              conv => whnf
              refine amc [1000000000, 1000000001] 70000 c ?_
              conv => whnf
              exact ⟨hj1, y, ⟨rfl, rfl, rfl, rfl⟩, hn⟩
            · have hj1 := ix_ff h1 (by rw [ePs_len]) hj (by omega)
              rw [hj1, List.drop_length, patFs] at hn
              subst hn
              exact ⟨.inl rfl, ⟨.inl rfl, trivial⟩, ⟨rfl, rfl⟩, trivial⟩
        · refine amc [1000000000] 60 (form_spec e1 (false)) ?_
          conv => whnf
          replace hR := hR (false) (by rw [show (DN) = false from t1]; rfl)
          generalize mustF e1 (false) 3 = e2 at *
          have f3 := few_spec e2 (decide (((ePs xs).length : Int) ≤ 6))
          generalize mustF e2 (decide (((ePs xs).length : Int) ≤ 6)) 2 = e3 at *
          refine amc [1000000000] 70 f3 ?_
          conv => whnf
          refine asplit ?_ ?_ <;> intro q3 <;> conv => whnf
          · rw [show (!(e3 == 0)) = true from q3, cond_true] at hR
            subst hR
            exact ⟨.inl rfl, ⟨.inl rfl, trivial⟩, ⟨rfl, rfl⟩, trivial⟩
          replace q3 : (!(e3 == 0)) = false := q3
          rw [q3, cond_false] at hR
          replace hR := hR.symm
          refine loopS (tyOf_ok _) hmix (by kernel_rfl) xs.length [0, 95, 96, 97] [1000000000, 1000000001] (fun j _ => [.ptr 1000000000 0, .p (.sl 4 (ePs xs)), .p (.i .i64 (ePs xs).length), .p (.i .i64 (ix j))]) (fun j x => [.cells [.p (.i .i64 x)], .glob 0 tab]) (fun j x => patFs S G (xs.drop j) x = R) e3 ⟨rfl, rfl, rfl, rfl⟩ hR ?_
          intro j x hj hn
          conv => whnf
          refine asplit ?_ ?_ <;> intro h1 <;> conv => whnf
          · have hj1 := ix_tt h1 (by rw [ePs_len]) hj (by omega)
            obtain ⟨b, hb1⟩ : ∃ b, xs[j]? = some b := ⟨_, List.getElem?_eq_getElem hj1⟩
            rw [drop_cons hb1, patFs] at hn
            refine aidxk (ePs_get hb1) (by omega) ?_
            have c := ih b (List.mem_of_getElem? hb1) x
            unfold hJ at c
            generalize patF S G b x = y at c hn
            obtain ⟨bk, bm, bn, bx⟩ := b
            conv => whnf
            refine amc [1000000000, 1000000001] 70000 c ?_
            conv => whnf
            exact ⟨hj1, y, ⟨rfl, rfl, rfl, rfl⟩, hn⟩
          · have hj1 := ix_ff h1 (by rw [ePs_len]) hj (by omega)
            rw [hj1, List.drop_length, patFs] at hn
            subst hn
            exact ⟨.inl rfl, ⟨.inl rfl, trivial⟩, ⟨rfl, rfl⟩, trivial⟩
      · replace hR := fun b => hR false b (by rw [k1, k2, k3, k4, k5, k6, g1]; rfl)
        refine amc [1000000000] 60 (form_spec e1 (false)) ?_
        conv => whnf
        replace hR := hR (false) rfl
        generalize mustF e1 (false) 3 = e2 at *
        have f3 := few_spec e2 (decide (((ePs xs).length : Int) ≤ 6))
        generalize mustF e2 (decide (((ePs xs).length : Int) ≤ 6)) 2 = e3 at *
        refine amc [1000000000] 70 f3 ?_
        conv => whnf
        refine asplit ?_ ?_ <;> intro q3 <;> conv => whnf
        · rw [show (!(e3 == 0)) = true from q3, cond_true] at hR
          subst hR
          exact ⟨.inl rfl, ⟨.inl rfl, trivial⟩, ⟨rfl, rfl⟩, trivial⟩
        replace q3 : (!(e3 == 0)) = false := q3
        rw [q3, cond_false] at hR
        replace hR := hR.symm
        refine loopS (tyOf_ok _) hmix (by kernel_rfl) xs.length [0, 95, 96, 97] [1000000000, 1000000001] (fun j _ => [.ptr 1000000000 0, .p (.sl 4 (ePs xs)), .p (.i .i64 (ePs xs).length), .p (.i .i64 (ix j))]) (fun j x => [.cells [.p (.i .i64 x)], .glob 0 tab]) (fun j x => patFs S G (xs.drop j) x = R) e3 ⟨rfl, rfl, rfl, rfl⟩ hR ?_
        intro j x hj hn
        conv => whnf
        refine asplit ?_ ?_ <;> intro h1 <;> conv => whnf
        · have hj1 := ix_tt h1 (by rw [ePs_len]) hj (by omega)
          obtain ⟨b, hb1⟩ : ∃ b, xs[j]? = some b := ⟨_, List.getElem?_eq_getElem hj1⟩
          rw [drop_cons hb1, patFs] at hn
          refine aidxk (ePs_get hb1) (by omega) ?_
          have c := ih b (List.mem_of_getElem? hb1) x
          unfold hJ at c
          generalize patF S G b x = y at c hn
          obtain ⟨bk, bm, bn, bx⟩ := b
          conv => whnf
          refine amc [1000000000, 1000000001] 70000 c ?_
          conv => whnf
          exact ⟨hj1, y, ⟨rfl, rfl, rfl, rfl⟩, hn⟩
        · have hj1 := ix_ff h1 (by rw [ePs_len]) hj (by omega)
          rw [hj1, List.drop_length, patFs] at hn
          subst hn
          exact ⟨.inl rfl, ⟨.inl rfl, trivial⟩, ⟨rfl, rfl⟩, trivial⟩
    · replace hR := fun b => hR false b (by rw [k1, k2, k3, k4, k5, k6]; rfl)
      refine amc [1000000000] 60 (form_spec e1 (false)) ?_
      conv => whnf
      replace hR := hR (false) rfl
      generalize mustF e1 (false) 3 = e2 at *
      have f3 := few_spec e2 (decide (((ePs xs).length : Int) ≤ 6))
      generalize mustF e2 (decide (((ePs xs).length : Int) ≤ 6)) 2 = e3 at *
      refine amc [1000000000] 70 f3 ?_
      conv => whnf
      refine asplit ?_ ?_ <;> intro q3 <;> conv => whnf
      · rw [show (!(e3 == 0)) = true from q3, cond_true] at hR
        subst hR
        exact ⟨.inl rfl, ⟨.inl rfl, trivial⟩, ⟨rfl, rfl⟩, trivial⟩
      replace q3 : (!(e3 == 0)) = false := q3
      rw [q3, cond_false] at hR
      replace hR := hR.symm
      refine loopS (tyOf_ok _) hmix (by kernel_rfl) xs.length [0, 95, 96, 97] [1000000000, 1000000001] (fun j _ => [.ptr 1000000000 0, .p (.sl 4 (ePs xs)), .p (.i .i64 (ePs xs).length), .p (.i .i64 (ix j))]) (fun j x => [.cells [.p (.i .i64 x)], .glob 0 tab]) (fun j x => patFs S G (xs.drop j) x = R) e3 ⟨rfl, rfl, rfl, rfl⟩ hR ?_
      intro j x hj hn
      conv => whnf
      refine asplit ?_ ?_ <;> intro h1 <;> conv => whnf
      · have hj1 := ix_tt h1 (by rw [ePs_len]) hj (by omega)
        obtain ⟨b, hb1⟩ : ∃ b, xs[j]? = some b := ⟨_, List.getElem?_eq_getElem hj1⟩
        rw [drop_cons hb1, patFs] at hn
        refine aidxk (ePs_get hb1) (by omega) ?_
        have c := ih b (List.mem_of_getElem? hb1) x
        unfold hJ at c
        generalize patF S G b x = y at c hn
        obtain ⟨bk, bm, bn, bx⟩ := b
        conv => whnf
        refine amc [1000000000, 1000000001] 70000 c ?_
        conv => whnf
        exact ⟨hj1, y, ⟨rfl, rfl, rfl, rfl⟩, hn⟩
      · have hj1 := ix_ff h1 (by rw [ePs_len]) hj (by omega)
        rw [hj1, List.drop_length, patFs] at hn
        subst hn
        exact ⟨.inl rfl, ⟨.inl rfl, trivial⟩, ⟨rfl, rfl⟩, trivial⟩
theorem pat_spec (S G : ByteArray → Bool) (tab : List Value) (hS : SmallS S tab) (hG : GreatS G) (t : Pt) : wP t ≤ 1048640 → PatS S G tab t := by
  induction t using Pt.ind with
  | h k m n xs ih =>
  intro hw
  have h1 := wP_mk k m n xs
  have h2 := wPs_len xs
  exact pat_of S G tab hS hG k m n xs (by omega) (fun x hx => ih x hx (by have := wPs_mem hx; omega))
end GL
open Go Go.AM Go.Proofs Go.RowKit TR
set_option maxRecDepth 100000
namespace GL
theorem needsOf_spec (e : Ex) : APure Tryd.prog 43 [.p (eE e)] (.p (.i .i64 (needsF e.kind e.num e.args.length))) := by
  obtain ⟨k0, n0, t0, ns0, ts0, as0, ms0, p0⟩ := e
  simp only [Ex.kind, Ex.num, Ex.args]
  refine APure.intro (tyOf_ok Tryd.prog) hmix Tryd.func43 rfl (by rfl) (by kernel_rfl) (by show 1 ≤ _; decide) rfl ?_
  by_cases hr : 1 ≤ k0 ∧ k0 ≤ 25
  · obtain rfl | rfl | rfl | rfl | rfl | rfl | rfl | rfl | rfl | rfl | rfl | rfl | rfl | rfl | rfl | rfl | rfl | rfl | rfl | rfl | rfl | rfl | rfl | rfl | rfl : k0 = 1 ∨ k0 = 2 ∨ k0 = 3 ∨ k0 = 4 ∨ k0 = 5 ∨ k0 = 6 ∨ k0 = 7 ∨ k0 = 8 ∨ k0 = 9 ∨ k0 = 10 ∨ k0 = 11 ∨ k0 = 12 ∨ k0 = 13 ∨ k0 = 14 ∨ k0 = 15 ∨ k0 = 16 ∨ k0 = 17 ∨ k0 = 18 ∨ k0 = 19 ∨ k0 = 20 ∨ k0 = 21 ∨ k0 = 22 ∨ k0 = 23 ∨ k0 = 24 ∨ k0 = 25 := by omega
    all_goals conv => whnf
    all_goals first
      | exact .inl rfl
      | exact .inl (pi (by rw [eEs_len]; rfl))
      | skip
    · exact .inl (pi (by rw [eEs_len]; show imax 1 _ = (if (as0.length : Int) < 1 then (1 : Int) else as0.length); unfold imax; split <;> split <;> omega))
    · refine asplit ?_ ?_ <;> intro h <;> conv => whnf
      · exact .inl (pi (by show _ = (bif decide (n0 ≥ 0) then (1 : Int) else 0); rw [decide_eq_false (by have := of_decide_eq_true h; omega)]; rfl))
      · exact .inl (pi (by show _ = (bif decide (n0 ≥ 0) then (1 : Int) else 0); rw [decide_eq_true (by have := of_decide_eq_false h; omega)]; rfl))
  · have hb : ∀ c : Int, 1 ≤ c → c ≤ 25 → (k0 == c) = false := fun c h1 h2 => by simp; omega
    conv => whnf
    iterate 25 (refine asf (hb _ (by decide) (by decide)) ?_; conv => whnf)
    exact .inl (pi (by rw [needsF]; simp only [hb 1 (by decide) (by decide), hb 2 (by decide) (by decide), hb 3 (by decide) (by decide), hb 4 (by decide) (by decide), hb 5 (by decide) (by decide), hb 6 (by decide) (by decide), hb 7 (by decide) (by decide), hb 8 (by decide) (by decide), hb 9 (by decide) (by decide), hb 10 (by decide) (by decide), hb 11 (by decide) (by decide), hb 12 (by decide) (by decide), hb 13 (by decide) (by decide), hb 14 (by decide) (by decide), hb 15 (by decide) (by decide), hb 16 (by decide) (by decide), hb 17 (by decide) (by decide), hb 18 (by decide) (by decide), hb 19 (by decide) (by decide), hb 20 (by decide) (by decide), hb 21 (by decide) (by decide), hb 22 (by decide) (by decide), hb 23 (by decide) (by decide), hb 24 (by decide) (by decide), hb 25 (by decide) (by decide), Bool.or_self, cond_false]))
/-- the fewest and the most -/
def argF (k m : Int) (t : ByteArray) (L : Nat) : Int × Int :=
  bif k == 9 || (k == 12 || (k == 14 || k == 17)) then (0, 6) else bif k == 11 then (1, 7) else
  bif k == 8 then (bif (t.toList == ByteArray.toList ⟨#[110, 111, 116]⟩) then (1, 1) else (2, 2)) else
  bif k == 18 then (bif m == -1 then (0, 0) else (1, 1)) else (needsF k m L, needsF k m L)
theorem args_spec (k m : Int) (t : ByteArray) (ns : List ByteArray) (ts : List Ty) (xs : List Ex) (ms : List Arm) (p : Int) :
    APure Tryd.prog 62 [.p (eE (.mk k m t ns ts xs ms p))] (.tup [.p (.i .i64 (argF k m t xs.length).1), .p (.i .i64 (argF k m t xs.length).2)]) := by
  have hn := needsOf_spec (.mk k m t ns ts xs ms p)
  simp only [Ex.kind, Ex.num, Ex.args] at hn
  generalize hR : argF k m t xs.length = R
  unfold argF at hR
  generalize needsF k m xs.length = nd at *
  refine APure.intro (tyOf_ok Tryd.prog) hmix Tryd.func62 rfl (by rfl) (by kernel_rfl) (by show 1 ≤ _; decide) rfl ?_
  conv => whnf
  refine asplit ?_ ?_ <;> intro k1 <;> conv => whnf
  · refine ast k1 ?_
    conv => whnf
    rw [k1, Bool.true_or, cond_true] at hR; subst hR
    exact .inl rfl
  refine asplit ?_ ?_ <;> intro k2 <;> conv => whnf
  · refine ast k2 ?_
    conv => whnf
    rw [k1, k2] at hR; subst hR
    exact .inl rfl
  refine asplit ?_ ?_ <;> intro k3 <;> conv => whnf
  · refine ast k3 ?_
    conv => whnf
    rw [k1, k2, k3] at hR; subst hR
    exact .inl rfl
  refine asplit ?_ ?_ <;> intro k4 <;> conv => whnf
  · rw [k1, k2, k3, k4] at hR; subst hR
    exact .inl rfl
  refine asplit ?_ ?_ <;> intro k5 <;> conv => whnf
  · rw [k1, k2, k3, k4, k5] at hR; subst hR
    exact .inl rfl
  refine asplit ?_ ?_ <;> intro k6 <;> conv => whnf
  · refine asplit ?_ ?_ <;> intro k7 <;> conv => whnf
    · rw [k1, k2, k3, k4, k5, k6, k7] at hR; subst hR
      exact .inl rfl
    · rw [k1, k2, k3, k4, k5, k6, k7] at hR; subst hR
      exact .inl rfl
  refine asplit ?_ ?_ <;> intro k8 <;> conv => whnf
  · refine asplit ?_ ?_ <;> intro k7 <;> conv => whnf
    · rw [k1, k2, k3, k4, k5, k6, k8, show (m == -1) = true from k7] at hR; subst hR
      exact .inl rfl
    · rw [k1, k2, k3, k4, k5, k6, k8, show (m == -1) = false from k7] at hR; subst hR
      exact .inl rfl
  refine apc hn ?_
  conv => whnf
  rw [k1, k2, k3, k4, k5, k6, k8] at hR; subst hR
  exact .inl rfl
def numF (k m : Int) : Bool := bif k == 2 then true else bif k == 3 then (m == 0 || m == 1) else bif k == 18 then (m == -1 || plainF m) else m == 0
theorem num_spec (k m : Int) (t : ByteArray) (ns : List ByteArray) (ts : List Ty) (xs : List Ex) (ms : List Arm) (p : Int) :
    APure Tryd.prog 64 [.p (eE (.mk k m t ns ts xs ms p))] (.p (.b (numF k m))) := by
  have hp := plain_spec m
  generalize hR : numF k m = R
  unfold numF at hR
  generalize plainF m = pl at *
  refine APure.intro (tyOf_ok Tryd.prog) hmix Tryd.func64 rfl (by rfl) (by kernel_rfl) (by show 1 ≤ _; decide) rfl ?_
  conv => whnf
  refine asplit ?_ ?_ <;> intro k1 <;> conv => whnf
  · exact .inl (pb (by rw [← hR, k1]; rfl))
  refine asplit ?_ ?_ <;> intro k2 <;> conv => whnf
  · refine asplit ?_ ?_ <;> intro k3 <;> conv => whnf
    · exact .inl (pb (by rw [← hR, k1, k2, k3]; rfl))
    · exact .inl (pb (by rw [← hR, k1, k2, k3]; rfl))
  refine asplit ?_ ?_ <;> intro k4 <;> conv => whnf
  · refine asplit ?_ ?_ <;> intro k3 <;> conv => whnf
    · exact .inl (pb (by rw [← hR, k1, k2, k4, show (m == -1) = true from k3]; rfl))
    · refine apc hp ?_
      conv => whnf
      exact .inl (pb (by rw [← hR, k1, k2, k4, show (m == -1) = false from k3]; rfl))
  exact .inl (pb (by rw [← hR, k1, k2, k4]; rfl))
def opL : List ByteArray := [⟨#[43]⟩, ⟨#[45]⟩, ⟨#[42]⟩, ⟨#[47]⟩, ⟨#[37]⟩, ⟨#[60]⟩, ⟨#[61]⟩, ⟨#[94]⟩, ⟨#[97, 110, 100]⟩, ⟨#[111, 114]⟩, ⟨#[110, 111, 116]⟩]
def wordF (S G : ByteArray → Bool) (C : ByteArray → Bool) (k : Int) (t : ByteArray) : Bool :=
  bif k == 4 then true else bif k == 5 || (k == 6 || k == 9) then S t else bif k == 12 || k == 14 then G t else bif k == 8 then C t else (t.toList == ByteArray.toList ⟨#[]⟩)
theorem word_spec (S G C : ByteArray → Bool) (tab : List Value) (hS : SmallS S tab) (hG : GreatS G) (hC : ∀ t, APure Tryd.prog 7 [.p (.sl 1 (opL.map eStr)), .p (.s t)] (.p (.b (C t)))) (k m : Int) (t : ByteArray) (ns : List ByteArray) (ts : List Ty) (xs : List Ex) (ms : List Arm) (p : Int) :
    AMem Tryd.prog 63 [.p (eE (.mk k m t ns ts xs ms p))] [(1000000000, .glob 0 tab)] (.p (.b (wordF S G C k t))) [(1000000000, .glob 0 tab)] := by
  have hs := hS t
  have hg := hG t
  have hc := hC t
  generalize hR : wordF S G C k t = R
  unfold wordF at hR
  generalize S t = SN at *
  generalize G t = GN at *
  generalize C t = CN at *
  refine AMem.intro (tyOf_ok Tryd.prog) hmix Tryd.func63 rfl (by rfl) (by kernel_rfl) (by show 1 ≤ _; decide) rfl ?_
  conv => whnf
  refine asplit ?_ ?_ <;> intro k1 <;> conv => whnf
  · exact ⟨.inl (pb (by rw [← hR, k1]; rfl)), ⟨rfl, rfl⟩, trivial⟩
  refine asplit ?_ ?_ <;> intro k2 <;> conv => whnf
  · refine ast k2 ?_
    conv => whnf
    refine amc [1000000000] 80 hs ?_
    conv => whnf
    exact ⟨.inl (pb (by rw [← hR, k1, k2]; rfl)), ⟨rfl, rfl⟩, trivial⟩
  refine asplit ?_ ?_ <;> intro k3 <;> conv => whnf
  · refine ast k3 ?_
    conv => whnf
    refine amc [1000000000] 80 hs ?_
    conv => whnf
    exact ⟨.inl (pb (by rw [← hR, k1, k2, k3]; rfl)), ⟨rfl, rfl⟩, trivial⟩
  refine asplit ?_ ?_ <;> intro k4 <;> conv => whnf
  · refine amc [1000000000] 80 hs ?_
    conv => whnf
    exact ⟨.inl (pb (by rw [← hR, k1, k2, k3, k4]; rfl)), ⟨rfl, rfl⟩, trivial⟩
  refine asplit ?_ ?_ <;> intro k5 <;> conv => whnf
  · refine ast k5 ?_
    conv => whnf
    refine apc hg ?_
    conv => whnf
    exact ⟨.inl (pb (by rw [← hR, k1, k2, k3, k4, k5]; rfl)), ⟨rfl, rfl⟩, trivial⟩
  refine asplit ?_ ?_ <;> intro k6 <;> conv => whnf
  · refine apc hg ?_
    conv => whnf
    exact ⟨.inl (pb (by rw [← hR, k1, k2, k3, k4, k5, k6]; rfl)), ⟨rfl, rfl⟩, trivial⟩
  refine asplit ?_ ?_ <;> intro k7 <;> conv => whnf
  · refine apc hc ?_
    conv => whnf
    exact ⟨.inl (pb (by rw [← hR, k1, k2, k3, k4, k5, k6, k7]; rfl)), ⟨rfl, rfl⟩, trivial⟩
  exact ⟨.inl (pb (by rw [← hR, k1, k2, k3, k4, k5, k6, k7]; rfl)), ⟨rfl, rfl⟩, trivial⟩
end GL
open Go Go.AM Go.Proofs Go.RowKit TR
set_option maxRecDepth 100000
namespace GL
/-! expressions -/
def xFew (hi L M T : Int) : Bool := (decide (hi < 6) || decide (L ≤ hi)) && (decide (M ≤ 12) && decide (T ≤ 64))
def xForm (lo hi L : Int) (w nm : Bool) : Bool := decide (L ≥ lo) && (decide (L ≤ hi) && (w && nm))
def xArm (k M : Int) (ac : Bool) : Bool := ((k == 13 || k == 18) || M == 0) && ((k != 13 || decide (M > 0)) && (k != 17 || ac))
def xHead (S G C : ByteArray → Bool) (k m : Int) (t : ByteArray) (L M : Nat) (ac : Bool) (e : Int) : Int :=
  mustF (mustF (mustF (mustF e (decide ((argF k m t L).1 ≥ 0)) 3) (xFew (argF k m t L).2 L M t.size) 2) (xForm (argF k m t L).1 (argF k m t L).2 L (wordF S G C k t) (numF k m)) 3) (xArm k M ac) 3
def xNames (S G : ByteArray → Bool) (k : Int) (ns : List ByteArray) (ts : List Ty) (e : Int) : Int :=
  bif k == 10 then typFs S G ts 1 (listF S ns (mustF e ((ns.length : Int) == ts.length) 3)) else mustF e (((ns.length + ts.length : Nat) : Int) == 0) 3
mutual
def exprF (S G C : ByteArray → Bool) : Ex → Bool → Int → Int
  | .mk k m t ns ts xs ms _, ac, e => bif !(xHead S G C k m t xs.length ms.length ac e == 0) then xHead S G C k m t xs.length ms.length ac e else
      exprAs S G C ms ac (exprFs S G C xs (ac && k != 10) (xNames S G k ns ts (xHead S G C k m t xs.length ms.length ac e)))
def exprFs (S G C : ByteArray → Bool) : List Ex → Bool → Int → Int
  | [], _, e => e
  | x :: r, ac, e => exprFs S G C r ac (exprF S G C x ac e)
def exprAs (S G C : ByteArray → Bool) : List Arm → Bool → Int → Int
  | [], _, e => e
  | .mk p x :: r, ac, e => exprAs S G C r ac (exprF S G C x ac (patF S G p e))
end
def ConS (C : ByteArray → Bool) : Prop := ∀ t, APure Tryd.prog 7 [.p (.sl 1 (opL.map eStr)), .p (.s t)] (.p (.b (C t)))
def ExprS (S G C : ByteArray → Bool) (tab : List Value) (x : Ex) : Prop := ∀ ac e, AMem Tryd.prog 42 [.ptr 1000000000 0, .p (eE x), .p (.b ac)] (hJ tab e) (.tup []) (hJ tab (exprF S G C x ac e))
theorem expr_of (S G C : ByteArray → Bool) (tab : List Value) (hS : SmallS S tab) (hG : GreatS G) (hC : ConS C) (k m : Int) (t : ByteArray) (ns : List ByteArray) (ts : List Ty) (xs : List Ex) (ms : List Arm) (p : Int) (hw : wE (.mk k m t ns ts xs ms p) ≤ 1048640)
    (ih1 : ∀ x ∈ xs, ExprS S G C tab x) (ih2 : ∀ a ∈ ms, ExprS S G C tab a.body) : ExprS S G C tab (.mk k m t ns ts xs ms p) := by
  intro ac e
  have hl := wE_lens k m t ns ts xs ms p
  have hwk := wE_mk k m t ns ts xs ms p
  have hal := args_spec k m t ns ts xs ms p
  have hwd := word_spec S G C tab hS hG hC k m t ns ts xs ms p
  have hnm := num_spec k m t ns ts xs ms p
  have hR : exprF S G C (.mk k m t ns ts xs ms p) ac e = bif !(xHead S G C k m t xs.length ms.length ac e == 0) then xHead S G C k m t xs.length ms.length ac e else
      exprAs S G C ms ac (exprFs S G C xs (ac && k != 10) (xNames S G k ns ts (xHead S G C k m t xs.length ms.length ac e))) := by rw [exprF]
  have hH : xHead S G C k m t xs.length ms.length ac e = mustF (mustF (mustF (mustF e (decide ((argF k m t xs.length).1 ≥ 0)) 3) (xFew (argF k m t xs.length).2 (eEs xs).length (eAs ms).length t.size) 2) (xForm (argF k m t xs.length).1 (argF k m t xs.length).2 (eEs xs).length (wordF S G C k t) (numF k m)) 3) (xArm k (eAs ms).length ac) 3 := by rw [xHead, eEs_len, eAs_len]
  generalize exprF S G C (.mk k m t ns ts xs ms p) ac e = R at *
  generalize xHead S G C k m t xs.length ms.length ac e = H at *
  generalize argF k m t xs.length = ar at *
  obtain ⟨lo, hi⟩ := ar
  simp only at hal hH
  generalize wordF S G C k t = wd at *
  generalize numF k m = nm at *
  have hel := eEs_len xs
  have hml := eAs_len ms
  have htl := eTs_len ts
  unfold hJ
  generalize hme : mustF e (decide (lo ≥ 0)) 3 = e1 at *
  generalize hm2 : mustF e1 (xFew hi (eEs xs).length (eAs ms).length t.size) 2 = e2 at *
  generalize hm3 : mustF e2 (xForm lo hi (eEs xs).length wd nm) 3 = e3 at *
  refine AMem.introS (tyOf_ok Tryd.prog) Tryd.func42 rfl (by rfl) (by show 3 ≤ _; decide) rfl ?_
  refine AWp.cut (tyOf_ok Tryd.prog) hmix (by kernel_rfl) 4 [0, 2, 4, 6, 7] [1000000000, 1000000001, 4] (fun _ : Unit => [.ptr 1000000000 0, .p (.b ac), .ptr 4 0, .p (.i .i64 lo), .p (.i .i64 hi)]) (fun _ => [.cells [.p (.i .i64 e2)], .glob 0 tab, .cells [.p (.i .i64 k), .p (.i .i64 m), .p (.s t), .p (.sl 1 (ns.map eStr)), .p (.sl 3 (eTs ts)), .p (.sl 8 (eEs xs)), .p (.sl 12 (eAs ms)), .p (.i .i64 p)]]) (fun _ => True) ?_ ?_
  · conv => whnf
    refine apc hal ?_
    conv => whnf
    have f1 := form_spec e (decide (lo ≥ 0))
    rw [hme] at f1
    refine amc [1000000000] 300 f1 ?_
    conv => whnf
    rw [xFew] at hm2
    refine asplit ?_ ?_ <;> intro g1 <;> conv => whnf
    · refine asplit ?_ ?_ <;> intro g2 <;> conv => whnf
      · have f2 := few_spec e1 (decide ((t.size : Int) ≤ 64))
        rw [show mustF e1 (decide ((t.size : Int) ≤ 64)) 2 = e2 by rw [← hm2, g1, g2]; rfl] at f2
        refine amc [1000000000] 400 f2 ?_
        conv => whnf
        exact ⟨(), ⟨rfl, rfl, rfl, rfl⟩, trivial⟩
      · have f2 := few_spec e1 (false)
        rw [show mustF e1 (false) 2 = e2 by rw [← hm2, g1, g2]; rfl] at f2
        refine amc [1000000000] 400 f2 ?_
        conv => whnf
        exact ⟨(), ⟨rfl, rfl, rfl, rfl⟩, trivial⟩
    · refine asplit ?_ ?_ <;> intro g2 <;> conv => whnf
      · refine asplit ?_ ?_ <;> intro g3 <;> conv => whnf
        · have f2 := few_spec e1 (decide ((t.size : Int) ≤ 64))
          rw [show mustF e1 (decide ((t.size : Int) ≤ 64)) 2 = e2 by rw [← hm2, g1, g2, g3]; rfl] at f2
          refine amc [1000000000] 400 f2 ?_
          conv => whnf
          exact ⟨(), ⟨rfl, rfl, rfl, rfl⟩, trivial⟩
        · have f2 := few_spec e1 (false)
          rw [show mustF e1 (false) 2 = e2 by rw [← hm2, g1, g2, g3]; rfl] at f2
          refine amc [1000000000] 400 f2 ?_
          conv => whnf
          exact ⟨(), ⟨rfl, rfl, rfl, rfl⟩, trivial⟩
      · have f2 := few_spec e1 (false)
        rw [show mustF e1 (false) 2 = e2 by rw [← hm2, g1, g2]; rfl] at f2
        refine amc [1000000000] 400 f2 ?_
        conv => whnf
        exact ⟨(), ⟨rfl, rfl, rfl, rfl⟩, trivial⟩
  intro _ _
  refine AWp.cut (tyOf_ok Tryd.prog) hmix (by kernel_rfl) 1 [0, 2, 4] [1000000000, 1000000001, 4] (fun _ : Unit => [.ptr 1000000000 0, .p (.b ac), .ptr 4 0]) (fun _ => [.cells [.p (.i .i64 e3)], .glob 0 tab, .cells [.p (.i .i64 k), .p (.i .i64 m), .p (.s t), .p (.sl 1 (ns.map eStr)), .p (.sl 3 (eTs ts)), .p (.sl 8 (eEs xs)), .p (.sl 12 (eAs ms)), .p (.i .i64 p)]]) (fun _ => True) ?_ ?_
  · conv => whnf
    rw [xForm] at hm3
    refine asplit ?_ ?_ <;> intro g1 <;> conv => whnf
    · refine asplit ?_ ?_ <;> intro g2 <;> conv => whnf
      · refine amc [1000000001] 600 hwd ?_
        conv => whnf
        refine asplit ?_ ?_ <;> intro g3 <;> conv => whnf
        · refine apc hnm ?_
          conv => whnf
          have f2 := form_spec e2 (nm)
          rw [show mustF e2 (nm) 3 = e3 by rw [← hm3, g1, g2, g3]; rfl] at f2
          refine amc [1000000000] 500 f2 ?_
          conv => whnf
          exact ⟨(), ⟨rfl, rfl, rfl, rfl⟩, trivial⟩
        · have f2 := form_spec e2 (false)
          rw [show mustF e2 (false) 3 = e3 by rw [← hm3, g1, g2, g3]; rfl] at f2
          refine amc [1000000000] 500 f2 ?_
          conv => whnf
          exact ⟨(), ⟨rfl, rfl, rfl, rfl⟩, trivial⟩
      · have f2 := form_spec e2 (false)
        rw [show mustF e2 (false) 3 = e3 by rw [← hm3, g1, g2]; rfl] at f2
        refine amc [1000000000] 500 f2 ?_
        conv => whnf
        exact ⟨(), ⟨rfl, rfl, rfl, rfl⟩, trivial⟩
    · have f2 := form_spec e2 (false)
      rw [show mustF e2 (false) 3 = e3 by rw [← hm3, g1]; rfl] at f2
      refine amc [1000000000] 500 f2 ?_
      conv => whnf
      exact ⟨(), ⟨rfl, rfl, rfl, rfl⟩, trivial⟩
  intro _ _
  refine AWp.cut (tyOf_ok Tryd.prog) hmix (by kernel_rfl) 2 [0, 2, 4] [1000000000, 1000000001, 4] (fun _ : Unit => [.ptr 1000000000 0, .p (.b ac), .ptr 4 0]) (fun _ => [.cells [.p (.i .i64 H)], .glob 0 tab, .cells [.p (.i .i64 k), .p (.i .i64 m), .p (.s t), .p (.sl 1 (ns.map eStr)), .p (.sl 3 (eTs ts)), .p (.sl 8 (eEs xs)), .p (.sl 12 (eAs ms)), .p (.i .i64 p)]]) (fun _ => True) ?_ ?_
  · conv => whnf
    rw [xArm] at hH
    refine asplit ?_ ?_ <;> intro g1 <;> conv => whnf
    · refine asplit ?_ ?_ <;> intro b <;> conv => whnf
      · refine asplit ?_ ?_ <;> intro c <;> conv => whnf
        · have f2 := form_spec e3 (true)
          rw [show mustF e3 (true) 3 = H by rw [hH, g1, b, c]; rfl] at f2
          refine amc [1000000000] 500 f2 ?_
          conv => whnf
          exact ⟨(), ⟨rfl, rfl, rfl, rfl⟩, trivial⟩
        · have f2 := form_spec e3 (ac)
          rw [show mustF e3 (ac) 3 = H by rw [hH, g1, b, c]; rfl] at f2
          refine amc [1000000000] 500 f2 ?_
          conv => whnf
          exact ⟨(), ⟨rfl, rfl, rfl, rfl⟩, trivial⟩
      · refine asplit ?_ ?_ <;> intro d <;> conv => whnf
        · refine asplit ?_ ?_ <;> intro c <;> conv => whnf
          · have f2 := form_spec e3 (true)
            rw [show mustF e3 (true) 3 = H by rw [hH, g1, b, d, c]; rfl] at f2
            refine amc [1000000000] 500 f2 ?_
            conv => whnf
            exact ⟨(), ⟨rfl, rfl, rfl, rfl⟩, trivial⟩
          · have f2 := form_spec e3 (ac)
            rw [show mustF e3 (ac) 3 = H by rw [hH, g1, b, d, c]; rfl] at f2
            refine amc [1000000000] 500 f2 ?_
            conv => whnf
            exact ⟨(), ⟨rfl, rfl, rfl, rfl⟩, trivial⟩
        · have f2 := form_spec e3 (false)
          rw [show mustF e3 (false) 3 = H by rw [hH, g1, b, d]; rfl] at f2
          refine amc [1000000000] 500 f2 ?_
          conv => whnf
          exact ⟨(), ⟨rfl, rfl, rfl, rfl⟩, trivial⟩
    · refine asplit ?_ ?_ <;> intro g2 <;> conv => whnf
      · refine asplit ?_ ?_ <;> intro b <;> conv => whnf
        · refine asplit ?_ ?_ <;> intro c <;> conv => whnf
          · have f2 := form_spec e3 (true)
            rw [show mustF e3 (true) 3 = H by rw [hH, g1, g2, b, c]; rfl] at f2
            refine amc [1000000000] 500 f2 ?_
            conv => whnf
            exact ⟨(), ⟨rfl, rfl, rfl, rfl⟩, trivial⟩
          · have f2 := form_spec e3 (ac)
            rw [show mustF e3 (ac) 3 = H by rw [hH, g1, g2, b, c]; rfl] at f2
            refine amc [1000000000] 500 f2 ?_
            conv => whnf
            exact ⟨(), ⟨rfl, rfl, rfl, rfl⟩, trivial⟩
        · refine asplit ?_ ?_ <;> intro d <;> conv => whnf
          · refine asplit ?_ ?_ <;> intro c <;> conv => whnf
            · have f2 := form_spec e3 (true)
              rw [show mustF e3 (true) 3 = H by rw [hH, g1, g2, b, d, c]; rfl] at f2
              refine amc [1000000000] 500 f2 ?_
              conv => whnf
              exact ⟨(), ⟨rfl, rfl, rfl, rfl⟩, trivial⟩
            · have f2 := form_spec e3 (ac)
              rw [show mustF e3 (ac) 3 = H by rw [hH, g1, g2, b, d, c]; rfl] at f2
              refine amc [1000000000] 500 f2 ?_
              conv => whnf
              exact ⟨(), ⟨rfl, rfl, rfl, rfl⟩, trivial⟩
          · have f2 := form_spec e3 (false)
            rw [show mustF e3 (false) 3 = H by rw [hH, g1, g2, b, d]; rfl] at f2
            refine amc [1000000000] 500 f2 ?_
            conv => whnf
            exact ⟨(), ⟨rfl, rfl, rfl, rfl⟩, trivial⟩
      · refine asplit ?_ ?_ <;> intro g3 <;> conv => whnf
        · refine asplit ?_ ?_ <;> intro b <;> conv => whnf
          · refine asplit ?_ ?_ <;> intro c <;> conv => whnf
            · have f2 := form_spec e3 (true)
              rw [show mustF e3 (true) 3 = H by rw [hH, g1, g2, g3, b, c]; rfl] at f2
              refine amc [1000000000] 500 f2 ?_
              conv => whnf
              exact ⟨(), ⟨rfl, rfl, rfl, rfl⟩, trivial⟩
            · have f2 := form_spec e3 (ac)
              rw [show mustF e3 (ac) 3 = H by rw [hH, g1, g2, g3, b, c]; rfl] at f2
              refine amc [1000000000] 500 f2 ?_
              conv => whnf
              exact ⟨(), ⟨rfl, rfl, rfl, rfl⟩, trivial⟩
          · refine asplit ?_ ?_ <;> intro d <;> conv => whnf
            · refine asplit ?_ ?_ <;> intro c <;> conv => whnf
              · have f2 := form_spec e3 (true)
                rw [show mustF e3 (true) 3 = H by rw [hH, g1, g2, g3, b, d, c]; rfl] at f2
                refine amc [1000000000] 500 f2 ?_
                conv => whnf
                exact ⟨(), ⟨rfl, rfl, rfl, rfl⟩, trivial⟩
              · have f2 := form_spec e3 (ac)
                rw [show mustF e3 (ac) 3 = H by rw [hH, g1, g2, g3, b, d, c]; rfl] at f2
                refine amc [1000000000] 500 f2 ?_
                conv => whnf
                exact ⟨(), ⟨rfl, rfl, rfl, rfl⟩, trivial⟩
            · have f2 := form_spec e3 (false)
              rw [show mustF e3 (false) 3 = H by rw [hH, g1, g2, g3, b, d]; rfl] at f2
              refine amc [1000000000] 500 f2 ?_
              conv => whnf
              exact ⟨(), ⟨rfl, rfl, rfl, rfl⟩, trivial⟩
        · have f2 := form_spec e3 (false)
          rw [show mustF e3 (false) 3 = H by rw [hH, g1, g2, g3]; rfl] at f2
          refine amc [1000000000] 500 f2 ?_
          conv => whnf
          exact ⟨(), ⟨rfl, rfl, rfl, rfl⟩, trivial⟩
  intro _ _
  have hq : H ≠ 0 → R = H := fun h => by rw [hR, show (!(H == 0)) = true by simpa using h, cond_true]
  have hR1 : H = 0 → R = exprAs S G C ms ac (exprFs S G C xs (ac && k != 10) (xNames S G k ns ts H)) := fun h => by rw [hR, show (!(H == 0)) = false by simpa using h, cond_false]
  generalize hX : xNames S G k ns ts H = X at *
  refine AWp.cut (tyOf_ok Tryd.prog) hmix (by kernel_rfl) 2 [0, 2, 4] [1000000000, 1000000001, 4] (fun _ : Unit => [.ptr 1000000000 0, .p (.b ac), .ptr 4 0]) (fun _ => [.cells [.p (.i .i64 X)], .glob 0 tab, .cells [.p (.i .i64 k), .p (.i .i64 m), .p (.s t), .p (.sl 1 (ns.map eStr)), .p (.sl 3 (eTs ts)), .p (.sl 8 (eEs xs)), .p (.sl 12 (eAs ms)), .p (.i .i64 p)]]) (fun _ => H = 0) ?_ ?_
  · conv => whnf
    refine asplit ?_ ?_ <;> intro q3 <;> conv => whnf
    · have := hq (by simpa using q3)
      subst this
      exact ⟨.inl rfl, ⟨.inl rfl, trivial⟩, ⟨rfl, rfl⟩, trivial⟩
    have h0 : H = 0 := by simpa using q3
    refine asplit ?_ ?_ <;> intro q4 <;> conv => whnf
    · replace q4 : (k == 10) = true := q4
      have c1 := form_spec H (((ns.map eStr).length : Int) == ((eTs ts).length : Int))
      have c2 := list_spec S tab hS ns (mustF H (((ns.map eStr).length : Int) == ((eTs ts).length : Int)) 3) (by omega)
      have c3 := types_spec S G tab hS hG ts (by omega) (listF S ns (mustF H (((ns.map eStr).length : Int) == ((eTs ts).length : Int)) 3))
      rw [xNames, q4, cond_true, ← htl, show (ns.length : Int) = (ns.map eStr).length by simp] at hX
      unfold hJ at c3
      rw [hX] at c3
      generalize listF S ns (mustF H (((ns.map eStr).length : Int) == ((eTs ts).length : Int)) 3) = y2 at *
      generalize mustF H (((ns.map eStr).length : Int) == ((eTs ts).length : Int)) 3 = y1 at *
      refine amc [1000000000] 500 c1 ?_
      conv => whnf
      refine amc [1000000000, 1000000001] 600 c2 ?_
      conv => whnf
      refine amc [1000000000, 1000000001] 700 c3 ?_
      conv => whnf
      exact ⟨(), ⟨rfl, rfl, rfl, rfl⟩, h0⟩
    · replace q4 : (k == 10) = false := q4
      have e1 : (IntKind.i64.wrap (((ns.map eStr).length : Int) + ((eTs ts).length : Int)) == 0) = (((ns.length + ts.length : Nat) : Int) == 0) := by
        rw [List.length_map, htl, wrap64 (by omega) (by omega)]; rfl
      have c1 := form_spec H (IntKind.i64.wrap (((ns.map eStr).length : Int) + ((eTs ts).length : Int)) == 0)
      rw [xNames, q4, cond_false, ← e1] at hX
      rw [hX] at c1
      refine amc [1000000000] 500 c1 ?_
      conv => whnf
      exact ⟨(), ⟨rfl, rfl, rfl, rfl⟩, h0⟩
  intro _ h0
  replace hR1 := (hR1 h0).symm
  clear hq hR hX hm2 hm3 hme hH
  refine AWp.fin (tyOf_ok Tryd.prog) hmix (by kernel_rfl) ?_
  conv => whnf
  refine loopS (tyOf_ok _) hmix (by kernel_rfl) xs.length [0, 2, 4, 139, 140, 141] [1000000000, 1000000001, 4] (fun j _ => [.ptr 1000000000 0, .p (.b ac), .ptr 4 0, .p (.sl 8 (eEs xs)), .p (.i .i64 (eEs xs).length), .p (.i .i64 (ix j))]) (fun j x => [.cells [.p (.i .i64 x)], .glob 0 tab, .cells [.p (.i .i64 k), .p (.i .i64 m), .p (.s t), .p (.sl 1 (ns.map eStr)), .p (.sl 3 (eTs ts)), .p (.sl 8 (eEs xs)), .p (.sl 12 (eAs ms)), .p (.i .i64 p)]]) (fun j x => exprAs S G C ms ac (exprFs S G C (xs.drop j) (ac && k != 10) x) = R) X ⟨rfl, rfl, rfl, rfl⟩ hR1 ?_
  intro j x hj hn
  conv => whnf
  refine asplit ?_ ?_ <;> intro h1 <;> conv => whnf
  · have hj1 := ix_tt h1 (by rw [hel]) hj (by omega)
    obtain ⟨b, hb1⟩ : ∃ b, xs[j]? = some b := ⟨_, List.getElem?_eq_getElem hj1⟩
    rw [drop_cons hb1, exprFs] at hn
    refine aidxk (eEs_get hb1) (by omega) ?_
    have c := ih1 b (List.mem_of_getElem? hb1)
    clear hR1
    obtain ⟨b1, b2, b3, b4, b5, b6, b7, b8⟩ := b
    conv => whnf
    cases ac with
    | true =>
      conv => whnf
      have c := c (k != 10) x
      unfold hJ at c
      rw [show (true && k != 10) = (k != 10) by rfl] at hn
      generalize exprF S G C (.mk b1 b2 b3 b4 b5 b6 b7 b8) (k != 10) x = y at c hn
      refine amc [1000000000, 1000000001] 70000 c ?_
      conv => whnf
      exact ⟨hj1, y, ⟨rfl, rfl, rfl, rfl⟩, by rw [show (true && k != 10) = (k != 10) by rfl]; exact hn⟩
    | false =>
      conv => whnf
      have c := c (false) x
      unfold hJ at c
      rw [show (false && k != 10) = (false) by rfl] at hn
      generalize exprF S G C (.mk b1 b2 b3 b4 b5 b6 b7 b8) (false) x = y at c hn
      refine amc [1000000000, 1000000001] 70000 c ?_
      conv => whnf
      exact ⟨hj1, y, ⟨rfl, rfl, rfl, rfl⟩, by rw [show (false && k != 10) = (false) by rfl]; exact hn⟩
  · have hj1 := ix_ff h1 (by rw [hel]) hj (by omega)
    rw [hj1, List.drop_length, exprFs] at hn
    clear hR1
    refine loopS (tyOf_ok _) hmix (by kernel_rfl) ms.length [0, 2, 156, 157, 158] [1000000000, 1000000001] (fun j _ => [.ptr 1000000000 0, .p (.b ac), .p (.sl 12 (eAs ms)), .p (.i .i64 (eAs ms).length), .p (.i .i64 (ix j))]) (fun j x => [.cells [.p (.i .i64 x)], .glob 0 tab]) (fun j x => exprAs S G C (ms.drop j) ac x = R) x ⟨rfl, rfl, rfl, rfl⟩ hn ?_
    intro j x hj hn
    conv => whnf
    refine asplit ?_ ?_ <;> intro h1 <;> conv => whnf
    · have hj1 := ix_tt h1 (by rw [hml]) hj (by omega)
      obtain ⟨b, hb1⟩ : ∃ b, ms[j]? = some b := ⟨_, List.getElem?_eq_getElem hj1⟩
      obtain ⟨⟨p1, p2, p3, p4⟩, ⟨b1, b2, b3, b4, b5, b6, b7, b8⟩⟩ := b
      rw [drop_cons hb1, exprAs] at hn
      refine aidxk (eAs_get hb1) (by omega) ?_
      have hbw := wE_body (k := k) (n := m) (t := t) (ns := ns) (ts := ts) (xs := xs) (p := p) (List.mem_of_getElem? hb1)
      simp only [Arm.pat] at hbw
      have c1 := pat_spec S G tab hS hG (.mk p1 p2 p3 p4) (by omega) x
      have c2 := ih2 _ (List.mem_of_getElem? hb1) ac (patF S G (.mk p1 p2 p3 p4) x)
      simp only [Arm.body] at c2
      unfold hJ at c1 c2
      generalize exprF S G C (.mk b1 b2 b3 b4 b5 b6 b7 b8) ac (patF S G (.mk p1 p2 p3 p4) x) = y at *
      generalize patF S G (.mk p1 p2 p3 p4) x = z at *
      conv => whnf
      refine amc [1000000000, 1000000001] 70000 c1 ?_
      conv => whnf
      refine amc [1000000000, 1000000001] 80000 c2 ?_
      conv => whnf
      exact ⟨hj1, y, ⟨rfl, rfl, rfl, rfl⟩, hn⟩
    · have hj1 := ix_ff h1 (by rw [hml]) hj (by omega)
      rw [hj1, List.drop_length, exprAs] at hn
      subst hn
      exact ⟨.inl rfl, ⟨.inl rfl, trivial⟩, ⟨rfl, rfl⟩, trivial⟩
theorem expr_spec (S G C : ByteArray → Bool) (tab : List Value) (hS : SmallS S tab) (hG : GreatS G) (hC : ConS C) (e : Ex) : wE e ≤ 1048640 → ExprS S G C tab e := by
  induction e using Ex.ind with
  | h k n t ns ts xs ms p ih1 ih2 =>
  intro hw
  exact expr_of S G C tab hS hG hC k n t ns ts xs ms p hw (fun x hx => ih1 x hx (by have := wE_args (k := k) (n := n) (t := t) (ns := ns) (ts := ts) (ms := ms) (p := p) hx; omega))
    (fun a ha => ih2 a ha (by have := wE_body (k := k) (n := n) (t := t) (ns := ns) (ts := ts) (xs := xs) (p := p) ha; omega))
end GL
open Go Go.AM Go.Proofs Go.RowKit TR
set_option maxRecDepth 100000
namespace GL
/-! how large a body is -/
theorem height_spec (p : Pt) : wP p ≤ 1048640 → APure Tryd.prog 61 [.p (eP p)] (.p (.i .i64 (pdeepF p))) := by
  induction p using Pt.ind with
  | h k0 n0 t0 as0 ih =>
  intro hw
  have hl := wP_lens k0 n0 t0 as0
  have hsz := psize_le (.mk k0 n0 t0 as0)
  have hdz := pdeep_le (.mk k0 n0 t0 as0)
  rw [psizeF] at hsz
  rw [pdeepF] at hdz ⊢
  refine APure.intro (tyOf_ok Tryd.prog) hmix Tryd.func61 rfl (by rfl) (by kernel_rfl) (by show 1 ≤ _; decide) rfl ?_
  conv => whnf
  refine loopS (tyOf_ok _) hmix (by kernel_rfl) as0.length [3, 7, 8, 9] [] (fun k (s : Int) => [.p (.i .i64 s), .p (.sl 4 (ePs as0)), .p (.i .i64 (ePs as0).length), .p (.i .i64 (ix k))]) (fun _ _ => []) (fun k s => s = (1 + pdeepFs (as0.take k) : Nat)) 1 ⟨rfl, rfl, rfl, rfl⟩ (by simp [pdeepFs]) ?_
  intro k s hk hs
  conv => whnf
  refine asplit ?_ ?_ <;> intro h1 <;> conv => whnf
  · have hk1 := ix_tt h1 (by rw [ePs_len]) hk (by omega)
    obtain ⟨b, hb1⟩ : ∃ b, as0[k]? = some b := ⟨as0[k], by simp [hk1]⟩
    refine aidxk (ePs_get hb1) (by omega) ?_
    have hbw := wP_args (k := k0) (n := n0) (t := t0) (List.mem_of_getElem? hb1)
    have hc := ih b (List.mem_of_getElem? hb1) (by omega)
    have hts : pdeepFs (as0.take (k + 1)) = max (pdeepFs (as0.take k)) (pdeepF b) := by rw [take_snoc hb1, pdeepFs_snoc]
    have hd1 := pdeep_le b
    have hd2 := psize_le b
    generalize pdeepF b = sb at hc hts hd1
    obtain ⟨b1, b2, b3, b4⟩ := b
    conv => whnf
    refine apc hc ?_
    conv => whnf
    refine ⟨hk1, _, ⟨rfl, rfl, rfl, rfl⟩, ?_⟩
    rw [hs, hts, wrap64 (by omega) (by omega), show (1 : Int) + (sb : Int) = ((1 + sb : Nat) : Int) by omega, imax_nat]; omega
  · have hk1 := ix_ff h1 (by rw [ePs_len]) hk (by omega)
    exact .inl (pi (by rw [hs, hk1, List.take_length]; omega))
theorem deepOf_spec (e : Ex) : wE e ≤ 1048640 → APure Tryd.prog 41 [.p (eE e)] (.p (.i .i64 (deepF e))) := by
  induction e using Ex.ind with
  | h k0 n0 t0 ns0 ts0 as0 ms0 p0 ih1 ih2 =>
  intro hw
  have hl := wE_lens k0 n0 t0 ns0 ts0 as0 ms0 p0
  have hsz := size_le (.mk k0 n0 t0 ns0 ts0 as0 ms0 p0)
  have hdz := deep_le (.mk k0 n0 t0 ns0 ts0 as0 ms0 p0)
  rw [deepF] at hdz ⊢
  refine APure.intro (tyOf_ok Tryd.prog) hmix Tryd.func41 rfl (by rfl) (by kernel_rfl) (by show 1 ≤ _; decide) rfl ?_
  conv => whnf
  refine loopS (tyOf_ok _) hmix (by kernel_rfl) as0.length [1, 3, 9, 10, 11] [1] (fun k (s : Int) => [.ptr 1 0, .p (.i .i64 s), .p (.sl 8 (eEs as0)), .p (.i .i64 (eEs as0).length), .p (.i .i64 (ix k))]) (fun _ _ => [.cells [.p (.i .i64 k0), .p (.i .i64 n0), .p (.s t0), .p (.sl 1 (ns0.map eStr)), .p (.sl 3 (eTs ts0)), .p (.sl 8 (eEs as0)), .p (.sl 12 (eAs ms0)), .p (.i .i64 p0)]]) (fun k s => s = (1 + deepFs (as0.take k) : Nat)) 1 ⟨rfl, rfl, rfl, rfl⟩ (by simp [deepFs]) ?_
  intro k s hk hs
  conv => whnf
  refine asplit ?_ ?_ <;> intro h1 <;> conv => whnf
  · have hk1 := ix_tt h1 (by rw [eEs_len]) hk (by omega)
    obtain ⟨b, hb1⟩ : ∃ b, as0[k]? = some b := ⟨as0[k], by simp [hk1]⟩
    refine aidxk (eEs_get hb1) (by omega) ?_
    have hbw := wE_args (k := k0) (n := n0) (t := t0) (ns := ns0) (ts := ts0) (ms := ms0) (p := p0) (List.mem_of_getElem? hb1)
    have hc := ih1 b (List.mem_of_getElem? hb1) (by omega)
    have hts : deepFs (as0.take (k + 1)) = max (deepFs (as0.take k)) (deepF b) := by rw [take_snoc hb1, deepFs_snoc]
    have hd1 := deep_le b
    have hd2 := size_le b
    generalize deepF b = sb at hc hts hd1
    obtain ⟨b1, b2, b3, b4, b5, b6, b7, b8⟩ := b
    conv => whnf
    refine apc hc ?_
    conv => whnf
    refine ⟨hk1, _, ⟨rfl, rfl, rfl, rfl⟩, ?_⟩
    rw [hs, hts, wrap64 (by omega) (by omega), show (1 : Int) + (sb : Int) = ((1 + sb : Nat) : Int) by omega, imax_nat]; omega
  · have hk1 := ix_ff h1 (by rw [eEs_len]) hk (by omega)
    rw [hk1, List.take_length] at hs
    refine loopS (tyOf_ok _) hmix (by kernel_rfl) ms0.length [3, 22, 23, 24] [] (fun k (s : Int) => [.p (.i .i64 s), .p (.sl 12 (eAs ms0)), .p (.i .i64 (eAs ms0).length), .p (.i .i64 (ix k))]) (fun _ _ => []) (fun k s => s = (1 + max (deepFs as0) (deepFa (ms0.take k)) : Nat)) s ⟨rfl, rfl, rfl, rfl⟩ (by rw [hs]; simp [deepFa]) ?_
    intro k s hk hs
    conv => whnf
    refine asplit ?_ ?_ <;> intro h1 <;> conv => whnf
    · have hk1 := ix_tt h1 (by rw [eAs_len]) hk (by omega)
      obtain ⟨b, hb1⟩ : ∃ b, ms0[k]? = some b := ⟨ms0[k], by simp [hk1]⟩
      refine aidxk (eAs_get hb1) (by omega) ?_
      have hbw := wE_body (k := k0) (n := n0) (t := t0) (ns := ns0) (ts := ts0) (xs := as0) (p := p0) (List.mem_of_getElem? hb1)
      have hc := ih2 b (List.mem_of_getElem? hb1) (by omega)
      have hcp := height_spec b.pat (by omega)
      have hts : deepFa (ms0.take (k + 1)) = max (deepFa (ms0.take k)) (max (pdeepF b.pat) (deepF b.body)) := by rw [take_snoc hb1, deepFa_snoc]
      have hd1 := deep_le b.body
      have hd2 := size_le b.body
      have hd3 := pdeep_le b.pat
      have hd4 := psize_le b.pat
      generalize deepF b.body = sb at hc hts hd1
      generalize pdeepF b.pat = sp at hcp hts hd3
      obtain ⟨⟨p1, p2, p3, p4⟩, ⟨b1, b2, b3, b4, b5, b6, b7, b8⟩⟩ := b
      simp only [Arm.pat, Arm.body] at hc hcp
      conv => whnf
      refine apc hc ?_
      conv => whnf
      refine apc hcp ?_
      conv => whnf
      refine aneed (by kernel_rfl) ?_
      conv => whnf
      refine ⟨hk1, _, ⟨rfl, rfl, rfl, rfl⟩, ?_⟩
      rw [hs, hts, wrap64 (by omega) (by omega), wrap64 (by omega) (by omega), show (1 : Int) + (sb : Int) = ((1 + sb : Nat) : Int) by omega, show (1 : Int) + (sp : Int) = ((1 + sp : Nat) : Int) by omega, imax_nat', imax_nat']; omega
    · have hk1 := ix_ff h1 (by rw [eAs_len]) hk (by omega)
      exact .inl (pi (by rw [hs, hk1, List.take_length]; omega))
end GL
open Go Go.AM Go.Proofs Go.RowKit TR
set_option maxRecDepth 100000
namespace GL
structure World3 (S G C : ByteArray → Bool) (tab : List Value) : Prop where
  s : SmallS S tab
  g : GreatS G
  c : ConS C
def bodyF (S G C : ByteArray → Bool) (x : Ex) (ac : Bool) (e : Int) : Int := exprF S G C x ac (mustF e (decide ((sizeF x : Int) ≤ 400) && decide ((deepF x : Int) ≤ 40)) 2)
theorem body_spec (S G C : ByteArray → Bool) (tab : List Value) (hW : World3 S G C tab) (x : Ex) (hw : wE x ≤ 1048640) (ac : Bool) (e : Int) :
    AMem Tryd.prog 25 [.ptr 1000000000 0, .p (eE x), .p (.b ac)] (hJ tab e) (.tup []) (hJ tab (bodyF S G C x ac e)) := by
  have h1 := sizeOf_spec x hw
  have h2 := deepOf_spec x hw
  have h3 := expr_spec S G C tab hW.s hW.g hW.c x hw ac
  generalize hR : bodyF S G C x ac e = R
  rw [bodyF] at hR
  generalize hf : exprF S G C x ac = F at *
  generalize (sizeF x : Int) = sz at *
  generalize (deepF x : Int) = dp at *
  unfold hJ at *
  clear hf
  obtain ⟨b1, b2, b3, b4, b5, b6, b7, b8⟩ := x
  refine AMem.intro (tyOf_ok Tryd.prog) hmix Tryd.func25 rfl (by rfl) (by kernel_rfl) (by show 3 ≤ _; decide) rfl ?_
  conv => whnf
  refine apc h1 ?_
  conv => whnf
  refine asplit ?_ ?_ <;> intro g1 <;> conv => whnf
  · refine apc h2 ?_
    conv => whnf
    refine amc [1000000000] 50 (few_spec e (decide (dp ≤ 40))) ?_
    conv => whnf
    have h3 := h3 (mustF e (decide (dp ≤ 40)) 2)
    rw [show mustF e (decide (sz ≤ 400) && decide (dp ≤ 40)) 2 = mustF e (decide (dp ≤ 40)) 2 by rw [g1]; rfl] at hR
    generalize mustF e (decide (dp ≤ 40)) 2 = e1 at *
    rw [hR] at h3
    refine amc [1000000000, 1000000001] 60 h3 ?_
    conv => whnf
    exact ⟨.inl rfl, ⟨.inl rfl, trivial⟩, ⟨rfl, rfl⟩, trivial⟩
  · refine amc [1000000000] 50 (few_spec e (false)) ?_
    conv => whnf
    have h3 := h3 (mustF e (false) 2)
    rw [show mustF e (decide (sz ≤ 400) && decide (dp ≤ 40)) 2 = mustF e (false) 2 by rw [g1]; rfl] at hR
    generalize mustF e (false) 2 = e1 at *
    rw [hR] at h3
    refine amc [1000000000, 1000000001] 60 h3 ?_
    conv => whnf
    exact ⟨.inl rfl, ⟨.inl rfl, trivial⟩, ⟨rfl, rfl⟩, trivial⟩
def headJ (S G : ByteArray → Bool) (f : LFu) (e : Int) : Int := typFs S G [f.out] 1 (typFs S G f.ts 1 (listF S f.ns (listF S f.ps (mustF e (S f.name && ((f.ns.length : Int) == f.ts.length)) 3))))
theorem fun_true (S G C : ByteArray → Bool) (tab : List Value) (hW : World3 S G C tab) (f : LFu) (hw : wlFu f ≤ 1048640) (e : Int) :
    AMem Tryd.prog 24 [.ptr 1000000000 0, .p (elFu f), .p (.b true)] (hJ tab e) (.tup []) (hJ tab (bodyF S G C f.body false (headJ S G f e))) := by
  rw [wlFu_eq] at hw
  have l1 := wSs_len f.ps
  have l2 := wSs_len f.ns
  have hs := hW.s f.name
  generalize hR : bodyF S G C f.body false (headJ S G f e) = R
  have c1 := fun e => list_spec S tab hW.s f.ps e (by omega)
  have c2 := fun e => list_spec S tab hW.s f.ns e (by omega)
  have c3 := fun e => types_spec S G tab hW.s hW.g f.ts (by omega) e
  have c4 := fun e => types_spec S G tab hW.s hW.g [f.out] (by simp only [eTs, PV.wts]; unfold wT at hw; omega) e
  have c5 := fun e => body_spec S G C tab hW f.body (by omega) false e
  rw [headJ] at hR
  have htl := eTs_len f.ts
  unfold hJ at *
  obtain ⟨nm, ps, ns, ts, ⟨ok, on, oa⟩, ⟨b1, b2, b3, b4, b5, b6, b7, b8⟩⟩ := f
  simp only at *
  generalize bodyF S G C (.mk b1 b2 b3 b4 b5 b6 b7 b8) false = FB at *
  rw [← htl, show (ns.length : Int) = (ns.map eStr).length by simp] at hR
  clear hw l1 l2 htl
  generalize typFs S G [.mk ok on oa] 1 = F4 at *
  generalize typFs S G ts 1 = F3 at *
  generalize listF S ns = F2 at *
  generalize listF S ps = F1 at *
  generalize S nm = SN at *
  refine AMem.intro (tyOf_ok Tryd.prog) hmix Tryd.func24 rfl (by rfl) (by kernel_rfl) (by show 3 ≤ _; decide) rfl ?_
  conv => whnf
  refine amc [1000000001] 50 hs ?_
  conv => whnf
  refine asplit ?_ ?_ <;> intro g1 <;> conv => whnf
  · rw [g1] at hR
    refine amc [1000000000] 60 (form_spec e (((ns.map eStr).length : Int) == ((eTs ts).length : Int))) ?_
    conv => whnf
    replace hR : FB (F4 (F3 (F2 (F1 (mustF e (((ns.map eStr).length : Int) == ((eTs ts).length : Int)) 3))))) = R := hR
    generalize mustF e (((ns.map eStr).length : Int) == ((eTs ts).length : Int)) 3 = e1 at *
    refine amc [1000000000, 1000000001] 70 (c1 e1) ?_
    conv => whnf
    generalize F1 e1 = e2 at *
    refine amc [1000000000, 1000000001] 80 (c2 e2) ?_
    conv => whnf
    generalize F2 e2 = e3 at *
    refine amc [1000000000, 1000000001] 90 (c3 e3) ?_
    conv => whnf
    generalize F3 e3 = e4 at *
    refine amc [1000000000, 1000000001] 100 (c4 e4) ?_
    conv => whnf
    generalize F4 e4 = e5 at *
    have c5 := c5 e5
    rw [hR] at c5
    refine amc [1000000000, 1000000001] 110 c5 ?_
    conv => whnf
    exact ⟨.inl rfl, ⟨.inl rfl, trivial⟩, ⟨rfl, rfl⟩, trivial⟩
  · rw [g1] at hR
    refine amc [1000000000] 60 (form_spec e (false)) ?_
    conv => whnf
    replace hR : FB (F4 (F3 (F2 (F1 (mustF e (false) 3))))) = R := hR
    generalize mustF e (false) 3 = e1 at *
    refine amc [1000000000, 1000000001] 70 (c1 e1) ?_
    conv => whnf
    generalize F1 e1 = e2 at *
    refine amc [1000000000, 1000000001] 80 (c2 e2) ?_
    conv => whnf
    generalize F2 e2 = e3 at *
    refine amc [1000000000, 1000000001] 90 (c3 e3) ?_
    conv => whnf
    generalize F3 e3 = e4 at *
    refine amc [1000000000, 1000000001] 100 (c4 e4) ?_
    conv => whnf
    generalize F4 e4 = e5 at *
    have c5 := c5 e5
    rw [hR] at c5
    refine amc [1000000000, 1000000001] 110 c5 ?_
    conv => whnf
    exact ⟨.inl rfl, ⟨.inl rfl, trivial⟩, ⟨rfl, rfl⟩, trivial⟩
end GL
open Go Go.AM Go.Proofs Go.RowKit TR
set_option maxRecDepth 100000
namespace GL
def useJ (S : ByteArray → Bool) (e : Int) (u : LUse) : Int := mustF e (S u.name && (plainF u.low && (plainF u.high && decide (u.low ≤ u.high)))) 3
def mkJ (S G : ByteArray → Bool) (e : Int) (m : LMk) : Int := typFs S G m.ts 1 (mustF (mustF e (G m.name) 3) (decide ((m.ts.length : Int) ≤ 6)) 2)
def dtJ (S G : ByteArray → Bool) (e : Int) (d : LDt) : Int := d.makes.foldl (mkJ S G) (mustF (listF S d.ps (mustF e (dataF G d.name && decide ((d.makes.length : Int) > 0)) 3)) (decide ((d.makes.length : Int) ≤ 12)) 2)
def trfJ (S G : ByteArray → Bool) (Q : Ex → Bool) (e : Int) (f : LFu) : Int := mustF (headJ S G f e) (Q f.body) 3
def trJ (S G : ByteArray → Bool) (Q : Ex → Bool) (e : Int) (t : LTr) : Int := t.funcs.foldl (trfJ S G Q) (mustF (mustF e (G t.name) 3) (decide ((t.funcs.length : Int) ≤ 12)) 2)
def fuJ (S G C : ByteArray → Bool) (e : Int) (f : LFu) : Int := bodyF S G C f.body false (headJ S G f e)
def imJ (S G C B : ByteArray → Bool) (e : Int) (t : LIm) : Int := t.funcs.foldl (fuJ S G C) (mustF (mustF e (G t.tr && (G t.fo || B t.fo)) 3) (decide ((t.funcs.length : Int) ≤ 12)) 2)
def acJ (S G C : ByteArray → Bool) (e : Int) (f : LAc) : Int := bodyF S G C f.body true (typFs S G [f.msg] 1 (typFs S G f.ts 1 (listF S f.ns (mustF e (G f.name && ((f.ns.length : Int) == f.ts.length)) 3))))
def lensL (p : LPg) : List Int := [p.uses.length, p.datas.length, p.traits.length, p.impls.length, p.funcs.length, p.actors.length]
def lensF (l : List Int) (e : Int) : Int := l.foldl (fun e n => mustF e (decide (n ≤ 40)) 2) e
def rightF (S G C B : ByteArray → Bool) (Q : Ex → Bool) (p : LPg) : Int :=
  p.actors.foldl (acJ S G C) (p.funcs.foldl (fuJ S G C) (p.impls.foldl (imJ S G C B) (p.traits.foldl (trJ S G Q) (p.datas.foldl (dtJ S G) (p.uses.foldl (useJ S) (mustF (lensF (lensL p) 0) (S p.name && plainF p.ver) 3))))))
def ConB (B : ByteArray → Bool) : Prop := ∀ t, APure Tryd.prog 7 [.p (.sl 1 (([⟨#[105, 110, 116]⟩, ⟨#[98, 111, 111, 108]⟩, ⟨#[116, 101, 120, 116]⟩, ⟨#[117, 110, 105, 116]⟩] : List ByteArray).map eStr)), .p (.s t)] (.p (.b (B t)))
def TrfS (S G : ByteArray → Bool) (Q : Ex → Bool) (tab : List Value) (f : LFu) : Prop := ∀ e, AMem Tryd.prog 24 [.ptr 1000000000 0, .p (elFu f), .p (.b false)] (hJ tab e) (.tup []) (hJ tab (trfJ S G Q e f))
theorem right_spec (S G C B : ByteArray → Bool) (tab : List Value) (hW : World3 S G C tab) (hB : ConB B) (Q : Ex → Bool) (p : LPg) (hp : wlPg p ≤ 1048640) (hT : ∀ t ∈ p.traits, ∀ f ∈ t.funcs, TrfS S G Q tab f) :
    AMem Tryd.prog 5 [.p (elPg p)] [(1000000000, .glob 0 tab)] (.p (.i .i64 (rightF S G C B Q p))) [(1000000000, .glob 0 tab)] := by
  have hwp := wlPg_eq p
  have n1 := l_wts elUse (fun x => by rw [wlUse_eq]; omega) p.uses
  have n2 := l_wts elDt (fun x => by rw [wlDt_eq]; omega) p.datas
  have n3 := l_wts elTr (fun x => by rw [wlTr_eq]; omega) p.traits
  have n4 := l_wts elIm (fun x => by rw [wlIm_eq]; omega) p.impls
  have n5 := l_wts elFu (fun x => by have := wlFu_eq x; unfold wlFu at this; omega) p.funcs
  have n6 := l_wts elAc (fun x => by rw [wlAc_eq]; omega) p.actors
  have m2 := fun x => l_mem elDt (x := x) (l := p.datas)
  have m3 := fun x => l_mem elTr (x := x) (l := p.traits)
  have m4 := fun x => l_mem elIm (x := x) (l := p.impls)
  have m5 := fun x => l_mem elFu (x := x) (l := p.funcs)
  have m6 := fun x => l_mem elAc (x := x) (l := p.actors)
  have hLL : lensL p = [((p.uses.map elUse).length : Int), (p.datas.map elDt).length, (p.traits.map elTr).length, (p.impls.map elIm).length, (p.funcs.map elFu).length, (p.actors.map elAc).length] := by simp [lensL]
  rw [rightF, hLL]
  obtain ⟨nm, ver, us, ds, ts, is, fs, acs⟩ := p
  simp only at *
  generalize hx1 : lensF [((us.map elUse).length : Int), (ds.map elDt).length, (ts.map elTr).length, (is.map elIm).length, (fs.map elFu).length, (acs.map elAc).length] 0 = x1
  generalize hx2 : mustF x1 (S nm && plainF ver) 3 = x2
  generalize hx3 : us.foldl (useJ S) x2 = x3
  generalize hx4 : ds.foldl (dtJ S G) x3 = x4
  generalize hx5 : ts.foldl (trJ S G Q) x4 = x5
  generalize hx6 : is.foldl (imJ S G C B) x5 = x6
  generalize hx7 : fs.foldl (fuJ S G C) x6 = x7
  generalize hx8 : acs.foldl (acJ S G C) x7 = x8
  refine AMem.introS (tyOf_ok Tryd.prog) Tryd.func5 rfl (by rfl) (by show 1 ≤ _; decide) rfl ?_
  refine AWp.cut (tyOf_ok Tryd.prog) hmix (by kernel_rfl) 3 [1, 3] [25, 1000000000, 1] (fun _ : Unit => [.ptr 1 0, .ptr 25 0]) (fun _ => [.cells [.p (.i .i64 x1)], .glob 0 tab, .cells [.p (.s nm), .p (.i .i64 ver), .p (.sl 3 (us.map elUse)), .p (.sl 3 (ds.map elDt)), .p (.sl 2 (ts.map elTr)), .p (.sl 3 (is.map elIm)), .p (.sl 15 (fs.map elFu)), .p (.sl 14 (acs.map elAc))]]) (fun _ => True) ?_ ?_
  · conv => whnf
    refine loopS (tyOf_ok _) hmix (by kernel_rfl) 6 [1, 3, 44, 45, 46] [25, 1000000000, 1] (fun j _ => [.ptr 1 0, .ptr 25 0, .so 1 [.i .i64 (us.map elUse).length, .i .i64 (ds.map elDt).length, .i .i64 (ts.map elTr).length, .i .i64 (is.map elIm).length, .i .i64 (fs.map elFu).length, .i .i64 (acs.map elAc).length], .p (.i .i64 6), .p (.i .i64 (ix j))]) (fun j x => [.cells [.p (.i .i64 x)], .glob 0 tab, .cells [.p (.s nm), .p (.i .i64 ver), .p (.sl 3 (us.map elUse)), .p (.sl 3 (ds.map elDt)), .p (.sl 2 (ts.map elTr)), .p (.sl 3 (is.map elIm)), .p (.sl 15 (fs.map elFu)), .p (.sl 14 (acs.map elAc))]]) (fun j x => lensF ([((us.map elUse).length : Int), (ds.map elDt).length, (ts.map elTr).length, (is.map elIm).length, (fs.map elFu).length, (acs.map elAc).length].drop j) x = x1) 0 ⟨rfl, rfl, rfl, rfl⟩ hx1 ?_
    generalize ((us.map elUse).length : Int) = l1
    generalize ((ds.map elDt).length : Int) = l2
    generalize ((ts.map elTr).length : Int) = l3
    generalize ((is.map elIm).length : Int) = l4
    generalize ((fs.map elFu).length : Int) = l5
    generalize ((acs.map elAc).length : Int) = l6
    intro j x hj hn
    conv => whnf
    refine asplit ?_ ?_ <;> intro h1 <;> conv => whnf
    · have hj1 := ix_tt h1 (n := 6) rfl hj (by omega)
      obtain ⟨b, hb1⟩ : ∃ b, [l1, l2, l3, l4, l5, l6][j]? = some b := ⟨_, List.getElem?_eq_getElem (by simpa using hj1)⟩
      rw [drop_cons hb1, lensF, List.foldl_cons] at hn
      refine aidxk (x := .i .i64 b) (show (([l1, l2, l3, l4, l5, l6] : List Int).map (PV.i .i64))[j]? = _ by rw [List.getElem?_map, hb1]; rfl) (by omega) ?_
      conv => whnf
      have c := few_spec x (decide (b ≤ 40))
      generalize mustF x (decide (b ≤ 40)) 2 = y at *
      refine amc [25] 500 c ?_
      conv => whnf
      exact ⟨hj1, y, ⟨rfl, rfl, rfl, rfl⟩, hn⟩
    · have hj1 := ix_ff h1 (n := 6) rfl hj (by omega)
      rw [hj1] at hn
      have : x = x1 := hn
      subst this
      exact ⟨(), ⟨rfl, rfl, rfl, rfl⟩, trivial⟩
  intro _ _
  clear hx1
  refine AWp.cut (tyOf_ok Tryd.prog) hmix (by kernel_rfl) 1 [1, 3] [25, 1000000000, 1] (fun _ : Unit => [.ptr 1 0, .ptr 25 0]) (fun _ => [.cells [.p (.i .i64 x2)], .glob 0 tab, .cells [.p (.s nm), .p (.i .i64 ver), .p (.sl 3 (us.map elUse)), .p (.sl 3 (ds.map elDt)), .p (.sl 2 (ts.map elTr)), .p (.sl 3 (is.map elIm)), .p (.sl 15 (fs.map elFu)), .p (.sl 14 (acs.map elAc))]]) (fun _ => True) ?_ ?_
  · conv => whnf
    have hs := hW.s nm
    generalize S nm = SN at *
    refine amc [1000000000] 50 hs ?_
    conv => whnf
    refine asplit ?_ ?_ <;> intro g1 <;> conv => whnf
    · refine apc (plain_spec ver) ?_
      conv => whnf
      have c := form_spec x1 (plainF ver)
      rw [show mustF x1 (plainF ver) 3 = x2 by rw [← hx2, g1]; rfl] at c
      refine amc [25] 60 c ?_
      conv => whnf
      exact ⟨(), ⟨rfl, rfl, rfl, rfl⟩, trivial⟩
    · have c := form_spec x1 (false)
      rw [show mustF x1 (false) 3 = x2 by rw [← hx2, g1]; rfl] at c
      refine amc [25] 60 c ?_
      conv => whnf
      exact ⟨(), ⟨rfl, rfl, rfl, rfl⟩, trivial⟩
  intro _ _
  clear hx2
  refine AWp.cut (tyOf_ok Tryd.prog) hmix (by kernel_rfl) 1 [1, 3] [25, 1000000000, 1] (fun _ : Unit => [.ptr 1 0, .ptr 25 0]) (fun _ => [.cells [.p (.i .i64 x3)], .glob 0 tab, .cells [.p (.s nm), .p (.i .i64 ver), .p (.sl 3 (us.map elUse)), .p (.sl 3 (ds.map elDt)), .p (.sl 2 (ts.map elTr)), .p (.sl 3 (is.map elIm)), .p (.sl 15 (fs.map elFu)), .p (.sl 14 (acs.map elAc))]]) (fun _ => True) ?_ ?_
  · conv => whnf
    refine loopS (tyOf_ok _) hmix (by kernel_rfl) us.length [1, 3, 66, 67, 68] [25, 1000000000, 1] (fun j _ => [.ptr 1 0, .ptr 25 0, .p (.sl 3 (us.map elUse)), .p (.i .i64 (us.map elUse).length), .p (.i .i64 (ix j))]) (fun j x => [.cells [.p (.i .i64 x)], .glob 0 tab, .cells [.p (.s nm), .p (.i .i64 ver), .p (.sl 3 (us.map elUse)), .p (.sl 3 (ds.map elDt)), .p (.sl 2 (ts.map elTr)), .p (.sl 3 (is.map elIm)), .p (.sl 15 (fs.map elFu)), .p (.sl 14 (acs.map elAc))]]) (fun j x => (us.drop j).foldl (useJ S) x = x3) x2 ⟨rfl, rfl, rfl, rfl⟩ hx3 ?_
    intro j x hj hn
    conv => whnf
    refine asplit ?_ ?_ <;> intro h1 <;> conv => whnf
    · have hj1 := ix_tt h1 (by simp) hj (by omega)
      obtain ⟨b, hb1⟩ : ∃ b, us[j]? = some b := ⟨_, List.getElem?_eq_getElem hj1⟩
      have hbm := List.mem_of_getElem? hb1
      rw [drop_cons hb1, List.foldl_cons] at hn
      refine aidxk (x := elUse b) (by simp [hb1]) (by omega) ?_
      rw [useJ] at hn
      have hs := hW.s b.name
      obtain ⟨bn, bl, bh⟩ := b
      simp only at hn hs
      generalize S bn = SN at *
      have p1 := plain_spec bl
      have p2 := plain_spec bh
      generalize plainF bl = P1 at *
      generalize plainF bh = P2 at *
      conv => whnf
      refine amc [1000000000] 50 hs ?_
      conv => whnf
      refine asplit ?_ ?_ <;> intro g1 <;> conv => whnf
      · refine apc p1 ?_
        conv => whnf
        refine asplit ?_ ?_ <;> intro g2 <;> conv => whnf
        · refine apc p2 ?_
          conv => whnf
          refine asplit ?_ ?_ <;> intro g3 <;> conv => whnf
          · rw [g1, g2, g3] at hn
            have c := form_spec x (decide (bl ≤ bh))
            replace hn : (us.drop (j + 1)).foldl (useJ S) (mustF x (decide (bl ≤ bh)) 3) = x3 := hn
            generalize mustF x (decide (bl ≤ bh)) 3 = y at *
            refine amc [25] 60 c ?_
            conv => whnf
            exact ⟨hj1, y, ⟨rfl, rfl, rfl, rfl⟩, hn⟩
          · rw [g1, g2, g3] at hn
            have c := form_spec x (false)
            replace hn : (us.drop (j + 1)).foldl (useJ S) (mustF x (false) 3) = x3 := hn
            generalize mustF x (false) 3 = y at *
            refine amc [25] 60 c ?_
            conv => whnf
            exact ⟨hj1, y, ⟨rfl, rfl, rfl, rfl⟩, hn⟩
        · rw [g1, g2] at hn
          have c := form_spec x (false)
          replace hn : (us.drop (j + 1)).foldl (useJ S) (mustF x (false) 3) = x3 := hn
          generalize mustF x (false) 3 = y at *
          refine amc [25] 60 c ?_
          conv => whnf
          exact ⟨hj1, y, ⟨rfl, rfl, rfl, rfl⟩, hn⟩
      · rw [g1] at hn
        have c := form_spec x (false)
        replace hn : (us.drop (j + 1)).foldl (useJ S) (mustF x (false) 3) = x3 := hn
        generalize mustF x (false) 3 = y at *
        refine amc [25] 60 c ?_
        conv => whnf
        exact ⟨hj1, y, ⟨rfl, rfl, rfl, rfl⟩, hn⟩
    · have hj1 := ix_ff h1 (by simp) hj (by omega)
      rw [hj1, List.drop_length, List.foldl_nil] at hn
      subst hn
      exact ⟨(), ⟨rfl, rfl, rfl, rfl⟩, trivial⟩
  intro _ _
  clear hx3
  refine AWp.cut (tyOf_ok Tryd.prog) hmix (by kernel_rfl) 1 [1, 3] [25, 1000000000, 1] (fun _ : Unit => [.ptr 1 0, .ptr 25 0]) (fun _ => [.cells [.p (.i .i64 x4)], .glob 0 tab, .cells [.p (.s nm), .p (.i .i64 ver), .p (.sl 3 (us.map elUse)), .p (.sl 3 (ds.map elDt)), .p (.sl 2 (ts.map elTr)), .p (.sl 3 (is.map elIm)), .p (.sl 15 (fs.map elFu)), .p (.sl 14 (acs.map elAc))]]) (fun _ => True) ?_ ?_
  · conv => whnf
    refine loopS (tyOf_ok _) hmix (by kernel_rfl) ds.length [1, 3, 96, 97, 98] [25, 1000000000, 1] (fun j _ => [.ptr 1 0, .ptr 25 0, .p (.sl 3 (ds.map elDt)), .p (.i .i64 (ds.map elDt).length), .p (.i .i64 (ix j))]) (fun j x => [.cells [.p (.i .i64 x)], .glob 0 tab, .cells [.p (.s nm), .p (.i .i64 ver), .p (.sl 3 (us.map elUse)), .p (.sl 3 (ds.map elDt)), .p (.sl 2 (ts.map elTr)), .p (.sl 3 (is.map elIm)), .p (.sl 15 (fs.map elFu)), .p (.sl 14 (acs.map elAc))]]) (fun j x => (ds.drop j).foldl (dtJ S G) x = x4) x3 ⟨rfl, rfl, rfl, rfl⟩ hx4 ?_
    intro j x hj hn
    conv => whnf
    refine asplit ?_ ?_ <;> intro h1 <;> conv => whnf
    · have hj1 := ix_tt h1 (by simp) hj (by omega)
      obtain ⟨b, hb1⟩ : ∃ b, ds[j]? = some b := ⟨_, List.getElem?_eq_getElem hj1⟩
      have hbm := List.mem_of_getElem? hb1
      rw [drop_cons hb1, List.foldl_cons] at hn
      refine aidxk (x := elDt b) (by simp [hb1]) (by omega) ?_
      rw [dtJ] at hn
      have hbw := m2 _ hbm
      rw [wlDt_eq] at hbw
      have q1 := wSs_len b.ps
      have q2 := l_wts elMk (fun x => by rw [wlMk_eq]; omega) b.makes
      have q3 := fun x => l_mem elMk (x := x) (l := b.makes)
      have hs := data_spec G b.name (hW.g b.name)
      have c1 := fun e => list_spec S tab hW.s b.ps e (by omega)
      obtain ⟨bn, bp, bm⟩ := b
      simp only at *
      rw [show (bm.length : Int) = (bm.map elMk).length by simp] at hn
      generalize dataF G bn = SN at *
      generalize listF S bp = F1 at *
      conv => whnf
      refine apc hs ?_
      conv => whnf
      refine asplit ?_ ?_ <;> intro g1 <;> conv => whnf
      · rw [g1] at hn
        have c := form_spec x (decide (((bm.map elMk).length : Int) > 0))
        replace hn : (ds.drop (j + 1)).foldl (dtJ S G) (bm.foldl (mkJ S G) (mustF (F1 (mustF x (decide (((bm.map elMk).length : Int) > 0)) 3)) (decide (((bm.map elMk).length : Int) ≤ 12)) 2)) = x4 := hn
        generalize mustF x (decide (((bm.map elMk).length : Int) > 0)) 3 = y at *
        refine amc [25] 60 c ?_
        conv => whnf
        refine amc [25, 1000000000] 70 (c1 y) ?_
        conv => whnf
        generalize F1 y = y1 at *
        have c2 := few_spec y1 (decide (((bm.map elMk).length : Int) ≤ 12))
        generalize mustF y1 (decide (((bm.map elMk).length : Int) ≤ 12)) 2 = y2 at *
        refine amc [25] 80 c2 ?_
        conv => whnf
        refine loopS (tyOf_ok _) hmix (by kernel_rfl) bm.length [1, 3, 96, 97, 98, 124, 125, 126] [25, 1000000000, 1] (fun i _ => [.ptr 1 0, .ptr 25 0, .p (.sl 3 (ds.map elDt)), .p (.i .i64 (ds.map elDt).length), .p (.i .i64 (ix j)), .p (.sl 2 (bm.map elMk)), .p (.i .i64 (bm.map elMk).length), .p (.i .i64 (ix i))]) (fun i x => [.cells [.p (.i .i64 x)], .glob 0 tab, .cells [.p (.s nm), .p (.i .i64 ver), .p (.sl 3 (us.map elUse)), .p (.sl 3 (ds.map elDt)), .p (.sl 2 (ts.map elTr)), .p (.sl 3 (is.map elIm)), .p (.sl 15 (fs.map elFu)), .p (.sl 14 (acs.map elAc))]]) (fun i x => (ds.drop (j + 1)).foldl (dtJ S G) ((bm.drop i).foldl (mkJ S G) x) = x4) y2 ⟨rfl, rfl, rfl, rfl⟩ hn ?_
        clear hn
        intro i z hi hn
        conv => whnf
        refine asplit ?_ ?_ <;> intro h2 <;> conv => whnf
        · have hi1 := ix_tt h2 (by simp) hi (by omega)
          obtain ⟨a, ha1⟩ : ∃ a, bm[i]? = some a := ⟨_, List.getElem?_eq_getElem hi1⟩
          have ham := q3 _ (List.mem_of_getElem? ha1)
          rw [wlMk_eq] at ham
          rw [drop_cons ha1, List.foldl_cons, mkJ] at hn
          refine aidxk (x := elMk a) (by simp [ha1]) (by omega) ?_
          have d1 := hW.g a.name
          have d2 := fun e => types_spec S G tab hW.s hW.g a.ts (by omega) e
          obtain ⟨an, at1⟩ := a
          simp only at *
          rw [show (at1.length : Int) = (eTs at1).length by rw [eTs_len]] at hn
          generalize G an = GN at *
          generalize typFs S G at1 1 = F2 at *
          conv => whnf
          refine apc d1 ?_
          conv => whnf
          have c := form_spec z GN
          generalize mustF z GN 3 = z1 at *
          refine amc [25] 60 c ?_
          conv => whnf
          have c := few_spec z1 (decide (((eTs at1).length : Int) ≤ 6))
          generalize mustF z1 (decide (((eTs at1).length : Int) ≤ 6)) 2 = z2 at *
          refine amc [25] 70 c ?_
          conv => whnf
          have d2 := d2 z2
          unfold hJ at d2
          generalize F2 z2 = z3 at *
          refine amc [25, 1000000000] 80 d2 ?_
          conv => whnf
          exact ⟨hi1, z3, ⟨rfl, rfl, rfl, rfl⟩, hn⟩
        · have hi1 := ix_ff h2 (by simp) hi (by omega)
          rw [hi1, List.drop_length, List.foldl_nil] at hn
          exact ⟨hj1, z, ⟨rfl, rfl, rfl, rfl⟩, hn⟩
      · rw [g1] at hn
        have c := form_spec x (false)
        replace hn : (ds.drop (j + 1)).foldl (dtJ S G) (bm.foldl (mkJ S G) (mustF (F1 (mustF x (false) 3)) (decide (((bm.map elMk).length : Int) ≤ 12)) 2)) = x4 := hn
        generalize mustF x (false) 3 = y at *
        refine amc [25] 60 c ?_
        conv => whnf
        refine amc [25, 1000000000] 70 (c1 y) ?_
        conv => whnf
        generalize F1 y = y1 at *
        have c2 := few_spec y1 (decide (((bm.map elMk).length : Int) ≤ 12))
        generalize mustF y1 (decide (((bm.map elMk).length : Int) ≤ 12)) 2 = y2 at *
        refine amc [25] 80 c2 ?_
        conv => whnf
        refine loopS (tyOf_ok _) hmix (by kernel_rfl) bm.length [1, 3, 96, 97, 98, 124, 125, 126] [25, 1000000000, 1] (fun i _ => [.ptr 1 0, .ptr 25 0, .p (.sl 3 (ds.map elDt)), .p (.i .i64 (ds.map elDt).length), .p (.i .i64 (ix j)), .p (.sl 2 (bm.map elMk)), .p (.i .i64 (bm.map elMk).length), .p (.i .i64 (ix i))]) (fun i x => [.cells [.p (.i .i64 x)], .glob 0 tab, .cells [.p (.s nm), .p (.i .i64 ver), .p (.sl 3 (us.map elUse)), .p (.sl 3 (ds.map elDt)), .p (.sl 2 (ts.map elTr)), .p (.sl 3 (is.map elIm)), .p (.sl 15 (fs.map elFu)), .p (.sl 14 (acs.map elAc))]]) (fun i x => (ds.drop (j + 1)).foldl (dtJ S G) ((bm.drop i).foldl (mkJ S G) x) = x4) y2 ⟨rfl, rfl, rfl, rfl⟩ hn ?_
        clear hn
        intro i z hi hn
        conv => whnf
        refine asplit ?_ ?_ <;> intro h2 <;> conv => whnf
        · have hi1 := ix_tt h2 (by simp) hi (by omega)
          obtain ⟨a, ha1⟩ : ∃ a, bm[i]? = some a := ⟨_, List.getElem?_eq_getElem hi1⟩
          have ham := q3 _ (List.mem_of_getElem? ha1)
          rw [wlMk_eq] at ham
          rw [drop_cons ha1, List.foldl_cons, mkJ] at hn
          refine aidxk (x := elMk a) (by simp [ha1]) (by omega) ?_
          have d1 := hW.g a.name
          have d2 := fun e => types_spec S G tab hW.s hW.g a.ts (by omega) e
          obtain ⟨an, at1⟩ := a
          simp only at *
          rw [show (at1.length : Int) = (eTs at1).length by rw [eTs_len]] at hn
          generalize G an = GN at *
          generalize typFs S G at1 1 = F2 at *
          conv => whnf
          refine apc d1 ?_
          conv => whnf
          have c := form_spec z GN
          generalize mustF z GN 3 = z1 at *
          refine amc [25] 60 c ?_
          conv => whnf
          have c := few_spec z1 (decide (((eTs at1).length : Int) ≤ 6))
          generalize mustF z1 (decide (((eTs at1).length : Int) ≤ 6)) 2 = z2 at *
          refine amc [25] 70 c ?_
          conv => whnf
          have d2 := d2 z2
          unfold hJ at d2
          generalize F2 z2 = z3 at *
          refine amc [25, 1000000000] 80 d2 ?_
          conv => whnf
          exact ⟨hi1, z3, ⟨rfl, rfl, rfl, rfl⟩, hn⟩
        · have hi1 := ix_ff h2 (by simp) hi (by omega)
          rw [hi1, List.drop_length, List.foldl_nil] at hn
          exact ⟨hj1, z, ⟨rfl, rfl, rfl, rfl⟩, hn⟩
    · have hj1 := ix_ff h1 (by simp) hj (by omega)
      rw [hj1, List.drop_length, List.foldl_nil] at hn
      subst hn
      exact ⟨(), ⟨rfl, rfl, rfl, rfl⟩, trivial⟩
  intro _ _
  clear hx4
  refine AWp.cut (tyOf_ok Tryd.prog) hmix (by kernel_rfl) 1 [1, 3] [25, 1000000000, 1] (fun _ : Unit => [.ptr 1 0, .ptr 25 0]) (fun _ => [.cells [.p (.i .i64 x5)], .glob 0 tab, .cells [.p (.s nm), .p (.i .i64 ver), .p (.sl 3 (us.map elUse)), .p (.sl 3 (ds.map elDt)), .p (.sl 2 (ts.map elTr)), .p (.sl 3 (is.map elIm)), .p (.sl 15 (fs.map elFu)), .p (.sl 14 (acs.map elAc))]]) (fun _ => True) ?_ ?_
  · conv => whnf
    refine loopS (tyOf_ok _) hmix (by kernel_rfl) ts.length [1, 3, 148, 149, 150] [25, 1000000000, 1] (fun j _ => [.ptr 1 0, .ptr 25 0, .p (.sl 2 (ts.map elTr)), .p (.i .i64 (ts.map elTr).length), .p (.i .i64 (ix j))]) (fun j x => [.cells [.p (.i .i64 x)], .glob 0 tab, .cells [.p (.s nm), .p (.i .i64 ver), .p (.sl 3 (us.map elUse)), .p (.sl 3 (ds.map elDt)), .p (.sl 2 (ts.map elTr)), .p (.sl 3 (is.map elIm)), .p (.sl 15 (fs.map elFu)), .p (.sl 14 (acs.map elAc))]]) (fun j x => (ts.drop j).foldl (trJ S G Q) x = x5) x4 ⟨rfl, rfl, rfl, rfl⟩ hx5 ?_
    intro j x hj hn
    conv => whnf
    refine asplit ?_ ?_ <;> intro h1 <;> conv => whnf
    · have hj1 := ix_tt h1 (by simp) hj (by omega)
      obtain ⟨b, hb1⟩ : ∃ b, ts[j]? = some b := ⟨_, List.getElem?_eq_getElem hj1⟩
      have hbm := List.mem_of_getElem? hb1
      rw [drop_cons hb1, List.foldl_cons] at hn
      refine aidxk (x := elTr b) (by simp [hb1]) (by omega) ?_
      rw [trJ] at hn
      have hbw := m3 _ hbm
      rw [wlTr_eq] at hbw
      have q2 := l_wts elFu (fun x => by have := wlFu_eq x; unfold wlFu at this; omega) b.funcs
      have hs := hW.g b.name
      have hT := hT b hbm
      obtain ⟨bn, bm⟩ := b
      simp only at *
      rw [show (bm.length : Int) = (bm.map elFu).length by simp] at hn
      generalize G bn = SN at *
      conv => whnf
      refine apc hs ?_
      conv => whnf
      have c := form_spec x SN
      generalize mustF x SN 3 = y at *
      refine amc [25] 60 c ?_
      conv => whnf
      have c2 := few_spec y (decide (((bm.map elFu).length : Int) ≤ 12))
      generalize mustF y (decide (((bm.map elFu).length : Int) ≤ 12)) 2 = y2 at *
      refine amc [25] 80 c2 ?_
      conv => whnf
      refine loopS (tyOf_ok _) hmix (by kernel_rfl) bm.length [1, 3, 148, 149, 150, 166, 167, 168] [25, 1000000000, 1] (fun i _ => [.ptr 1 0, .ptr 25 0, .p (.sl 2 (ts.map elTr)), .p (.i .i64 (ts.map elTr).length), .p (.i .i64 (ix j)), .p (.sl 15 (bm.map elFu)), .p (.i .i64 (bm.map elFu).length), .p (.i .i64 (ix i))]) (fun i x => [.cells [.p (.i .i64 x)], .glob 0 tab, .cells [.p (.s nm), .p (.i .i64 ver), .p (.sl 3 (us.map elUse)), .p (.sl 3 (ds.map elDt)), .p (.sl 2 (ts.map elTr)), .p (.sl 3 (is.map elIm)), .p (.sl 15 (fs.map elFu)), .p (.sl 14 (acs.map elAc))]]) (fun i x => (ts.drop (j + 1)).foldl (trJ S G Q) ((bm.drop i).foldl (trfJ S G Q) x) = x5) y2 ⟨rfl, rfl, rfl, rfl⟩ hn ?_
      clear hn
      intro i z hi hn
      conv => whnf
      refine asplit ?_ ?_ <;> intro h2 <;> conv => whnf
      · have hi1 := ix_tt h2 (by simp) hi (by omega)
        obtain ⟨a, ha1⟩ : ∃ a, bm[i]? = some a := ⟨_, List.getElem?_eq_getElem hi1⟩
        have ham := List.mem_of_getElem? ha1
        rw [drop_cons ha1, List.foldl_cons] at hn
        refine aidxk (x := elFu a) (by simp [ha1]) (by omega) ?_
        have c := hT a ham z
        unfold hJ at c
      
        generalize trfJ S G Q z a = y at *
        obtain ⟨nm, ps, ns, tz, ⟨ok, on, oa⟩, ⟨b1, b2, b3, b4, b5, b6, b7, b8⟩⟩ := a
        conv => whnf
        refine amc [25, 1000000000] 600 c ?_
        conv => whnf
        exact ⟨hi1, y, ⟨rfl, rfl, rfl, rfl⟩, hn⟩
      · have hi1 := ix_ff h2 (by simp) hi (by omega)
        rw [hi1, List.drop_length, List.foldl_nil] at hn
        exact ⟨hj1, z, ⟨rfl, rfl, rfl, rfl⟩, hn⟩
    · have hj1 := ix_ff h1 (by simp) hj (by omega)
      rw [hj1, List.drop_length, List.foldl_nil] at hn
      subst hn
      exact ⟨(), ⟨rfl, rfl, rfl, rfl⟩, trivial⟩
  intro _ _
  clear hx5
  refine AWp.cut (tyOf_ok Tryd.prog) hmix (by kernel_rfl) 1 [1, 3] [25, 1000000000, 1] (fun _ : Unit => [.ptr 1 0, .ptr 25 0]) (fun _ => [.cells [.p (.i .i64 x6)], .glob 0 tab, .cells [.p (.s nm), .p (.i .i64 ver), .p (.sl 3 (us.map elUse)), .p (.sl 3 (ds.map elDt)), .p (.sl 2 (ts.map elTr)), .p (.sl 3 (is.map elIm)), .p (.sl 15 (fs.map elFu)), .p (.sl 14 (acs.map elAc))]]) (fun _ => True) ?_ ?_
  · conv => whnf
    refine loopS (tyOf_ok _) hmix (by kernel_rfl) is.length [1, 3, 178, 179, 180] [25, 1000000000, 1] (fun j _ => [.ptr 1 0, .ptr 25 0, .p (.sl 3 (is.map elIm)), .p (.i .i64 (is.map elIm).length), .p (.i .i64 (ix j))]) (fun j x => [.cells [.p (.i .i64 x)], .glob 0 tab, .cells [.p (.s nm), .p (.i .i64 ver), .p (.sl 3 (us.map elUse)), .p (.sl 3 (ds.map elDt)), .p (.sl 2 (ts.map elTr)), .p (.sl 3 (is.map elIm)), .p (.sl 15 (fs.map elFu)), .p (.sl 14 (acs.map elAc))]]) (fun j x => (is.drop j).foldl (imJ S G C B) x = x6) x5 ⟨rfl, rfl, rfl, rfl⟩ hx6 ?_
    intro j x hj hn
    conv => whnf
    refine asplit ?_ ?_ <;> intro h1 <;> conv => whnf
    · have hj1 := ix_tt h1 (by simp) hj (by omega)
      obtain ⟨b, hb1⟩ : ∃ b, is[j]? = some b := ⟨_, List.getElem?_eq_getElem hj1⟩
      have hbm := List.mem_of_getElem? hb1
      rw [drop_cons hb1, List.foldl_cons] at hn
      refine aidxk (x := elIm b) (by simp [hb1]) (by omega) ?_
      rw [imJ] at hn
      have hbw := m4 _ hbm
      rw [wlIm_eq] at hbw
      have q2 := l_wts elFu (fun x => by have := wlFu_eq x; unfold wlFu at this; omega) b.funcs
      have q3 := fun x => l_mem elFu (x := x) (l := b.funcs)
      have hs := hW.g b.tr
      have ht := hW.g b.fo
      have hu := hB b.fo
      obtain ⟨bn, bo, bm⟩ := b
      simp only at *
      rw [show (bm.length : Int) = (bm.map elFu).length by simp] at hn
      generalize G bn = SN at *
      generalize G bo = ON at *
      generalize B bo = BN at *
      conv => whnf
      refine apc hs ?_
      conv => whnf
      refine asplit ?_ ?_ <;> intro g1 <;> conv => whnf
      · refine apc ht ?_
        conv => whnf
        refine asplit ?_ ?_ <;> intro g2 <;> conv => whnf
        · rw [g1, g2] at hn
          have c := form_spec x (true)
          replace hn : (is.drop (j + 1)).foldl (imJ S G C B) (bm.foldl (fuJ S G C) (mustF (mustF x (true) 3) (decide (((bm.map elFu).length : Int) ≤ 12)) 2)) = x6 := hn
          generalize mustF x (true) 3 = y at *
          refine amc [25] 60 c ?_
          conv => whnf
          have c2 := few_spec y (decide (((bm.map elFu).length : Int) ≤ 12))
          generalize mustF y (decide (((bm.map elFu).length : Int) ≤ 12)) 2 = y2 at *
          refine amc [25] 80 c2 ?_
          conv => whnf
          refine loopS (tyOf_ok _) hmix (by kernel_rfl) bm.length [1, 3, 178, 179, 180, 207, 208, 209] [25, 1000000000, 1] (fun i _ => [.ptr 1 0, .ptr 25 0, .p (.sl 3 (is.map elIm)), .p (.i .i64 (is.map elIm).length), .p (.i .i64 (ix j)), .p (.sl 15 (bm.map elFu)), .p (.i .i64 (bm.map elFu).length), .p (.i .i64 (ix i))]) (fun i x => [.cells [.p (.i .i64 x)], .glob 0 tab, .cells [.p (.s nm), .p (.i .i64 ver), .p (.sl 3 (us.map elUse)), .p (.sl 3 (ds.map elDt)), .p (.sl 2 (ts.map elTr)), .p (.sl 3 (is.map elIm)), .p (.sl 15 (fs.map elFu)), .p (.sl 14 (acs.map elAc))]]) (fun i x => (is.drop (j + 1)).foldl (imJ S G C B) ((bm.drop i).foldl (fuJ S G C) x) = x6) y2 ⟨rfl, rfl, rfl, rfl⟩ hn ?_
          clear hn
          intro i z hi hn
          conv => whnf
          refine asplit ?_ ?_ <;> intro h2 <;> conv => whnf
          · have hi1 := ix_tt h2 (by simp) hi (by omega)
            obtain ⟨a, ha1⟩ : ∃ a, bm[i]? = some a := ⟨_, List.getElem?_eq_getElem hi1⟩
            have ham := List.mem_of_getElem? ha1
            rw [drop_cons ha1, List.foldl_cons] at hn
            refine aidxk (x := elFu a) (by simp [ha1]) (by omega) ?_
            have c := fun_true S G C tab hW a (by have := q3 a ham; unfold wlFu; omega) z
            unfold hJ at c
            rw [← fuJ] at c
            generalize fuJ S G C z a = y at *
            obtain ⟨nm, ps, ns, tz, ⟨ok, on, oa⟩, ⟨b1, b2, b3, b4, b5, b6, b7, b8⟩⟩ := a
            conv => whnf
            refine amc [25, 1000000000] 600 c ?_
            conv => whnf
            exact ⟨hi1, y, ⟨rfl, rfl, rfl, rfl⟩, hn⟩
          · have hi1 := ix_ff h2 (by simp) hi (by omega)
            rw [hi1, List.drop_length, List.foldl_nil] at hn
            exact ⟨hj1, z, ⟨rfl, rfl, rfl, rfl⟩, hn⟩
        · refine apc hu ?_
          conv => whnf
          rw [g1, g2] at hn
          have c := form_spec x (BN)
          replace hn : (is.drop (j + 1)).foldl (imJ S G C B) (bm.foldl (fuJ S G C) (mustF (mustF x (BN) 3) (decide (((bm.map elFu).length : Int) ≤ 12)) 2)) = x6 := hn
          generalize mustF x (BN) 3 = y at *
          refine amc [25] 60 c ?_
          conv => whnf
          have c2 := few_spec y (decide (((bm.map elFu).length : Int) ≤ 12))
          generalize mustF y (decide (((bm.map elFu).length : Int) ≤ 12)) 2 = y2 at *
          refine amc [25] 80 c2 ?_
          conv => whnf
          refine loopS (tyOf_ok _) hmix (by kernel_rfl) bm.length [1, 3, 178, 179, 180, 207, 208, 209] [25, 1000000000, 1] (fun i _ => [.ptr 1 0, .ptr 25 0, .p (.sl 3 (is.map elIm)), .p (.i .i64 (is.map elIm).length), .p (.i .i64 (ix j)), .p (.sl 15 (bm.map elFu)), .p (.i .i64 (bm.map elFu).length), .p (.i .i64 (ix i))]) (fun i x => [.cells [.p (.i .i64 x)], .glob 0 tab, .cells [.p (.s nm), .p (.i .i64 ver), .p (.sl 3 (us.map elUse)), .p (.sl 3 (ds.map elDt)), .p (.sl 2 (ts.map elTr)), .p (.sl 3 (is.map elIm)), .p (.sl 15 (fs.map elFu)), .p (.sl 14 (acs.map elAc))]]) (fun i x => (is.drop (j + 1)).foldl (imJ S G C B) ((bm.drop i).foldl (fuJ S G C) x) = x6) y2 ⟨rfl, rfl, rfl, rfl⟩ hn ?_
          clear hn
          intro i z hi hn
          conv => whnf
          refine asplit ?_ ?_ <;> intro h2 <;> conv => whnf
          · have hi1 := ix_tt h2 (by simp) hi (by omega)
            obtain ⟨a, ha1⟩ : ∃ a, bm[i]? = some a := ⟨_, List.getElem?_eq_getElem hi1⟩
            have ham := List.mem_of_getElem? ha1
            rw [drop_cons ha1, List.foldl_cons] at hn
            refine aidxk (x := elFu a) (by simp [ha1]) (by omega) ?_
            have c := fun_true S G C tab hW a (by have := q3 a ham; unfold wlFu; omega) z
            unfold hJ at c
            rw [← fuJ] at c
            generalize fuJ S G C z a = y at *
            obtain ⟨nm, ps, ns, tz, ⟨ok, on, oa⟩, ⟨b1, b2, b3, b4, b5, b6, b7, b8⟩⟩ := a
            conv => whnf
            refine amc [25, 1000000000] 600 c ?_
            conv => whnf
            exact ⟨hi1, y, ⟨rfl, rfl, rfl, rfl⟩, hn⟩
          · have hi1 := ix_ff h2 (by simp) hi (by omega)
            rw [hi1, List.drop_length, List.foldl_nil] at hn
            exact ⟨hj1, z, ⟨rfl, rfl, rfl, rfl⟩, hn⟩
      · rw [g1] at hn
        have c := form_spec x (false)
        replace hn : (is.drop (j + 1)).foldl (imJ S G C B) (bm.foldl (fuJ S G C) (mustF (mustF x (false) 3) (decide (((bm.map elFu).length : Int) ≤ 12)) 2)) = x6 := hn
        generalize mustF x (false) 3 = y at *
        refine amc [25] 60 c ?_
        conv => whnf
        have c2 := few_spec y (decide (((bm.map elFu).length : Int) ≤ 12))
        generalize mustF y (decide (((bm.map elFu).length : Int) ≤ 12)) 2 = y2 at *
        refine amc [25] 80 c2 ?_
        conv => whnf
        refine loopS (tyOf_ok _) hmix (by kernel_rfl) bm.length [1, 3, 178, 179, 180, 207, 208, 209] [25, 1000000000, 1] (fun i _ => [.ptr 1 0, .ptr 25 0, .p (.sl 3 (is.map elIm)), .p (.i .i64 (is.map elIm).length), .p (.i .i64 (ix j)), .p (.sl 15 (bm.map elFu)), .p (.i .i64 (bm.map elFu).length), .p (.i .i64 (ix i))]) (fun i x => [.cells [.p (.i .i64 x)], .glob 0 tab, .cells [.p (.s nm), .p (.i .i64 ver), .p (.sl 3 (us.map elUse)), .p (.sl 3 (ds.map elDt)), .p (.sl 2 (ts.map elTr)), .p (.sl 3 (is.map elIm)), .p (.sl 15 (fs.map elFu)), .p (.sl 14 (acs.map elAc))]]) (fun i x => (is.drop (j + 1)).foldl (imJ S G C B) ((bm.drop i).foldl (fuJ S G C) x) = x6) y2 ⟨rfl, rfl, rfl, rfl⟩ hn ?_
        clear hn
        intro i z hi hn
        conv => whnf
        refine asplit ?_ ?_ <;> intro h2 <;> conv => whnf
        · have hi1 := ix_tt h2 (by simp) hi (by omega)
          obtain ⟨a, ha1⟩ : ∃ a, bm[i]? = some a := ⟨_, List.getElem?_eq_getElem hi1⟩
          have ham := List.mem_of_getElem? ha1
          rw [drop_cons ha1, List.foldl_cons] at hn
          refine aidxk (x := elFu a) (by simp [ha1]) (by omega) ?_
          have c := fun_true S G C tab hW a (by have := q3 a ham; unfold wlFu; omega) z
          unfold hJ at c
          rw [← fuJ] at c
          generalize fuJ S G C z a = y at *
          obtain ⟨nm, ps, ns, tz, ⟨ok, on, oa⟩, ⟨b1, b2, b3, b4, b5, b6, b7, b8⟩⟩ := a
          conv => whnf
          refine amc [25, 1000000000] 600 c ?_
          conv => whnf
          exact ⟨hi1, y, ⟨rfl, rfl, rfl, rfl⟩, hn⟩
        · have hi1 := ix_ff h2 (by simp) hi (by omega)
          rw [hi1, List.drop_length, List.foldl_nil] at hn
          exact ⟨hj1, z, ⟨rfl, rfl, rfl, rfl⟩, hn⟩
    · have hj1 := ix_ff h1 (by simp) hj (by omega)
      rw [hj1, List.drop_length, List.foldl_nil] at hn
      subst hn
      exact ⟨(), ⟨rfl, rfl, rfl, rfl⟩, trivial⟩
  intro _ _
  clear hx6
  refine AWp.cut (tyOf_ok Tryd.prog) hmix (by kernel_rfl) 1 [1, 3] [25, 1000000000, 1] (fun _ : Unit => [.ptr 1 0, .ptr 25 0]) (fun _ => [.cells [.p (.i .i64 x7)], .glob 0 tab, .cells [.p (.s nm), .p (.i .i64 ver), .p (.sl 3 (us.map elUse)), .p (.sl 3 (ds.map elDt)), .p (.sl 2 (ts.map elTr)), .p (.sl 3 (is.map elIm)), .p (.sl 15 (fs.map elFu)), .p (.sl 14 (acs.map elAc))]]) (fun _ => True) ?_ ?_
  · conv => whnf
    refine loopS (tyOf_ok _) hmix (by kernel_rfl) fs.length [1, 3, 219, 220, 221] [25, 1000000000, 1] (fun j _ => [.ptr 1 0, .ptr 25 0, .p (.sl 15 (fs.map elFu)), .p (.i .i64 (fs.map elFu).length), .p (.i .i64 (ix j))]) (fun j x => [.cells [.p (.i .i64 x)], .glob 0 tab, .cells [.p (.s nm), .p (.i .i64 ver), .p (.sl 3 (us.map elUse)), .p (.sl 3 (ds.map elDt)), .p (.sl 2 (ts.map elTr)), .p (.sl 3 (is.map elIm)), .p (.sl 15 (fs.map elFu)), .p (.sl 14 (acs.map elAc))]]) (fun j x => (fs.drop j).foldl (fuJ S G C) x = x7) x6 ⟨rfl, rfl, rfl, rfl⟩ hx7 ?_
    intro j x hj hn
    conv => whnf
    refine asplit ?_ ?_ <;> intro h1 <;> conv => whnf
    · have hj1 := ix_tt h1 (by simp) hj (by omega)
      obtain ⟨b, hb1⟩ : ∃ b, fs[j]? = some b := ⟨_, List.getElem?_eq_getElem hj1⟩
      have hbm := List.mem_of_getElem? hb1
      rw [drop_cons hb1, List.foldl_cons] at hn
      refine aidxk (x := elFu b) (by simp [hb1]) (by omega) ?_
      have c := fun_true S G C tab hW b (by have := m5 b hbm; unfold wlFu; omega) x
      unfold hJ at c
      rw [← fuJ] at c
      generalize fuJ S G C x b = y at *
      obtain ⟨nm, ps, ns, tz, ⟨ok, on, oa⟩, ⟨b1, b2, b3, b4, b5, b6, b7, b8⟩⟩ := b
      conv => whnf
      refine amc [25, 1000000000] 600 c ?_
      conv => whnf
      exact ⟨hj1, y, ⟨rfl, rfl, rfl, rfl⟩, hn⟩
    · have hj1 := ix_ff h1 (by simp) hj (by omega)
      rw [hj1, List.drop_length, List.foldl_nil] at hn
      subst hn
      exact ⟨(), ⟨rfl, rfl, rfl, rfl⟩, trivial⟩
  intro _ _
  clear hx7
  refine AWp.cut (tyOf_ok Tryd.prog) hmix (by kernel_rfl) 1 [1, 3] [25, 1000000000, 1] (fun _ : Unit => [.ptr 1 0, .ptr 25 0]) (fun _ => [.cells [.p (.i .i64 x8)], .glob 0 tab, .cells [.p (.s nm), .p (.i .i64 ver), .p (.sl 3 (us.map elUse)), .p (.sl 3 (ds.map elDt)), .p (.sl 2 (ts.map elTr)), .p (.sl 3 (is.map elIm)), .p (.sl 15 (fs.map elFu)), .p (.sl 14 (acs.map elAc))]]) (fun _ => True) ?_ ?_
  · conv => whnf
    refine loopS (tyOf_ok _) hmix (by kernel_rfl) acs.length [1, 3, 230, 231, 232] [25, 1000000000, 1] (fun j _ => [.ptr 1 0, .ptr 25 0, .p (.sl 14 (acs.map elAc)), .p (.i .i64 (acs.map elAc).length), .p (.i .i64 (ix j))]) (fun j x => [.cells [.p (.i .i64 x)], .glob 0 tab, .cells [.p (.s nm), .p (.i .i64 ver), .p (.sl 3 (us.map elUse)), .p (.sl 3 (ds.map elDt)), .p (.sl 2 (ts.map elTr)), .p (.sl 3 (is.map elIm)), .p (.sl 15 (fs.map elFu)), .p (.sl 14 (acs.map elAc))]]) (fun j x => (acs.drop j).foldl (acJ S G C) x = x8) x7 ⟨rfl, rfl, rfl, rfl⟩ hx8 ?_
    intro j x hj hn
    conv => whnf
    refine asplit ?_ ?_ <;> intro h1 <;> conv => whnf
    · have hj1 := ix_tt h1 (by simp) hj (by omega)
      obtain ⟨b, hb1⟩ : ∃ b, acs[j]? = some b := ⟨_, List.getElem?_eq_getElem hj1⟩
      have hbm := List.mem_of_getElem? hb1
      rw [drop_cons hb1, List.foldl_cons] at hn
      refine aidxk (x := elAc b) (by simp [hb1]) (by omega) ?_
      rw [acJ] at hn
      have hbw := m6 _ hbm
      rw [wlAc_eq] at hbw
      have q1 := wSs_len b.ns
      have hs := hW.g b.name
      have c1 := fun e => list_spec S tab hW.s b.ns e (by omega)
      have c2 := fun e => types_spec S G tab hW.s hW.g b.ts (by omega) e
      have c3 := fun e => types_spec S G tab hW.s hW.g [b.msg] (by simp only [eTs, PV.wts]; unfold wT at hbw; omega) e
      have c4 := fun e => body_spec S G C tab hW b.body (by omega) true e
      unfold hJ at *
      obtain ⟨bn, bp, bt, ⟨ok, on, oa⟩, ⟨b1, b2, b3, b4, b5, b6, b7, b8⟩⟩ := b
      simp only at *
      rw [show (bp.length : Int) = (bp.map eStr).length by simp, show (bt.length : Int) = (eTs bt).length by rw [eTs_len]] at hn
      generalize bodyF S G C (.mk b1 b2 b3 b4 b5 b6 b7 b8) true = F4 at *
      generalize typFs S G [.mk ok on oa] 1 = F3 at *
      generalize typFs S G bt 1 = F2 at *
      generalize listF S bp = F1 at *
      generalize G bn = SN at *
      conv => whnf
      refine apc hs ?_
      conv => whnf
      refine asplit ?_ ?_ <;> intro g1 <;> conv => whnf
      · rw [g1] at hn
        have c := form_spec x (((bp.map eStr).length : Int) == ((eTs bt).length : Int))
        replace hn : (acs.drop (j + 1)).foldl (acJ S G C) (F4 (F3 (F2 (F1 (mustF x (((bp.map eStr).length : Int) == ((eTs bt).length : Int)) 3))))) = x8 := hn
        generalize mustF x (((bp.map eStr).length : Int) == ((eTs bt).length : Int)) 3 = y at *
        refine amc [25] 60 c ?_
        conv => whnf
        refine amc [25, 1000000000] 70 (c1 y) ?_
        conv => whnf
        generalize F1 y = y1 at *
        refine amc [25, 1000000000] 80 (c2 y1) ?_
        conv => whnf
        generalize F2 y1 = y2 at *
        refine amc [25, 1000000000] 90 (c3 y2) ?_
        conv => whnf
        generalize F3 y2 = y3 at *
        refine amc [25, 1000000000] 95 (c4 y3) ?_
        conv => whnf
        generalize F4 y3 = y4 at *
        exact ⟨hj1, y4, ⟨rfl, rfl, rfl, rfl⟩, hn⟩
      · rw [g1] at hn
        have c := form_spec x (false)
        replace hn : (acs.drop (j + 1)).foldl (acJ S G C) (F4 (F3 (F2 (F1 (mustF x (false) 3))))) = x8 := hn
        generalize mustF x (false) 3 = y at *
        refine amc [25] 60 c ?_
        conv => whnf
        refine amc [25, 1000000000] 70 (c1 y) ?_
        conv => whnf
        generalize F1 y = y1 at *
        refine amc [25, 1000000000] 80 (c2 y1) ?_
        conv => whnf
        generalize F2 y1 = y2 at *
        refine amc [25, 1000000000] 90 (c3 y2) ?_
        conv => whnf
        generalize F3 y2 = y3 at *
        refine amc [25, 1000000000] 95 (c4 y3) ?_
        conv => whnf
        generalize F4 y3 = y4 at *
        exact ⟨hj1, y4, ⟨rfl, rfl, rfl, rfl⟩, hn⟩
    · have hj1 := ix_ff h1 (by simp) hj (by omega)
      rw [hj1, List.drop_length, List.foldl_nil] at hn
      subst hn
      exact ⟨(), ⟨rfl, rfl, rfl, rfl⟩, trivial⟩
  intro _ _
  refine AWp.fin (tyOf_ok Tryd.prog) hmix (by kernel_rfl) ?_
  conv => whnf
  exact ⟨.inl rfl, ⟨rfl, rfl⟩, trivial⟩
end GL
