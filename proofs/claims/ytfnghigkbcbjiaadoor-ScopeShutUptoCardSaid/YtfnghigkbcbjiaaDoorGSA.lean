/-
  DERIVED. Contracts of the functions that the law reaches, and the law itself, for every input. No conditions.
-/
import Derived.Test.YtfnghigkbcbjiaaDoorGLD
import Derived.Test.YtfnghigkbcbjiaaDoorAMMv
import Derived.Shelf.LaysM
import Derived.Ground.NamesProg
import Derived.Shelf.Strconv.Itoa3
namespace Go.Proofs
open Go.Shelf
def Tryd.lays171_ren : Go.Shelf.Ren := ⟨fun | 171 => 78 | 243 => 87 | 246 => 93 | 283 => 97 | 284 => 98 | 285 => 99 | 286 => 100 | 129 => 102 | 317 => 101 | 318 => 103 | 319 => 104 | 320 => 105 | 337 => 106 | 338 => 107 | n => n, fun | 3 => 3 | 9 => 9 | 2 => 2 | 4 => 4 | 171 => 171 | 0 => 0 | 53 => 172 | 37 => 175 | 5 => 5 | 173 => 176 | 212 => 179 | 51 => 147 | 20 => 20 | 213 => 180 | 46 => 163 | 232 => 183 | 233 => 184 | n => n, fun | 17 => 5 | 18 => 6 | 19 => 7 | n => n⟩
theorem Tryd.lays171 : Go.Proofs.LaysM.n171 Tryd.prog Tryd.lays171_ren := {
  mixed := by kernel_rfl
  f129 := Tryd.func102.trans (congrArg some (by kernel_rfl))
  f171 := Tryd.func78.trans (congrArg some (by kernel_rfl))
  f243 := Tryd.func87.trans (congrArg some (by kernel_rfl))
  f246 := Tryd.func93.trans (congrArg some (by kernel_rfl))
  f283 := Tryd.func97.trans (congrArg some (by kernel_rfl))
  f284 := Tryd.func98.trans (congrArg some (by kernel_rfl))
  f285 := Tryd.func99.trans (congrArg some (by kernel_rfl))
  f286 := Tryd.func100.trans (congrArg some (by kernel_rfl))
  f317 := Tryd.func101.trans (congrArg some (by kernel_rfl))
  f318 := Tryd.func103.trans (congrArg some (by kernel_rfl))
  f319 := Tryd.func104.trans (congrArg some (by kernel_rfl))
  f320 := Tryd.func105.trans (congrArg some (by kernel_rfl))
  f337 := Tryd.func106.trans (congrArg some (by kernel_rfl))
  f338 := Tryd.func107.trans (congrArg some (by kernel_rfl))
  t0 := Tryd.underlying0
  a0 := Tryd.isAgg0
  z0 := Tryd.sizeOf0
  v0 := Tryd.zeroValue0
  t2 := Tryd.underlying2
  a2 := Tryd.isAgg2
  z2 := Tryd.sizeOf2
  v2 := Tryd.zeroValue2
  t3 := Tryd.underlying3
  a3 := Tryd.isAgg3
  z3 := Tryd.sizeOf3
  v3 := Tryd.zeroValue3
  t4 := Tryd.underlying4
  a4 := Tryd.isAgg4
  z4 := Tryd.sizeOf4
  v4 := Tryd.zeroValue4
  t5 := Tryd.underlying5
  a5 := Tryd.isAgg5
  z5 := Tryd.sizeOf5
  v5 := Tryd.zeroValue5
  t9 := Tryd.underlying9
  a9 := Tryd.isAgg9
  z9 := Tryd.sizeOf9
  v9 := Tryd.zeroValue9
  t20 := Tryd.underlying20
  a20 := Tryd.isAgg20
  z20 := Tryd.sizeOf20
  v20 := Tryd.zeroValue20
  t37 := Tryd.underlying175
  a37 := Tryd.isAgg175
  z37 := Tryd.sizeOf175
  v37 := Tryd.zeroValue175
  t46 := Tryd.underlying163
  a46 := Tryd.isAgg163
  z46 := Tryd.sizeOf163
  v46 := Tryd.zeroValue163
  t51 := Tryd.underlying147
  a51 := Tryd.isAgg147
  z51 := Tryd.sizeOf147
  v51 := Tryd.zeroValue147
  t53 := Tryd.underlying172
  a53 := Tryd.isAgg172
  z53 := Tryd.sizeOf172
  v53 := Tryd.zeroValue172
  t171 := Tryd.underlying171
  a171 := Tryd.isAgg171
  z171 := Tryd.sizeOf171
  v171 := Tryd.zeroValue171
  t173 := Tryd.underlying176
  a173 := Tryd.isAgg176
  z173 := Tryd.sizeOf176
  v173 := Tryd.zeroValue176
  t212 := Tryd.underlying179
  a212 := Tryd.isAgg179
  z212 := Tryd.sizeOf179
  v212 := Tryd.zeroValue179
  t213 := Tryd.underlying180
  a213 := Tryd.isAgg180
  z213 := Tryd.sizeOf180
  t232 := Tryd.underlying183
  a232 := Tryd.isAgg183
  z232 := Tryd.sizeOf183
  v232 := Tryd.zeroValue183
  t233 := Tryd.underlying184
  a233 := Tryd.isAgg184
  z233 := Tryd.sizeOf184
  v233 := Tryd.zeroValue184
  g17 := by kernel_rfl
  g18 := by kernel_rfl
  g19 := by kernel_rfl
  i0 := by kernel_rfl
  i2 := by kernel_rfl
  i3 := by kernel_rfl
  i4 := by kernel_rfl
  i5 := by kernel_rfl
  i9 := by kernel_rfl
  i20 := by kernel_rfl
  i37 := by kernel_rfl
  i46 := by kernel_rfl
  i51 := by kernel_rfl
  i53 := by kernel_rfl
  i171 := by kernel_rfl
  i173 := by kernel_rfl
  i212 := by kernel_rfl
  i232 := by kernel_rfl
  i233 := by kernel_rfl
  m17 := by kernel_rfl
  m18 := by kernel_rfl
  m19 := by kernel_rfl }
end Go.Proofs
namespace GL
open Go Go.AM Go.Proofs Go.RowKit TR
set_option maxRecDepth 100000
/-! the marks of the reference -/
theorem pow_name : Tryd.prog.globalNamed "internal/strconv.uint64pow10" = some 5 := by kernel_rfl
def powL : List Value := tabV .u64 Lib.pow10Tab
def gP (tab : List Value) : Heap := [(1000000000, .glob 5 tab)]
def i64R (n : Int) : Prop := -9223372036854775808 ≤ n ∧ n ≤ 9223372036854775807
def itoaB (n : Int) : ByteArray := ⟨(Lib.itoa n).toArray⟩
theorem itoaB_size {n : Int} (h : i64R n) : (itoaB n).size ≤ 21 := by
  have := Lib.itoa_length_le n h.1 h.2
  show (Lib.itoa n).toArray.size ≤ 21
  simpa using this
def ItoS (tab : List Value) : Prop := ∀ n, i64R n → AMem Tryd.prog 78 [.p (.i .i64 n)] (gP tab) (.p (.s (itoaB n))) (gP tab)
theorem itoa_spec : ItoS powL := fun n h =>
  itoa_lift (TK.body_of Tryd.func78 rfl (by rfl)) pow_name n (fun w htab => Any.strconv_Itoa Tryd.lays171 n h.1 h.2 w htab)
def comma : ByteArray := ⟨#[44]⟩
def numsGo : List Int → ByteArray → ByteArray
  | [], s => s
  | n :: r, s => numsGo r (s ++ (itoaB n ++ comma))
def numsF (l : List Int) : ByteArray := numsGo l ⟨#[]⟩
theorem e_size : (⟨#[]⟩ : ByteArray).size = 0 := rfl
theorem ws_cons (x : ByteArray) (r : List ByteArray) : PV.wts ((x :: r).map eStr) = x.size + 1 + PV.wts (r.map eStr) := rfl
theorem ba_size (a b : ByteArray) : (a ++ b).size = a.size + b.size := ByteArray.size_append
theorem numsGo_size : ∀ (l : List Int) (s : ByteArray), (∀ n ∈ l, i64R n) → (numsGo l s).size ≤ s.size + 22 * l.length
  | [], s, _ => by simp [numsGo]
  | n :: r, s, h => by
    have h1 := numsGo_size r (s ++ (itoaB n ++ comma)) (fun x hx => h x (by simp [hx]))
    have h2 := itoaB_size (h n (by simp))
    rw [ba_size, ba_size, show comma.size = 1 from rfl] at h1
    rw [numsGo, List.length_cons]; omega
theorem nums_size (l : List Int) (h : ∀ n ∈ l, i64R n) : (numsF l).size ≤ 22 * l.length := by
  have := numsGo_size l ⟨#[]⟩ h
  rw [e_size, Nat.zero_add] at this; exact this
theorem nums_spec (tab : List Value) (hI : ItoS tab) (l : List Int) (hl : l.length ≤ 1048640) (h : ∀ n ∈ l, i64R n) :
    AMem Tryd.prog 57 [.p (.sl 1 (l.map (PV.i .i64)))] (gP tab) (.p (.s (numsF l))) (gP tab) := by
  generalize hR : numsF l = R
  unfold gP
  rw [numsF] at hR
  refine AMem.intro (tyOf_ok Tryd.prog) hmix Tryd.func57 rfl (by rfl) (by kernel_rfl) (by show 1 ≤ _; decide) rfl ?_
  conv => whnf
  refine loopS (tyOf_ok _) hmix (by kernel_rfl) l.length [3, 6, 7, 8] [1000000000] (fun k (s : ByteArray) => [.p (.s s), .p (.sl 1 (l.map (PV.i .i64))), .p (.i .i64 (l.map (PV.i .i64)).length), .p (.i .i64 (ix k))]) (fun _ _ => [.glob 5 tab]) (fun k s => s.size ≤ 22 * k ∧ numsGo (l.drop k) s = R) ⟨#[]⟩ ⟨rfl, rfl, rfl, rfl⟩ ⟨by decide, hR⟩ ?_
  rintro k s hk ⟨hs1, hs2⟩
  conv => whnf
  refine asplit ?_ ?_ <;> intro h1 <;> conv => whnf
  · have hk1 := ix_tt h1 (by simp) hk (by omega)
    obtain ⟨b, hb1⟩ : ∃ b, l[k]? = some b := ⟨_, List.getElem?_eq_getElem hk1⟩
    have hbr := h b (List.mem_of_getElem? hb1)
    rw [drop_cons hb1, numsGo] at hs2
    refine aidxk (x := PV.i .i64 b) (by simp [hb1]) (by omega) ?_
    conv => whnf
    have c := hI b hbr
    have hsz := itoaB_size hbr
    unfold gP at c
    generalize itoaB b = t at *
    refine amc [1000000000] 50 c ?_
    conv => whnf
    refine aneed (by show t.size + 1 ≤ _; omega) ?_
    conv => whnf
    refine aneed (by rw [ba_size]; show s.size + (t.size + 1) ≤ _; omega) ?_
    conv => whnf
    exact ⟨hk1, s ++ (t ++ comma), ⟨rfl, rfl, rfl, rfl⟩, by rw [ba_size, ba_size, show comma.size = 1 from rfl]; omega, hs2⟩
  · have hk1 := ix_ff h1 (by simp) hk (by omega)
    rw [hk1, List.drop_length, numsGo] at hs2
    subst hs2
    exact ⟨.inl rfl, ⟨rfl, rfl⟩, trivial⟩
def textsGo : List ByteArray → ByteArray → ByteArray
  | [], s => s
  | x :: r, s => textsGo r (s ++ (numsF [(x.size : Int)] ++ x))
def textsF (l : List ByteArray) : ByteArray := textsGo l ⟨#[]⟩
theorem nums1 {n : Nat} (h : n ≤ 4611686018427387904) : (numsF [(n : Int)]).size ≤ 22 := by
  have := nums_size [(n : Int)] (fun x hx => by rw [List.mem_singleton] at hx; subst hx; exact ⟨by omega, by omega⟩)
  simpa using this
theorem textsGo_size : ∀ (l : List ByteArray) (s : ByteArray), PV.wts (l.map eStr) ≤ 4611686018427387904 → (textsGo l s).size ≤ s.size + 23 * PV.wts (l.map eStr)
  | [], s, _ => by simp [textsGo]
  | x :: r, s, h => by
    rw [ws_cons] at h ⊢
    have h1 := textsGo_size r (s ++ (numsF [(x.size : Int)] ++ x)) (by omega)
    have h2 := nums1 (n := x.size) (by omega)
    rw [ba_size, ba_size] at h1
    rw [textsGo]
    omega
theorem texts_size (l : List ByteArray) (h : PV.wts (l.map eStr) ≤ 4611686018427387904) : (textsF l).size ≤ 23 * PV.wts (l.map eStr) := by
  have := textsGo_size l ⟨#[]⟩ h
  rw [e_size, Nat.zero_add] at this; exact this
theorem texts_spec (tab : List Value) (hI : ItoS tab) (l : List ByteArray) (hl : PV.wts (l.map eStr) ≤ 1048640) :
    AMem Tryd.prog 58 [.p (.sl 1 (l.map eStr))] (gP tab) (.p (.s (textsF l))) (gP tab) := by
  have hlen := wSs_len l
  generalize hR : textsF l = R
  unfold gP
  rw [textsF] at hR
  refine AMem.intro (tyOf_ok Tryd.prog) hmix Tryd.func58 rfl (by rfl) (by kernel_rfl) (by show 1 ≤ _; decide) rfl ?_
  conv => whnf
  refine loopS (tyOf_ok _) hmix (by kernel_rfl) l.length [3, 6, 7, 8] [1000000000] (fun k (s : ByteArray) => [.p (.s s), .p (.sl 1 (l.map eStr)), .p (.i .i64 (l.map eStr).length), .p (.i .i64 (ix k))]) (fun _ _ => [.glob 5 tab]) (fun k s => s.size + 23 * PV.wts ((l.drop k).map eStr) ≤ 23 * PV.wts (l.map eStr) ∧ textsGo (l.drop k) s = R) ⟨#[]⟩ ⟨rfl, rfl, rfl, rfl⟩ ⟨by rw [e_size, List.drop_zero]; omega, hR⟩ ?_
  rintro k s hk ⟨hs1, hs2⟩
  conv => whnf
  refine asplit ?_ ?_ <;> intro h1 <;> conv => whnf
  · have hk1 := ix_tt h1 (by simp) hk (by omega)
    obtain ⟨b, hb1⟩ : ∃ b, l[k]? = some b := ⟨_, List.getElem?_eq_getElem hk1⟩
    rw [drop_cons hb1, ws_cons] at hs1
    rw [drop_cons hb1, textsGo] at hs2
    refine aidxk (x := eStr b) (by simp [hb1]) (by omega) ?_
    conv => whnf
    have c := nums_spec tab hI [(b.size : Int)] (by simp) (fun x hx => by rw [List.mem_singleton] at hx; subst hx; exact ⟨by omega, by omega⟩)
    have hsz := nums1 (n := b.size) (by omega)
    unfold gP at c
    generalize numsF [(b.size : Int)] = t at *
    refine amc [1000000000] 50 c ?_
    conv => whnf
    refine aneed (by show t.size + b.size ≤ _; omega) ?_
    conv => whnf
    refine aneed (by rw [ba_size]; show s.size + (t.size + b.size) ≤ _; omega) ?_
    conv => whnf
    exact ⟨hk1, s ++ (t ++ b), ⟨rfl, rfl, rfl, rfl⟩, by rw [ba_size, ba_size]; omega, hs2⟩
  · have hk1 := ix_ff h1 (by simp) hk (by omega)
    rw [hk1, List.drop_length, textsGo] at hs2
    subst hs2
    exact ⟨.inl rfl, ⟨rfl, rfl⟩, trivial⟩
end GL
