/-
  DERIVED. Contracts of the functions that the law reaches, and the law itself, for every input. No conditions.
-/
import Derived.Test.YtniepbahpkibgaaDoorTKB
import Derived.Ground.NamesProg
import Derived.Shelf.Strings.OnBuilder
import Derived.Lib.Join
namespace Go.Proofs
open Go.Shelf
def Tryd.lays156_ren : Go.Shelf.Ren := ⟨fun | 156 => 10 | 165 => 19 | 166 => 20 | 169 => 21 | 240 => 31 | 241 => 32 | 276 => 37 | 277 => 38 | n => n, fun | 31 => 32 | 9 => 9 | 3 => 3 | 4 => 4 | 0 => 0 | 20 => 20 | 72 => 42 | 76 => 46 | 70 => 40 | 37 => 39 | 75 => 45 | 127 => 54 | 164 => 60 | 5 => 5 | 80 => 48 | n => n, fun | n => n⟩
theorem Tryd.lays156 : Go.Proofs.Lays.n156 Tryd.prog Tryd.lays156_ren := {
  mixed := by kernel_rfl
  f156 := Tryd.func10.trans (congrArg some (by kernel_rfl))
  f165 := Tryd.func19.trans (congrArg some (by kernel_rfl))
  f166 := Tryd.func20.trans (congrArg some (by kernel_rfl))
  f169 := Tryd.func21.trans (congrArg some (by kernel_rfl))
  f240 := Tryd.func31.trans (congrArg some (by kernel_rfl))
  f241 := Tryd.func32.trans (congrArg some (by kernel_rfl))
  f276 := Tryd.func37.trans (congrArg some (by kernel_rfl))
  f277 := Tryd.func38.trans (congrArg some (by kernel_rfl))
  t0 := Tryd.underlying0
  a0 := Tryd.isAgg0
  z0 := Tryd.sizeOf0
  v0 := Tryd.zeroValue0
  t3 := Tryd.underlying3
  a3 := Tryd.isAgg3
  z3 := Tryd.sizeOf3
  v3 := Tryd.zeroValue3
  t4 := Tryd.underlying4
  a4 := Tryd.isAgg4
  z4 := Tryd.sizeOf4
  v4 := Tryd.zeroValue4
  t9 := Tryd.underlying9
  a9 := Tryd.isAgg9
  z9 := Tryd.sizeOf9
  v9 := Tryd.zeroValue9
  t20 := Tryd.underlying20
  a20 := Tryd.isAgg20
  z20 := Tryd.sizeOf20
  v20 := Tryd.zeroValue20
  t31 := Tryd.underlying32
  a31 := Tryd.isAgg32
  z31 := Tryd.sizeOf32
  v31 := Tryd.zeroValue32
  t37 := Tryd.underlying39
  a37 := Tryd.isAgg39
  z37 := Tryd.sizeOf39
  v37 := Tryd.zeroValue39
  t70 := Tryd.underlying40
  a70 := Tryd.isAgg40
  z70 := Tryd.sizeOf40
  v70 := Tryd.zeroValue40
  t72 := Tryd.underlying42
  a72 := Tryd.isAgg42
  z72 := Tryd.sizeOf42
  v72 := Tryd.zeroValue42
  t75 := Tryd.underlying45
  a75 := Tryd.isAgg45
  z75 := Tryd.sizeOf45
  v75 := Tryd.zeroValue45
  t76 := Tryd.underlying46
  a76 := Tryd.isAgg46
  z76 := Tryd.sizeOf46
  v76 := Tryd.zeroValue46
  t127 := Tryd.underlying54
  a127 := Tryd.isAgg54
  z127 := Tryd.sizeOf54
  v127 := Tryd.zeroValue54
  t164 := Tryd.underlying60
  a164 := Tryd.isAgg60
  z164 := Tryd.sizeOf60
  v164 := Tryd.zeroValue60 }
theorem Tryd.extra156 : Builder.Extra Tryd.prog Tryd.lays156_ren := {
  sizeBuilder := by kernel_rfl
  liesBuilder := by kernel_rfl
  t5 := Tryd.underlying5
  a5 := Tryd.isAgg5
  z5 := Tryd.sizeOf5
  v5 := Tryd.zeroValue5
  infoByte := by kernel_rfl
  cellsByte := by kernel_rfl
  sizeByte := by kernel_rfl
  neB5 := by decide }
end Go.Proofs
open Go Go.AM Go.Proofs Go.RowKit
set_option maxRecDepth 100000
namespace TK
theorem cell_lt {w : World} {a : Addr} {v : Value} (h : w.cell? a = some v) (hs : a.spot = none) : a.block < w.heap.size := by
  unfold World.cell? at h
  split at h
  · rename_i hb
    exact (Array.getElem?_eq_some_iff.1 hb).1
  · cases h
theorem ext_below {g : Gh} {w w' : World} (hno : ∀ b, g.own b = none) (h : Below w.heap.size w w') : Ext g w g w' := by
  refine ⟨h.size, h.os, h.output, fun b o v hv => ?_, fun b hb ho => ⟨h.block b hb, rfl, ho⟩, trivial, fun a ha => ?_, fun _ _ => rfl, fun b cs E hb => ⟨cs, E, ?_, rfl⟩⟩
  · unfold Go.AM.imm at hv ⊢
    split at hv
    · rename_i hp
      rw [if_pos hp]
      have hlt := cell_lt hv rfl
      unfold World.cell? at hv ⊢
      rw [h.block b hlt]; exact hv
    · cases hv
  · unfold World.frozen?
    rw [h.block _ ha]
  · rw [h.block b (Array.getElem?_eq_some_iff.1 hb).1]; exact hb
theorem join_spec (xs : List Bs) (sep : Bs) (hn : xs.length ≤ 4000) (hl : (Lib.join xs sep).length ≤ 140737488355328) : APure Tryd.prog 10 [.p (.sl 1 (xs.map eStr)), .p (.s (B sep))] (.p (.s (B (Lib.join xs sep)))) := by
  refine ⟨body_of Tryd.func10 rfl (by rfl), fun g w us hno hlen hrel => ?_⟩
  match us, hlen with
  | [u, v], _ =>
  have r1 := (hrel 0 u _ rfl rfl).pv
  have r2 := (hrel 1 v _ rfl rfl).pv
  cases r2
  have hx : (xs.map B).map (·.data.toList) = xs := by
    rw [List.map_map]
    conv => rhs; rw [← List.map_id xs]
    exact List.map_congr_left fun x _ => B_data x
  have fin : ∀ w', Below w.heap.size w w' → ∀ s : ByteArray, s = B (Lib.join xs sep) → ∃ v g', Ending.returned (.string s) = .returned v ∧ VRel g' w' (fun _ => False) (some .ret) v (.p (.s (B (Lib.join xs sep)))) ∧ Ext g w g' w' := by
    intro w' hb s hs
    subst hs
    exact ⟨_, g, rfl, .p _ _ _ (.s _), ext_below hno hb⟩
  have nilc : ∀ (a : Option Addr) (c : Nat), xs = [] → Calls Tryd.prog 10 #[.slice a 0 c, .string (B sep)] w fun en w' => ∃ v g', en = .returned v ∧ VRel g' w' (fun _ => False) (some .ret) v (.p (.s (B (Lib.join xs sep)))) ∧ Ext g w g' w' := by
    intro a c hxs
    refine (Any.strings_Join_none Tryd.lays156 Tryd.extra156 a c (B sep) w).mono ?_
    rintro e w' ⟨rfl, rfl⟩
    exact fin _ (Below.refl _ _) _ (by rw [hxs]; rfl)
  generalize hq : (PV.sl 1 (xs.map eStr)) = q at r1
  cases r1 with
  | b x => cases hq
  | i k n => cases hq
  | s x => cases hq
  | agg vs xs' => cases hq
  | nil sz =>
    simp only [PV.sl.injEq] at hq
    exact nilc none 0 (by simpa using hq.2)
  | sl a cap sz ys f hs hc hz hm hxx =>
    simp only [PV.sl.injEq] at hq
    obtain ⟨rfl, rfl⟩ := hq
    by_cases h0 : xs = []
    · have := nilc (some a) cap h0
      rw [h0]
      rw [h0] at this
      exact this
    · have hpos : 0 < xs.length := by cases xs with | nil => exact absurd rfl h0 | cons _ _ => simp
      rw [List.length_map] at hc
      have hsp := hs (by omega)
      obtain ⟨bk, o, spot⟩ := a
      simp only at hsp
      subst hsp
      have hcells : ∀ (j : Nat) x, (xs.map B)[j]? = some x → w.cell? ⟨bk, o + j, none⟩ = some (.string x) := by
        intro j x hj
        rw [List.getElem?_map] at hj
        cases hxj : xs[j]? with
        | none => simp [hxj] at hj
        | some y =>
          simp only [hxj, Option.map_some, Option.some.injEq] at hj
          subst hj
          have e1 : (xs.map eStr)[j]? = some (eStr y) := by rw [List.getElem?_map, hxj]; rfl
          have p1 := (hm j _ e1 0 (eStr y) rfl).1
          have p2 := hxx j _ e1 0 (eStr y) rfl
          have : f j 0 = .string (B y) := by
            generalize f j 0 = z at p2
            cases p2; rfl
          rw [this] at p1
          unfold Go.AM.imm at p1
          split at p1
          · rw [show o + j = o + j * 1 + 0 by omega]; exact p1
          · cases p1
      have hbk : bk < w.heap.size := by
        obtain ⟨y, hy⟩ : ∃ y, (xs.map B)[0]? = some y := ⟨_, List.getElem?_eq_getElem (by simpa using hpos)⟩
        exact cell_lt (hcells 0 y hy) rfl
      have := Any.strings_Join Tryd.lays156 Tryd.extra156 bk o cap (xs.map B) (B sep) w hcells hbk (by simp; omega) (by simpa using hc) (by rw [hx, B_data]; exact hl)
      rw [hx, B_data, List.length_map] at this
      rw [List.length_map]
      refine this.mono ?_
      rintro e w' ⟨rfl, hb⟩
      exact fin _ hb _ rfl
end TK
