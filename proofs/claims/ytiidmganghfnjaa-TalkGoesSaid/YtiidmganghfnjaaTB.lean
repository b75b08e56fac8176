/-
  DERIVED. Contracts of the functions that the law reaches, and the law itself, for every input. No conditions.
-/
import Derived.Test.YtiidmganghfnjaaT8
import Derived.Test.YtiidmganghfnjaaAMRen
open Go Go.AM Go.Proofs
namespace TK
/-! slices.Reverse -/
def swapAt (n : Nat) (zs : List Int) (k : Nat) : List Int := (zs.set k ((zs[n - 1 - k]?).getD 0)).set (n - 1 - k) ((zs[k]?).getD 0)
def revG (n : Nat) (zs : List Int) : Nat → List Int
  | 0 => zs
  | k + 1 => swapAt n (revG n zs k) k
theorem revG_len (n : Nat) (zs : List Int) : ∀ k, (revG n zs k).length = zs.length
  | 0 => rfl
  | k + 1 => by simp [revG, swapAt, revG_len n zs k]
def revF (zs : List Int) : List Int := revG zs.length zs (zs.length / 2)
theorem rev_spec (xs : List Int) (hl : xs.length ≤ 1000) : AMem Try.prog 19 [.al 1000000000 1 xs.length] [(1000000000, .gr 1 (xs.map vI))] (.tup []) [(1000000000, .gr 1 ((revF xs).map vI))] := by
  refine AMem.intro (tyOf_ok Try.prog) hmix Try.func19 rfl (by rfl) (by kernel_rfl) (by show 1 ≤ _; decide) rfl ?_
  conv => whnf
  refine loopS (tyOf_ok _) hmix (by kernel_rfl) (xs.length / 2) [0, 2, 3] [1000000000] (fun k (s : Int × List PV) => [.al 1000000000 1 xs.length, .p (.i .i64 (ix k)), .p (.i .i64 s.1)])
    (fun _ s => [.gr 1 s.2]) (fun k s => s.1 = (xs.length : Int) - 1 - k ∧ s.2 = (revG xs.length xs k).map vI) (IntKind.i64.wrap ((xs.length : Int) - 1), xs.map vI) ⟨rfl, rfl, rfl, rfl⟩ ⟨by rw [wrap64 (by omega) (by omega)]; omega, rfl⟩ ?_
  rintro k ⟨j, ys⟩ hk ⟨hj, hys⟩
  simp only at hj hys
  subst hys
  conv => whnf
  refine asplit ?_ ?_ <;> intro g1 <;> conv => whnf
  · have g1 : ix k < j := of_decide_eq_true g1
    rw [ix_eq (by omega), hj] at g1
    have hlen := revG_len xs.length xs k
    obtain ⟨zs, hzs⟩ : ∃ zs, zs = revG xs.length xs k := ⟨_, rfl⟩
    have hnx : revG xs.length xs (k + 1) = swapAt xs.length zs k := by rw [revG, hzs]
    rw [← hzs] at hlen ⊢
    have hjn : j.toNat = xs.length - 1 - k := by omega
    have hij : (ix k).toNat = k := by rw [ix_eq (by omega)]; simp
    have hj0 : 0 ≤ j ∧ j.toNat < xs.length := by omega
    have hi0 : 0 ≤ ix k ∧ (ix k).toNat < xs.length := by rw [ix_eq (by omega)]; omega
    obtain ⟨a, ha⟩ : ∃ a, zs[k]? = some a := ⟨_, List.getElem?_eq_getElem (by omega)⟩
    obtain ⟨b, hb⟩ : ∃ a, zs[xs.length - 1 - k]? = some a := ⟨_, List.getElem?_eq_getElem (by omega)⟩
    refine aneed hj0 ?_
    conv => whnf
    refine aidxn (x := vI b) (by rw [hjn]; simp [hb]) ?_
    conv => whnf
    refine aneed hi0 ?_
    conv => whnf
    refine aidxn (x := vI a) (by rw [hij]; simp [ha]) ?_
    conv => whnf
    refine aneed hi0 ?_
    conv => whnf
    refine aneed (show (ix k).toNat < (zs.map vI).length by rw [hij]; simp; omega) ?_
    conv => whnf
    refine aneed hj0 ?_
    conv => whnf
    refine aneed (show j.toNat < ((zs.map vI).set (ix k).toNat (vI b)).length by simp; omega) ?_
    conv => whnf
    refine aneed (by kernel_rfl) ?_
    conv => whnf
    refine ⟨by omega, (IntKind.i64.wrap (j - 1), ((zs.map vI).set (ix k).toNat (vI b)).set j.toNat (vI a)), ⟨rfl, rfl, rfl, rfl⟩, ?_, ?_⟩
    · simp only; rw [wrap64 (by omega) (by omega)]; omega
    · simp only
      rw [hnx, swapAt, ha, hb, hij, hjn]; simp [List.map_set]
  · have g1 := of_decide_eq_false g1
    rw [ix_eq (by omega), hj] at g1
    have : k = xs.length / 2 := by omega
    subst this
    exact ⟨.inl rfl, ⟨⟨rfl, rfl⟩, trivial⟩⟩
end TK
