/-
  DERIVED. Contracts of the functions that the law reaches, and the law itself, for every input. No conditions.
-/
import Derived.Test.YtfnghigkbcbjiaaDoorGLX
import Derived.LaidSub
import Derived.Deep.DeepWitnessRowRef
namespace GL
open Go Go.AM Go.Proofs Go.Proofs.YtfnghigkbcbjiaaDoor TR
theorem tab_reads : (Rows.laid_strings_asciiSpace : DataW Unit) = Lib.tabData .u8 Lib.asciiSpaceTab := by kernel_rfl
theorem tab_met {W : World} (h : laidMetH Tryd.prog Rows.capableOnceUptoRow.laid W) : ∃ (E : TypeId) (fr : Nat × Nat), W.heap[0]? = some (.cells tabL.toArray E fr) := by
  have h1 := Lib.laidMet.reads (laidMetH_iff.1 h).1 (n := "strings.asciiSpace") (d := Rows.laid_strings_asciiSpace) (List.mem_filter.2 ⟨by simp [Rows.capableOnceUptoRow], by kernel_rfl⟩)
  rw [tab_reads] at h1
  exact tab_block asci_name (tabIs_of_reads (t := 134) (e := 5) (n := 256) asci_name (by kernel_rfl) (by kernel_rfl) (by kernel_rfl) (by kernel_rfl) (by kernel_rfl) h1)
theorem world : ∃ S G C, World3 S G C tabL := by
  obtain ⟨S, hS⟩ := small_all
  obtain ⟨G, hG⟩ := great_all
  exact ⟨S, G, fun t => opL.contains t, ⟨hS, hG, fun t => contS_spec opL t (by decide)⟩⟩
theorem conB : ∃ B, ConB B := ⟨_, fun t => contS_spec _ t (by decide)⟩
end GL
