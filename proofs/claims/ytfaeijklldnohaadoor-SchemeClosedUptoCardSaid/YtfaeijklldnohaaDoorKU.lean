/-
  DERIVED. Contracts of the functions that the law reaches, and the law itself, for every input. No conditions.
-/
import Derived.Test.YtfaeijklldnohaaDoorKR
import Derived.Deep.CondSized
namespace Go.Proofs.YtfaeijklldnohaaDoor
open Go Go.AM Go.Proofs
mutual
theorem bulk_eq {H : Type} : ∀ (d : DataW H), Rows.uptoBulk d = bulkW d
  | .lit (.string _) => by simp [Rows.uptoBulk, bulkW]
  | .lit (.bool _) => by simp [Rows.uptoBulk, bulkW]
  | .lit (.int _ _) => by simp [Rows.uptoBulk, bulkW]
  | .lit (.float _ _) => by simp [Rows.uptoBulk, bulkW]
  | .lit .nil => by simp [Rows.uptoBulk, bulkW]
  | .nil => by simp [Rows.uptoBulk, bulkW]
  | .ptr d => by simp [Rows.uptoBulk, bulkW, bulk_eq d]
  | .slice a b => by simp [Rows.uptoBulk, bulkW, bulkAll_eq a, bulkAll_eq b]
  | .agg a => by simp [Rows.uptoBulk, bulkW, bulkAll_eq a]
  | .iface _ d => by simp [Rows.uptoBulk, bulkW, bulk_eq d]
  | .map es => by simp [Rows.uptoBulk, bulkW, bulkEntries_eq es]
  | .held _ => by simp [Rows.uptoBulk, bulkW]
theorem bulkAll_eq {H : Type} : ∀ (d : List (DataW H)), Rows.uptoBulkAll d = bulkAll d
  | [] => by simp [Rows.uptoBulkAll, bulkAll]
  | x :: r => by simp [Rows.uptoBulkAll, bulkAll, bulk_eq x, bulkAll_eq r]
theorem bulkEntries_eq {H : Type} : ∀ (d : List (Lit × DataW H)), Rows.uptoBulkEntries d = bulkEntries d
  | [] => by simp [Rows.uptoBulkEntries, bulkEntries]
  | x :: r => by simp [Rows.uptoBulkEntries, bulkEntries, bulkEntry_eq x, bulkEntries_eq r]
theorem bulkEntry_eq {H : Type} : ∀ (d : Lit × DataW H), Rows.uptoBulkEntry d = bulkEntry d
  | (.string _, d) => by simp [Rows.uptoBulkEntry, bulkEntry, bulk_eq d]
  | (.bool _, d) => by simp [Rows.uptoBulkEntry, bulkEntry, bulk_eq d]
  | (.int _ _, d) => by simp [Rows.uptoBulkEntry, bulkEntry, bulk_eq d]
  | (.float _ _, d) => by simp [Rows.uptoBulkEntry, bulkEntry, bulk_eq d]
  | (.nil, d) => by simp [Rows.uptoBulkEntry, bulkEntry, bulk_eq d]
end
theorem small_of {H : Type} {ds : List (DataW H)} (h : Rows.uptoSmall H ds = true) : bulkAll ds ≤ 1048576 := by
  rw [← bulkAll_eq]; exact of_decide_eq_true h

end Go.Proofs.YtfaeijklldnohaaDoor
