/- Contracts, and the law, for every input. No conditions. -/
import Derived.Test.YtdmopjgjhfhfdaaGreatDoorME5
open Go Go.AM Go.Proofs TK
set_option maxRecDepth 100000
namespace MN
theorem deep_0:deepE 0=deepQ 0:=by kernel_rfl
theorem deep_10:deepE 10=deepQ 10:=by kernel_rfl
theorem deep_20:deepE 20=deepQ 20:=by kernel_rfl
theorem deep_30:deepE 30=deepQ 30:=by kernel_rfl
theorem deep_40:deepE 40=deepQ 40:=by kernel_rfl
theorem deep_50:deepE 50=deepQ 50:=by kernel_rfl
theorem deep_60:deepE 60=deepQ 60:=by kernel_rfl
theorem deep_70:deepE 70=deepQ 70:=by kernel_rfl
end MN
open Go Go.AM Go.Proofs TK
set_option maxRecDepth 100000
namespace MN
theorem deep_1:deepE 1=deepQ 1:=by kernel_rfl
theorem deep_11:deepE 11=deepQ 11:=by kernel_rfl
theorem deep_21:deepE 21=deepQ 21:=by kernel_rfl
theorem deep_31:deepE 31=deepQ 31:=by kernel_rfl
theorem deep_41:deepE 41=deepQ 41:=by kernel_rfl
theorem deep_51:deepE 51=deepQ 51:=by kernel_rfl
theorem deep_61:deepE 61=deepQ 61:=by kernel_rfl
theorem deep_71:deepE 71=deepQ 71:=by kernel_rfl
end MN
