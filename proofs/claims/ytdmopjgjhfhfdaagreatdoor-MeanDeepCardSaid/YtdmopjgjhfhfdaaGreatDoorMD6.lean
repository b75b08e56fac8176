/- Contracts, and the law, for every input. No conditions. -/
import Derived.Test.YtdmopjgjhfhfdaaGreatDoorME5
open Go Go.AM Go.Proofs TK
set_option maxRecDepth 100000
namespace MN
theorem deep_6:deepE 6=deepQ 6:=by kernel_rfl
theorem deep_16:deepE 16=deepQ 16:=by kernel_rfl
theorem deep_26:deepE 26=deepQ 26:=by kernel_rfl
theorem deep_36:deepE 36=deepQ 36:=by kernel_rfl
theorem deep_46:deepE 46=deepQ 46:=by kernel_rfl
theorem deep_56:deepE 56=deepQ 56:=by kernel_rfl
theorem deep_66:deepE 66=deepQ 66:=by kernel_rfl
theorem deep_76:deepE 76=deepQ 76:=by kernel_rfl
end MN
open Go Go.AM Go.Proofs TK
set_option maxRecDepth 100000
namespace MN
theorem deep_7:deepE 7=deepQ 7:=by kernel_rfl
theorem deep_17:deepE 17=deepQ 17:=by kernel_rfl
theorem deep_27:deepE 27=deepQ 27:=by kernel_rfl
theorem deep_37:deepE 37=deepQ 37:=by kernel_rfl
theorem deep_47:deepE 47=deepQ 47:=by kernel_rfl
theorem deep_57:deepE 57=deepQ 57:=by kernel_rfl
theorem deep_67:deepE 67=deepQ 67:=by kernel_rfl
theorem deep_77:deepE 77=deepQ 77:=by kernel_rfl
end MN
