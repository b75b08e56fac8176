/- Contracts, and the law, for every input. No conditions. -/
import Derived.Test.YtdmopjgjhfhfdaaGreatDoorME5
open Go Go.AM Go.Proofs TK
set_option maxRecDepth 100000
namespace MN
theorem deep_8:deepE 8=deepQ 8:=by kernel_rfl
theorem deep_18:deepE 18=deepQ 18:=by kernel_rfl
theorem deep_28:deepE 28=deepQ 28:=by kernel_rfl
theorem deep_38:deepE 38=deepQ 38:=by kernel_rfl
theorem deep_48:deepE 48=deepQ 48:=by kernel_rfl
theorem deep_58:deepE 58=deepQ 58:=by kernel_rfl
theorem deep_68:deepE 68=deepQ 68:=by kernel_rfl
theorem deep_78:deepE 78=deepQ 78:=by kernel_rfl
end MN
open Go Go.AM Go.Proofs TK
set_option maxRecDepth 100000
namespace MN
theorem deep_9:deepE 9=deepQ 9:=by kernel_rfl
theorem deep_19:deepE 19=deepQ 19:=by kernel_rfl
theorem deep_29:deepE 29=deepQ 29:=by kernel_rfl
theorem deep_39:deepE 39=deepQ 39:=by kernel_rfl
theorem deep_49:deepE 49=deepQ 49:=by kernel_rfl
theorem deep_59:deepE 59=deepQ 59:=by kernel_rfl
theorem deep_69:deepE 69=deepQ 69:=by kernel_rfl
theorem deep_79:deepE 79=deepQ 79:=by kernel_rfl
end MN
