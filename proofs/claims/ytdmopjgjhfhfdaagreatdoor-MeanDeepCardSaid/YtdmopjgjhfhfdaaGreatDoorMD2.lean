/- Contracts, and the law, for every input. No conditions. -/
import Derived.Test.YtdmopjgjhfhfdaaGreatDoorME5
open Go Go.AM Go.Proofs TK
set_option maxRecDepth 100000
namespace MN
theorem deep_2:deepE 2=deepQ 2:=by kernel_rfl
theorem deep_12:deepE 12=deepQ 12:=by kernel_rfl
theorem deep_22:deepE 22=deepQ 22:=by kernel_rfl
theorem deep_32:deepE 32=deepQ 32:=by kernel_rfl
theorem deep_42:deepE 42=deepQ 42:=by kernel_rfl
theorem deep_52:deepE 52=deepQ 52:=by kernel_rfl
theorem deep_62:deepE 62=deepQ 62:=by kernel_rfl
theorem deep_72:deepE 72=deepQ 72:=by kernel_rfl
end MN
open Go Go.AM Go.Proofs TK
set_option maxRecDepth 100000
namespace MN
theorem deep_3:deepE 3=deepQ 3:=by kernel_rfl
theorem deep_13:deepE 13=deepQ 13:=by kernel_rfl
theorem deep_23:deepE 23=deepQ 23:=by kernel_rfl
theorem deep_33:deepE 33=deepQ 33:=by kernel_rfl
theorem deep_43:deepE 43=deepQ 43:=by kernel_rfl
theorem deep_53:deepE 53=deepQ 53:=by kernel_rfl
theorem deep_63:deepE 63=deepQ 63:=by kernel_rfl
theorem deep_73:deepE 73=deepQ 73:=by kernel_rfl
end MN
