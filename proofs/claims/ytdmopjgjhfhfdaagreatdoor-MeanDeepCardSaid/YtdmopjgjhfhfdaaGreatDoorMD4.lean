/- Contracts, and the law, for every input. No conditions. -/
import Derived.Test.YtdmopjgjhfhfdaaGreatDoorME5
open Go Go.AM Go.Proofs TK
set_option maxRecDepth 100000
namespace MN
theorem deep_4:deepE 4=deepQ 4:=by kernel_rfl
theorem deep_14:deepE 14=deepQ 14:=by kernel_rfl
theorem deep_24:deepE 24=deepQ 24:=by kernel_rfl
theorem deep_34:deepE 34=deepQ 34:=by kernel_rfl
theorem deep_44:deepE 44=deepQ 44:=by kernel_rfl
theorem deep_54:deepE 54=deepQ 54:=by kernel_rfl
theorem deep_64:deepE 64=deepQ 64:=by kernel_rfl
theorem deep_74:deepE 74=deepQ 74:=by kernel_rfl
end MN
open Go Go.AM Go.Proofs TK
set_option maxRecDepth 100000
namespace MN
theorem deep_5:deepE 5=deepQ 5:=by kernel_rfl
theorem deep_15:deepE 15=deepQ 15:=by kernel_rfl
theorem deep_25:deepE 25=deepQ 25:=by kernel_rfl
theorem deep_35:deepE 35=deepQ 35:=by kernel_rfl
theorem deep_45:deepE 45=deepQ 45:=by kernel_rfl
theorem deep_55:deepE 55=deepQ 55:=by kernel_rfl
theorem deep_65:deepE 65=deepQ 65:=by kernel_rfl
theorem deep_75:deepE 75=deepQ 75:=by kernel_rfl
end MN
