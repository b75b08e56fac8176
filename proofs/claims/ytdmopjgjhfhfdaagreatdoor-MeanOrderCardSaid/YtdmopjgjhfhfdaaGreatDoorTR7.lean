/- Contracts, and the law, for every input. No conditions. -/
import Derived.Test.YtdmopjgjhfhfdaaGreatDoorTR1
open Go Go.AM Go.Proofs
set_option maxRecDepth 100000
