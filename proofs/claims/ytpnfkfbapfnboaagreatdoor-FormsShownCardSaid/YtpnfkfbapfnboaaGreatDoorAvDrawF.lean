/- Regions that draw their order, with one own object made at any time. -/
import Derived.Test.YtpnfkfbapfnboaaGreatDoorAvDraw5
import Derived.Test.YtpnfkfbapfnboaaGreatDoorAvFloat
namespace Go.Proofs.YtpnfkfbapfnboaaGreatDoor
open Go
set_option linter.unusedVariables false
set_option linter.unusedSimpArgs false
section
variable {P : Program} {ty : Nat → Option TyD} {md : Option Tmp → Nat} {all : Array Oper} {c : Cx}
end
end Go.Proofs.YtpnfkfbapfnboaaGreatDoor

