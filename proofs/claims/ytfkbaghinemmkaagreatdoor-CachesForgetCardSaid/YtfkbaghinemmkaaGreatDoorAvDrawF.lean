/- Regions that draw their order, with one own object made at any time. -/
import Derived.Test.YtfkbaghinemmkaaGreatDoorAvDraw5
import Derived.Test.YtfkbaghinemmkaaGreatDoorAvFloat
namespace Go.Proofs.YtfkbaghinemmkaaGreatDoor
open Go
set_option linter.unusedVariables false
set_option linter.unusedSimpArgs false
section
variable {P : Program} {ty : Nat → Option TyD} {md : Option Tmp → Nat} {all : Array Oper} {c : Cx}
end
end Go.Proofs.YtfkbaghinemmkaaGreatDoor

