/- What an operation does while one more own object is told than there is. -/
import Derived.Test.YtpnfkfbapfnboaaGreatDoorAvDraw2
namespace Go.Proofs.YtpnfkfbapfnboaaGreatDoor
open Go
set_option linter.unusedVariables false
set_option linter.unusedSimpArgs false
section
variable {P : Program} {ty : Nat → Option TyD} {md : Option Tmp → Nat} {all : Array Oper} {lo : List (List AV)} {z : List AV} {h : Hp}
variable {c : Cx}
end
end Go.Proofs.YtpnfkfbapfnboaaGreatDoor

