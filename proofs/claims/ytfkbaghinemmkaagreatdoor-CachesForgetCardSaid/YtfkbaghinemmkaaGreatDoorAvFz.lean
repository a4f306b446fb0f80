/- Written arrays that are done stay from then on: a change of what is told, not of memory. -/
import Derived.Test.YtfkbaghinemmkaaGreatDoorAvRun
namespace Go.Proofs.YtfkbaghinemmkaaGreatDoor
open Go
set_option linter.unusedVariables false
set_option linter.unusedSimpArgs false
end Go.Proofs.YtfkbaghinemmkaaGreatDoor

