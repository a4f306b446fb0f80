/- Loops that are run round by round. -/
import Derived.Test.YtmghfolmgmhabaaGreatDoorAvRun
namespace Go.Proofs.YtmghfolmgmhabaaGreatDoor
open Go
set_option linter.unusedVariables false
set_option linter.unusedSimpArgs false
def Un (P : Program) (c : Cx) (k : Code) (Q : Exit → St → Prop) : Nat → St → Prop
  | 0, _ => False
  | n + 1, s => Awp P c k (thenQ (Un P c k Q n) Q) s
section
variable {P : Program} {c : Cx} {Q : Exit → St → Prop} {s : St} {k : Code}
theorem awp_un (n : Nat) (h : Un P c k Q n s) : Awp P c (.loop k) Q s :=
  awp_loop (fun m s => Un P c k Q m s) n h fun n s hs => by
    cases n with
    | zero => exact hs.elim
    | succ n =>
      refine awp_mono hs fun e s hq => ?_
      cases e with
      | normal => exact ⟨n, by omega, hq⟩
      | _ => exact hq
instance sq_un {ty : Nat → Option TyD} {n : Nat} : Stq P ty (Un P c k Q (n + 1) s) (Awp P c k (thenQ (Un P c k Q n) Q) s) true := ⟨fun _ h => h⟩
end
end Go.Proofs.YtmghfolmgmhabaaGreatDoor

