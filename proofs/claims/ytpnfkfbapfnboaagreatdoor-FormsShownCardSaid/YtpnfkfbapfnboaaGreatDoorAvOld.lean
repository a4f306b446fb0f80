/- From contracts on the machine's terms to contracts in trees: what a call makes and hands back stays. -/
import Derived.Test.YtpnfkfbapfnboaaGreatDoorAvRun
import Derived.Below
namespace Go.Proofs.YtpnfkfbapfnboaaGreatDoor
open Go Go.RowKit
set_option linter.unusedVariables false
set_option linter.unusedSimpArgs false
theorem Fr.of_below {G : Gh} {h : Hp} {w w' : World} (hb : Below w.heap.size w w') : Fr G h w G h w' :=
  Fr.below (Fr.refl _ _ _) hb.block hb.os hb.tape hb.output hb.size
theorem acalls_mk {P : Program} {f : Nat} {args : List AV} {h : Hp} {R : AV → Hp → Prop} (hok : fnOk P f = true)
    (hc : ∀ G w (vs : Array Value), HSim G h w → vs.size = args.length → (∀ j (hj : j < args.length), Rep G args[j] (vs.getD j undef)) →
      Calls P f vs w fun e w' => ∃ v, e = .returned v ∧ ∃ r h' G', R r h' ∧ GLe G G' ∧ Fr G h w G' h' w' ∧ HSim G' h' w' ∧ Rep G' r v) : ACalls P f args h R :=
  ⟨hok, fun G w vs hs hl ha => (hc G w vs hs hl ha).mono fun _ _ ⟨v, e, r, h', G', a, b, c, d, f⟩ => ⟨r, h', G', v, e, a, b, c, d, f⟩⟩
end Go.Proofs.YtpnfkfbapfnboaaGreatDoor

