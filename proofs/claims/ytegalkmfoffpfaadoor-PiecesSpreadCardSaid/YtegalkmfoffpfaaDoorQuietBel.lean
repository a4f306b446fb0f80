/- A region that draws its order, whose operations read and whose callees only make memory: walked once, in the order of the text. -/
import Derived.Deep.QuietTactic
import Derived.BigQuiet
import Derived.Test.YtegalkmfoffpfaaDoorKit
namespace Go.Proofs.YtegalkmfoffpfaaDoor
open Go.RowKit
/-- A world behind w in which all that lay in w lies as it was. -/
structure Bel (w : World) where
  W : World
  h : Below w.heap.size w W
instance (w : World) : Inhabited (Bel w) := ⟨⟨w, Below.refl _ w⟩⟩
theorem wp_region_quiet_bel {P : Program} {id : Nat} {Q : Exit → Act → World → Prop} {a : Act} {w : World} {l : List Oper} (hm : P.follows .mixedOrders = true) (hB : Region.lexB .any l.toArray = true)
    (h : wpQuiet P l.toArray (fun w' => ∃ p : Bel w, w' = p.W) (fun a' => ∀ w', (∃ p : Bel w, w' = p.W) → Q .normal a' w') l a) : (Code.region id l.toArray true).wp P Q a w :=
  wp_region_quiet (C := fun w' => ∃ p : Bel w, w' = p.W) hm hB ⟨⟨w.drew, below_drewN (Below.refl _ w) 1⟩, rfl⟩ (by simpa using h)
theorem bel_cell {w : World} {a : Addr} {v : Value} (h : w.cell? a = some v) (p : Bel w) : p.W.cell? a = some v := bold p.h h
theorem Calls.bel_of {P : Program} {f : FuncId} {args : Array Value} {w : World} {p : Bel w} {v : Value}
    (h : Calls P f args p.W fun e w' => e = .returned v ∧ Below p.W.heap.size p.W w') : Calls P f args p.W fun e w'' => e = .returned v ∧ ∃ q : Bel w, w'' = q.W :=
  h.mono fun _ w'' ⟨he, hb⟩ => ⟨he, ⟨w'', bon p.h hb⟩, rfl⟩
end Go.Proofs.YtegalkmfoffpfaaDoor
