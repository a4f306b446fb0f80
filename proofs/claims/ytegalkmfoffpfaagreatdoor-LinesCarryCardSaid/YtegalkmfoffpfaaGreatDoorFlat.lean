/- Lists of cells: two an element. -/
import Derived.Test.YtegalkmfoffpfaaGreatDoorBase
namespace Go.Proofs.YtegalkmfoffpfaaGreatDoor
open Go.RowKit

theorem flat2_at {α : Type} (cs : List α) (f : α → List Value) (hf : ∀ c, (f c).length = 2) (k j : Nat) (hk : k < cs.length) (hj : j < 2) : (cs.flatMap f)[k * 2 + j]? = (f cs[k])[j]? := by
  induction cs generalizing k with
  | nil => simp at hk
  | cons c cs ih =>
    cases k with
    | zero => simp only [List.flatMap_cons]; rw [List.getElem?_append_left (by rw [hf]; omega)]; simp
    | succ k =>
      simp only [List.flatMap_cons, List.getElem_cons_succ]
      rw [List.getElem?_append_right (by rw [hf]; omega), hf, ← ih k (by simpa using hk)]
      congr 1; omega
end Go.Proofs.YtegalkmfoffpfaaGreatDoor
