/- Words of the seat on pieces: the first fault; keys in order. Plain. -/
import Derived.Test.YtegalkmfoffpfaaDoorKeys
import Derived.Sort.Walk0
import Derived.Deep.LoopGhost
import Derived.Deep.DeepCutAuto
namespace Go.Proofs.YtegalkmfoffpfaaDoor
open Go.RowKit
/-- The first number that is not 0 among f 0 .. f (n - 1); else 0. -/
def firstTo (f : Nat → Int) : Nat → Int
  | 0 => 0
  | k + 1 => if firstTo f k = 0 then f k else firstTo f k
theorem firstTo_le {f : Nat → Int} {k n : Nat} (h : k ≤ n) (h0 : firstTo f k ≠ 0) : firstTo f n = firstTo f k := by
  induction n with
  | zero => rw [show k = 0 by omega]
  | succ n ih =>
    by_cases e : k = n + 1
    · rw [e]
    · have := ih (by omega)
      rw [firstTo, this, if_neg h0]
theorem firstTo_at {f : Nat → Int} {k n : Nat} (h : k < n) (h0 : firstTo f k = 0) (hf : f k ≠ 0) : firstTo f n = f k := by
  have e : firstTo f (k + 1) = f k := by rw [firstTo, if_pos h0]
  rw [firstTo_le (k := k + 1) h (by rw [e]; exact hf), e]
theorem firstTo_succ {f : Nat → Int} {k : Nat} (h0 : firstTo f k = 0) (hf : f k = 0) : firstTo f (k + 1) = 0 := by rw [firstTo, if_pos h0, hf]

def keyLe (a b : ByteArray) : Bool := Op.bytesLess a.toList b.toList || a.toList == b.toList
theorem bl_lt (a b : ByteArray) : Op.bytesLess a.toList b.toList = decide (a.toList < b.toList) := bytesLess_eq _ _
theorem keyLe_eq (a b : ByteArray) : keyLe a b = decide (a.toList ≤ b.toList) := by
  unfold keyLe
  rw [bl_lt]
  by_cases h : a.toList < b.toList
  · simp [h, List.le_of_lt h]
  · by_cases e : a.toList = b.toList
    · simp [e]
    · have : ¬ a.toList ≤ b.toList := fun hle => by
        rcases List.le_total a.toList b.toList with _ | _
        all_goals exact e (List.le_antisymm hle (List.not_lt.1 h))
      simp [h, e, this]
theorem cb_lt : ∀ a b : List UInt8, Lib.compareBytes a b < 0 ↔ a < b
  | [], [] => by simp [Lib.compareBytes]
  | [], _ :: _ => by simp [Lib.compareBytes]
  | _ :: _, [] => by simp [Lib.compareBytes]
  | a :: xs, b :: ys => by
    rw [Lib.compareBytes, List.cons_lt_cons_iff]
    by_cases h : a < b
    · simp [h]
    · by_cases h2 : b < a
      · simp only [h, h2, if_true, if_false, false_or]
        constructor
        · intro h3; omega
        · intro h3; rw [h3.1] at h2; exact absurd h2 (UInt8.lt_irrefl _)
      · have e : a = b := UInt8.le_antisymm (UInt8.not_lt.1 h2) (UInt8.not_lt.1 h)
        subst e
        simp only [h, if_false, false_or, true_and]
        exact cb_lt xs ys
theorem cb_eq : ∀ a b : List UInt8, Lib.compareBytes a b = 0 ↔ a = b
  | [], [] => by simp [Lib.compareBytes]
  | [], _ :: _ => by simp [Lib.compareBytes]
  | _ :: _, [] => by simp [Lib.compareBytes]
  | a :: xs, b :: ys => by
    rw [Lib.compareBytes]
    by_cases h : a < b
    · simp only [h, if_true]
      constructor
      · intro h3; omega
      · intro h3; injection h3 with e _; rw [e] at h; exact absurd h (UInt8.lt_irrefl _)
    · by_cases h2 : b < a
      · simp only [h, h2, if_true, if_false]
        constructor
        · intro h3; omega
        · intro h3; injection h3 with e _; rw [e] at h2; exact absurd h2 (UInt8.lt_irrefl _)
      · have e : a = b := UInt8.le_antisymm (UInt8.not_lt.1 h2) (UInt8.not_lt.1 h)
        subst e
        simp only [h, if_false, List.cons.injEq, true_and]
        exact cb_eq xs ys
theorem ba_list (s : ByteArray) : s.toList = s.data.toList := ByteArray.toList_eq s
end Go.Proofs.YtegalkmfoffpfaaDoor
