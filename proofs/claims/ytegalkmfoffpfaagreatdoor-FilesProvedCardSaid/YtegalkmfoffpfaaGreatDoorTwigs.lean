/- Proofs of files: what they are as lists. Plain lemmas. -/
import Derived.Test.YtegalkmfoffpfaaGreatDoorLevels2
namespace Go.Proofs.YtegalkmfoffpfaaGreatDoor
open Go.RowKit

abbrev TwigD := Bool × ByteArray
def twC (t : TwigD) : List Value := [.bool t.1, .string t.2]
def twAt (row : List ByteArray) (k : Nat) : List TwigD :=
  if k % 2 = 1 then [(true, row.getD (k - 1) ⟨#[]⟩)] else if k + 1 < row.length then [(false, row.getD (k + 1) ⟨#[]⟩)] else []
def twTo (l : List ByteArray) (k : Nat) : Nat → List TwigD
  | 0 => []
  | j + 1 => twTo l k j ++ twAt (climb j l) (k / 2 ^ j)
theorem climb_idx {l : List ByteArray} {k : Nat} (h : k < l.length) : ∀ j, k / 2 ^ j < (climb j l).length
  | 0 => by simpa [climb] using h
  | j + 1 => by
    have ih := climb_idx h j
    have e : (climb (j + 1) l).length = ((climb j l).length + 1) / 2 := pairS_len _
    rw [e, Nat.pow_succ, ← Nat.div_div_eq_div_mul]
    omega
theorem twAt_len (row : List ByteArray) (k : Nat) : (twAt row k).length ≤ 1 := by
  unfold twAt; split
  · simp
  · split <;> simp
theorem twTo_len (l : List ByteArray) (k : Nat) : ∀ j, (twTo l k j).length ≤ j
  | 0 => by simp [twTo]
  | j + 1 => by
    have := twTo_len l k j
    have := twAt_len (climb j l) (k / 2 ^ j)
    simp only [twTo, List.length_append]; omega
/-- The row at the top gives nothing. -/
theorem twTo_top {l : List ByteArray} {k j : Nat} (h : k < l.length) (h1 : (climb j l).length ≤ 1) : twTo l k (j + 1) = twTo l k j := by
  have h2 := climb_idx h j
  have h0 : k / 2 ^ j = 0 := Nat.lt_one_iff.1 (Nat.lt_of_lt_of_le h2 h1)
  rw [twTo, h0, twAt, if_neg (by decide), if_neg (by omega), List.append_nil]
/-- There is one top. -/
theorem Climbs.one {l : List ByteArray} {i j : Nat} (hi : Climbs l i) (hj : Climbs l j) (ti : (climb i l).length ≤ 1) (tj : (climb j l).length ≤ 1) : i = j := by
  rcases Nat.lt_trichotomy i j with h | h | h
  · have := hj.before i h; omega
  · exact h
  · have := hi.before j h; omega
def stepS (s : ByteArray) (t : TwigD) : ByteArray := if t.1 then sumS (t.2 ++ s) else sumS (s ++ t.2)
def foldS (s : ByteArray) (ts : List TwigD) : ByteArray := ts.foldl stepS s
theorem stepS_size (s : ByteArray) (t : TwigD) : (stepS s t).size = 16 := by
  unfold stepS; split <;> exact sumS_size _
theorem foldS_size (s : ByteArray) (ts : List TwigD) (h : s.size = 16) : (foldS s ts).size = 16 := by
  induction ts generalizing s with
  | nil => exact h
  | cons t ts ih => exact ih _ (stepS_size s t)
theorem foldS_snoc (s : ByteArray) (ts : List TwigD) {k : Nat} (h : k < ts.length) : foldS s (ts.take (k + 1)) = stepS (foldS s (ts.take k)) ts[k] := by
  unfold foldS
  rw [List.take_succ_eq_append_getElem h, List.foldl_append]; rfl
def twF (ts : List TwigD) : Nat → Int := fun j => if sumB (ts.getD j (false, ⟨#[]⟩)).2 then 0 else 3
/-- What is wrong with a root, a file and a proof. -/
def verF (root : ByteArray) (f : FileD) (ts : List TwigD) : Int :=
  if sumB root then (if filesF [f] = 0 then (if 20 < ts.length then 2 else firstTo (twF ts) ts.length) else filesF [f]) else 3
def verB (root : ByteArray) (f : FileD) (ts : List TwigD) : Bool := (foldS (leafS f) ts).toList == root.toList
end Go.Proofs.YtegalkmfoffpfaaGreatDoor
