/- Neighbours: what nearOf and NearFault answer. Plain. -/
import Derived.Test.YtegalkmfoffpfaaDoorPSearch
import Derived.Test.YtegalkmfoffpfaaDoorMatMem
namespace Go.Proofs.YtegalkmfoffpfaaDoor
open Go.RowKit
abbrev PairD := ByteArray × ByteArray
def paC (p : PairD) : List Value := [.string p.1, .string p.2]
def nrAt (ne : List PairD) (i : Nat) : PairD := ne.getD i (.empty, .empty)
theorem nrAt_eq (ne : List PairD) {k : Nat} (h : k < ne.length) : nrAt ne k = ne[k] := by simp [nrAt, List.getD, List.getElem?_eq_getElem h]
/-- Whether x and y are neighbours by one of the pairs, by their numbers. -/
def linkB (ps : List PeerD) (p : PairD) (x y : Int) : Bool := (decide (keyAt p.1 ps = x) && decide (keyAt p.2 ps = y)) || (decide (keyAt p.1 ps = y) && decide (keyAt p.2 ps = x))
def nearM (ps : List PeerD) (ne : List PairD) (k : Nat) (x y : Nat) : Bool := (ne.take k).any fun p => linkB ps p x y
def neF (ps : List PeerD) (ne : List PairD) (i : Nat) : Int :=
  if decide (keyAt (nrAt ne i).1 ps < 0) || decide (keyAt (nrAt ne i).2 ps < 0) then 8
  else if decide (keyAt (nrAt ne i).1 ps = keyAt (nrAt ne i).2 ps) || nearM ps ne i (keyAt (nrAt ne i).1 ps).toNat (keyAt (nrAt ne i).2 ps).toNat then 6 else 0
def nearF (ps : List PeerD) (ne : List PairD) : Int := if 1000 < ne.length then 2 else firstTo (neF ps ne) ne.length
theorem nearM_zero (ps : List PeerD) (ne : List PairD) (x y : Nat) : nearM ps ne 0 x y = false := by simp [nearM]
theorem nearM_succ (ps : List PeerD) (ne : List PairD) {k : Nat} (h : k < ne.length) (x y : Nat) : nearM ps ne (k + 1) x y = (nearM ps ne k x y || linkB ps ne[k] x y) := by
  unfold nearM
  rw [List.take_succ_eq_append_getElem h, List.any_append]
  simp
theorem keyAt_range (key : ByteArray) (ps : List PeerD) : -1 ≤ keyAt key ps ∧ keyAt key ps < ps.length := by
  unfold keyAt idxI
  cases h : (List.range ps.length).find? (isK key ps) with
  | none => simp; omega
  | some i =>
    have := List.mem_of_find?_eq_some h
    simp at this
    simp; omega
/-- Two stores make the next pair's row. -/
theorem upd_near (ps : List PeerD) (ne : List PairD) {k a b : Nat} (h : k < ne.length) (ha : keyAt ne[k].1 ps = a) (hb : keyAt ne[k].2 ps = b) (x y : Nat) :
    upd (upd (nearM ps ne k) a b true) b a true x y = nearM ps ne (k + 1) x y := by
  rw [nearM_succ ps ne h]
  unfold upd linkB
  rw [ha, hb]
  by_cases h1 : x = b ∧ y = a
  · rw [if_pos h1, h1.1, h1.2]; simp
  · rw [if_neg h1]
    by_cases h2 : x = a ∧ y = b
    · rw [if_pos h2, h2.1, h2.2]; simp
    · rw [if_neg h2]
      have e1 : (decide ((a : Int) = x) && decide ((b : Int) = y)) = false := by
        rw [Bool.eq_false_iff]; simp; intro h3 h4; exact h2 ⟨by omega, by omega⟩
      have e2 : (decide ((a : Int) = y) && decide ((b : Int) = x)) = false := by
        rw [Bool.eq_false_iff]; simp; intro h3 h4; exact h1 ⟨by omega, by omega⟩
      rw [e1, e2]; simp
theorem madeCells_one (z : Value) (n : Nat) : madeCells #[z] n = Array.replicate n z := by
  apply Array.ext
  · simp [madeCells]
  · intro i h1 h2
    simp [madeCells, Nat.mod_one]
theorem rowC_false (m : Nat) : (rowC m (fun _ => false)).toArray = madeCells #[Value.bool false] m := by
  rw [madeCells_one]
  apply Array.ext
  · simp [rowC]
  · intro i h1 h2; simp [rowC]
end Go.Proofs.YtegalkmfoffpfaaDoor
