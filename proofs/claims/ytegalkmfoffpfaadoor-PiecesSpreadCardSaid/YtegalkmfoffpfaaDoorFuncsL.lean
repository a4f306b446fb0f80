/- What slices.IndexFunc and slices.ContainsFunc tell at a list of structs: the words. -/
import Derived.Test.YtegalkmfoffpfaaDoorProg
import Derived.Test.YtegalkmfoffpfaaDoorKit
import Derived.Deep.LoopGhost
import Derived.Shelf.GgClosure.Gives
namespace Go.Proofs.YtegalkmfoffpfaaDoor
open Go.RowKit
/-- A function value that answers p x at each struct x of ts, and only makes memory. -/
def PredL {α : Type} (P : Program) (g : Nat) (lb : Array Value) (enc : α → List Value) (ts : List α) (p : α → Bool) (w : World) : Prop :=
  ∀ (W : World) (x : α), x ∈ ts → Below w.heap.size w W → Calls P g (#[.agg (enc x).toArray] ++ lb) W fun e w' => e = .returned (.bool (p x)) ∧ Below W.heap.size W w'
def idxL {α : Type} (p : α → Bool) (ts : List α) : Int := match ts.findIdx? p with
  | some i => (i : Int)
  | none => -1
section
variable {α : Type} {p : α → Bool} {ts : List α} {k : Nat}
theorem idxL_miss (h : ∀ x ∈ ts, p x = false) : idxL p ts = -1 := by
  have : ts.findIdx? p = none := by rw [List.findIdx?_eq_none_iff]; exact h
  rw [idxL, this]
theorem idxL_hit (hk : k < ts.length) (hp : p ts[k] = true) (h : ∀ x ∈ ts.take k, p x = false) : idxL p ts = k := by
  have : ts.findIdx? p = some k := by
    rw [List.findIdx?_eq_some_iff_getElem]
    refine ⟨hk, hp, fun j hj => ?_⟩
    have := h (ts[j]'(by omega)) (by rw [List.mem_take_iff_getElem]; exact ⟨j, by omega, rfl⟩)
    simpa using this
  rw [idxL, this]
theorem idxL_more (hk : k < ts.length) (hp : p ts[k] = false) (h : ∀ x ∈ ts.take k, p x = false) : ∀ x ∈ ts.take (k + 1), p x = false := by
  rw [List.take_succ_eq_append_getElem hk]
  intro x hx
  rcases List.mem_append.1 hx with hx | hx
  · exact h x hx
  · simp at hx; subst hx; exact hp
end
theorem idxL_any {α : Type} (p : α → Bool) (ts : List α) : decide (0 ≤ idxL p ts) = ts.any p := by
  unfold idxL
  cases h : ts.findIdx? p with
  | none =>
    rw [List.findIdx?_eq_none_iff] at h
    have : ts.any p = false := by rw [List.any_eq_false]; intro x hx; simp [h x hx]
    rw [this]; rfl
  | some i =>
    rw [List.findIdx?_eq_some_iff_getElem] at h
    obtain ⟨hi, hp, _⟩ := h
    have : ts.any p = true := List.any_eq_true.2 ⟨_, List.getElem_mem hi, hp⟩
    rw [this]
    simp
def IdxLRel {α : Type} (p : α → Bool) (ts : List α) (w : World) (g : Nat) (i : Value) (wr : World) : Prop :=
  ∃ k : Nat, k + g = ts.length ∧ i = .int .i64 k ∧ (∀ x ∈ ts.take k, p x = false) ∧ Below w.heap.size w wr
def EqLRel (n : Nat) (w : World) (g : Nat) (i : Value) (wr : World) : Prop := ∃ k : Nat, k + g = n ∧ i = .int .i64 k ∧ ∃ q, wr = w.drewN q
end Go.Proofs.YtegalkmfoffpfaaDoor
