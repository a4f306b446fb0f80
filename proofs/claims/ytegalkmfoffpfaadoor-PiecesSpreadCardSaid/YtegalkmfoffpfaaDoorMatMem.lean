/- Rows of bools in memory: a slice of slices, made by the call. -/
import Derived.Test.YtegalkmfoffpfaaDoorKit
import Derived.Test.YtegalkmfoffpfaaDoorProg
namespace Go.Proofs.YtegalkmfoffpfaaDoor
open Go.RowKit
def slc (g n : Nat) : Value := .slice (some ⟨g, 0, none⟩) n n
def rowC (m : Nat) (f : Nat → Bool) : List Value := (List.range m).map fun j => Value.bool (f j)
theorem rowC_len (m : Nat) (f : Nat → Bool) : (rowC m f).length = m := by simp [rowC]
theorem rowC_at {m j : Nat} (f : Nat → Bool) (h : j < m) : (rowC m f)[j]? = some (.bool (f j)) := by simp [rowC, h]
def slcs (n : Nat) (k : Nat) (m : Nat) (gs : Nat → Nat) : List Value := (List.range n).map fun i => if i < k then slc (gs i) m else .slice none 0 0
theorem slcs_len (n k m : Nat) (gs : Nat → Nat) : (slcs n k m gs).length = n := by simp [slcs]
theorem slcs_at {n k m i : Nat} (gs : Nat → Nat) (h : i < n) (hk : i < k) : (slcs n k m gs)[i]? = some (slc (gs i) m) := by simp [slcs, h, hk]
/-- The first k rows of n are made; each has m bools. -/
structure PMat (w : World) (base : Nat) (v : Value) (n k m : Nat) (f : Nat → Nat → Bool) (gs : Nat → Nat) : Prop where
  own : w.ownsRow base 97 1 v n (slcs n k m gs)
  row : ∀ i, i < k → i < n → w.heap[gs i]? = some (.cells (rowC m (f i)).toArray 4 (0, 0))
  ge : ∀ i, i < k → i < n → base ≤ gs i
  inj : ∀ i j, i < k → j < k → i < n → j < n → gs i = gs j → i = j
abbrev Mat (w : World) (base : Nat) (v : Value) (n m : Nat) (f : Nat → Nat → Bool) (gs : Nat → Nat) : Prop := PMat w base v n n m f gs
section
variable {w w' : World} {base n k m : Nat} {v : Value} {f f' : Nat → Nat → Bool} {gs : Nat → Nat}
theorem PMat.keep (h : PMat w base v n k m f gs) (hk : ∀ x, base ≤ x → x < w.heap.size → w'.heap[x]? = w.heap[x]?) : PMat w' base v n k m f gs := by
  refine ⟨?_, fun i h1 h2 => (hk _ (h.ge i h1 h2) (block_lt (h.row i h1 h2))).trans (h.row i h1 h2), h.ge, h.inj⟩
  obtain ⟨hl, h2⟩ := h.own
  refine ⟨hl, ?_⟩
  rcases h2 with h2 | ⟨g, cap, cur, hv, hg', hh, r⟩
  · exact .inl h2
  · exact .inr ⟨g, cap, cur, hv, hg', (hk g hg' (block_lt hh)).trans hh, r⟩
theorem PMat.below (h : PMat w base v n k m f gs) (hb : Below w.heap.size w w') : PMat w' base v n k m f gs := h.keep fun x _ hx => hb.block x hx
theorem PMat.drew (h : PMat w base v n k m f gs) : PMat w.drew base v n k m f gs := ⟨h.own, h.row, h.ge, h.inj⟩
theorem PMat.drewN (h : PMat w base v n k m f gs) (q : Nat) : PMat (w.drewN q) base v n k m f gs := ⟨h.own, h.row, h.ge, h.inj⟩
theorem PMat.base_le (h : PMat w base v n k m f gs) {b : Nat} (hb : b ≤ base) : PMat w b v n k m f gs :=
  ⟨ownsRow_base h.own hb, h.row, fun i h1 h2 => Nat.le_trans hb (h.ge i h1 h2), h.inj⟩
theorem PMat.congr (h : PMat w base v n k m f gs) (he : ∀ i, i < k → i < n → ∀ j, j < m → f i j = f' i j) : PMat w base v n k m f' gs := by
  refine ⟨h.own, fun i h1 h2 => ?_, h.ge, h.inj⟩
  rw [h.row i h1 h2]
  have : rowC m (f i) = rowC m (f' i) := List.map_congr_left fun j hj => by rw [he i h1 h2 j (by simpa using hj)]
  rw [this]
theorem PMat.form (h : PMat w base v n k m f gs) : ∃ A c, v = .slice A n c := by
  rcases h.own.2 with ⟨rfl, rfl⟩ | ⟨g, cap, cur, rfl, _⟩
  · exact ⟨none, 0, rfl⟩
  · exact ⟨_, cap, rfl⟩
/-- The outer cell i, and the bool at (i, j). -/
theorem PMat.at_ {A : Option Addr} {c i j : Nat} (h : PMat w base (.slice A n c) n k m f gs) (hi : i < k) (hn : i < n) : ∃ g, A = some ⟨g, 0, none⟩ ∧ base ≤ g ∧ g < w.heap.size ∧ gs i ≠ g ∧ gs i < w.heap.size ∧ base ≤ gs i ∧
    w.cell? ⟨g, i, none⟩ = some (slc (gs i) m) ∧ (j < m → w.cell? ⟨gs i, j, none⟩ = some (.bool (f i j))) ∧ w.frozen? ⟨gs i, j, none⟩ = false := by
  have hr := h.row i hi hn
  rcases h.own.2 with ⟨_, h0⟩ | ⟨g, cap, cur, hv, hb, hh, h3, h4, h5, hx⟩
  · omega
  · simp only [Value.slice.injEq] at hv
    obtain ⟨rfl, _, rfl⟩ := hv
    refine ⟨g, rfl, hb, block_lt hh, ?_, block_lt hr, h.ge i hi hn, ?_, fun hj => ?_, ?_⟩
    · intro e
      rw [e, hh] at hr
      injection hr with hr
      injection hr with _ ht
      exact absurd ht (by decide)
    · have e := slcs_at (n := n) (k := k) (m := m) gs hn hi
      rw [← hx, List.getElem?_take_of_lt (by omega)] at e
      simp only [Array.getElem?_toList] at e
      simp [World.cell?, hh, e]
    · have e := rowC_at (f i) hj
      simp [World.cell?, hr, e]
    · simp [World.frozen?, hr]
theorem rowC_set {m j : Nat} (f : Nat → Bool) (b : Bool) : (rowC m f).set j (.bool b) = rowC m (fun x => if x = j then b else f x) := by
  apply List.ext_getElem?
  intro t
  rw [List.getElem?_set]
  by_cases ht : t < m
  · by_cases e : j = t
    · subst e
      rw [if_pos rfl, if_pos (by rw [rowC_len]; exact ht), rowC_at _ ht, if_pos rfl]
    · rw [if_neg e, rowC_at _ ht, rowC_at _ ht, if_neg (fun h => e h.symm)]
  · by_cases e : j = t
    · subst e
      rw [if_pos rfl, if_neg (by rw [rowC_len]; exact ht), List.getElem?_eq_none (by rw [rowC_len]; omega)]
    · rw [if_neg e, List.getElem?_eq_none (by rw [rowC_len]; omega), List.getElem?_eq_none (by rw [rowC_len]; omega)]
def upd (f : Nat → Nat → Bool) (i j : Nat) (b : Bool) : Nat → Nat → Bool := fun a c => if a = i ∧ c = j then b else f a c
/-- A bool is stored at (i, j). -/
theorem PMat.set {i j : Nat} {b : Bool} (h : PMat w base v n k m f gs) (hi : i < k) (hn : i < n) : PMat (w.setCell ⟨gs i, j, none⟩ (.bool b)) base v n k m (upd f i j b) gs := by
  have hr := h.row i hi hn
  have hne : ∀ x, x ≠ gs i → (w.setCell ⟨gs i, j, none⟩ (.bool b)).heap[x]? = w.heap[x]? := fun x hx => Below.heap_setCell _ _ _ _ hx
  refine ⟨?_, fun a h1 h2 => ?_, h.ge, h.inj⟩
  · obtain ⟨hl, h2⟩ := h.own
    refine ⟨hl, ?_⟩
    rcases h2 with h2 | ⟨g, cap, cur, hv, hg', hh, r⟩
    · exact .inl h2
    · refine .inr ⟨g, cap, cur, hv, hg', (hne g ?_).trans hh, r⟩
      intro e
      rw [← e, hh] at hr
      injection hr with hr
      injection hr with _ ht
      exact absurd ht (by decide)
  · by_cases e : a = i
    · subst e
      have e1 : (rowC m (upd f a j b a)) = (rowC m (f a)).set j (.bool b) := by
        rw [rowC_set]; congr 1; funext x; simp [upd]
      rw [e1]
      simp [World.setCell, Array.getElem?_modify, hr]
    · have hga : gs a ≠ gs i := fun h3 => e (h.inj a i h1 hi h2 hn h3)
      rw [hne _ hga, h.row a h1 h2]
      have : rowC m (f a) = rowC m (upd f i j b a) := List.map_congr_left fun x _ => by simp [upd, e]
      rw [this]
end
end Go.Proofs.YtegalkmfoffpfaaDoor
