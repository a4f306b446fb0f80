/- Pieces spread: what a round and what all rounds give. Plain. -/
import Derived.Test.YtegalkmfoffpfaaDoorTakes
import Derived.Test.YtegalkmfoffpfaaDoorSortMath
import Derived.Shelf.SlSortCmp.Insertion
namespace Go.Proofs.YtegalkmfoffpfaaDoor
open Go.RowKit Go.Sort
/-- How many of the first k are true. -/
def cntTo (f : Nat → Bool) : Nat → Int
  | 0 => 0
  | k + 1 => cntTo f k + if f k then 1 else 0
theorem cntTo_range (f : Nat → Bool) : ∀ k, 0 ≤ cntTo f k ∧ cntTo f k ≤ k
  | 0 => ⟨Int.le_refl _, Int.le_refl _⟩
  | k + 1 => by
    have := cntTo_range f k
    rw [cntTo]
    split <;> omega
def cnF (m : Nat) (H : Nat → Nat → Bool) (i : Nat) : Int := cntTo (H i) m
def raF (n : Nat) (H : Nat → Nat → Bool) (p : Nat) : Int := cntTo (fun a => H a p) n
/-! ### the order -/
theorem insOuter_sz {α : Type} [Inhabited α] (lt : α → α → Bool) (a b : Nat) : ∀ (m i : Nat) (d : Array α), m + i = b ∨ b ≤ i → (insOuter lt a b i d).size = d.size := by
  intro m
  induction m with
  | zero => intro i d h; rw [insOuter, if_neg (by omega)]
  | succ m ih =>
    intro i d h
    rw [insOuter]
    split
    · rw [ih (i + 1) _ (by omega), insInner_size]
    · rfl
theorem isort_sz {α : Type} [Inhabited α] (lt : α → α → Bool) (d : Array α) : (insertionSort lt d 0 d.size).size = d.size := by
  rw [insertionSort]
  exact insOuter_sz lt 0 d.size (d.size - 1) 1 d (by omega)
def finA (k : Nat) : Array (Fin (k + 1)) := (List.finRange (k + 1)).toArray
theorem finA_size (k : Nat) : (finA k).size = k + 1 := by simp [finA]
def ordFin (k : Nat) (cn : Nat → Int) : Array (Fin (k + 1)) := insertionSort (ltOf fun a b : Fin (k + 1) => Lib.compareInt (cn a.val) (cn b.val)) (finA k) 0 (k + 1)
theorem ordFin_size (k : Nat) (cn : Nat → Int) : (ordFin k cn).size = k + 1 := by
  have := isort_sz (ltOf fun a b : Fin (k + 1) => Lib.compareInt (cn a.val) (cn b.val)) (finA k)
  rw [finA_size] at this
  exact this
/-- In which order the peers take: a stable sort by what they have. -/
def ordF (n : Nat) (cn : Nat → Int) : List Nat := match n with
  | 0 => []
  | k + 1 => (ordFin k cn).toList.map Fin.val
theorem ordF_len (n : Nat) (cn : Nat → Int) : (ordF n cn).length = n := by
  cases n with
  | zero => rfl
  | succ k => simp [ordF, ordFin_size]
theorem ordF_lt (n : Nat) (cn : Nat → Int) : ∀ x ∈ ordF n cn, x < n := by
  cases n with
  | zero => intro x h; cases h
  | succ k =>
    intro x h
    obtain ⟨a, _, rfl⟩ := List.mem_map.1 h
    exact a.isLt
/-! ### a round -/
abbrev Gift := Nat × Nat × Nat
def setB (f : Nat → Bool) (j : Nat) : Nat → Bool := fun x => if x = j then true else f x
def stepR (n m : Nat) (N H : Nat → Nat → Bool) (s : (Nat → Bool) × List Gift) (i : Nat) : (Nat → Bool) × List Gift :=
  if 0 ≤ (takeTo n N H (cnF m H) (raF n H) s.1 i m).1 then (setB s.1 (takeTo n N H (cnF m H) (raF n H) s.1 i m).2.toNat, s.2 ++ [(i, (takeTo n N H (cnF m H) (raF n H) s.1 i m).2.toNat, (takeTo n N H (cnF m H) (raF n H) s.1 i m).1.toNat)]) else s
def rdTo (n m : Nat) (N H : Nat → Nat → Bool) (l : List Nat) : (Nat → Bool) × List Gift := l.foldl (stepR n m N H) (fun _ => false, [])
theorem rdTo_succ (n m : Nat) (N H : Nat → Nat → Bool) (l : List Nat) {k : Nat} (h : k < l.length) : rdTo n m N H (l.take (k + 1)) = stepR n m N H (rdTo n m N H (l.take k)) l[k] := by
  rw [List.take_succ_eq_append_getElem h]
  simp only [rdTo, List.foldl_append, List.foldl_cons, List.foldl_nil]
def gifts (n m : Nat) (N H : Nat → Nat → Bool) : List Gift := (rdTo n m N H (ordF n (cnF m H))).2
theorem giveTo_lt (N H : Nat → Nat → Bool) (cn : Nat → Int) (gave : Nat → Bool) (i p : Nat) : ∀ k, giveTo N H cn gave i p k < (k : Int)
  | 0 => by show (-1 : Int) < 0; omega
  | k + 1 => by
    have := giveTo_lt N H cn gave i p k
    rw [giveTo]
    split <;> omega
/-- What is taken is not had, and is given by somebody. -/
theorem takeTo_spec (n : Nat) (N H : Nat → Nat → Bool) (cn ra : Nat → Int) (gave : Nat → Bool) (i : Nat) : ∀ p, 0 ≤ (takeTo n N H cn ra gave i p).1 →
    H i (takeTo n N H cn ra gave i p).1.toNat = false ∧ (takeTo n N H cn ra gave i p).1 < (p : Int) ∧ 0 ≤ (takeTo n N H cn ra gave i p).2 ∧ (takeTo n N H cn ra gave i p).2 < (n : Int)
  | 0 => fun h => absurd h (show ¬ (0 : Int) ≤ -1 by decide)
  | p + 1 => by
    intro h
    have ih := takeTo_spec n N H cn ra gave i p
    rw [takeTo] at h ⊢
    split
    · rename_i hc
      rw [if_pos hc] at h
      have := ih h
      exact ⟨this.1, by omega, this.2.2⟩
    · rename_i hc
      rw [if_neg hc] at h
      split
      · rename_i hg
        refine ⟨?_, by show (p : Int) < _; omega, hg, giveTo_lt N H cn gave i p n⟩
        simp only [Bool.not_eq_true, Bool.or_eq_false_iff] at hc
        simpa using hc.1
      · rename_i hg
        rw [if_neg hg] at h
        have := ih h
        exact ⟨this.1, by omega, this.2.2⟩
def GiftOk (n m : Nat) (H : Nat → Nat → Bool) (g : Gift) : Prop := g.1 < n ∧ g.2.1 < n ∧ g.2.2 < m ∧ H g.1 g.2.2 = false
theorem foldR_ok (n m : Nat) (N H : Nat → Nat → Bool) : ∀ (l : List Nat) (s : (Nat → Bool) × List Gift), (∀ x ∈ l, x < n) → (∀ g ∈ s.2, GiftOk n m H g) →
    (∀ g ∈ (l.foldl (stepR n m N H) s).2, GiftOk n m H g) ∧ (l.foldl (stepR n m N H) s).2.length ≤ s.2.length + l.length
  | [], s, _, h => ⟨h, by simp⟩
  | i :: r, s, hl, h => by
    have hi : i < n := hl i (by simp)
    have hst : (∀ g ∈ (stepR n m N H s i).2, GiftOk n m H g) ∧ (stepR n m N H s i).2.length ≤ s.2.length + 1 := by
      rw [stepR]
      split
      · rename_i h0
        obtain ⟨h1, h2, h3, h4⟩ := takeTo_spec n N H (cnF m H) (raF n H) s.1 i m h0
        refine ⟨fun g hg => ?_, by simp⟩
        rcases List.mem_append.1 hg with hg | hg
        · exact h g hg
        · simp only [List.mem_singleton] at hg
          subst hg
          exact ⟨hi, by show (takeTo n N H (cnF m H) (raF n H) s.1 i m).2.toNat < n; omega, by show (takeTo n N H (cnF m H) (raF n H) s.1 i m).1.toNat < m; omega, h1⟩
      · exact ⟨h, by omega⟩
    have := foldR_ok n m N H r (stepR n m N H s i) (fun x hx => hl x (by simp [hx])) hst.1
    rw [List.foldl_cons]
    refine ⟨this.1, Nat.le_trans this.2 ?_⟩
    have := hst.2
    simp only [List.length_cons]
    omega
theorem rdTo_ok (n m : Nat) (N H : Nat → Nat → Bool) (l : List Nat) (hl : ∀ x ∈ l, x < n) : (∀ g ∈ (rdTo n m N H l).2, GiftOk n m H g) ∧ (rdTo n m N H l).2.length ≤ l.length := by
  have := foldR_ok n m N H l (fun _ => false, []) hl (fun g hg => by cases hg)
  exact ⟨this.1, by have := this.2; simp only [List.length_nil, Nat.zero_add] at this; exact this⟩
theorem gifts_ok (n m : Nat) (N H : Nat → Nat → Bool) : (∀ g ∈ gifts n m N H, GiftOk n m H g) ∧ (gifts n m N H).length ≤ n := by
  have := rdTo_ok n m N H (ordF n (cnF m H)) (ordF_lt n _)
  rw [ordF_len] at this
  exact this
/-! ### what is had behind a round -/
def applyG (H : Nat → Nat → Bool) (l : List Gift) : Nat → Nat → Bool := l.foldl (fun H g => upd H g.1 g.2.2 true) H
theorem applyG_succ (H : Nat → Nat → Bool) (l : List Gift) {k : Nat} (h : k < l.length) : applyG H (l.take (k + 1)) = upd (applyG H (l.take k)) l[k].1 l[k].2.2 true := by
  rw [List.take_succ_eq_append_getElem h]
  simp only [applyG, List.foldl_append, List.foldl_cons, List.foldl_nil]
def fals1 (f : Nat → Bool) : Nat → Nat
  | 0 => 0
  | k + 1 => fals1 f k + if f k then 0 else 1
theorem fals1_le (f : Nat → Bool) : ∀ k, fals1 f k ≤ k
  | 0 => Nat.le_refl _
  | k + 1 => by
    have := fals1_le f k
    rw [fals1]
    split <;> omega
theorem fals1_mono {f f' : Nat → Bool} (h : ∀ x, f x = true → f' x = true) : ∀ k, fals1 f' k ≤ fals1 f k
  | 0 => Nat.le_refl _
  | k + 1 => by
    have := fals1_mono h k
    rw [fals1, fals1]
    by_cases h1 : f k = true
    · rw [if_pos h1, if_pos (h k h1)]; omega
    · rw [if_neg h1]; split <;> omega
theorem fals1_lt {f f' : Nat → Bool} (h : ∀ x, f x = true → f' x = true) {j : Nat} (h0 : f j = false) (h1 : f' j = true) : ∀ k, j < k → fals1 f' k < fals1 f k
  | 0 => fun hj => absurd hj (Nat.not_lt_zero _)
  | k + 1 => fun hj => by
    rw [fals1, fals1]
    by_cases e : j = k
    · subst e
      rw [if_pos h1, if_neg (by rw [h0]; decide)]
      have := fals1_mono h j
      omega
    · have := fals1_lt h h0 h1 k (by omega)
      by_cases h2 : f k = true
      · rw [if_pos h2, if_pos (h k h2)]; omega
      · rw [if_neg h2]; split <;> omega
def fals (m : Nat) (H : Nat → Nat → Bool) : Nat → Nat
  | 0 => 0
  | k + 1 => fals m H k + fals1 (H k) m
theorem fals_le (m : Nat) (H : Nat → Nat → Bool) : ∀ n, fals m H n ≤ n * m
  | 0 => by simp [fals]
  | k + 1 => by
    have h1 := fals_le m H k
    have h2 := fals1_le (H k) m
    rw [fals, Nat.add_mul]
    omega
theorem fals_mono {m : Nat} {H H' : Nat → Nat → Bool} (h : ∀ a x, H a x = true → H' a x = true) : ∀ n, fals m H' n ≤ fals m H n
  | 0 => Nat.le_refl _
  | k + 1 => by
    have h1 := fals_mono (m := m) h k
    have h2 := fals1_mono (h k) m
    rw [fals, fals]
    omega
theorem fals_lt {m : Nat} {H H' : Nat → Nat → Bool} (h : ∀ a x, H a x = true → H' a x = true) {i j : Nat} (h0 : H i j = false) (h1 : H' i j = true) (hj : j < m) : ∀ n, i < n → fals m H' n < fals m H n
  | 0 => fun hi => absurd hi (Nat.not_lt_zero _)
  | k + 1 => fun hi => by
    rw [fals, fals]
    by_cases e : i = k
    · subst e
      have a := fals_mono (m := m) h i
      have b := fals1_lt (h i) h0 h1 m hj
      omega
    · have a := fals_lt h h0 h1 hj k (by omega)
      have b := fals1_mono (h k) m
      omega
theorem applyG_mono (l : List Gift) : ∀ (H : Nat → Nat → Bool) (a x : Nat), H a x = true → applyG H l a x = true := by
  induction l with
  | nil => intro H a x h; exact h
  | cons g r ih =>
    intro H a x h
    show applyG (upd H g.1 g.2.2 true) r a x = true
    apply ih
    unfold upd
    split
    · rfl
    · exact h
theorem applyG_hit (H : Nat → Nat → Bool) (g : Gift) (r : List Gift) : applyG H (g :: r) g.1 g.2.2 = true := by
  show applyG (upd H g.1 g.2.2 true) r g.1 g.2.2 = true
  apply applyG_mono
  simp [upd]
theorem fals_round (n m : Nat) (N H : Nat → Nat → Bool) (h : gifts n m N H ≠ []) : fals m (applyG H (gifts n m N H)) n < fals m H n := by
  have hok := (gifts_ok n m N H).1
  generalize gifts n m N H = l at *
  cases l with
  | nil => exact absurd rfl h
  | cons g r =>
    obtain ⟨h1, h2, h3, h4⟩ := hok g (by simp)
    exact fals_lt (applyG_mono (g :: r) H) h4 (applyG_hit H g r) h3 n h1
/-! ### all rounds -/
abbrev GiveN := Nat × Gift
def noted (no : Nat) (l : List Gift) : List GiveN := l.map fun g => (no, g)
def spreadF (n m : Nat) (N : Nat → Nat → Bool) : Nat → Nat → (Nat → Nat → Bool) → List GiveN × (Nat → Nat → Bool)
  | 0, _, H => ([], H)
  | f + 1, no, H => if gifts n m N H = [] then ([], H) else (noted no (gifts n m N H) ++ (spreadF n m N f (no + 1) (applyG H (gifts n m N H))).1, (spreadF n m N f (no + 1) (applyG H (gifts n m N H))).2)
theorem spreadF_end (n m : Nat) (N H : Nat → Nat → Bool) (f no : Nat) (h : gifts n m N H = []) : spreadF n m N f no H = ([], H) := by
  cases f with
  | zero => rfl
  | succ f => rw [spreadF, if_pos h]
/-- What is true while rounds go on: f more rounds are enough. -/
structure Going (n m : Nat) (N H0 : Nat → Nat → Bool) (f no : Nat) (H : Nat → Nat → Bool) (acc : List GiveN) : Prop where
  fst : acc ++ (spreadF n m N f no H).1 = (spreadF n m N (n * m) 1 H0).1
  snd : (spreadF n m N f no H).2 = (spreadF n m N (n * m) 1 H0).2
  le : fals m H n ≤ f
  no_ : f + no = n * m + 1
  pos : 1 ≤ no
  len : acc.length ≤ n * (no - 1)
theorem Going.start (n m : Nat) (N H0 : Nat → Nat → Bool) : Going n m N H0 (n * m) 1 H0 [] := ⟨by simp, rfl, fals_le m H0 n, rfl, Nat.le_refl _, by simp⟩
theorem Going.done {n m : Nat} {N H0 : Nat → Nat → Bool} {f no : Nat} {H : Nat → Nat → Bool} {acc : List GiveN} (h : Going n m N H0 f no H acc) (hg : gifts n m N H = []) :
    acc = (spreadF n m N (n * m) 1 H0).1 ∧ H = (spreadF n m N (n * m) 1 H0).2 := by
  have a := h.fst
  have b := h.snd
  rw [spreadF_end n m N H f no hg] at a b
  exact ⟨by simpa using a, b⟩
theorem Going.next {n m : Nat} {N H0 : Nat → Nat → Bool} {f no : Nat} {H : Nat → Nat → Bool} {acc : List GiveN} (h : Going n m N H0 f no H acc) (hg : gifts n m N H ≠ []) :
    0 < f ∧ Going n m N H0 (f - 1) (no + 1) (applyG H (gifts n m N H)) (acc ++ noted no (gifts n m N H)) := by
  have hl := fals_round n m N H hg
  have hf : 0 < f := by have := h.le; omega
  obtain ⟨f', rfl⟩ : ∃ f', f = f' + 1 := ⟨f - 1, by omega⟩
  have a := h.fst
  have b := h.snd
  rw [spreadF, if_neg hg] at a b
  refine ⟨hf, ⟨by rw [List.append_assoc]; exact a, b, by have hle : fals m H n ≤ f' + 1 := h.le; show _ ≤ f'; omega, by have hno : f' + 1 + no = n * m + 1 := h.no_; show f' + (no + 1) = _; omega, by omega, ?_⟩⟩
  have h1 := h.len
  have h2 := (gifts_ok n m N H).2
  rw [List.length_append, show (noted no (gifts n m N H)).length = (gifts n m N H).length by simp [noted]]
  cases no with
  | zero => exact absurd h.pos (by omega)
  | succ no => simp only [Nat.add_sub_cancel] at h1 ⊢; rw [Nat.mul_add]; omega
/-- Whether all have all. -/
def allF (n m : Nat) (H : Nat → Nat → Bool) : Bool := (List.range n).all fun i => (List.range m).all fun p => H i p
end Go.Proofs.YtegalkmfoffpfaaDoor
