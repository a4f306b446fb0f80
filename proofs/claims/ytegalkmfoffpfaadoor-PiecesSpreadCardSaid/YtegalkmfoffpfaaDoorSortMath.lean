/- Plain: two orders that agree wherever a later element is held against an earlier one sort alike. -/
import Derived.Sort.Defs
namespace Go.Proofs.YtegalkmfoffpfaaDoor
open Go.Sort
variable {α : Type} [Inhabited α]
theorem swp_size (d : Array α) (i j : Nat) : (swp d i j).size = d.size := by simp [swp]
theorem get_sib (d : Array α) (i p : Nat) (x : α) : (d.setIfInBounds i x)[p]! = if i = p ∧ p < d.size then x else d[p]! := by
  simp only [getElem!_def, Array.getElem?_setIfInBounds]
  by_cases h : i = p
  · subst h
    by_cases h2 : i < d.size <;> simp [h2]
  · simp [h]
theorem swp_get (d : Array α) {j : Nat} (hj : j + 1 < d.size) (p : Nat) : (swp d (j + 1) j)[p]! = if p = j then d[j + 1]! else if p = j + 1 then d[j]! else d[p]! := by
  rw [swp, get_sib, get_sib]
  simp only [Array.size_setIfInBounds]
  by_cases h1 : p = j
  · subst h1; simp; omega
  · by_cases h2 : p = j + 1
    · subst h2; simp [hj]
    · rw [if_neg (by omega), if_neg (by omega), if_neg h1, if_neg h2]
theorem insInner_size (lt : α → α → Bool) (a j : Nat) (d : Array α) : (insInner lt a j d).size = d.size := by
  induction j generalizing d with
  | zero => rfl
  | succ j ih =>
    rw [insInner]
    split
    · rw [ih, swp_size]
    · rfl
theorem insInner_get (lt : α → α → Bool) (j : Nat) (d : Array α) (hj : j < d.size) (p : Nat) :
    (j < p → (insInner lt 0 j d)[p]! = d[p]!) ∧ (p ≤ j → ∃ p', p' ≤ j ∧ (insInner lt 0 j d)[p]! = d[p']!) := by
  induction j generalizing d with
  | zero => exact ⟨fun _ => rfl, fun h => ⟨p, h, rfl⟩⟩
  | succ j ih =>
    rw [insInner]
    split
    · obtain ⟨h1, h2⟩ := ih (swp d (j + 1) j) (by rw [swp_size]; omega)
      refine ⟨fun h => ?_, fun h => ?_⟩
      · rw [h1 (by omega), swp_get d hj, if_neg (by omega), if_neg (by omega)]
      · by_cases hp : p ≤ j
        · obtain ⟨p', hp', e⟩ := h2 hp
          rw [e, swp_get d hj]
          split
          · exact ⟨j + 1, by omega, rfl⟩
          · split
            · exact ⟨j, by omega, rfl⟩
            · exact ⟨p', by omega, rfl⟩
        · rw [h1 (by omega), swp_get d hj, if_neg (by omega), if_pos (by omega)]
          exact ⟨j, by omega, rfl⟩
    · exact ⟨fun _ => rfl, fun h => ⟨p, h, rfl⟩⟩
theorem insInner_cong (l1 l2 : α → α → Bool) (j : Nat) (d : Array α) (hj : j < d.size) (h : ∀ i, i < j → l1 d[j]! d[i]! = l2 d[j]! d[i]!) : insInner l1 0 j d = insInner l2 0 j d := by
  induction j generalizing d with
  | zero => rfl
  | succ j ih =>
    rw [insInner, insInner, h j (by omega), ih (swp d (j + 1) j) (by rw [swp_size]; omega) (fun i hi => by
      rw [swp_get d hj, swp_get d hj, if_pos rfl, if_neg (by omega), if_neg (by omega)]
      exact h i (by omega))]
theorem insOuter_cong (l1 l2 : α → α → Bool) (n : Nat) (m : Nat) (i : Nat) (hm : m + i = n) (d : Array α) (hn : n ≤ d.size) (h : ∀ p q, p < q → i ≤ q → q < n → l1 d[q]! d[p]! = l2 d[q]! d[p]!) : insOuter l1 0 n i d = insOuter l2 0 n i d := by
  induction m generalizing i d with
  | zero => rw [insOuter, if_neg (by omega), insOuter, if_neg (by omega)]
  | succ m ih =>
    rw [insOuter, insOuter.eq_def l2, if_pos (by omega), if_pos (by omega), ← insInner_cong l1 l2 i d (by omega) (fun p hp => h p i hp (Nat.le_refl _) (by omega))]
    refine ih (i + 1) (by omega) _ (by rw [insInner_size]; exact hn) (fun p q hpq hq hqn => ?_)
    rw [(insInner_get l1 i d (by omega) q).1 (by omega)]
    by_cases hp : p ≤ i
    · obtain ⟨p', hp', e⟩ := (insInner_get l1 i d (by omega) p).2 hp
      rw [e]
      exact h p' q (by omega) (by omega) hqn
    · rw [(insInner_get l1 i d (by omega) p).1 (by omega)]
      exact h p q hpq (by omega) hqn
theorem sort_cong (l1 l2 : α → α → Bool) (d : Array α) (h : ∀ p q, p < q → q < d.size → l1 d[q]! d[p]! = l2 d[q]! d[p]!) : insertionSort l1 d 0 d.size = insertionSort l2 d 0 d.size := by
  rw [insertionSort, insertionSort]
  by_cases h0 : d.size = 0
  · rw [h0, insOuter, if_neg (by omega), insOuter, if_neg (by omega)]
  · exact insOuter_cong l1 l2 d.size (d.size - 1) 1 (by omega) d (Nat.le_refl _) (fun p q h1 _ h3 => h p q h1 h3)
end Go.Proofs.YtegalkmfoffpfaaDoor
