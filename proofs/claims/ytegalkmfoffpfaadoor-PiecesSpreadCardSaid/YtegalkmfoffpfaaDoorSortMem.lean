/- A row of the call's own, sorted in place: the sort's words of memory and ours. -/
import Derived.Shelf.GgSortFunc.InsertionK
import Derived.Test.YtegalkmfoffpfaaDoorKit
namespace Go.Proofs.YtegalkmfoffpfaaDoor
open Go.RowKit Go.Sort Go.Proofs
section
variable {α : Type} {enc : α → List Value} {k : Nat}
theorem flatK_at (hk : ∀ x, (enc x).length = k) : ∀ (l : List α) (j i : Nat) (hj : j < l.length), i < k → (l.flatMap enc)[j * k + i]? = (enc l[j])[i]?
  | [], _, _, hj, _ => absurd hj (by simp)
  | x :: r, 0, i, _, hi => by
    rw [List.flatMap_cons, Nat.zero_mul, Nat.zero_add, List.getElem?_append_left (by rw [hk]; exact hi)]
    rfl
  | x :: r, j + 1, i, hj, hi => by
    rw [List.flatMap_cons, List.getElem?_append_right (by rw [hk, Nat.add_mul]; omega), hk, show (j + 1) * k + i - k = j * k + i by rw [Nat.add_mul]; omega, flatK_at hk r j i (by simpa using hj) hi]
    rfl
theorem flatK_len (hk : ∀ x, (enc x).length = k) : ∀ l : List α, (l.flatMap enc).length = l.length * k
  | [] => by simp
  | x :: r => by rw [List.flatMap_cons, List.length_append, hk, flatK_len hk r, List.length_cons, Nat.add_mul]; omega
variable [Inhabited α]
theorem flatK_list (hk : ∀ x, (enc x).length = k) (d : Array α) : (flatK enc k d).toList = d.toList.flatMap enc := by
  apply List.ext_getElem?
  intro t
  by_cases h : t < d.size * k
  · have hk0 : 0 < k := Nat.pos_of_ne_zero (fun e => by rw [e, Nat.mul_zero] at h; omega)
    have hq : t / k < d.size := Nat.div_lt_of_lt_mul (by rw [Nat.mul_comm]; exact h)
    have hm := Nat.mod_lt t hk0
    have e := flatK_at hk d.toList (t / k) (t % k) (by simpa using hq) hm
    rw [show t / k * k + t % k = t by rw [Nat.mul_comm]; exact Nat.div_add_mod t k] at e
    rw [e, Array.getElem?_toList, Array.getElem?_eq_getElem (by rw [size_flatK]; exact h)]
    have g := get_flatK enc k d t h
    rw [getElem!_pos _ t (by rw [size_flatK]; exact h)] at g
    rw [g, getElem!_pos d _ hq, Array.getElem_toList, List.getElem?_eq_getElem (by rw [hk]; exact hm), getElem!_pos _ _ (by rw [hk]; exact hm)]
  · rw [List.getElem?_eq_none (by rw [Array.length_toList, size_flatK]; omega), List.getElem?_eq_none (by rw [flatK_len hk, Array.length_toList]; omega)]
theorem own_holds {w : World} {base e n cap g : Nat} {d : Array α} (hk : ∀ x, (enc x).length = k) (h : w.ownsRow base e k (.slice (some ⟨g, 0, none⟩) n cap) n (d.toList.flatMap enc)) (hd : d.size = n) :
    HoldsK enc k w g 0 d := by
  rcases h.2 with ⟨h0, _⟩ | ⟨g', cap', cur, hv, _, hh, _, _, _, hx⟩
  · cases h0
  · simp only [Value.slice.injEq, Option.some.injEq, Addr.mk.injEq] at hv
    obtain ⟨⟨rfl, _, _⟩, _, rfl⟩ := hv
    intro t ht
    rw [size_flatK] at ht
    have e : (flatK enc k d).toList[t]? = some (flatK enc k d)[t]! := by
      rw [Array.getElem?_toList, Array.getElem?_eq_getElem (by rw [size_flatK]; exact ht), getElem!_pos _ _ (by rw [size_flatK]; exact ht)]
    rw [flatK_list hk, ← hx, List.getElem?_take_of_lt (by rw [← hd]; exact ht)] at e
    simp only [Array.getElem?_toList] at e
    simp [World.cell?, World.frozen?, hh, e]
theorem sortK_own {w : World} {base e n cap g m : Nat} {d d' : Array α} {os : Array Obj} (hk : ∀ x, (enc x).length = k) (h : w.ownsRow base e k (.slice (some ⟨g, 0, none⟩) n cap) n (d.toList.flatMap enc)) (hd' : d'.size = n) :
    (sortWorldK enc k w g 0 m d' os).ownsRow base e k (.slice (some ⟨g, 0, none⟩) n cap) n (d'.toList.flatMap enc) ∧ w.grownBy (sortWorldK enc k w g 0 m d' os) (some g) := by
  rcases h.2 with ⟨h0, _⟩ | ⟨g', cap', cur, hv, hg, hh, hnc, hcm, hsz, hx⟩
  · cases h0
  · simp only [Value.slice.injEq, Option.some.injEq, Addr.mk.injEq] at hv
    obtain ⟨⟨rfl, _, _⟩, _, rfl⟩ := hv
    have hlt := block_lt hh
    have hgh : (sortWorldK enc k w g 0 m d' os).heap[g]? = some (.cells (putCells id 0 (flatK enc k d') cur) e (0, 0)) := by
      unfold sortWorldK grow putRowK putRow mapBlock
      simp only [Array.getElem?_append, Array.size_modify, heap_ahead]
      rw [if_pos hlt, Array.getElem?_modify, if_pos rfl, hh]
      rfl
    have hle : n * k ≤ cap * k := Nat.mul_le_mul_right k hnc
    refine ⟨⟨by rw [flatK_len hk, Array.length_toList, hd'], .inr ⟨g, cap, _, rfl, hg, hgh, hnc, hcm, by simp [putCells, hsz], ?_⟩⟩, rfl, rfl, rfl, ?_, ?_⟩
    · rw [← flatK_list hk]
      apply List.ext_getElem?
      intro t
      by_cases ht : t < n * k
      · have hs : t < (flatK enc k d').size := by rw [size_flatK, hd']; exact ht
        rw [List.getElem?_take_of_lt ht, Array.getElem?_toList, Array.getElem?_toList, putCells, Array.getElem?_mapIdx, Array.getElem?_eq_getElem (show t < cur.size by omega), Array.getElem?_eq_getElem hs]
        simp only [Option.map_some]
        rw [if_pos ⟨Nat.zero_le _, by omega⟩, Nat.sub_zero, getElem!_pos (flatK enc k d') t hs]
        rfl
      · rw [List.getElem?_eq_none (by rw [List.length_take]; exact Nat.le_trans (Nat.min_le_left _ _) (by omega)), List.getElem?_eq_none (by rw [Array.length_toList, size_flatK, hd']; omega)]
    · unfold sortWorldK
      rw [size_grow]
      simp [putRowK]
    · intro j hj hne
      unfold sortWorldK grow putRowK putRow mapBlock
      simp only [Array.getElem?_append, Array.size_modify, heap_ahead]
      rw [if_pos hj, Array.getElem?_modify, if_neg (fun e => hne (by rw [e]))]
end
end Go.Proofs.YtegalkmfoffpfaaDoor
