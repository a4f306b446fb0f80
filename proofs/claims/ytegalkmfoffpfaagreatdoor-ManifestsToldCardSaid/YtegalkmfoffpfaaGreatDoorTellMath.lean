/- Plain lemmas for ManifestsTold. -/
import Derived.Test.YtegalkmfoffpfaaGreatDoorSpareWalk
import Derived.Test.YtegalkmfoffpfaaGreatDoorBytesWalk
namespace Go.Proofs.YtegalkmfoffpfaaGreatDoor
open Go.RowKit

theorem hasS_eq {H : List ByteArray} {s t : ByteArray} (h : (s.toList == t.toList) = true) : hasS H s = hasS H t := by
  rw [ba_ext (a := s) (b := t) (by simpa using h)]
theorem newTo_filter (H : List ByteArray) (cs : List ChunkD) : newTo H cs = (newTo [] cs).filter fun x => !hasS H x.1 := by
  have : ∀ (n : Nat) (cs : List ChunkD), cs.length = n → newTo H cs = (newTo [] cs).filter fun x => !hasS H x.1 := by
    intro n
    induction n with
    | zero => intro cs h; rw [List.eq_nil_of_length_eq_zero h]; rfl
    | succ n ih =>
      intro cs h
      obtain ⟨pre, c, rfl⟩ : ∃ pre c, cs = pre ++ [c] := by
        have hne : cs ≠ [] := by intro e; rw [e] at h; simp at h
        exact ⟨cs.dropLast, cs.getLast hne, (List.dropLast_concat_getLast hne).symm⟩
      have hp := ih pre (by simp at h; exact h)
      rw [newTo_snoc, newTo_snoc, hp]
      generalize newTo [] pre = O
      unfold newStep
      rw [List.nil_append, hasS_append]
      rcases Bool.eq_false_or_eq_true (hasS H c.1) with hc | hc
      · rw [hc, Bool.true_or, if_pos rfl]
        split
        · rfl
        · rw [List.filter_append]; simp [hc]
      · rw [hc, Bool.false_or]
        have e : hasS ((O.filter fun x => !hasS H x.1).map (·.1)) c.1 = hasS (O.map (·.1)) c.1 := by
          induction O with
          | nil => rfl
          | cons x O ih2 =>
            rw [List.map_cons, hasS_cons, ← ih2, List.filter_cons]
            by_cases hx : (x.1.toList == c.1.toList) = true
            · rw [hasS_eq (H := H) hx, hc]
              simp [hasS_cons, hx]
            · split
              · simp [hasS_cons, hx]
              · simp [hx]
        rw [e]
        split
        · rfl
        · rw [List.filter_append]; simp [hc]
  exact this _ cs rfl
theorem rise_mem {hv : List ByteArray} {s : ByteArray} (h : s ∈ riseS hv) : s ∈ hv := by
  unfold riseS at h
  obtain ⟨l, hl, rfl⟩ := List.mem_map.1 h
  unfold riseL Lib.compact Lib.compactUpTo at hl
  obtain ⟨j, hj, rfl⟩ := List.mem_map.1 hl
  have hj2 := (List.mem_filter.1 hj).1
  simp only [List.mem_range] at hj2
  have hm : (hv.map (·.data.toList)).mergeSort (fun x y => decide (x ≤ y)) |>.toArray[j]! ∈ (hv.map (·.data.toList)).mergeSort (fun x y => decide (x ≤ y)) := by
    rw [getElem!_pos _ j (by simpa using hj2)]
    simp
  rw [List.mem_mergeSort] at hm
  obtain ⟨t, ht, he⟩ := List.mem_map.1 hm
  rw [← he]
  exact ht
theorem rise_len (hv : List ByteArray) : (riseS hv).length ≤ hv.length := by
  unfold riseS riseL
  rw [List.length_map]
  have := Lib.compact_length_le ((hv.map (·.data.toList)).mergeSort fun x y => decide (x ≤ y))
  rw [List.length_mergeSort, List.length_map] at this
  exact this
theorem allC_len {fs : List FileD} (h : ∀ f ∈ fs, Short f) : (allC fs).length ≤ fs.length * 3 := by
  unfold allC chunksTo
  rw [List.take_length]
  induction fs with
  | nil => simp
  | cons f fs ih =>
    have h1 := (h f (by simp)).2.1
    have h2 := ih fun x hx => h x (by simp [hx])
    rw [List.flatMap_cons, List.length_append, List.length_cons]; omega
end Go.Proofs.YtegalkmfoffpfaaGreatDoor
