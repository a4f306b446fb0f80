/- A slot that is nil may get an array to write. -/
import Derived.Test.YtoleejecmefogaaGreatDoorAvRun
namespace Go.Proofs.YtoleejecmefogaaGreatDoor
open Go
set_option linter.unusedVariables false
set_option linter.unusedSimpArgs false
section
variable {P : Program} {c : Cx} {Q : Exit → St → Prop} {s : St}
theorem awp_ownA (t z : Nat) {x : Code} {n' c' : Nat} (ht : s.sl.getD t .junk = .v (.slice none n' c')) (h0 : n' = 0 ∧ c' = 0) (h : ∀ k, s.h.T k = none → Awp P c x Q { s with sl := s.sl.set t (.arr z k 0), h := { s.h with T := upd s.h.T k (some (.cont z [])) } }) : Awp P c x Q s := by
  rintro a w ⟨G, L, sm, hg, hf, hL⟩
  obtain ⟨rfl, rfl⟩ := h0
  obtain ⟨hT, s1, g1, f1⟩ := sm.newTok (o := .cont z []) (.inr (.inl ⟨z, rfl⟩))
  refine h G.nx hT a w ⟨G.newTk, L, ⟨s1.hs, by simpa using s1.sz, fun u hu => ?_, s1.df, s1.ls⟩, hg.trans g1, hf.trans f1, hL⟩
  have hu' : u < s.sl.length := by simpa using hu
  have h1 := s1.sl u hu'
  simp only [List.getElem_set]
  split
  · rename_i e
    subst e
    have hv : a.tmps.getD t undef = .slice none 0 0 := by
      have h2 := sm.sl t hu'
      rw [List.getD_eq_getElem?_getD, List.getElem?_eq_getElem hu'] at ht
      simp only [Option.getD_some] at ht
      rw [ht] at h2
      exact h2.v_inv
    rw [hv]
    refine RepT.of (.arr z G.nx 0 none 0 0 ⟨by simp [Gh.newTk], ⟨none, 0, rfl, Nat.le_refl _, .inl ⟨rfl, rfl⟩⟩, ?_⟩)
    have : G.newTk.tl G.nx = some none := upd_same _ _ _
    rw [this]
    exact ⟨rfl, none, rfl⟩
  · exact h1
end
end Go.Proofs.YtoleejecmefogaaGreatDoor
namespace Go.Proofs.YtoleejecmefogaaGreatDoor
open Go
set_option linter.unusedVariables false
set_option linter.unusedSimpArgs false
section
variable {P : Program} {c : Cx} {Q : Exit → St → Prop} {s : St}
theorem own_same {G : Gh} {h h' : Hp} (hH : ∀ i, h'.H i ≠ none → h.H i ≠ none) (hT : h'.T = h.T) {b : Nat} (o : Own G h' b) : Own G h b := by
  rcases o with ⟨i, a, e⟩ | ⟨k, t, a, e⟩
  · exact .inl ⟨i, hH i a, e⟩
  · exact .inr ⟨k, t, by rw [← hT]; exact a, e⟩
end
end Go.Proofs.YtoleejecmefogaaGreatDoor

