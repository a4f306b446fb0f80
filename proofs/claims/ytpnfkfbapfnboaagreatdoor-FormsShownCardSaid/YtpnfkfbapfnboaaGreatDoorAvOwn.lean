/- A slot that is nil may get an array to write. -/
import Derived.Test.YtpnfkfbapfnboaaGreatDoorAvRun
namespace Go.Proofs.YtpnfkfbapfnboaaGreatDoor
open Go
set_option linter.unusedVariables false
set_option linter.unusedSimpArgs false
section
variable {P : Program} {c : Cx} {Q : Exit → St → Prop} {s : St}
theorem awp_ownA (t z : Nat) {x : Code} {n' c' : Nat} (ht : s.sl.getD t .junk = .v (.slice none n' c')) (h0 : n' = 0 ∧ c' = 0) (h : ∀ k, s.h.T k = none → Awp P c x Q { s with sl := s.sl.set t (.arr z k 0), h := { s.h with T := upd s.h.T k (some (.cont z [])) } }) : Awp P c x Q s := by
  rintro a w ⟨G, L, sm, hg, hf, hL⟩
  obtain ⟨rfl, rfl⟩ := h0
  obtain ⟨hT, s1, g1, f1⟩ := sm.newTok (o := .cont z []) (.inr (.inl ⟨z, rfl⟩))
  refine h G.nx hT a w ⟨G.newTk, L, ⟨s1.hs, by simpa using s1.sz, fun u hu => ?_, s1.df, s1.ls⟩, hg.trans g1, hf.trans f1, hL⟩
  have hu' : u < s.sl.length := by simpa using hu
  have h1 := s1.sl u hu'
  simp only [List.getElem_set]
  split
  · rename_i e
    subst e
    have hv : a.tmps.getD t undef = .slice none 0 0 := by
      have h2 := sm.sl t hu'
      rw [List.getD_eq_getElem?_getD, List.getElem?_eq_getElem hu'] at ht
      simp only [Option.getD_some] at ht
      rw [ht] at h2
      exact h2.v_inv
    rw [hv]
    refine RepT.of (.arr z G.nx 0 none 0 0 ⟨by simp [Gh.newTk], ⟨none, 0, rfl, Nat.le_refl _, .inl ⟨rfl, rfl⟩⟩, ?_⟩)
    have : G.newTk.tl G.nx = some none := upd_same _ _ _
    rw [this]
    exact ⟨rfl, none, rfl⟩
  · exact h1
end
end Go.Proofs.YtpnfkfbapfnboaaGreatDoor
namespace Go.Proofs.YtpnfkfbapfnboaaGreatDoor
open Go
set_option linter.unusedVariables false
set_option linter.unusedSimpArgs false
section
variable {P : Program} {c : Cx} {Q : Exit → St → Prop} {s : St}
theorem own_same {G : Gh} {h h' : Hp} (hH : ∀ i, h'.H i ≠ none → h.H i ≠ none) (hT : h'.T = h.T) {b : Nat} (o : Own G h' b) : Own G h b := by
  rcases o with ⟨i, a, e⟩ | ⟨k, t, a, e⟩
  · exact .inl ⟨i, hH i a, e⟩
  · exact .inr ⟨k, t, by rw [← hT]; exact a, e⟩
theorem awp_ownObj (i j z : Nat) {x : Code} {cs : List AV} (hi : s.h.H i = some (.cells cs)) (hj : cs[j]? = some (.v (.slice none 0 0)))
    (h : ∀ k, s.h.T k = none → Awp P c x Q { s with h := ⟨upd s.h.H i (some (.cells (cs.set j (.arr z k 0)))), upd s.h.T k (some (.cont z []))⟩ }) : Awp P c x Q s := by
  rintro a w ⟨G, L, sm, hg, hf, hL⟩
  obtain ⟨hT, s1, g1, f1⟩ := sm.newTok (o := .cont z []) (.inr (.inl ⟨z, rfl⟩))
  have hjl : j < cs.length := (List.getElem?_eq_some_iff.1 hj).1
  obtain ⟨b, o, e1, e3, ⟨vs, E, e4, e5⟩, e6⟩ := s1.hs.obj i _ hi
  have hnk : G.newTk.tl G.nx = some none := upd_same _ _ _
  have hw := h G.nx hT
  refine hw a w ?_
  have hre : ∀ (ws : List Value), RepL G.newTk cs ws → RepL G.newTk (cs.set j (.arr z G.nx 0)) ws := fun ws hr => by
    refine ⟨by rw [List.length_set]; exact hr.1, fun q hq hq' => ?_⟩
    have hq2 : q < cs.length := by simpa using hq
    have h3 := hr.2 q hq2 hq'
    refine ⟨?_, h3.2⟩
    simp only [List.getElem_set]
    split
    · rename_i ejq
      subst ejq
      have h4 := h3.1
      rw [show cs[j] = AV.v (.slice none 0 0) by rw [List.getElem?_eq_getElem hq2] at hj; simpa using hj] at h4
      have hv := (RepT.of (L := []) h4).v_inv
      rw [hv]
      refine .arr z G.nx 0 none 0 0 ⟨by simp [Gh.newTk], ⟨none, 0, rfl, Nat.le_refl _, .inl ⟨rfl, rfl⟩⟩, ?_⟩
      rw [hnk]
      exact ⟨rfl, none, rfl⟩
    · exact h3.1
  have hne : ∀ q, upd s.h.H i (some (AO.cells (cs.set j (.arr z G.nx 0)))) q ≠ none → s.h.H q ≠ none := fun q hq => by
    by_cases e : q = i
    · rw [e, hi]; simp
    · rwa [upd_other _ _ e] at hq
  have hown : ∀ {G' b}, Own G' ⟨upd s.h.H i (some (.cells (cs.set j (.arr z G.nx 0)))), upd s.h.T G.nx (some (.cont z []))⟩ b → Own G' { s.h with T := upd s.h.T G.nx (some (.cont z [])) } b := fun o => own_same (h := { s.h with T := upd s.h.T G.nx (some (.cont z [])) }) (h' := ⟨upd s.h.H i (some (.cells (cs.set j (.arr z G.nx 0)))), upd s.h.T G.nx (some (.cont z []))⟩) hne rfl o
  have f2 := hf.trans f1
  refine ⟨G.newTk, L, ⟨⟨s1.hs.val, fun q ob e => ?_, fun q k b h1 h2 => s1.hs.inj q k b (hne q h1) (hne k h2), s1.hs.tok, s1.hs.tinj, fun k q t h1 h2 => s1.hs.tobj k q t h1 (hne q h2), s1.hs.fat, s1.hs.ftl⟩, s1.sz, s1.sl, s1.df, ⟨s1.ls.len, s1.ls.lo, fun b hb => ⟨fun o => (s1.ls.free b hb).1 (hown o), (s1.ls.free b hb).2⟩, s1.ls.nd⟩⟩, hg.trans g1, ⟨f2.os, f2.tape, f2.output, f2.size, fun b hb hn => let ⟨x, y, z⟩ := f2.keep b hb hn; ⟨x, fun o => y (hown o), z⟩⟩, hL⟩
  by_cases e2 : q = i
  · subst e2
    replace e : upd s.h.H q (some (AO.cells (cs.set j (.arr z G.nx 0)))) q = some ob := e
    rw [upd_same] at e
    cases e
    exact ⟨b, o, e1, e3, ⟨vs, E, e4, by rw [List.length_set]; exact hre _ e5⟩, e6⟩
  · replace e : upd s.h.H i (some (AO.cells (cs.set j (.arr z G.nx 0)))) q = some ob := e
    rw [upd_other _ _ e2] at e
    exact s1.hs.obj q ob e
end
end Go.Proofs.YtpnfkfbapfnboaaGreatDoor

