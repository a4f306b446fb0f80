/- Stores into the frame's own objects and into shared ones; new shared objects; the right to append. -/
import Derived.Test.YtpnfkfbapfnboaaGreatDoorAvStep
namespace Go.Proofs.YtpnfkfbapfnboaaGreatDoor
open Go
set_option linter.unusedVariables false
set_option linter.unusedSimpArgs false
def splice {α : Type} (cs : List α) (o : Nat) (xs : List α) : List α := cs.take o ++ xs ++ cs.drop (o + xs.length)
theorem splice_len {α : Type} (cs xs : List α) (o : Nat) (h : o + xs.length ≤ cs.length) : (splice cs o xs).length = cs.length := by
  simp [splice]; omega
theorem RepL.splice {G : Gh} {cs xs : List AV} {vs us : List Value} (h : RepL G cs vs) (k : RepL G xs us) (o : Nat) : RepL G (splice cs o xs) (splice vs o us) := by
  unfold Go.Proofs.YtpnfkfbapfnboaaGreatDoor.splice
  rw [k.1]
  exact ((h.take o).append k).append (h.drop _)
section
variable {G : Gh} {h : Hp} {w w' : World} {L : List Nat} {s : St} {a : Act}
theorem heap_setRow {g : Nat} (cs : Array Value) {b : Nat} (hne : b ≠ g) : (w.setRow g cs).heap[b]? = w.heap[b]? := setRow_other w g b cs hne
theorem HSim.setRow (hs : HSim G h w) {g : Nat} (cs : Array Value) (hO : ¬ Own G h g) (hv : ∀ o, G.val g o = none) : HSim G h (w.setRow g cs) where
  val b o x e := by
    have hne : b ≠ g := fun e' => by subst e'; rw [hv] at e; cases e
    rw [cellT_at (heap_setRow cs hne)]; exact hs.val b o x e
  obj i ob e := by
    obtain ⟨b, o, x, y, z⟩ := hs.obj i ob e
    have hne : b ≠ g := fun e' => hO (.inl ⟨i, by rw [e]; simp, e' ▸ x⟩)
    exact ⟨b, o, x, by rw [heap_setRow cs hne]; exact y, z⟩
  inj := hs.inj
  tok k m e := by
    refine (hs.tok k m e).move (GLe.refl G) rfl fun t a => ⟨?_, fun _ => rfl⟩
    have hne : t.g ≠ g := fun e' => hO (.inr ⟨k, t, by rw [e]; simp, a, e'⟩)
    rw [heap_setRow cs hne]
  tinj := hs.tinj
  tobj := hs.tobj
  fat := hs.fat
  ftl := hs.ftl
theorem Sim.setLoc (sm : Sim G L s a w) {j g : Nat} {cs ds : List AV} {us : List Value} (hj : L[j]? = some g) (hl : s.lo[j]? = some cs) (hr : RepL G ds us) (hd : ds.length = cs.length) :
    Sim G L { s with lo := s.lo.set j ds } a (w.setRow g us.toArray) ∧ ((∀ b ∈ L, w.heap.size ≤ b ∨ True) ∧ ∀ b, b ≠ g → (w.setRow g us.toArray).heap[b]? = w.heap[b]?) := by
  have hm : g ∈ L := List.mem_of_getElem? hj
  obtain ⟨hO, hv⟩ := sm.ls.free g hm
  refine ⟨⟨sm.hs.setRow _ hO hv, sm.sz, sm.sl, sm.df, ?_⟩, ⟨fun _ _ => .inr trivial, fun b hb => heap_setRow _ hb⟩⟩
  obtain ⟨vs, E, hh, hsz, hrr⟩ := sm.ls.lo j g cs hj hl
  refine ⟨by simpa using sm.ls.len, fun i b cs' e e' => ?_, sm.ls.free, sm.ls.nd⟩
  by_cases hij : j = i
  · subst hij
    rw [hj] at e; cases e
    have hlt : j < s.lo.length := (List.getElem?_eq_some_iff.1 hl).1
    rw [List.getElem?_set_self hlt] at e'
    cases e'
    exact ⟨us.toArray, E, setRow_heap w g vs _ E (0, 0) hh, by simp [hr.1], by simpa using hr⟩
  · rw [List.getElem?_set_ne hij] at e'
    have hne : b ≠ g := fun e' => by
      subst e'
      have h1 := List.getElem?_eq_some_iff.1 e
      have h2 := List.getElem?_eq_some_iff.1 hj
      have h3 := List.pairwise_iff_getElem.1 sm.ls.nd
      rcases Nat.lt_or_gt_of_ne hij with hl' | hl'
      · exact h3 j i h2.1 h1.1 hl' (h2.2.trans h1.2.symm)
      · exact h3 i j h1.1 h2.1 hl' (h1.2.trans h2.2.symm)
    rw [heap_setRow _ hne]
    exact sm.ls.lo i b cs' e e'
theorem own_updH {i : Nat} {x y : AO} (hi : h.H i = some x) {b : Nat} : Own G { h with H := upd h.H i (some y) } b ↔ Own G h b := by
  constructor
  · rintro (⟨j, hj, e⟩ | ⟨k, t, r⟩)
    · refine .inl ⟨j, ?_, e⟩
      by_cases hji : j = i
      · subst hji; rw [hi]; simp
      · simpa [upd_other _ _ hji] using hj
    · exact .inr ⟨k, t, r⟩
  · rintro (⟨j, hj, e⟩ | ⟨k, t, r⟩)
    · refine .inl ⟨j, ?_, e⟩
      by_cases hji : j = i
      · subst hji; simp [upd_same]
      · simpa [upd_other _ _ hji] using hj
    · exact .inr ⟨k, t, r⟩
theorem updH_ne {i : Nat} {x y : AO} (hi : h.H i = some x) {j : Nat} (hj : upd h.H i (some y) j ≠ none) : h.H j ≠ none := by
  by_cases hji : j = i
  · subst hji; rw [hi]; simp
  · simpa [upd_other _ _ hji] using hj
theorem HSim.setObj (hs : HSim G h w) {i g : Nat} {x y : AO} (hi : h.H i = some x) (hg : G.at_ i = some g) (hb : ∀ b, b ≠ g → w'.heap[b]? = w.heap[b]?) {o : Obj} (ho : w'.heap[g]? = some o) (hr : ORep G y o) :
    HSim G { h with H := upd h.H i (some y) } w' where
  val b o x e := by
    obtain ⟨g', _, hg', _, _, hv⟩ := hs.obj i _ hi
    rw [hg] at hg'; cases hg'
    have hne : b ≠ g := fun e' => by subst e'; rw [hv] at e; cases e
    rw [cellT_at (hb b hne)]; exact hs.val b o x e
  obj j ob e := by
    by_cases hji : j = i
    · subst hji
      simp only [upd_same] at e
      cases e
      obtain ⟨g', _, hg', _, _, hv⟩ := hs.obj j _ hi
      rw [hg] at hg'; cases hg'
      exact ⟨g, o, hg, ho, hr, hv⟩
    · simp only [upd_other _ _ hji] at e
      obtain ⟨b, o', x, y, z⟩ := hs.obj j ob e
      have hne : b ≠ g := fun e' => by
        subst e'
        exact hji (hs.inj j i b (by rw [e]; simp) (by rw [hi]; simp) x hg)
      exact ⟨b, o', x, by rw [hb b hne]; exact y, z⟩
  inj j k b hj hk := hs.inj j k b (updH_ne hi hj) (updH_ne hi hk)
  tok k m e := by
    refine (hs.tok k m e).move (GLe.refl G) rfl fun t a => ⟨?_, fun _ => rfl⟩
    have hne : t.g ≠ g := fun e' => hs.tobj k i t (by rw [show h.T k = some m from e]; simp) (by rw [hi]; simp) a (e' ▸ hg)
    rw [hb _ hne]
  tinj := hs.tinj
  tobj k j t hk hj := hs.tobj k j t hk (updH_ne hi hj)
  fat := hs.fat
  ftl := hs.ftl
theorem LSim.hb {lo : List (List AV)} (ls : LSim G L lo h w) (hb : ∀ b ∈ L, w'.heap[b]? = w.heap[b]?) : LSim G L lo h w' where
  len := ls.len
  lo j b cs e e' := by rw [hb b (List.mem_of_getElem? e)]; exact ls.lo j b cs e e'
  free := ls.free
  nd := ls.nd
theorem Sim.setObj (sm : Sim G L s a w) {i g : Nat} {x y : AO} (hi : s.h.H i = some x) (hg : G.at_ i = some g) (hb : ∀ b, b ≠ g → w'.heap[b]? = w.heap[b]?) {o : Obj} (ho : w'.heap[g]? = some o) (hr : ORep G y o)
    (h1 : w'.os = w.os) (h2 : w'.tape = w.tape) (h3 : w'.output = w.output) (h4 : w.heap.size ≤ w'.heap.size) :
    Sim G L { s with h := { s.h with H := upd s.h.H i (some y) } } a w' ∧ Fr G s.h w G { s.h with H := upd s.h.H i (some y) } w' := by
  have hO : Own G s.h g := .inl ⟨i, by rw [hi]; simp, hg⟩
  refine ⟨⟨sm.hs.setObj hi hg hb ho hr, sm.sz, sm.sl, sm.df, ?_⟩, ⟨h1, h2, h3, h4, fun b hlt hn => ⟨hb b (fun e => hn (e ▸ hO)), fun o' => hn ((own_updH hi).1 o'), fun _ => rfl⟩⟩⟩
  have l1 := sm.ls.hb (w' := w') (fun b hbL => hb b (fun e => (sm.ls.free b hbL).1 (e ▸ hO)))
  exact ⟨l1.len, l1.lo, fun b hbL => ⟨fun o' => (sm.ls.free b hbL).1 ((own_updH hi).1 o'), (sm.ls.free b hbL).2⟩, l1.nd⟩

def Gh.newAt (G : Gh) (b : Nat) : Gh := { G with at_ := upd G.at_ G.nx (some b), nx := G.nx + 1 }
theorem Gh.newAt_le (hf : ∀ i, G.nx ≤ i → G.at_ i = none) (b : Nat) : GLe G (G.newAt b) :=
  ⟨fun _ _ _ e => e, fun i b' e => by
    have hne : i ≠ G.nx := fun e' => by rw [hf i (by omega)] at e; cases e
    simp only [Gh.newAt, upd_other _ _ hne]; exact e, by simp [Gh.newAt], fun _ _ => .same _⟩
theorem Sim.newObj (sm : Sim G L s a w) {y : AO} {o : Obj} (hr : ORep G y o) :
    s.h.H G.nx = none ∧ Sim (G.newAt w.heap.size) L { s with h := { s.h with H := upd s.h.H G.nx (some y) } } a (w.alloc o) ∧ GLe G (G.newAt w.heap.size) ∧
      Fr G s.h w (G.newAt w.heap.size) { s.h with H := upd s.h.H G.nx (some y) } (w.alloc o) ∧ (G.newAt w.heap.size).at_ G.nx = some w.heap.size := by
  have hs := sm.hs
  have hle := Gh.newAt_le hs.fat w.heap.size
  have hb : ∀ b, b < w.heap.size → (w.alloc o).heap[b]? = w.heap[b]? := fun b hb => ha_old w _ b hb
  have hno : ∀ i, s.h.H i ≠ none → i ≠ G.nx ∧ ∃ b, G.at_ i = some b ∧ b < w.heap.size := fun i hi => by
    cases hh : s.h.H i with
    | none => exact absurd hh hi
    | some ob =>
      obtain ⟨b, o', e, hb', _⟩ := hs.obj i ob hh
      refine ⟨fun e' => ?_, b, e, (Array.getElem?_eq_some_iff.1 hb').1⟩
      subst e'; rw [hs.fat _ (Nat.le_refl _)] at e; cases e
  have hnx : s.h.H G.nx = none := by
    cases hh : s.h.H G.nx with
    | none => rfl
    | some ob => exact absurd rfl (hno G.nx (by rw [hh]; simp)).1
  have hatn : (G.newAt w.heap.size).at_ G.nx = some w.heap.size := upd_same _ _ _
  have hato : ∀ i, i ≠ G.nx → (G.newAt w.heap.size).at_ i = G.at_ i := fun i hi => upd_other _ _ hi
  have hown : ∀ b, b < w.heap.size → Own (G.newAt w.heap.size) { s.h with H := upd s.h.H G.nx (some y) } b → Own G s.h b := by
    rintro b hlt (⟨j, hj, e⟩ | ⟨k, t, r⟩)
    · by_cases hji : j = G.nx
      · subst hji; rw [hatn] at e; cases e; omega
      · rw [hato j hji] at e
        exact .inl ⟨j, by simpa [upd_other _ _ hji] using hj, e⟩
    · exact .inr ⟨k, t, r⟩
  refine ⟨hnx, ⟨?_, sm.sz, fun t ht => (sm.sl t ht).mono hle, sm.df, ?_⟩, hle, ⟨rfl, rfl, rfl, by simp, fun b hlt hn => ⟨hb b hlt, fun o' => hn (hown b hlt o'), fun _ => rfl⟩⟩, hatn⟩
  · refine ⟨?_, fun i ob e => ?_, fun i j b hi hj e e' => ?_, fun k m e => ?_, hs.tinj, fun k i t hk hi e e' => ?_, fun i hi => ?_, fun k hk => ?_⟩
    · exact (hs.below hb).val
    · by_cases hji : i = G.nx
      · subst hji
        simp only [upd_same] at e; cases e
        exact ⟨w.heap.size, o, hatn, heap_alloc_new w o, hr.mono hle, fun o' => hs.val_new (Nat.le_refl _) o'⟩
      · simp only [upd_other _ _ hji] at e
        obtain ⟨b, o', x, y', z, q⟩ := hs.obj i ob e
        exact ⟨b, o', by rw [hato i hji]; exact x, by rw [hb b (Array.getElem?_eq_some_iff.1 y').1]; exact y', z.mono hle, q⟩
    · by_cases h1 : i = G.nx <;> by_cases h2 : j = G.nx
      · rw [h1, h2]
      · subst h1
        rw [hatn] at e; cases e
        simp only [upd_other _ _ h2] at hj
        obtain ⟨b, e3, hlt⟩ := (hno j hj).2
        rw [hato j h2, e3] at e'; cases e'; omega
      · subst h2
        rw [hatn] at e'; cases e'
        simp only [upd_other _ _ h1] at hi
        obtain ⟨b, e3, hlt⟩ := (hno i hi).2
        rw [hato i h1, e3] at e; cases e; omega
      · rw [hato i h1] at e; rw [hato j h2] at e'
        exact hs.inj i j b (by simpa [upd_other _ _ h1] using hi) (by simpa [upd_other _ _ h2] using hj) e e'
    · exact ((hs.below hb).tok k m e).move hle rfl fun t a => ⟨rfl, fun _ => rfl⟩
    · by_cases h1 : i = G.nx
      · subst h1
        rw [hatn] at e'
        have e3 : w.heap.size = t.g := by injection e'
        have := hs.own_lt (.inr ⟨k, t, hk, e, rfl⟩)
        omega
      · rw [hato i h1] at e'
        exact hs.tobj k i t hk (by simpa [upd_other _ _ h1] using hi) e e'
    · have : G.nx + 1 ≤ i := hi
      rw [hato i (by omega)]
      exact hs.fat i (by omega)
    · have : G.nx + 1 ≤ k := hk
      exact hs.ftl k (by omega)
  · have l1 := sm.ls.below hb
    refine ⟨l1.len, fun j b cs e e' => ?_, fun b hbL => ⟨fun o' => (sm.ls.free b hbL).1 (hown b (sm.ls.lt hbL) o'), (sm.ls.free b hbL).2⟩, l1.nd⟩
    obtain ⟨vs, E, x, y', z⟩ := l1.lo j b cs e e'
    exact ⟨vs, E, x, y', z.mono hle⟩
end
end Go.Proofs.YtpnfkfbapfnboaaGreatDoor

