/- What becomes of a told state when memory is made or written. -/
import Derived.Test.YtpnfkfbapfnboaaGreatDoorAvSim
namespace Go.Proofs.YtpnfkfbapfnboaaGreatDoor
open Go
set_option linter.unusedVariables false
set_option linter.unusedSimpArgs false
theorem ha_old (w : World) (o : Obj) (i : Nat) (h : i < w.heap.size) : (w.alloc o).heap[i]? = w.heap[i]? := by first | exact heap_alloc_old w o i h | exact heap_alloc_old w o h
section
variable {G : Gh} {h : Hp} {w w' : World} {L : List Nat} {s : St} {a : Act}

theorem HSim.own_lt (hs : HSim G h w) {b : Nat} (o : Own G h b) : b < w.heap.size := by
  rcases o with ⟨i, hi, e⟩ | ⟨k, t, hk, e, rfl⟩
  · cases hh : h.H i with
    | none => exact absurd hh hi
    | some ob =>
      obtain ⟨b', o, e', hb, _⟩ := hs.obj i ob hh
      rw [e] at e'; cases e'
      exact (Array.getElem?_eq_some_iff.1 hb).1
  · cases hh : h.T k with
    | none => exact absurd hh hk
    | some m =>
      obtain ⟨vs, E, hb⟩ := (hs.tok k m hh).blk e
      exact (Array.getElem?_eq_some_iff.1 hb).1
theorem HSim.val_lt (hs : HSim G h w) {g o : Nat} {x : Value} (e : G.val g o = some x) : g < w.heap.size := World.block_lt_of_cell? w _ (hs.cell g o x e)
theorem HSim.val_new (hs : HSim G h w) {g : Nat} (hg : w.heap.size ≤ g) (o : Nat) : G.val g o = none := by
  cases e : G.val g o with
  | none => rfl
  | some x => have := hs.val_lt e; omega
theorem LSim.lt {lo : List (List AV)} (ls : LSim G L lo h w) {b : Nat} (hb : b ∈ L) : b < w.heap.size := by
  obtain ⟨j, hj, e⟩ := List.getElem_of_mem hb
  have hj' : j < lo.length := by rw [← ls.len]; exact hj
  obtain ⟨vs, E, hh, _⟩ := ls.lo j b lo[j] (by rw [List.getElem?_eq_getElem hj, e]) (List.getElem?_eq_getElem hj')
  exact (Array.getElem?_eq_some_iff.1 hh).1

theorem HSim.below (hs : HSim G h w) (hb : ∀ b, b < w.heap.size → w'.heap[b]? = w.heap[b]?) : HSim G h w' where
  val g o x e := by
    rw [cellT_at (hb g (hs.val_lt e))]; exact hs.val g o x e
  obj i ob e := by
    obtain ⟨b, o, x, y, z⟩ := hs.obj i ob e
    exact ⟨b, o, x, by rw [hb b (Array.getElem?_eq_some_iff.1 y).1]; exact y, z⟩
  inj := hs.inj
  tok k m e := by
    have ht := hs.tok k m e
    refine ht.move (GLe.refl G) rfl fun t et => ⟨?_, fun _ => rfl⟩
    obtain ⟨vs, E, hv⟩ := ht.blk et
    rw [hb _ (Array.getElem?_eq_some_iff.1 hv).1]
  tinj := hs.tinj
  tobj := hs.tobj
  fat := hs.fat
  ftl := hs.ftl
theorem LSim.below {lo : List (List AV)} (ls : LSim G L lo h w) (hb : ∀ b, b < w.heap.size → w'.heap[b]? = w.heap[b]?) : LSim G L lo h w' where
  len := ls.len
  lo j b cs x y := by
    obtain ⟨vs, E, z, r⟩ := ls.lo j b cs x y
    exact ⟨vs, E, by rw [hb b (Array.getElem?_eq_some_iff.1 z).1]; exact z, r⟩
  free := ls.free
  nd := ls.nd
theorem Sim.below (sm : Sim G L s a w) (hb : ∀ b, b < w.heap.size → w'.heap[b]? = w.heap[b]?) : Sim G L s a w' :=
  ⟨sm.hs.below hb, sm.sz, sm.sl, sm.df, sm.ls.below hb⟩

def Gh.ext (G : Gh) (B : Nat) (vs : List Value) : Gh := { G with val := fun g o => if g = B then vs[o]? else G.val g o }
theorem Gh.ext_le (B : Nat) (vs : List Value) (hB : ∀ o, G.val B o = none) : GLe G (G.ext B vs) :=
  ⟨fun g o x e => by
    simp only [Gh.ext]
    split
    · rename_i h; subst h; rw [hB] at e; cases e
    · exact e, fun _ _ e => e, Nat.le_refl _, fun _ _ => .same _⟩
theorem TRep.ext {B : Nat} {vs : List Value} {k : Nat} {m : TO} (t : TRep G w k m) (hB : ¬ Own G h B) (hB' : ∀ o, G.val B o = none) (hk : h.T k ≠ none) : TRep (G.ext B vs) w k m :=
  t.move (Gh.ext_le B vs hB') rfl fun u eu => ⟨rfl, fun o => by
    have hne : u.g ≠ B := fun e => hB (.inr ⟨k, u, hk, eu, e⟩)
    simp only [Gh.ext, if_neg hne]⟩
theorem HSim.ext (hs : HSim G h w) {B : Nat} {vs : List Value} {E : TypeId} (hB : ∀ o, G.val B o = none) (hO : ¬ Own G h B) (hh : w.heap[B]? = some (.cells vs.toArray E (0, 0))) : HSim (G.ext B vs) h w where
  val g o x e := by
    simp only [Gh.ext] at e
    split at e
    · rename_i hg
      subst hg
      rw [cellT_of hh]; simpa using e
    · exact hs.val g o x e
  obj i ob e := by
    obtain ⟨b, o, x, y, z, q⟩ := hs.obj i ob e
    refine ⟨b, o, x, y, z.mono (Gh.ext_le B vs hB), fun o' => ?_⟩
    have hne : b ≠ B := fun e' => hO (.inl ⟨i, by rw [e]; simp, e' ▸ x⟩)
    simp only [Gh.ext, if_neg hne]
    exact q o'
  inj := hs.inj
  tok k m e := (hs.tok k m e).ext hO hB (by rw [e]; simp)
  tinj := hs.tinj
  tobj := hs.tobj
  fat := hs.fat
  ftl := hs.ftl
theorem LSim.ext {lo : List (List AV)} (ls : LSim G L lo h w) {B : Nat} {vs : List Value} (hB : ∀ o, G.val B o = none) (hL : B ∉ L) : LSim (G.ext B vs) L lo h w where
  len := ls.len
  lo j b cs x y := by
    obtain ⟨us, E, z, q, r⟩ := ls.lo j b cs x y
    exact ⟨us, E, z, q, r.mono (Gh.ext_le B vs hB)⟩
  free b hb := ⟨(ls.free b hb).1, fun o => by
    have hne : b ≠ B := fun e => hL (e ▸ hb)
    simp only [Gh.ext, if_neg hne]
    exact (ls.free b hb).2 o⟩
  nd := ls.nd
theorem Sim.ext (sm : Sim G L s a w) {B : Nat} {vs : List Value} {E : TypeId} (hB : ∀ o, G.val B o = none) (hO : ¬ Own G s.h B) (hL : B ∉ L) (hh : w.heap[B]? = some (.cells vs.toArray E (0, 0))) : Sim (G.ext B vs) L s a w :=
  ⟨sm.hs.ext hB hO hh, sm.sz, fun t ht => (sm.sl t ht).mono (Gh.ext_le B vs hB), sm.df, sm.ls.ext hB hL⟩
theorem Fr.ext {G0 h0 w0} (f : Fr G0 h0 w0 G h w) {B : Nat} {vs : List Value} (hB : w0.heap.size ≤ B) : Fr G0 h0 w0 (G.ext B vs) h w :=
  ⟨f.os, f.tape, f.output, f.size, fun b hb hn => let ⟨x, y, z⟩ := f.keep b hb hn; ⟨x, y, fun o => by simp only [Gh.ext]; rw [if_neg (by omega)]; exact z o⟩⟩
theorem Fr.below (f : Fr G h w G h w) (hb : ∀ b, b < w.heap.size → w'.heap[b]? = w.heap[b]?) (h1 : w'.os = w.os) (h2 : w'.tape = w.tape) (h3 : w'.output = w.output) (h4 : w.heap.size ≤ w'.heap.size) : Fr G h w G h w' :=
  ⟨h1, h2, h3, h4, fun b hlt hn => ⟨hb b hlt, hn, fun _ => rfl⟩⟩

theorem Sim.fresh (sm : Sim G L s a w) (vs : List Value) (E : TypeId) :
    Sim (G.ext w.heap.size vs) L s a (w.alloc (.cells vs.toArray E)) ∧ GLe G (G.ext w.heap.size vs) ∧ Fr G s.h w (G.ext w.heap.size vs) s.h (w.alloc (.cells vs.toArray E)) := by
  have hB : ∀ o, G.val w.heap.size o = none := fun o => sm.hs.val_new (Nat.le_refl _) o
  have hO : ¬ Own G s.h w.heap.size := fun o => by have := sm.hs.own_lt o; omega
  have hL : w.heap.size ∉ L := fun o => by have := sm.ls.lt o; omega
  have hb : ∀ b, b < w.heap.size → (w.alloc (.cells vs.toArray E)).heap[b]? = w.heap[b]? := fun b hb => ha_old w _ b hb
  exact ⟨(sm.below hb).ext (E := E) hB hO hL (heap_alloc_new w _), Gh.ext_le _ _ hB,
    (Fr.below (Fr.refl _ _ _) hb rfl rfl rfl (by simp)).ext (Nat.le_refl _)⟩
theorem rep_fresh_ref {B : Nat} {cs : List AV} {vs : List Value} (hr : RepL G cs vs) (hB : ∀ o, G.val B o = none) : Rep (G.ext B vs) (.ref cs 0) (.pointer (some ⟨B, 0, none⟩)) := by
  have hle := Gh.ext_le (G := G) B vs hB
  refine Rep.ref cs 0 B 0 (fun j => vs.getD j undef) (fun j hj => ?_) (fun j hj => ?_) (fun j hj => ?_)
  all_goals have hj' : j < vs.length := by rw [hr.1]; exact hj
  all_goals simp only [List.getD_eq_getElem?_getD, List.getElem?_eq_getElem hj', Option.getD_some, Nat.zero_add]
  · simp [Gh.ext, List.getElem?_eq_getElem hj']
  · exact (hr.2 j hj hj').1.mono hle
  · exact (hr.2 j hj hj').2
theorem rep_fresh_row {B z : Nat} {xs : List (List AV)} {vs : List Value} (hz : ∀ x ∈ xs, x.length = z) (hr : RepL G xs.flatten vs) (hB : ∀ o, G.val B o = none) (c : Nat) (hc : xs.length ≤ c) : Rep (G.ext B vs) (.row z xs none) (.slice (some ⟨B, 0, none⟩) xs.length c) := by
  have hle := Gh.ext_le (G := G) B vs hB
  have hl : vs.length = xs.length * z := hr.1.trans (flatten_len hz)
  have hl2 := flatten_len hz
  refine Rep.row z xs none B 0 xs.length c (fun j => vs.getD j undef) rfl hc hz (fun j hj => ?_) (fun j hj => ?_) (fun j hj => ?_) trivial
  · have hj' : j < vs.length := by omega
    simp [Gh.ext, List.getElem?_eq_getElem hj']
  · have hj' : j < vs.length := by omega
    simp only [List.getD_eq_getElem?_getD, List.getElem?_eq_getElem hj', Option.getD_some]
    exact (hr.2 j hj hj').1.mono hle
  · have hj' : j < vs.length := by omega
    simp only [List.getD_eq_getElem?_getD, List.getElem?_eq_getElem hj', Option.getD_some]
    exact (hr.2 j (by omega) hj').2

theorem Sim.newLoc (sm : Sim G L s a w) {cs : List AV} {vs : List Value} (hr : RepL G cs vs) (E : TypeId) :
    Sim G (L ++ [w.heap.size]) { s with lo := s.lo ++ [cs] } a (w.alloc (.cells vs.toArray E)) ∧ Fr G s.h w G s.h (w.alloc (.cells vs.toArray E)) ∧ (L ++ [w.heap.size])[s.lo.length]? = some w.heap.size := by
  have hb : ∀ b, b < w.heap.size → (w.alloc (.cells vs.toArray E)).heap[b]? = w.heap[b]? := fun b hb => ha_old w _ b hb
  have s1 := sm.below hb
  have hlen := sm.ls.len
  refine ⟨⟨s1.hs, s1.sz, fun t ht => (s1.sl t ht).more fun j b e => ?_, s1.df, ?_⟩, Fr.below (Fr.refl _ _ _) hb rfl rfl rfl (by simp), ?_⟩
  · rw [List.getElem?_append_left (List.getElem?_eq_some_iff.1 e).1]; exact e
  · refine ⟨by simp [hlen], fun j b cs' e e' => ?_, fun b hb' => ?_, ?_⟩
    · by_cases hj : j < s.lo.length
      · rw [List.getElem?_append_left (by omega)] at e
        rw [List.getElem?_append_left hj] at e'
        exact s1.ls.lo j b cs' e e'
      · have hj2 : j = s.lo.length := by
          have := (List.getElem?_eq_some_iff.1 e').1
          simp at this; omega
        subst hj2
        rw [← hlen] at e
        simp at e e'
        subst e e'
        exact ⟨vs.toArray, E, heap_alloc_new w _, by simp [hr.1], by simpa using hr⟩
    · rcases List.mem_append.1 hb' with hm | hm
      · exact s1.ls.free b hm
      · simp at hm; subst hm
        exact ⟨fun o => by have := sm.hs.own_lt o; omega, fun o => sm.hs.val_new (Nat.le_refl _) o⟩
    · rw [List.nodup_append]
      refine ⟨sm.ls.nd, by simp, fun x hx y hy e => ?_⟩
      simp at hy; subst hy; subst e
      have := sm.ls.lt hx; omega
  · rw [← hlen]; simp
end
end Go.Proofs.YtpnfkfbapfnboaaGreatDoor

