/- Append: the right to it, and what becomes of it. -/
import Derived.Test.YtoleejecmefogaaDoorM1
import Derived.Laws.OwnMore
import Derived.Orders
namespace Go.Proofs.YtoleejecmefogaaDoor
open Go
def Gh.app (G : Gh) (B lo : Nat) (us : List Value) (k : Nat) (t : Tail) : Gh :=
  { G with val := fun g o => if g = B ∧ lo ≤ o then us[o - lo]? else G.val g o, tl := upd G.tl k (some (some t)) }
theorem Gh.app_le {G : Gh} {B lo k : Nat} {us : List Value} {t : Tail} (hf : ∀ o, lo ≤ o → G.val B o = none) (ht : G.tl k = some none ∧ 0 < t.m ∨ ∃ t0, G.tl k = some (some t0) ∧ t0.m < t.m) : GLe G (G.app B lo us k t) :=
  ⟨fun g o x e => by
    simp only [Gh.app]
    split
    · rename_i h; rw [h.1, hf o h.2] at e; cases e
    · exact e, fun _ _ e => e, Nat.le_refl _, fun j _ => by
      simp only [Gh.app]
      by_cases hj : j = k
      · subst hj
        rw [upd_same]
        rcases ht with ⟨e, h⟩ | ⟨t0, e, h⟩
        · rw [e]; exact .born t h
        · rw [e]; exact .more t0 t h
      · rw [upd_other _ _ hj]; exact .same _⟩
section
variable {G : Gh} {w w' : World} {L : List Nat} {s : St} {a : Act}
/-- The memory of right k is written, or made anew. -/
theorem Sim.tokAt (sm : Sim G L s a w) {G' : Gh} {k B : Nat} {o0 o' : TO} {t' : Tail} (hT : s.h.T k = some o0) (hle : GLe G G') (htl : ∀ l, l ≠ k → G'.tl l = G.tl l) (htlk : G'.tl k = some (some t')) (htg : t'.g = B)
    (hvo : ∀ b o, b ≠ B → G'.val b o = G.val b o) (hat : G'.at_ = G.at_) (hnx : G'.nx = G.nx) (hv : ∀ o x, G'.val B o = some x → w'.cell? ⟨B, o, none⟩ = some x) (hTR : TRep G' w' k o')
    (hkeep : ∀ b, b < w.heap.size → b ≠ B → w'.heap[b]? = w.heap[b]?) (hown : w.heap.size ≤ B ∨ ∃ t, G.tl k = some (some t) ∧ t.g = B) (h1 : w'.os = w.os) (h2 : w'.tape = w.tape) (h3 : w'.output = w.output) (h4 : w.heap.size ≤ w'.heap.size) :
    Sim G' L { s with h := { s.h with T := upd s.h.T k (some o') } } a w' ∧ Fr G s.h w G' { s.h with T := upd s.h.T k (some o') } w' := by
  have hs := sm.hs
  have htk := hs.tok k _ hT
  have hobj : ∀ i b, s.h.H i ≠ none → G.at_ i = some b → b ≠ B ∧ b < w.heap.size := fun i b hi e => by
    have hlt := hs.own_lt (.inl ⟨i, hi, e⟩)
    refine ⟨fun e' => ?_, hlt⟩
    rcases hown with h | ⟨t, ht, hg⟩
    · omega
    · exact hs.tobj k i t (by rw [hT]; simp) hi ht (by rw [e, e', hg])
  have htok : ∀ l t, l ≠ k → s.h.T l ≠ none → G.tl l = some (some t) → t.g ≠ B ∧ t.g < w.heap.size := fun l t hl hn e => by
    have hlt := hs.own_lt (.inr ⟨l, t, hn, e, rfl⟩)
    refine ⟨fun e' => ?_, hlt⟩
    rcases hown with h | ⟨t', ht', hg⟩
    · omega
    · exact hl (hs.tinj l k t t' hn (by rw [hT]; simp) e ht' (by rw [e', hg]))
  have hTn : ∀ l, upd s.h.T k (some o') l ≠ none → s.h.T l ≠ none := fun l hl => by
    by_cases h : l = k
    · subst h; rw [hT]; simp
    · rwa [upd_other _ _ h] at hl
  have hLB : ∀ b ∈ L, b ≠ B := fun b hb e => by
    rcases hown with h | ⟨t, ht, hg⟩
    · have := sm.ls.lt hb; omega
    · exact (sm.ls.free b hb).1 (.inr ⟨k, t, by rw [hT]; simp, ht, by rw [hg, e]⟩)
  refine ⟨⟨?_, sm.sz, fun t ht => (sm.sl t ht).mono hle, sm.df, ?_⟩, ⟨h1, h2, h3, h4, fun b hlt hn => ?_⟩⟩
  · refine ⟨fun g o x e => ?_, fun i ob e => ?_, fun i j b hi hj e e' => hs.inj i j b hi hj (by rw [← hat]; exact e) (by rw [← hat]; exact e'), fun l n e => ?_, fun l j t t' hl hj e e' hg => ?_, fun l i t hl hi e => ?_, fun i hi => by rw [hat]; exact hs.fat i (by omega), fun l hl => ?_⟩
    · by_cases hg : g = B
      · subst hg; exact hv o x e
      · rw [hvo g o hg] at e
        have hlt := hs.val_lt e
        have h2 := hs.val g o x e
        simp only [World.cell?] at h2 ⊢
        rw [hkeep g hlt hg]; exact h2
    · obtain ⟨b, o, x, y, r, q⟩ := hs.obj i ob e
      obtain ⟨hne, hlt⟩ := hobj i b (by rw [show s.h.H i = some ob from e]; simp) x
      exact ⟨b, o, by rw [hat]; exact x, by rw [hkeep b hlt hne]; exact y, r.mono hle, fun o' => by rw [hvo b o' hne]; exact q o'⟩
    · by_cases hlk : l = k
      · subst hlk
        simp only [upd_same, Option.some.injEq] at e
        subst e
        exact hTR
      · simp only [upd_other _ _ hlk] at e
        refine (hs.tok l n e).move hle (htl l hlk) fun t e' => ?_
        obtain ⟨hne, hlt⟩ := htok l t hlk (by rw [show s.h.T l = some n from e]; simp) e'
        exact ⟨hkeep _ hlt hne, fun o => hvo _ _ hne⟩
    · have hl' := hTn l hl
      have hj' := hTn j hj
      by_cases hlk : l = k <;> by_cases hjk : j = k
      · rw [hlk, hjk]
      · subst hlk
        rw [htlk] at e; simp only [Option.some.injEq] at e
        rw [htl j hjk] at e'
        exact absurd (by rw [← hg, ← e, htg]) (htok j t' hjk hj' e').1
      · subst hjk
        rw [htlk] at e'; simp only [Option.some.injEq] at e'
        rw [htl l hlk] at e
        exact absurd (by rw [hg, ← e', htg]) (htok l t hlk hl' e).1
      · rw [htl l hlk] at e; rw [htl j hjk] at e'
        exact hs.tinj l j t t' hl' hj' e e' hg
    · rw [hat]
      by_cases hlk : l = k
      · subst hlk
        rw [htlk] at e; simp only [Option.some.injEq] at e
        subst e
        intro e'
        exact (hobj i _ hi e').1 htg
      · rw [htl l hlk] at e
        exact hs.tobj l i t (hTn l hl) hi e
    · by_cases hlk : l = k
      · subst hlk
        have : G.nx ≤ l := by omega
        have h0 := hs.ftl l this
        exact absurd h0 htk.tl
      · rw [htl l hlk]; exact hs.ftl l (by omega)
  · refine ⟨sm.ls.len, fun j b cs e e' => ?_, fun b hb => ⟨fun o' => ?_, fun o => ?_⟩, sm.ls.nd⟩
    · obtain ⟨vs, E', x, y, r⟩ := sm.ls.lo j b cs e e'
      have hbm := List.mem_of_getElem? e
      exact ⟨vs, E', by rw [hkeep b (sm.ls.lt hbm) (hLB b hbm)]; exact x, y, r.mono hle⟩
    · rcases o' with ⟨i, hi, e⟩ | ⟨l, t, hl, e, hg⟩
      · rw [hat] at e; exact (sm.ls.free b hb).1 (.inl ⟨i, hi, e⟩)
      · by_cases hlk : l = k
        · subst hlk
          rw [htlk] at e; simp only [Option.some.injEq] at e; subst e
          exact hLB b hb (by rw [← hg, htg])
        · rw [htl l hlk] at e
          exact (sm.ls.free b hb).1 (.inr ⟨l, t, hTn l hl, e, hg⟩)
    · rw [hvo b o (hLB b hb)]; exact (sm.ls.free b hb).2 o
  · have hne : b ≠ B := fun e => by
      rcases hown with h | ⟨t, ht, hg⟩
      · omega
      · exact hn (.inr ⟨k, t, by rw [hT]; simp, ht, by rw [hg, e]⟩)
    refine ⟨hkeep b hlt hne, fun o' => ?_, fun o => hvo b o hne⟩
    rcases o' with ⟨i, hi, e⟩ | ⟨l, t, hl, e, hg⟩
    · rw [hat] at e; exact hn (.inl ⟨i, hi, e⟩)
    · by_cases hlk : l = k
      · subst hlk
        rw [htlk] at e; simp only [Option.some.injEq] at e; subst e
        exact hne (by rw [← hg, htg])
      · rw [htl l hlk] at e
        exact hn (.inr ⟨l, t, hTn l hl, e, hg⟩)
theorem Sim.app (sm : Sim G L s a w) {k m m' B lo z c : Nat} {us : List Value} {arr : Array Value} {E : TypeId} (hT : s.h.T k = some (.tail m))
    (hkeep : ∀ b, b < w.heap.size → b ≠ B → w'.heap[b]? = w.heap[b]?) (hB : w'.heap[B]? = some (.cells arr E (0, 0))) (hsz : arr.size = c * z) (hus : ∀ (o : Nat) x, us[o]? = some x → arr[lo + o]? = some x)
    (hold : ∀ o x, G.val B o = some x → arr[o]? = some x) (hfree : ∀ o, lo ≤ o → G.val B o = none) (hlen : lo + us.length = m' * z) (hc : m' ≤ c) (hcm : c ≤ maxLen) (hm : m < m')
    (hown : w.heap.size ≤ B ∨ ∃ t, G.tl k = some (some t) ∧ t.g = B) (h1 : w'.os = w.os) (h2 : w'.tape = w.tape) (h3 : w'.output = w.output) (h4 : w.heap.size ≤ w'.heap.size) :
    Sim (G.app B lo us k ⟨B, m', z, c⟩) L { s with h := { s.h with T := upd s.h.T k (some (.tail m')) } } a w' ∧ GLe G (G.app B lo us k ⟨B, m', z, c⟩) ∧
      Fr G s.h w (G.app B lo us k ⟨B, m', z, c⟩) { s.h with T := upd s.h.T k (some (.tail m')) } w' := by
  have htk := sm.hs.tok k _ hT
  have hle : GLe G (G.app B lo us k ⟨B, m', z, c⟩) := Gh.app_le hfree (by
    rcases htk with ⟨e, _⟩ | ⟨t, _, _, e, e2, _⟩
    · exact .inl ⟨e, by show 0 < m'; omega⟩
    · exact .inr ⟨t, e, by show t.m < m'; omega⟩)
  have htlk : (G.app B lo us k ⟨B, m', z, c⟩).tl k = some (some ⟨B, m', z, c⟩) := upd_same _ _ _
  obtain ⟨x, y⟩ := sm.tokAt (G' := G.app B lo us k ⟨B, m', z, c⟩) (w' := w') (o' := .tail m') hT hle (fun l hl => upd_other _ _ hl) htlk rfl (fun b o hb => by simp only [Gh.app]; rw [if_neg (fun h => hb h.1)]) rfl rfl (fun o x e => by
      simp only [World.cell?, hB, Option.isSome_none, Bool.false_eq_true, if_false]
      by_cases ho : lo ≤ o
      · have e' : us[o - lo]? = some x := by simpa [Gh.app, ho] using e
        have := hus _ _ e'
        rwa [show lo + (o - lo) = o by omega] at this
      · simp only [Gh.app] at e
        rw [if_neg (fun h => ho h.2)] at e
        exact hold o x e) (.inr ⟨_, arr, E, htlk, rfl, by omega, hB, hsz, hc, hcm, fun o ho => by
        simp only at ho ⊢
        have ho2 : lo ≤ o := by omega
        simp only [Gh.app, ho2, and_self, if_true]
        exact List.getElem?_eq_none (by omega)⟩) hkeep hown h1 h2 h3 h4
  exact ⟨x, hle, y⟩
/-- A written array is written, or grows: k's content is xs. -/
theorem Sim.setCont (sm : Sim G L s a w) {k B z z0 c : Nat} {xs0 xs : List (List AV)} {arr : Array Value} {E : TypeId} (hT : s.h.T k = some (.cont z0 xs0))
    (hkeep : ∀ b, b < w.heap.size → b ≠ B → w'.heap[b]? = w.heap[b]?) (hB : w'.heap[B]? = some (.cells arr E (0, 0))) (hsz : arr.size = c * z) (hfree : ∀ o, G.val B o = none) (hzx : ∀ x ∈ xs, x.length = z)
    (hr : RepL G xs.flatten (arr.toList.take xs.flatten.length)) (hc : xs.length ≤ c) (hcm : c ≤ maxLen) (h0 : 0 < xs.length) (hm : xs0.length < xs.length ∨ xs0.length = xs.length ∧ z = z0 ∧ ∃ t, G.tl k = some (some t) ∧ t.g = B ∧ t.c = c)
    (hown : w.heap.size ≤ B ∨ ∃ t, G.tl k = some (some t) ∧ t.g = B) (h1 : w'.os = w.os) (h2 : w'.tape = w.tape) (h3 : w'.output = w.output) (h4 : w.heap.size ≤ w'.heap.size) :
    ∃ G', G' = { G with tl := upd G.tl k (some (some ⟨B, xs.length, z, c⟩)) } ∧ Sim G' L { s with h := { s.h with T := upd s.h.T k (some (.cont z xs)) } } a w' ∧ GLe G G' ∧ Fr G s.h w G' { s.h with T := upd s.h.T k (some (.cont z xs)) } w' := by
  have htk := sm.hs.tok k _ hT
  have hle : GLe G { G with tl := upd G.tl k (some (some ⟨B, xs.length, z, c⟩)) } := ⟨fun _ _ _ e => e, fun _ _ e => e, Nat.le_refl _, fun j _ => by
    by_cases hj : j = k
    · subst hj
      simp only [upd_same]
      rcases htk with ⟨e, e0⟩ | ⟨t, _, _, e, e2, _, _, _, _, _, _, ez, _⟩
      · rw [e]; exact .born _ h0
      · rw [e]
        rcases hm with hlt | ⟨heq, hz, t', e', hg, hcc⟩
        · exact .more _ _ (by show t.m < xs.length; omega)
        · rw [e] at e'; cases e'
          have : (⟨B, xs.length, z, c⟩ : Tail) = t := by
            cases t; simp only [Tail.mk.injEq]; exact ⟨hg.symm, by simp only at e2; omega, by simp only at ez; omega, hcc.symm⟩
          rw [this]; exact .same _
    · simp only [upd_other _ _ hj]; exact .same _⟩
  have htlk : ({ G with tl := upd G.tl k (some (some ⟨B, xs.length, z, c⟩)) } : Gh).tl k = some (some ⟨B, xs.length, z, c⟩) := upd_same _ _ _
  obtain ⟨x, y⟩ := sm.tokAt (G' := { G with tl := upd G.tl k (some (some ⟨B, xs.length, z, c⟩)) }) (w' := w') (o' := .cont z xs) hT hle (fun l hl => upd_other _ _ hl) htlk rfl (fun b o hb => rfl) rfl rfl (fun o x e => by rw [hfree] at e; cases e)
    (.inr ⟨_, arr, E, htlk, rfl, h0, hB, hsz, hc, hcm, hfree, rfl, hzx, hr.mono hle⟩) hkeep hown h1 h2 h3 h4
  exact ⟨_, rfl, x, hle, y⟩
/-- A new right to append, at nothing. -/
def Gh.newTk (G : Gh) : Gh := { G with tl := upd G.tl G.nx (some none), nx := G.nx + 1 }
theorem Sim.newTok (sm : Sim G L s a w) {o : TO} (ho : o = .tail 0 ∨ ∃ z, o = .cont z []) : s.h.T G.nx = none ∧ Sim G.newTk L { s with h := { s.h with T := upd s.h.T G.nx (some o) } } a w ∧ GLe G G.newTk ∧ Fr G s.h w G.newTk { s.h with T := upd s.h.T G.nx (some o) } w := by
  have hs := sm.hs
  have hTnx : s.h.T G.nx = none := by
    cases e : s.h.T G.nx with
    | none => rfl
    | some m =>
      have h0 := hs.ftl G.nx (Nat.le_refl _)
      exact absurd h0 (hs.tok _ m e).tl
  have hle : GLe G G.newTk := ⟨fun _ _ _ e => e, fun _ _ e => e, by simp [Gh.newTk], fun j hj => by
    simp only [Gh.newTk]; rw [upd_other _ _ (by omega)]; exact .same _⟩
  have htlk : G.newTk.tl G.nx = some none := upd_same _ _ _
  have htl : ∀ l, l ≠ G.nx → G.newTk.tl l = G.tl l := fun l hl => upd_other _ _ hl
  have hTn : ∀ l, l ≠ G.nx → upd s.h.T G.nx (some o) l ≠ none → s.h.T l ≠ none := fun l hlk hl => by rwa [upd_other _ _ hlk] at hl
  have hown : ∀ b, Own G.newTk { s.h with T := upd s.h.T G.nx (some o) } b → Own G s.h b := by
    rintro b (⟨i, hi, e⟩ | ⟨l, t, hl, e, hg⟩)
    · exact .inl ⟨i, hi, e⟩
    · by_cases hlk : l = G.nx
      · subst hlk; rw [htlk] at e; cases e
      · rw [htl l hlk] at e; exact .inr ⟨l, t, hTn l hlk hl, e, hg⟩
  refine ⟨hTnx, ⟨⟨hs.val, fun i ob e => ?_, hs.inj, fun l n e => ?_, fun l j t t' hl hj e e' hg => ?_, fun l i t hl hi e => ?_, fun i hi => hs.fat i (by have : G.nx + 1 ≤ i := hi; omega), fun l hl => ?_⟩, sm.sz, fun t ht => (sm.sl t ht).mono hle, sm.df, ?_⟩, hle,
    ⟨rfl, rfl, rfl, Nat.le_refl _, fun b _ hn => ⟨rfl, fun o' => hn (hown b o'), fun _ => rfl⟩⟩⟩
  · obtain ⟨b, o, x, y, r, q⟩ := hs.obj i ob e
    exact ⟨b, o, x, y, r.mono hle, q⟩
  · by_cases hlk : l = G.nx
    · subst hlk
      simp only [upd_same, Option.some.injEq] at e
      subst e
      rcases ho with rfl | ⟨z, rfl⟩
      · exact .inl ⟨htlk, rfl⟩
      · exact .inl ⟨htlk, rfl⟩
    · simp only [upd_other _ _ hlk] at e
      exact (hs.tok l n e).move hle (htl l hlk) fun t e' => ⟨rfl, fun _ => rfl⟩
  · by_cases hlk : l = G.nx
    · subst hlk; rw [htlk] at e; cases e
    · by_cases hjk : j = G.nx
      · subst hjk; rw [htlk] at e'; cases e'
      · rw [htl l hlk] at e; rw [htl j hjk] at e'
        exact hs.tinj l j t t' (hTn l hlk hl) (hTn j hjk hj) e e' hg
  · by_cases hlk : l = G.nx
    · subst hlk; rw [htlk] at e; cases e
    · rw [htl l hlk] at e
      exact hs.tobj l i t (hTn l hlk hl) hi e
  · have : G.nx + 1 ≤ l := hl
    rw [htl l (by omega)]; exact hs.ftl l (by omega)
  · exact ⟨sm.ls.len, fun j b cs e e' => let ⟨vs, E', x, y, r⟩ := sm.ls.lo j b cs e e'; ⟨vs, E', x, y, r.mono hle⟩, fun b hb => ⟨fun o' => (sm.ls.free b hb).1 (hown b o'), (sm.ls.free b hb).2⟩, sm.ls.nd⟩
end
end Go.Proofs.YtoleejecmefogaaDoor
/- The operation append, where the right to it is there. -/
namespace Go.Proofs.YtoleejecmefogaaDoor
open Go
def rowOf : AV → Option (Nat × List (List AV))
  | .row z ys _ => some (z, ys)
  | .v (.slice none 0 0) => some (0, [])
  | _ => none
theorem rowOf_sound {G : Gh} {L : List Nat} {x : AV} {v : Value} (h : RepT G L x v) {z : Nat} {ys : List (List AV)} (hr : rowOf x = some (z, ys)) :
    (∃ a, v = .slice a 0 0 ∧ ys = []) ∨ ∃ g o c us, v = .slice (some ⟨g, o, none⟩) ys.length c ∧ ys.length ≤ c ∧ (∀ y ∈ ys, y.length = z) ∧ RepL G ys.flatten us ∧ ∀ j y, us[j]? = some y → G.val g (o + j) = some y := by
  unfold rowOf at hr
  split at hr <;> simp only [Option.some.injEq, Prod.mk.injEq, reduceCtorEq] at hr
  · obtain ⟨rfl, rfl⟩ := hr
    exact Rep.row_inv h
  · obtain ⟨rfl, rfl⟩ := hr
    exact .inl ⟨none, h.v_inv, rfl⟩
section
variable {P : Program}
theorem append_none_run {t ty e : TypeId} {i : TypeInfo} (ht : P.underlying t = some (.slice e)) (hi : P.info? e = some i) (base : Option Addr) (n c : Nat) (hc : n ≤ c) (b : Option Addr) (c' : Nat) (w : World) :
    (Builtin.append_ #[t, t] ty #[.slice base n c, .slice b 0 c']).run P w = .ok (.slice base n c) w := by
  have hf : (Builtin.firstCells i.size 0 (.slice b 0 c')).run P w = .ok #[] w := by
    cases b with
    | none => simp [Builtin.firstCells]
    | some b => simp [Builtin.firstCells, loadCells, loadCellsFrom]
  cases base with
  | none => simp [Builtin.append_, run_underlying ht, sizeOf, typeInfo, hi, Builtin.lenOf, hc, hf]
  | some a => simp [Builtin.append_, run_underlying ht, sizeOf, typeInfo, hi, Builtin.lenOf, hc, hf, storeCells]
theorem append_room_run (w : World) (t ty e : TypeId) (i : TypeInfo) (ht : P.underlying t = some (.slice e)) (hi : P.info? e = some i)
    (g sLen sCap : Nat) (cur : Array Value) (E : TypeId) (hg : w.heap[g]? = some (.cells cur E (0, 0)))
    (a : Addr) (m c : Nat) (news : List Value) (hl : news.length = m * i.size) (hnews : ∀ j u, news[j]? = some u → w.cell? (a.add j) = some u) (h1 : ∀ u ∈ news, u.oneCell' = true)
    (hroom : sLen + m ≤ sCap) (hfit : sLen * i.size + news.length ≤ cur.size) :
    (Builtin.append_ #[t, t] ty #[.slice (some ⟨g, 0, none⟩) sLen sCap, .slice (some a) m c]).run P w =
      .ok (.slice (some ⟨g, 0, none⟩) (sLen + m) sCap) (w.setRow g (splice cur.toList (sLen * i.size) news).toArray) := by
  have hf := run_firstCells_some (P := P) w i.size m a m c news hl hnews
  have hst := run_storeCells_at P g (sLen * i.size) E news 0 cur w hg (by simpa using hfit) h1
  simp only [Nat.add_zero] at hst
  simp [Builtin.append_, run_underlying ht, sizeOf, typeInfo, hi, Builtin.lenOf, hroom, hf, Addr.add_lit, hst, splice]
end
theorem rep_app {G G' : Gh} (hle : GLe G G') {B z c k : Nat} {xs : List (List AV)} {vs : List Value} (hz : ∀ x ∈ xs, x.length = z) (hr : RepL G xs.flatten vs) (hval : ∀ (j : Nat) x, vs[j]? = some x → G'.val B j = some x)
    (htl : G'.tl k = some (some ⟨B, xs.length, z, c⟩)) (hk : k < G'.nx) (hc : xs.length ≤ c) : Rep G' (.row z xs (some k)) (.slice (some ⟨B, 0, none⟩) xs.length c) := by
  have hl := flatten_len hz
  have hl2 := hr.1
  have hget : ∀ j (hj : j < vs.length), vs.getD j undef = vs[j] := fun j hj => by simp [List.getD_eq_getElem?_getD, List.getElem?_eq_getElem hj]
  refine Rep.row z xs (some k) B 0 xs.length c (fun j => vs.getD j undef) rfl hc hz (fun j hj => ?_) (fun j hj => ?_) (fun j hj => ?_) ⟨hk, ?_⟩
  · have hj' : j < vs.length := by omega
    rw [Nat.zero_add]
    exact hval j _ (by rw [hget j hj', List.getElem?_eq_getElem hj'])
  · have hj' : j < vs.length := by omega
    show Rep G' _ (vs.getD j undef)
    rw [hget j hj']; exact (hr.2 j hj hj').1.mono hle
  · have hj' : j < vs.length := by omega
    show (vs.getD j undef).oneCell' = true
    rw [hget j hj']; exact (hr.2 j (by omega) hj').2
  · rw [htl]; exact ⟨Nat.le_refl _, fun _ => ⟨rfl, rfl⟩⟩
section
variable {P : Program} {c : Cx} {o : Oper} {s : St} {ty : Nat → Option TyD}
theorem a_append_at (hty : TyOk P ty) {t : Nat} {x y : Operand} (ho : o.op = .call { callee := .builtin .append, args := #[x, y], argTypes := #[t, t] }) {e : TyD} (he : elemD ty t = some e) {z : Nat} {xs : List (List AV)} {k : Nat}
    {G : Gh} {L : List Nat} {a : Act} {w : World} (sm : Sim G L s a w) (hg : GLe c.G G) (hf : Fr c.G c.h c.w G s.h w) (hL : ∀ b ∈ L, c.w.heap.size ≤ b) (hxr : Rep G (.row z xs (some k)) (a.eval x))
    (hz : z = e.size) (hT : s.h.T k = some (.tail xs.length)) {zy : Nat} {ys : List (List AV)} (hy : rowOf (s.ev y) = some (zy, ys)) (hzy : zy = e.size ∨ ys = []) (hs0 : 0 < e.size) (hzl : e.zero.length = e.size) (hb : (xs.length + ys.length) * e.bytes ≤ 140737488355328) (h63 : xs.length + ys.length ≤ 9223372036854775807) {K : St → Prop}
    (hK : K ({ s with h := { s.h with T := upd s.h.T k (some (.tail (xs.length + ys.length))) } }.put o.dst (.row z (xs ++ ys) (some k)))) (Kc : Act → World → Prop) (Qc : Exit → Act → World → Prop) (hk : ∀ s' a' w', K s' → In c s' a' w' → Kc a' w') : o.wp P a w Kc Qc := by
  obtain ⟨u, hu, hue⟩ := elemD_info hty he
  obtain ⟨i, D, zv, hi, hD, hisz, hiby, _, hiz, hz1, hzz⟩ := tyd_info hue
  have hxi := Rep.row_inv hxr
  have hyi := rowOf_sound (sm.ev y) hy
  have htk := sm.hs.tok k _ hT
  generalize hxv : a.eval x = xv at hxr hxi
  generalize hyv : a.eval y = yv at hyi
  unfold Oper.wp
  have hexec : ∀ v w', (Builtin.append_ #[t, t] o.type #[xv, yv]).run P w = .ok v w' → (execOp a.eval o).run P w = .ok (.value v) w' := fun v w' h => by
    simp only [execOp, ho, resolve, invoke, builtin, Sem.run_bind, Sem.run_pure, Result.andThen_ok, List.map_toArray, List.map_cons, List.map_nil, hxv, hyv, h]
  by_cases hm : ys = []
  · -- nothing is added
    subst hm
    have hrun : (Builtin.append_ #[t, t] o.type #[xv, yv]).run P w = .ok xv w := by
      rcases hxi with ⟨_, rfl, _⟩ | ⟨g, of, cc, us, rfl, hcc, _⟩ <;> rcases hyi with ⟨_, rfl, _⟩ | ⟨g', of', cc', us', rfl, _⟩
      · exact append_none_run hu hi _ 0 0 (Nat.le_refl _) _ 0 w
      · exact append_none_run hu hi _ 0 0 (Nat.le_refl _) _ _ w
      · exact append_none_run hu hi _ _ _ hcc _ 0 w
      · exact append_none_run hu hi _ _ _ hcc _ _ w
    rw [hexec _ _ hrun]
    have e1 : upd s.h.T k (some (.tail (xs.length + ([] : List (List AV)).length))) = s.h.T := by
      funext j
      by_cases hj : j = k
      · subst hj; rw [upd_same, hT]; simp
      · rw [upd_other _ _ hj]
    rw [e1, List.append_nil] at hK
    exact hk _ _ _ hK (In.put sm hg hf hL o.dst (RepT.of hxr))
  · have hm0 : 0 < ys.length := List.length_pos_iff.2 hm
    have hzy' : zy = e.size := by rcases hzy with h | h; exact h; exact absurd h hm
    rcases hyi with ⟨_, _, h0⟩ | ⟨gy, oy, cy, us, rfl, hcy, hzys, hry, hvy⟩
    · exact absurd h0 hm
    have hlu : us.length = ys.length * e.size := by rw [hry.1, flatten_len hzys, hzy']
    have h1us : ∀ u ∈ us, u.oneCell' = true := fun u hu' => by
      obtain ⟨j, hj, e'⟩ := List.getElem_of_mem hu'
      subst e'
      exact (hry.2 j (by rw [← hry.1]; exact hj) hj).2
    have hcell : ∀ j u, us[j]? = some u → w.cell? ((⟨gy, oy, none⟩ : Addr).add j) = some u := fun j u hj => by
      rw [Addr.add_lit]; exact sm.hs.val _ _ _ (hvy j u hj)
    -- a new block: its cells
    have hgrow : ∀ (olds : List Value) (oldc : Nat), RepL G xs.flatten olds → (∀ y ∈ xs, y.length = z) →
        (Builtin.append_ #[t, t] o.type #[xv, .slice (some ⟨gy, oy, none⟩) ys.length cy]).run P w = .ok (.slice (some ⟨w.heap.size, 0, none⟩) (xs.length + ys.length) (grownCap w (xs.length + ys.length) oldc u)) (w.drew.alloc (.cells (olds.toArray ++ us.toArray ++ Builtin.zeroCells zv.cells (grownCap w (xs.length + ys.length) oldc u - (xs.length + ys.length))) u)) →
        Oper.upon P o a Kc Qc ((execOp a.eval o).run P w) := by
      intro olds oldc hro hzx hrun
      rw [hexec _ _ hrun]
      have hlo : olds.length = xs.length * e.size := by rw [hro.1, flatten_len hzx, hz]
      have hzvs : zv.cells.size = e.size := by rw [← hzl, hzz]; simp
      generalize hcap : grownCap w (xs.length + ys.length) oldc u = cap
      have hge : xs.length + ys.length ≤ cap := by rw [← hcap]; exact grownCap_ge _ _ _ _
      have hcm : cap ≤ maxLen := by rw [← hcap]; exact grownCap_le_maxLen _ _ _ _ (by unfold maxLen; omega)
      have hall : RepL G (xs ++ ys).flatten (olds ++ us) := by rw [List.flatten_append]; exact hro.append hry
      have hzall : ∀ y ∈ xs ++ ys, y.length = z := fun y hy => by
        rcases List.mem_append.1 hy with h | h
        · exact hzx y h
        · rw [hzys y h, hzy', hz]
      have hlall : (olds ++ us).length = (xs.length + ys.length) * z := by rw [List.length_append, hlo, hlu, hz, Nat.add_mul]
      obtain ⟨s1, g1, f1⟩ := sm.app (k := k) (m := xs.length) (m' := xs.length + ys.length) (B := w.heap.size) (lo := 0) (z := z) (c := cap) (us := olds ++ us)
        (w' := w.drew.alloc (.cells (olds.toArray ++ us.toArray ++ Builtin.zeroCells zv.cells (cap - (xs.length + ys.length))) u)) (arr := olds.toArray ++ us.toArray ++ Builtin.zeroCells zv.cells (cap - (xs.length + ys.length))) (E := u) hT
        (fun b hb _ => RowKit.Below.heap_alloc w.drew _ b hb) (heap_alloc_new w.drew _) (by
          simp only [Array.size_append, List.size_toArray, size_zeroCells, hzvs, hlo, hlu, ← Nat.add_mul]
          rw [hz]; congr 1; omega) (fun o x hx => by
          rw [Nat.zero_add, Array.getElem?_append_left (by
            have := (List.getElem?_eq_some_iff.1 hx).1
            simpa using this)]
          rw [List.append_toArray, List.getElem?_toArray]; exact hx) (fun o x hx => by rw [sm.hs.val_new (Nat.le_refl _)] at hx; cases hx) (fun o _ => sm.hs.val_new (Nat.le_refl _) o) (by rw [Nat.zero_add]; exact hlall) hge hcm (by omega) (.inl (Nat.le_refl _)) rfl rfl rfl (by simp)
      refine hk _ _ _ hK (In.put s1 (hg.trans g1) (hf.trans f1) hL o.dst (RepT.of ?_))
      have hrep := rep_app (k := k) (c := cap) (B := w.heap.size) g1 hzall hall (fun j x hx => by
        simp only [Gh.app, Nat.zero_le, and_self, if_true, Nat.sub_zero]; exact hx) (by rw [List.length_append]; exact upd_same _ _ _) (by
        have : k < G.nx := Nat.lt_of_not_le fun h => by
          have h0 := sm.hs.ftl k h
          rcases htk with ⟨e', _⟩ | ⟨t, _, _, e', _⟩ <;> rw [h0] at e' <;> cases e'
        exact this) (by rw [List.length_append]; exact hge)
      rw [List.length_append] at hrep
      exact hrep
    rcases htk with ⟨htl, h0⟩ | ⟨tt, vs, E, htl, htm, htpos, hth, hts, htc, htcm, htf⟩
    · -- nothing is there yet
      have hx0 : xs = [] := List.eq_nil_of_length_eq_zero h0
      subst hx0
      have hxa : ∃ ad, xv = .slice ad 0 0 := by
        cases hxr with
        | row _ _ _ g of n cc uu hn hcc hzx hu' hr' h1' ht' =>
          simp only [TokOk, htl] at ht'
          obtain ⟨_, _, ad, had⟩ := ht'
          exact ⟨ad, had⟩
        | nil => exact ⟨none, rfl⟩
      obtain ⟨ad, rfl⟩ := hxa
      cases ad with
      | none =>
        have hrun := run_append_nil (P := P) w t o.type u i zv hu hi hiz ⟨gy, oy, none⟩ ys.length cy us (by rw [hisz]; exact hlu) hcell hm0 (by simp at h63; omega) (by rw [hiby]; simp at hb; omega)
        refine hgrow [] 0 (RepL.nil G) (by simp) ?_
        simpa using hrun
      | some ad =>
        have hrun := run_append_grow (P := P) w t o.type u i zv hu hi hiz ad 0 0 [] (by simp) (by simp) ⟨gy, oy, none⟩ ys.length cy us (by rw [hisz]; exact hlu) hcell (by omega) (by simp at h63 ⊢; omega) (by rw [hiby]; exact growslice_fits (by omega) (by simpa using hb))
        refine hgrow [] 0 (RepL.nil G) (by simp) ?_
        simpa using hrun
    · have hxne : 0 < xs.length := by omega
      rcases hxi with ⟨_, _, h0⟩ | ⟨g, of, cx, olds, rfl, hcx, hzx, hro, hvx⟩
      · subst h0; simp at hxne
      have htok : (Value.slice (some ⟨g, of, none⟩) xs.length cx) = .slice (some ⟨tt.g, 0, none⟩) xs.length tt.c ∧ z = tt.z := by
        cases hxr with
        | row _ _ _ _ _ _ _ _ _ _ _ _ _ _ ht' =>
          simp only [TokOk, htl] at ht'
          exact ht'.2.2 htm.symm
      obtain ⟨hxe, hzt⟩ := htok
      simp only [Value.slice.injEq, Option.some.injEq, Addr.mk.injEq, and_true, true_and] at hxe
      obtain ⟨⟨rfl, rfl⟩, rfl⟩ := hxe
      have hlo : olds.length = xs.length * e.size := by rw [hro.1, flatten_len hzx, hz]
      have hsz2 : vs.size = tt.c * e.size := by rw [hts, ← hzt, hz]
      by_cases hroom : xs.length + ys.length ≤ tt.c
      · have hfit : xs.length * i.size + us.length ≤ vs.size := by rw [hisz, hlu, hsz2, ← Nat.add_mul]; exact Nat.mul_le_mul_right _ hroom
        have hrun := append_room_run w t o.type u i hu hi tt.g xs.length tt.c vs E hth ⟨gy, oy, none⟩ ys.length cy us (by rw [hisz]; exact hlu) hcell h1us hroom hfit
        rw [hexec _ _ hrun]
        have hsl : (splice vs.toList (xs.length * i.size) us).length = vs.size := by rw [splice_len _ _ _ (by simpa using hfit)]; simp
        have hlou : xs.length * i.size + us.length = (xs.length + ys.length) * z := by rw [hisz, hlu, hz, Nat.add_mul]
        have hfree : ∀ o', xs.length * i.size ≤ o' → G.val tt.g o' = none := fun o' ho' => htf o' (by rw [← hzt, hz, ← hisz]; exact ho')
        obtain ⟨s1, g1, f1⟩ := sm.app (k := k) (m := xs.length) (m' := xs.length + ys.length) (B := tt.g) (lo := xs.length * i.size) (z := z) (c := tt.c) (us := us)
          (w' := w.setRow tt.g (splice vs.toList (xs.length * i.size) us).toArray) (arr := (splice vs.toList (xs.length * i.size) us).toArray) (E := E) hT
          (fun b _ hne => heap_setRow _ hne) (setRow_heap w tt.g vs _ E (0, 0) hth) (by rw [List.size_toArray, hsl, hsz2, hz]) (fun o' x hx => by
            have hlt := (List.getElem?_eq_some_iff.1 hx).1
            simp only [List.getElem?_toArray, splice]
            rw [List.append_assoc, List.getElem?_append_right (by simp; omega), List.getElem?_append_left (by simp; omega)]
            rw [← hx]; congr 1; simp; omega) (fun o' x hx => by
            have hlt : o' < xs.length * i.size := Nat.lt_of_not_le fun h => by rw [hfree o' h] at hx; cases hx
            have hc2 := sm.hs.val _ _ _ hx
            simp only [World.cell?, hth, Option.isSome_none, Bool.false_eq_true, if_false] at hc2
            simp only [List.getElem?_toArray, splice]
            rw [List.append_assoc, List.getElem?_append_left (by simp; omega), List.getElem?_take, if_pos hlt]
            simpa using hc2) hfree hlou hroom htcm (by omega) (.inr ⟨tt, htl, rfl⟩) (by simp) (by simp) (by simp) (by simp)
        refine hk _ _ _ hK (In.put s1 (hg.trans g1) (hf.trans f1) hL o.dst (RepT.of ?_))
        have hall : RepL G (xs ++ ys).flatten (olds ++ us) := by rw [List.flatten_append]; exact hro.append hry
        have hzall : ∀ y ∈ xs ++ ys, y.length = z := fun y hy => by
          rcases List.mem_append.1 hy with h | h
          · exact hzx y h
          · rw [hzys y h, hzy', hz]
        have hrep := rep_app (k := k) (c := tt.c) (B := tt.g) g1 hzall hall (fun j x hx => by
          have hol : olds.length = xs.length * i.size := by rw [hlo, hisz]
          by_cases hj : j < xs.length * i.size
          · rw [List.getElem?_append_left (by omega)] at hx
            have hv := hvx j x hx
            rw [Nat.zero_add] at hv
            show (if tt.g = tt.g ∧ xs.length * i.size ≤ j then us[j - xs.length * i.size]? else G.val tt.g j) = some x
            rw [if_neg (fun h => by omega)]
            exact hv
          · rw [List.getElem?_append_right (by omega)] at hx
            show (if tt.g = tt.g ∧ xs.length * i.size ≤ j then us[j - xs.length * i.size]? else G.val tt.g j) = some x
            rw [if_pos ⟨rfl, by omega⟩, ← hx]
            congr 1; omega) (by rw [List.length_append]; exact upd_same _ _ _) (by
          have : k < G.nx := Nat.lt_of_not_le fun h => by rw [sm.hs.ftl k h] at htl; cases htl
          exact this) (by rw [List.length_append]; exact hroom)
        rw [List.length_append] at hrep
        exact hrep
      · have holds : ∀ j v, olds[j]? = some v → w.cell? ((⟨tt.g, 0, none⟩ : Addr).add j) = some v := fun j v hj => by
          rw [Addr.add_lit]; exact sm.hs.val _ _ _ (hvx j v hj)
        have hrun := run_append_grow (P := P) w t o.type u i zv hu hi hiz ⟨tt.g, 0, none⟩ xs.length tt.c olds (by rw [hisz]; exact hlo) holds ⟨gy, oy, none⟩ ys.length cy us (by rw [hisz]; exact hlu) hcell (by omega) (by omega) (by rw [hiby]; exact growslice_fits (by omega) hb)
        exact hgrow olds tt.c hro hzx hrun
theorem a_append (hty : TyOk P ty) {t : Nat} {x y : Operand} (ho : o.op = .call { callee := .builtin .append, args := #[x, y], argTypes := #[t, t] }) {e : TyD} (he : elemD ty t = some e) {z : Nat} {xs : List (List AV)} {k : Nat} (hx : s.ev x = .row z xs (some k))
    (hz : z = e.size) (hT : s.h.T k = some (.tail xs.length)) {zy : Nat} {ys : List (List AV)} (hy : rowOf (s.ev y) = some (zy, ys)) (hzy : zy = e.size ∨ ys = []) (hs0 : 0 < e.size) (hzl : e.zero.length = e.size) (hb : (xs.length + ys.length) * e.bytes ≤ 140737488355328) (h63 : xs.length + ys.length ≤ 9223372036854775807) {K : St → Prop}
    (hK : K ({ s with h := { s.h with T := upd s.h.T k (some (.tail (xs.length + ys.length))) } }.put o.dst (.row z (xs ++ ys) (some k)))) : Aop P c o s K := by
  rintro a w ⟨G, L, sm, hg, hf, hL⟩ Kc Qc hk
  exact a_append_at hty ho he sm hg hf hL (sm.eve hx) hz hT hy hzy hs0 hzl hb h63 hK Kc Qc hk
theorem upd_upd {α : Type} (f : Nat → Option α) (k : Nat) (x y : Option α) : upd (upd f k x) k y = upd f k y := by
  funext j
  by_cases h : j = k
  · subst h; rw [upd_same, upd_same]
  · rw [upd_other _ _ h, upd_other _ _ h, upd_other _ _ h]
/-- Append to nil: a new right. -/
theorem a_appendNil (hty : TyOk P ty) {t : Nat} {x y : Operand} (ho : o.op = .call { callee := .builtin .append, args := #[x, y], argTypes := #[t, t] }) {e : TyD} (he : elemD ty t = some e) (hx : s.ev x = .v (.slice none 0 0))
    {ys : List (List AV)} (hy : rowOf (s.ev y) = some (e.size, ys)) (hs0 : 0 < e.size) (hzl : e.zero.length = e.size) (hb : ys.length * e.bytes ≤ 140737488355328) (h63 : ys.length ≤ 9223372036854775807) {K : St → Prop}
    (hK : ∀ k, s.h.T k = none → K ({ s with h := { s.h with T := upd s.h.T k (some (.tail ys.length)) } }.put o.dst (.row e.size ys (some k)))) : Aop P c o s K := by
  rintro a w ⟨G, L, sm, hg, hf, hL⟩ Kc Qc hk
  obtain ⟨hT, s1, g1, f1⟩ := sm.newTok (o := .tail 0) (.inl rfl)
  have hv := sm.evv hx
  refine a_append_at (s := { s with h := { s.h with T := upd s.h.T G.nx (some (.tail 0)) } }) (z := e.size) (xs := []) (k := G.nx) hty ho he s1 (hg.trans g1) (hf.trans f1) hL ?_ rfl (upd_same _ _ _) hy (.inl rfl) hs0 hzl (by simpa using hb) (by simpa using h63) (K := K) ?_ Kc Qc hk
  · rw [hv]
    refine .nil _ _ ⟨by simp [Gh.newTk], ?_⟩
    have : G.newTk.tl G.nx = some none := upd_same _ _ _
    rw [this]
    exact ⟨rfl, none, rfl⟩
  · have := hK G.nx hT
    simpa only [upd_upd, List.length_nil, Nat.zero_add, List.nil_append] using this
end
end Go.Proofs.YtoleejecmefogaaDoor
/- Written arrays: reached into, written, appended to. -/
namespace Go.Proofs.YtoleejecmefogaaDoor
open Go
theorem splice_take {α : Type} (vs us : List α) (o n : Nat) (h : o + us.length ≤ n) (hn : n ≤ vs.length) : (splice vs o us).take n = splice (vs.take n) o us := by
  simp only [splice, List.take_append, List.take_take, List.length_append, List.length_take, List.drop_take, List.append_assoc]
  have e1 : min o vs.length = o := by omega
  have e2 : us.take (n - o) = us := List.take_of_length_le (by omega)
  rw [e1, e2, show min n o = min o n from Nat.min_comm _ _, show n - o - us.length = n - (o + us.length) by omega]
theorem splice_app {α : Type} (xs ys us : List α) (o : Nat) (h : o + us.length ≤ xs.length) : splice (xs ++ ys) o us = splice xs o us ++ ys := by
  simp only [splice]
  rw [List.take_append_of_le_length (by omega), List.drop_append_of_le_length (by omega)]
  simp
theorem splice_skip {α : Type} (xs ys us : List α) (o : Nat) : splice (xs ++ ys) (xs.length + o) us = xs ++ splice ys o us := by
  simp only [splice]
  rw [List.take_append, List.drop_append, show xs.length + o + us.length - xs.length = o + us.length by omega, show xs.length + o - xs.length = o by omega]
  rw [List.take_of_length_le (by omega), List.drop_eq_nil_of_le (by omega)]
  simp
theorem flatten_set {α : Type} {z f : Nat} {ds : List α} (hf : f + ds.length ≤ z) : ∀ {xs : List (List α)} (_ : ∀ x ∈ xs, x.length = z) {i : Nat} (_ : i < xs.length), (xs.set i (splice (xs.getD i []) f ds)).flatten = splice xs.flatten (i * z + f) ds
  | [], _, _, hi => by simp at hi
  | x :: xs, hz, 0, _ => by
    have := hz x (by simp)
    simp only [List.set_cons_zero, List.flatten_cons, List.getD_cons_zero, Nat.zero_mul, Nat.zero_add]
    rw [splice_app _ _ _ _ (by omega)]
  | x :: xs, hz, i + 1, hi => by
    have hx := hz x (by simp)
    have ih := flatten_set hf (xs := xs) (fun y hy => hz y (by simp [hy])) (i := i) (by simpa using hi)
    simp only [List.set_cons_succ, List.flatten_cons, List.getD_cons_succ]
    rw [ih, show (i + 1) * z + f = x.length + (i * z + f) by rw [hx, Nat.add_mul]; omega, splice_skip]
section
variable {P : Program} {c : Cx} {o : Oper} {s : St} {ty : Nat → Option TyD}
theorem q_lenArr {t : Nat} {x : Operand} (ho : o.op = .call { callee := .builtin .len, args := #[x], argTypes := #[t] }) (he : (elemD ty t).isSome = true) (hty : TyOk P ty) {z k n : Nat} (h : s.ev x = .arr z k n) : Quiet P c o s (.v (.int .i64 n)) := by
  refine quiet_pure fun G L a w sm => ?_
  cases hed : elemD ty t with
  | none => rw [hed] at he; cases he
  | some e =>
    obtain ⟨u, hu, hue⟩ := elemD_info hty hed
    have hx := sm.eve h
    generalize hq : a.eval x = q at hx
    have hx' : Rep G (.arr z k n) q := hx
    cases hx' with
    | arr _ _ _ b m cc ha =>
      obtain ⟨_, ⟨b', c', e, _⟩, _⟩ := ha
      simp only [Value.slice.injEq] at e
      obtain ⟨rfl, rfl, rfl⟩ := e
      exact ⟨_, by simp [execOp, ho, resolve, invoke, builtin, Builtin.len_, run_underlying hu, hq, goInt], RepT.of (.v _ rfl)⟩
theorem q_lenNil {t : Nat} {x : Operand} (ho : o.op = .call { callee := .builtin .len, args := #[x], argTypes := #[t] }) (he : (elemD ty t).isSome = true) (hty : TyOk P ty) (h : s.ev x = .v (.slice none 0 0)) : Quiet P c o s (.v (.int .i64 0)) := by
  refine quiet_pure fun G L a w sm => ?_
  cases hed : elemD ty t with
  | none => rw [hed] at he; cases he
  | some e =>
    obtain ⟨u, hu, hue⟩ := elemD_info hty hed
    exact ⟨_, by simp [execOp, ho, resolve, invoke, builtin, Builtin.len_, run_underlying hu, sm.evv h, goInt], RepT.of (.v _ rfl)⟩
theorem q_indexArr (hty : TyOk P ty) {t : Nat} {x i : Operand} (ho : o.op = .indexAddr t x i) {e : TyD} (he : elemD ty t = some e) {z k m : Nat} (h : s.ev x = .arr z k m)
    {kk : IntKind} {n : Int} (hn : s.ev i = .v (.int kk n)) (h0 : 0 ≤ n) (h1 : n < m) (hz : z = e.size) : Quiet P c o s (.eptr k m n.toNat 0) := by
  refine quiet_pure fun G L a w sm => ?_
  obtain ⟨u, hu, hue⟩ := elemD_info hty he
  have hx := sm.eve h
  generalize hq : a.eval x = q at hx
  have hx' : Rep G (.arr z k m) q := hx
  cases hx' with
  | arr _ _ _ b m' cc ha =>
    obtain ⟨hk, ⟨b', c', e1, hcc, hg⟩, hm⟩ := ha
    simp only [Value.slice.injEq] at e1
    obtain ⟨rfl, rfl, rfl⟩ := e1
    obtain ⟨g, rfl⟩ : ∃ g, b = some ⟨g, 0, none⟩ := by rcases hg with ⟨_, h⟩ | h; omega; exact h
    refine ⟨.pointer (some ⟨g, 0 + n.toNat * z, none⟩), ?_, RepT.of (.eptr _ _ _ _ _ ⟨hk, g, n.toNat * z, by simp, ?_⟩)⟩
    · simp only [execOp, ho, hq, sm.evv hn, Instr.indexAt, asIntOf, Sem.run_bind, Sem.run_pure, Result.andThen_ok, run_underlying hu]
      rw [if_pos ⟨h0, by omega⟩]
      simp only [Sem.run_bind, sizeOf_run hue, Result.andThen_ok, Sem.run_pure, Addr.add_lit, hz]
    · revert hm
      cases G.tl k with
      | none => exact fun _ => trivial
      | some y => cases y with
        | none => intro hm; have := hm.1; omega
        | some t =>
          intro hm
          refine ⟨hm.1, fun e => ?_⟩
          obtain ⟨e2, e3⟩ := hm.2 e
          simp only [Value.slice.injEq, Option.some.injEq, Addr.mk.injEq, and_true] at e2
          exact ⟨e2.1, by rw [e3]⟩
theorem a_storeEptr (hty : TyOk P ty) {t : Nat} {x y : Operand} (ho : o.op = .store t x y) {d : TyD} (hd : ty t = some d) {k n i f : Nat} (hx : s.ev x = .eptr k n i f) {z : Nat} {xs : List (List AV)} {ds : List AV} (hT : s.h.T k = some (.cont z xs)) (hn : xs.length = n) (hi : i < n)
    (hy : (s.ev y).cellsB = some ds) (hs : ds.length = d.size) (hl : f + d.size ≤ z) {K : St → Prop} (hK : K ({ s with h := { s.h with T := upd s.h.T k (some (.cont z (xs.set i (splice (xs.getD i []) f ds)))) } }.put o.dst .junk)) : Aop P c o s K := by
  rintro a w ⟨G, L, sm, hg, hf, hL⟩ Kc Qc hk
  have hr := cellsB_sound (sm.ev y) hy
  have hxr := sm.eve hx
  generalize hq : a.eval x = q at hxr
  have hxr' : Rep G (.eptr k n i f) q := hxr
  cases hxr' with
  | eptr _ _ _ _ p ha =>
  obtain ⟨hkk, b, q, e, hm⟩ := ha
  cases e
  have hix : i < xs.length := by omega
  rcases sm.hs.tok k _ hT with ⟨e1, e2⟩ | ⟨tt, vs, E, htl, htm, h0, hh, hsz, hc1, hc2, hnv, htz, hzx, hrr⟩
  · rw [e1] at hm; exact hm.elim
  · rw [htl] at hm
    obtain ⟨rfl, rfl⟩ := hm.2 (by rw [htm, hn])
    have hfl := flatten_len hzx
    have hiz : (i + 1) * z ≤ xs.length * z := Nat.mul_le_mul_right _ hix
    have hiz2 : (i + 1) * z = i * z + z := by rw [Nat.add_mul, Nat.one_mul]
    have hcl : xs.length * z ≤ tt.c * z := Nat.mul_le_mul_right _ (by omega)
    rw [htz] at hsz
    have hus : (a.eval y).cells.toList.length = ds.length := hr.1
    have hspl := hrr.splice hr (i * z + f)
    rw [← splice_take _ _ _ _ (by rw [hus, hfl]; omega) (by rw [hfl]; have h9 : vs.toList.length = vs.size := Array.length_toList; omega), ← flatten_set (by omega) hzx hix] at hspl
    have hset : (xs.set i (splice (xs.getD i []) f ds)).flatten.length = xs.flatten.length := by
      rw [flatten_set (by omega) hzx hix, splice_len _ _ _ (by omega)]
    have hrun := store_run (v := a.eval y) (g := tt.g) (o := i * z + f) (w := w) (hty _ _ hd) hh (by rw [← hs]; simpa using hr.1) (by omega) (fun x hx => by
      obtain ⟨i, hi, e⟩ := List.getElem_of_mem hx
      subst e
      exact (hr.2 i (by rw [← hr.1]; exact hi) hi).2)
    have hxi : (xs.getD i []).length = z := by
      rw [List.getD_eq_getElem?_getD, List.getElem?_eq_getElem hix]; exact hzx _ (List.getElem_mem hix)
    obtain ⟨G', _, s1, g1, f1⟩ := sm.setCont (xs := xs.set i (splice (xs.getD i []) f ds)) (z := z) (c := tt.c) (B := tt.g) (w' := w.setRow tt.g (splice vs.toList (i * z + f) (a.eval y).cells.toList).toArray) hT (fun b' _ hb' => heap_setRow _ hb') (setRow_heap w tt.g vs _ E (0, 0) hh)
      (by rw [List.size_toArray, splice_len _ _ _ (by simp [hus]; omega)]; simpa using hsz) hnv (fun x hx => by
        rcases List.mem_or_eq_of_mem_set hx with h | h
        · exact hzx x h
        · rw [h, splice_len _ _ _ (by omega)]; exact hxi) (by rw [hset]; exact hspl) (by simp; omega) hc2 (by simp; omega) (.inr ⟨by simp, rfl, tt, htl, rfl, rfl⟩) (.inr ⟨tt, htl, rfl⟩) (by simp) (by simp) (by simp) (by simp)
    unfold Oper.wp
    have hrun' : (execOp a.eval o).run P w = .ok .skip (w.setRow tt.g (splice vs.toList (i * z + f) (a.eval y).cells.toList).toArray) := by
      simp only [execOp, ho, hq, Instr.storeAt, Instr.sureAddr, Sem.run_bind, Sem.run_pure, Result.andThen_ok, hrun, htz]
    rw [hrun']
    exact hk _ _ _ hK (In.put s1 (hg.trans g1) (hf.trans f1) hL o.dst (RepT.junk _))
theorem rep_arr {G' : Gh} {B z c k n : Nat} (htl : G'.tl k = some (some ⟨B, n, z, c⟩)) (hk : k < G'.nx) (hc : n ≤ c) : Rep G' (.arr z k n) (.slice (some ⟨B, 0, none⟩) n c) :=
  .arr z k n _ n c ⟨hk, ⟨_, _, rfl, hc, .inr ⟨B, rfl⟩⟩, by rw [htl]; exact ⟨Nat.le_refl _, fun _ => ⟨rfl, rfl⟩⟩⟩
theorem a_appendArr (hty : TyOk P ty) {t : Nat} {x y : Operand} (ho : o.op = .call { callee := .builtin .append, args := #[x, y], argTypes := #[t, t] }) {e : TyD} (he : elemD ty t = some e) {z : Nat} {xs : List (List AV)} {k n : Nat} (hx : s.ev x = .arr z k n)
    (hz : z = e.size) (hT : s.h.T k = some (.cont z xs)) (hn : xs.length = n) {zy : Nat} {ys : List (List AV)} (hy : rowOf (s.ev y) = some (zy, ys)) (hzy : zy = e.size ∨ ys = []) (hs0 : 0 < e.size) (hzl : e.zero.length = e.size) (hb : (xs.length + ys.length) * e.bytes ≤ 140737488355328) (h63 : xs.length + ys.length ≤ 9223372036854775807) {K : St → Prop}
    (hK : K ({ s with h := { s.h with T := upd s.h.T k (some (.cont z (xs ++ ys))) } }.put o.dst (.arr z k (n + ys.length)))) : Aop P c o s K := by
  rintro a w ⟨G, L, sm, hg, hf, hL⟩ Kc Qc hk
  obtain ⟨u, hu, hue⟩ := elemD_info hty he
  obtain ⟨i, D, zv, hi, hD, hisz, hiby, _, hiz, hz1, hzz⟩ := tyd_info hue
  have hxr0 := sm.eve hx
  have hyi := rowOf_sound (sm.ev y) hy
  have htk := sm.hs.tok k _ hT
  generalize hxv : a.eval x = xv at hxr0
  generalize hyv : a.eval y = yv at hyi
  have hxr : Rep G (.arr z k n) xv := hxr0
  unfold Oper.wp
  have hexec : ∀ v w', (Builtin.append_ #[t, t] o.type #[xv, yv]).run P w = .ok v w' → (execOp a.eval o).run P w = .ok (.value v) w' := fun v w' h => by
    simp only [execOp, ho, resolve, invoke, builtin, Sem.run_bind, Sem.run_pure, Result.andThen_ok, List.map_toArray, List.map_cons, List.map_nil, hxv, hyv, h]
  cases hxr with
  | arr _ _ _ b m cc ha =>
  obtain ⟨hkk, ⟨b', c', e1, hcc, hgg⟩, hm⟩ := ha
  simp only [Value.slice.injEq] at e1
  obtain ⟨rfl, rfl, rfl⟩ := e1
  by_cases hm0 : ys = []
  · subst hm0
    have hrun : (Builtin.append_ #[t, t] o.type #[.slice b m cc, yv]).run P w = .ok (.slice b m cc) w := by
      rcases hyi with ⟨_, rfl, _⟩ | ⟨g', of', cc', us', rfl, _⟩
      · exact append_none_run hu hi _ _ _ hcc _ 0 w
      · exact append_none_run hu hi _ _ _ hcc _ _ w
    rw [hexec _ _ hrun]
    have e1 : upd s.h.T k (some (.cont z (xs ++ []))) = s.h.T := by
      funext j
      by_cases hj : j = k
      · subst hj; rw [upd_same, hT]; simp
      · rw [upd_other _ _ hj]
    rw [e1] at hK
    exact hk _ _ _ hK (In.put sm hg hf hL o.dst (RepT.of (.arr _ _ _ _ _ _ ⟨hkk, ⟨_, _, rfl, hcc, hgg⟩, hm⟩)))
  · have hm0' : 0 < ys.length := List.length_pos_iff.2 hm0
    have hzy' : zy = e.size := by rcases hzy with h | h; exact h; exact absurd h hm0
    rcases hyi with ⟨_, _, h0⟩ | ⟨gy, oy, cy, us, rfl, hcy, hzys, hry, hvy⟩
    · exact absurd h0 hm0
    have hlu : us.length = ys.length * e.size := by rw [hry.1, flatten_len hzys, hzy']
    have h1us : ∀ u ∈ us, u.oneCell' = true := fun u hu' => by
      obtain ⟨j, hj, e'⟩ := List.getElem_of_mem hu'
      subst e'
      exact (hry.2 j (by rw [← hry.1]; exact hj) hj).2
    have hcell : ∀ j u, us[j]? = some u → w.cell? ((⟨gy, oy, none⟩ : Addr).add j) = some u := fun j u hj => by
      rw [Addr.add_lit]; exact sm.hs.val _ _ _ (hvy j u hj)
    have hgrow : ∀ (olds : List Value) (oldc : Nat), RepL G xs.flatten olds → (∀ y ∈ xs, y.length = z) →
        (Builtin.append_ #[t, t] o.type #[.slice b m cc, .slice (some ⟨gy, oy, none⟩) ys.length cy]).run P w = .ok (.slice (some ⟨w.heap.size, 0, none⟩) (xs.length + ys.length) (grownCap w (xs.length + ys.length) oldc u)) (w.drew.alloc (.cells (olds.toArray ++ us.toArray ++ Builtin.zeroCells zv.cells (grownCap w (xs.length + ys.length) oldc u - (xs.length + ys.length))) u)) →
        Oper.upon P o a Kc Qc ((execOp a.eval o).run P w) := by
      intro olds oldc hro hzx hrun
      rw [hexec _ _ hrun]
      have hlo : olds.length = xs.length * e.size := by rw [hro.1, flatten_len hzx, hz]
      have hzvs : zv.cells.size = e.size := by rw [← hzl, hzz]; simp
      generalize hcap : grownCap w (xs.length + ys.length) oldc u = cap
      have hge : xs.length + ys.length ≤ cap := by rw [← hcap]; exact grownCap_ge _ _ _ _
      have hcm : cap ≤ maxLen := by rw [← hcap]; exact grownCap_le_maxLen _ _ _ _ (by unfold maxLen; omega)
      have hall : RepL G (xs ++ ys).flatten (olds ++ us) := by rw [List.flatten_append]; exact hro.append hry
      have hzall : ∀ y ∈ xs ++ ys, y.length = z := fun y hy => by
        rcases List.mem_append.1 hy with h | h
        · exact hzx y h
        · rw [hzys y h, hzy', hz]
      obtain ⟨G', rfl, s1, g1, f1⟩ := sm.setCont (k := k) (xs := xs ++ ys) (B := w.heap.size) (z := z) (c := cap)
        (w' := w.drew.alloc (.cells (olds.toArray ++ us.toArray ++ Builtin.zeroCells zv.cells (cap - (xs.length + ys.length))) u)) (arr := olds.toArray ++ us.toArray ++ Builtin.zeroCells zv.cells (cap - (xs.length + ys.length))) (E := u) hT
        (fun b hb _ => RowKit.Below.heap_alloc w.drew _ b hb) (heap_alloc_new w.drew _) (by
          simp only [Array.size_append, List.size_toArray, size_zeroCells, hzvs, hlo, hlu, ← Nat.add_mul]
          rw [hz]; congr 1; omega) (fun o => sm.hs.val_new (Nat.le_refl _) o) hzall (by
          have : ((olds.toArray ++ us.toArray ++ Builtin.zeroCells zv.cells (cap - (xs.length + ys.length))).toList.take (xs ++ ys).flatten.length) = olds ++ us := by
            rw [Array.toList_append, Array.toList_append, List.take_append_of_le_length (by rw [← hall.1]; simp), List.take_of_length_le (by rw [← hall.1]; simp)]
          rw [this]; exact hall) (by simp; omega) hcm (by simp; omega) (.inl (by simp; omega)) (.inl (Nat.le_refl _)) rfl rfl rfl (by simp)
      refine hk _ _ _ hK (In.put s1 (hg.trans g1) (hf.trans f1) hL o.dst (RepT.of ?_))
      have hrep := rep_arr (G' := { G with tl := upd G.tl k (some (some ⟨w.heap.size, (xs ++ ys).length, z, cap⟩)) }) (upd_same _ _ _) hkk (by simp; omega)
      rw [List.length_append, hn] at hrep ⊢
      exact hrep
    rcases htk with ⟨htl, h0⟩ | ⟨tt, vs, E, htl, htm, htpos, hth, hts, htc, htcm, htf, htz, hzx, hrr⟩
    · subst h0
      rw [htl] at hm
      obtain ⟨rfl, ad, e2⟩ := hm
      simp only [Value.slice.injEq, true_and] at e2
      obtain ⟨rfl, rfl⟩ := e2
      cases b with
      | none =>
        have hrun := run_append_nil (P := P) w t o.type u i zv hu hi hiz ⟨gy, oy, none⟩ ys.length cy us (by rw [hisz]; exact hlu) hcell hm0' (by simp at h63; omega) (by rw [hiby]; simp at hb; omega)
        refine hgrow [] 0 (RepL.nil G) (by simp) ?_
        simpa using hrun
      | some ad =>
        have hrun := run_append_grow (P := P) w t o.type u i zv hu hi hiz ad 0 0 [] (by simp) (by simp) ⟨gy, oy, none⟩ ys.length cy us (by rw [hisz]; exact hlu) hcell (by omega) (by simp at h63 ⊢; omega) (by rw [hiby]; exact growslice_fits (by omega) (by simpa using hb))
        refine hgrow [] 0 (RepL.nil G) (by simp) ?_
        simpa using hrun
    · rw [htl] at hm
      obtain ⟨hxe, _⟩ := hm.2 (by rw [htm, hn])
      simp only [Value.slice.injEq, true_and] at hxe
      obtain ⟨rfl, rfl⟩ := hxe
      have hfl := flatten_len hzx
      have hcl : xs.length * z ≤ tt.c * z := Nat.mul_le_mul_right _ (by omega)
      rw [htz] at hts
      have holdl : (vs.toList.take xs.flatten.length).length = xs.length * e.size := by rw [hrr.1, hfl, hz]
      subst hn
      by_cases hroom : xs.length + ys.length ≤ tt.c
      · have hroom2 : (xs.length + ys.length) * z ≤ tt.c * z := Nat.mul_le_mul_right _ hroom
        rw [Nat.add_mul] at hroom2
        have hfit : xs.length * i.size + us.length ≤ vs.size := by rw [hisz, hlu, hts, ← hz]; exact hroom2
        have hrun := append_room_run w t o.type u i hu hi tt.g xs.length tt.c vs E hth ⟨gy, oy, none⟩ ys.length cy us (by rw [hisz]; exact hlu) hcell h1us hroom hfit
        rw [hexec _ _ hrun]
        have hsl : (splice vs.toList (xs.length * i.size) us).length = vs.size := by rw [splice_len _ _ _ (by simpa using hfit)]; simp
        have hall : RepL G (xs ++ ys).flatten (vs.toList.take xs.flatten.length ++ us) := by rw [List.flatten_append]; exact hrr.append hry
        have hzall : ∀ y ∈ xs ++ ys, y.length = z := fun y hy => by
          rcases List.mem_append.1 hy with h | h
          · exact hzx y h
          · rw [hzys y h, hzy', hz]
        obtain ⟨G', rfl, s1, g1, f1⟩ := sm.setCont (k := k) (xs := xs ++ ys) (B := tt.g) (z := z) (c := tt.c)
          (w' := w.setRow tt.g (splice vs.toList (xs.length * i.size) us).toArray) (arr := (splice vs.toList (xs.length * i.size) us).toArray) (E := E) hT
          (fun b _ hne => heap_setRow _ hne) (setRow_heap w tt.g vs _ E (0, 0) hth) (by rw [List.size_toArray, hsl, hts]) htf hzall (by
            have : (splice vs.toList (xs.length * i.size) us).toArray.toList.take (xs ++ ys).flatten.length = vs.toList.take xs.flatten.length ++ us := by
              have e3 : xs.flatten.length = xs.length * i.size := by rw [hfl, hisz, hz]
              simp only [splice, e3]
              rw [List.take_append_of_le_length (by rw [← hall.1]; simp [e3]), List.take_of_length_le (by rw [← hall.1]; simp [e3])]
            rw [this]; exact hall) (by simp; omega) htcm (by simp; omega) (.inl (by simp; omega)) (.inr ⟨tt, htl, rfl⟩) (by simp) (by simp) (by simp) (by simp)
        refine hk _ _ _ hK (In.put s1 (hg.trans g1) (hf.trans f1) hL o.dst (RepT.of ?_))
        have hrep := rep_arr (G' := { G with tl := upd G.tl k (some (some ⟨tt.g, (xs ++ ys).length, z, tt.c⟩)) }) (upd_same _ _ _) hkk (by simp; omega)
        rw [List.length_append] at hrep ⊢
        exact hrep
      · have holds : ∀ j v, (vs.toList.take xs.flatten.length)[j]? = some v → w.cell? ((⟨tt.g, 0, none⟩ : Addr).add j) = some v := fun j v hj => by
          rw [List.getElem?_take] at hj
          split at hj
          · rw [Addr.add_lit, Nat.zero_add]; simpa [World.cell?, hth] using hj
          · cases hj
        have hrun := run_append_grow (P := P) w t o.type u i zv hu hi hiz ⟨tt.g, 0, none⟩ xs.length tt.c (vs.toList.take xs.flatten.length) (by rw [hisz]; exact holdl) holds ⟨gy, oy, none⟩ ys.length cy us (by rw [hisz]; exact hlu) hcell (by omega) (by omega) (by rw [hiby]; exact growslice_fits (by omega) hb)
        exact hgrow _ tt.c hrr hzx hrun
/-- A new written array. -/
theorem Sim.newArr {G : Gh} {L : List Nat} {s : St} {a : Act} {w : World} (sm : Sim G L s a w) {z : Nat} {xs : List (List AV)} {arr : Array Value} (E : TypeId) (hzx : ∀ x ∈ xs, x.length = z) (hr : RepL G xs.flatten arr.toList) (hcm : xs.length ≤ maxLen) :
    ∃ G', s.h.T G.nx = none ∧ Sim G' L { s with h := { s.h with T := upd s.h.T G.nx (some (.cont z xs)) } } a (w.alloc (.cells arr E)) ∧ GLe G G' ∧ Fr G s.h w G' { s.h with T := upd s.h.T G.nx (some (.cont z xs)) } (w.alloc (.cells arr E)) ∧ Rep G' (.arr z G.nx xs.length) (.slice (some ⟨w.heap.size, 0, none⟩) xs.length xs.length) := by
  obtain ⟨hT, s1, g1, f1⟩ := sm.newTok (o := .cont z []) (.inr ⟨z, rfl⟩)
  have hb : ∀ b, b < w.heap.size → (w.alloc (.cells arr E)).heap[b]? = w.heap[b]? := fun b hb => RowKit.Below.heap_alloc w _ b hb
  by_cases h0 : xs = []
  · subst h0
    refine ⟨G.newTk, hT, s1.below hb, g1, f1.trans (Fr.below (Fr.refl _ _ _) hb rfl rfl rfl (by simp)), .arr _ _ _ _ _ _ ⟨by simp [Gh.newTk], ⟨_, _, rfl, Nat.le_refl _, .inr ⟨_, rfl⟩⟩, ?_⟩⟩
    have : G.newTk.tl G.nx = some none := upd_same _ _ _
    rw [this]
    exact ⟨rfl, _, rfl⟩
  · have hl : 0 < xs.length := List.length_pos_iff.2 h0
    have hlen := flatten_len hzx
    obtain ⟨G', rfl, s2, g2, f2⟩ := s1.setCont (k := G.nx) (z := z) (xs := xs) (B := w.heap.size) (c := xs.length) (w' := w.alloc (.cells arr E)) (arr := arr) (E := E) (upd_same _ _ _) (fun b hb' _ => hb b hb') (heap_alloc_new w _)
      (by have := hr.1; simp only [Array.length_toList] at this; rw [this, hlen]) (fun o => sm.hs.val_new (Nat.le_refl _) o) hzx (by rw [List.take_of_length_le (by rw [hr.1]; exact Nat.le_refl _)]; exact hr.mono g1) (Nat.le_refl _) hcm hl (.inl (by simpa using hl)) (.inl (Nat.le_refl _)) rfl rfl rfl (by simp)
    simp only [upd_upd] at s2 f2
    exact ⟨_, hT, s2, g1.trans g2, f1.trans f2, rep_arr (upd_same _ _ _) (by simp [Gh.newTk]) (Nat.le_refl _)⟩
theorem a_makeSlice (hty : TyOk P ty) {t : Nat} {x y : Operand} (ho : o.op = .makeSlice t x y) {e : TyD} (he : elemD ty t = some e) {k1 k2 : IntKind} {n : Int} (hx : s.ev x = .v (.int k1 n)) (hy : s.ev y = .v (.int k2 n)) (h0 : 0 ≤ n) (h1 : e.size = 1) (hzl : e.zero.length = 1)
    (hb : n * e.bytes ≤ 140737488355328) (h63 : n ≤ 9223372036854775807) {K : St → Prop} (hK : ∀ k, s.h.T k = none → K ({ s with h := { s.h with T := upd s.h.T k (some (.cont 1 (List.replicate n.toNat e.zero))) } }.put o.dst (.arr 1 k n.toNat))) : Aop P c o s K := by
  rintro a w ⟨G, L, sm, hg, hf, hL⟩ Kc Qc hk
  obtain ⟨u, hu, hue⟩ := elemD_info hty he
  obtain ⟨i, D, zv, hi, hD, hisz, hiby, _, hiz, hz1, hzz⟩ := tyd_info hue
  have hzc : zv.cells.size = 1 := by rw [hzz] at hzl; simpa using hzl
  obtain ⟨v0, hv0⟩ : ∃ v0, zv.cells = #[v0] := ⟨zv.cells[0], by apply Array.ext (by simp [hzc]); intro j hj hj'; simp at hj'; subst hj'; rfl⟩
  have hv1 : v0.oneCell' = true := by rw [hv0] at hz1; simpa using hz1
  have hez : e.zero = [.v v0] := by rw [hzz, hv0]; rfl
  unfold Oper.wp
  have hrun := run_make (P := P) w t u i zv hu hi hiz k1 k2 n n h0 (Int.le_refl _) (by rw [hiby, Int.mul_comm]; omega) h63
  obtain ⟨G', hT, s1, g1, f1, r1⟩ := sm.newArr (z := 1) (xs := List.replicate n.toNat e.zero) (arr := madeCells zv.cells (n.toNat * i.size)) u (fun x hx => by rw [(List.mem_replicate.1 hx).2]; exact hzl) (by
    rw [hv0, hisz, h1, Nat.mul_one, toList_madeCells_one, hez]
    refine ⟨by simp, fun j hj hj' => ?_⟩
    have hf : (List.replicate n.toNat [AV.v v0]).flatten = List.replicate n.toNat (.v v0) := by
      induction n.toNat with
      | zero => rfl
      | succ m ih => simp [List.replicate_succ, ih]
    simp only [hf, List.getElem_replicate]
    exact ⟨.v _ hv1, hv1⟩) (by simp [maxLen]; omega)
  simp only [List.length_replicate] at r1
  have hrun' : (execOp a.eval o).run P w = .ok (.value (.slice (some ⟨w.heap.size, 0, none⟩) n.toNat n.toNat)) (w.alloc (.cells (madeCells zv.cells (n.toNat * i.size)) u)) := by
    simp only [execOp, ho, sm.evv hx, sm.evv hy, Sem.run_bind, hrun, Result.andThen_ok, Sem.run_pure]
  rw [hrun']
  exact hk _ _ _ (hK _ hT) (In.put s1 (hg.trans g1) (hf.trans f1) hL o.dst (RepT.of r1))
theorem a_slice0 (hty : TyOk P ty) {t : Nat} {parts : Array (Nat × Operand)} (ho : o.op = .buildSlice t 0 parts) (hp : parts.toList.map (·.1) = List.range 0) {e : TyD} (he : elemD ty t = some e) {K : St → Prop}
    (hK : ∀ k, s.h.T k = none → K ({ s with h := { s.h with T := upd s.h.T k (some (.cont e.size [])) } }.put o.dst (.arr e.size k 0))) : Aop P c o s K := by
  rintro a w ⟨G, L, sm, hg, hf, hL⟩ Kc Qc hk
  obtain ⟨u, hu, hue⟩ := elemD_info hty he
  have hpe : parts.toList = [] := by cases h : parts.toList with | nil => rfl | cons x l => rw [h] at hp; simp at hp
  obtain ⟨G', hT, s1, g1, f1, r1⟩ := sm.newArr (z := e.size) (xs := []) (arr := #[]) u (by simp) (RepL.nil G) (by simp [maxLen])
  unfold Oper.wp
  have hrun : (execOp a.eval o).run P w = .ok (.value (.slice (some ⟨w.heap.size, 0, none⟩) 0 0)) (w.alloc (.cells #[] u)) := by
    have hns : ¬ (0 * e.size > 2 ^ 24) := by omega
    simp only [execOp, ho, Instr.buildSlice, Sem.run_bind, run_underlying hu, Result.andThen_ok, sizeOf_run hue, hns, if_false, Sem.run_pure]
    simp only [Array.toList_map, hpe, Instr.fill, newRow, List.map_nil, Sem.run_bind, run_newObj, Sem.run_pure, Result.andThen_ok, World.alloc_eq, Nat.zero_mul, ↓reduceIte]
    rw [show Array.range 0 = #[] from rfl, Array.map_empty]
  rw [hrun]
  exact hk _ _ _ (hK _ hT) (In.put s1 (hg.trans g1) (hf.trans f1) hL o.dst (RepT.of r1))
/-- A slice of no elements that may be appended to. -/
theorem a_slice0t (hty : TyOk P ty) {t : Nat} {parts : Array (Nat × Operand)} (ho : o.op = .buildSlice t 0 parts) (hp : parts.toList.map (·.1) = List.range 0) {e : TyD} (he : elemD ty t = some e) {K : St → Prop}
    (hK : ∀ k, s.h.T k = none → K ({ s with h := { s.h with T := upd s.h.T k (some (.tail 0)) } }.put o.dst (.row e.size [] (some k)))) : Aop P c o s K := by
  rintro a w ⟨G, L, sm, hg, hf, hL⟩ Kc Qc hk
  obtain ⟨u, hu, hue⟩ := elemD_info hty he
  have hpe : parts.toList = [] := by cases h : parts.toList with | nil => rfl | cons x l => rw [h] at hp; simp at hp
  obtain ⟨hT, s1, g1, f1⟩ := sm.newTok (o := .tail 0) (.inl rfl)
  have hb : ∀ b, b < w.heap.size → (w.alloc (.cells #[] u)).heap[b]? = w.heap[b]? := fun b hb => RowKit.Below.heap_alloc w _ b hb
  unfold Oper.wp
  have hrun : (execOp a.eval o).run P w = .ok (.value (.slice (some ⟨w.heap.size, 0, none⟩) 0 0)) (w.alloc (.cells #[] u)) := by
    have hns : ¬ (0 * e.size > 2 ^ 24) := by omega
    simp only [execOp, ho, Instr.buildSlice, Sem.run_bind, run_underlying hu, Result.andThen_ok, sizeOf_run hue, hns, if_false, Sem.run_pure]
    simp only [Array.toList_map, hpe, Instr.fill, newRow, List.map_nil, Sem.run_bind, run_newObj, Sem.run_pure, Result.andThen_ok, World.alloc_eq, Nat.zero_mul, ↓reduceIte]
    rw [show Array.range 0 = #[] from rfl, Array.map_empty]
  rw [hrun]
  refine hk _ _ _ (hK _ hT) (In.put (s1.below hb) (hg.trans g1) (hf.trans (f1.trans (Fr.below (Fr.refl _ _ _) hb rfl rfl rfl (by simp)))) hL o.dst (RepT.of ?_))
  refine .row _ [] _ _ _ _ _ (fun _ => undef) rfl (Nat.le_refl _) (by simp) (fun j hj => by simp at hj) (fun j hj => by simp at hj) (fun j hj => by simp at hj) ⟨by simp [Gh.newTk], ?_⟩
  have : G.newTk.tl G.nx = some none := upd_same _ _ _
  rw [this]
  exact ⟨rfl, _, rfl⟩
end
end Go.Proofs.YtoleejecmefogaaDoor
/- Calls: what a function does, told in trees. -/
namespace Go.Proofs.YtoleejecmefogaaDoor
open Go
def fnOk (P : Program) (f : Nat) : Bool := match P.funcs[f]? with | some fn => fn.body.isSome && !(fn.name == "runtime.NumGoroutine") | none => false
structure ACalls (P : Program) (f : Nat) (args : List AV) (h : Hp) (R : AV → Hp → Prop) : Prop where
  ok : fnOk P f = true
  calls : ∀ G w (vs : Array Value), HSim G h w → vs.size = args.length → (∀ j (hj : j < args.length), Rep G args[j] (vs.getD j undef)) →
    Calls P f vs w fun e w' => ∃ r h' G' v, e = .returned v ∧ R r h' ∧ GLe G G' ∧ Fr G h w G' h' w' ∧ HSim G' h' w' ∧ Rep G' r v
theorem ACalls.mono {P : Program} {f : Nat} {args : List AV} {h : Hp} {R R' : AV → Hp → Prop} (hc : ACalls P f args h R) (hr : ∀ r h', R r h' → R' r h') : ACalls P f args h R' :=
  ⟨hc.1, fun G w vs hs hl ha => (hc.2 G w vs hs hl ha).mono fun _ _ ⟨r, h', G', v, e, q, x⟩ => ⟨r, h', G', v, e, hr _ _ q, x⟩⟩
def AV.noLoc : AV → Bool
  | .loc _ _ => false
  | .opt _ _ => false
  | _ => true
theorem RepT.base {G : Gh} {L : List Nat} {x : AV} {v : Value} (h : RepT G L x v) (hn : x.noLoc = true) : Rep G x v := by
  cases x <;> first | exact h | simp [AV.noLoc] at hn
def Weak (r r' : AV) : Prop := ∀ G v, Rep G r v → Rep G r' v
theorem Weak.refl (r : AV) : Weak r r := fun _ _ h => h
theorem Weak.nil (z n c : Nat) (h : n = 0 ∧ c = 0) : Weak (.v (.slice none n c)) (.row z [] none) := fun G v hr => by
  obtain ⟨rfl, rfl⟩ := h
  cases hr with
  | v _ _ => exact .nil z none trivial
theorem Weak.row (z : Nat) (xs : List (List AV)) (k : Option Nat) : Weak (.row z xs k) (.row z xs none) := fun G v hr => by
  cases hr with
  | row _ _ _ g o n c u hn hc hz hu hr h1 ht => exact .row z xs none g o n c u hn hc hz hu hr h1 trivial
  | nil => exact .nil z none trivial
  | nilA _ a => exact .nilA z a
theorem Weak.tup1 {a a' b b' : AV} (ha : Weak a a') (hb : Weak b b') : Weak (.tup [a, b]) (.tup [a', b']) := fun G v hr => by
  cases hr with
  | tup _ vs u hl hu hr =>
    refine .tup _ vs u (by simpa using hl) (fun j hj => hu j (by simpa using hj)) (fun j hj => ?_)
    rcases j with _ | _ | j
    · exact ha G _ (hr 0 (by simp))
    · exact hb G _ (hr 1 (by simp))
    · simp only [List.length_cons, List.length_nil] at hj; omega
section
variable {P : Program} {c : Cx} {o : Oper} {s : St} {ty : Nat → Option TyD}
theorem LSim.fr {G G' : Gh} {L : List Nat} {lo : List (List AV)} {h h' : Hp} {w w' : World} (ls : LSim G L lo h w) (g : GLe G G') (f : Fr G h w G' h' w') : LSim G' L lo h' w' where
  len := ls.len
  lo j b cs e e' := by
    have hb := List.mem_of_getElem? e
    obtain ⟨vs, E, x, y, r⟩ := ls.lo j b cs e e'
    exact ⟨vs, E, by rw [(f.keep b (ls.lt hb) (ls.free b hb).1).1]; exact x, y, r.mono g⟩
  free b hb := by
    obtain ⟨_, y, z⟩ := f.keep b (ls.lt hb) (ls.free b hb).1
    exact ⟨y, fun o => (z o).trans ((ls.free b hb).2 o)⟩
  nd := ls.nd
theorem callFunc_run {f : Nat} (hf : fnOk P f = true) (vs : Array Value) (w : World) : (callFunc f vs).run P w = .ok (.enter f vs) w := by
  unfold fnOk at hf
  split at hf
  · rename_i fn hfn
    simp only [Bool.and_eq_true, Bool.not_eq_true'] at hf
    have hb : fn.body.isNone = false := by cases hb : fn.body <;> simp_all
    simp only [callFunc, Sem.run_bind, run_program, Result.andThen_ok, hfn, hf.2, hb, Bool.false_eq_true, if_false, Sem.run_pure]
  · cases hf
theorem a_call {f : Operand} {args : Array Operand} {ts : Array TypeId} (ho : o.op = .call { callee := .value f, args := args, argTypes := ts }) {fid : Nat} {caps : List AV} (hf : s.ev f = .fn fid caps) (hn : (args.toList.map s.ev).all AV.noLoc = true) {K : St → Prop}
    (hc : ACalls P fid (args.toList.map s.ev ++ caps) s.h (fun r h' => K ({ s with h := h' }.put o.dst r))) : Aop P c o s K := by
  rintro a w ⟨G, L, sm, hg, hfr, hL⟩ Kc Qc hk
  have hfv := sm.eve hf
  generalize hq : a.eval f = q at hfv
  have hfv' : Rep G (.fn fid caps) q := hfv
  cases hfv' with
  | fn _ _ cvs u hl hu hr =>
  have hrun : (execOp a.eval o).run P w = .ok (.enter fid (args.map a.eval ++ cvs)) w := by
    simp only [execOp, ho, resolve, hq, Deferred.ofValue, Sem.run_bind, Sem.run_pure, Result.andThen_ok, invoke]
    rw [callFunc_run hc.1]
    simp
  unfold Oper.wp
  rw [hrun]
  refine (hc.2 G w (args.map a.eval ++ cvs) sm.hs (by simp [hl]) (fun j hj => ?_)).mono ?_
  · by_cases hja : j < args.size
    · have e1 : (args.map a.eval ++ cvs).getD j undef = a.eval args[j] := by
        rw [Array.getD_eq_getD_getElem?, Array.getElem?_append_left (by simpa using hja), Array.getElem?_map, Array.getElem?_eq_getElem hja]; rfl
      rw [e1, List.getElem_append_left (by simpa using hja)]
      simp only [List.getElem_map, Array.getElem_toList]
      exact (sm.ev args[j]).base (List.all_eq_true.1 hn _ (List.mem_map.2 ⟨args[j], by simp, rfl⟩))
    · have hj2 : j - args.size < caps.length := by simp at hj; omega
      have e1 : (args.map a.eval ++ cvs).getD j undef = u (j - args.size) := by
        rw [Array.getD_eq_getD_getElem?, Array.getElem?_append_right (by simp; omega), Array.size_map, hu _ hj2]; rfl
      rw [e1, List.getElem_append_right (by simp; omega)]
      simp only [List.length_map, Array.length_toList]
      exact hr _ hj2
  · rintro e w' ⟨r, h', G', v, rfl, hK, g1, f1, hs1, hrv⟩
    exact hk _ _ _ hK (In.put (s := { s with h := h' }) ⟨hs1, sm.sz, fun t ht => (sm.sl t ht).mono g1, sm.df, sm.ls.fr g1 f1⟩ (hg.trans g1) (hfr.trans f1) hL o.dst (RepT.of hrv))
/-- A function's results. -/
def res1 (ty : Nat → Option TyD) (s : St) (K : AV → Prop) : ResultVar → Prop
  | .tmp t => (s.sl.getD t .junk).noLoc = true ∧ K (s.sl.getD t .junk)
  | .cell a t => match ty t, cellsAt s.lo s.h (s.sl.getD a .junk) with
    | some d, some (cs, o) => ldOk d cs o ∧ K (ld d cs o)
    | _, _ => False
def resL (ty : Nat → Option TyD) (s : St) : List ResultVar → (List AV → Prop) → Prop
  | [], K => K []
  | rv :: r, K => res1 ty s (fun x => resL ty s r fun xs => K (x :: xs)) rv
def resV (ty : Nat → Option TyD) (s : St) (rs : List ResultVar) (K : AV → Prop) : Prop :=
  match rs with
  | [rv] => res1 ty s K rv
  | rs => resL ty s rs fun xs => K (.tup xs)
def res1Run (tmps : Array Value) : ResultVar → Sem Value
  | .tmp t => pure (tmps.getD t undef)
  | .cell a t => do loadVar t (← asAddr (tmps.getD a undef))
theorem res1_sound (hty : TyOk P ty) {G : Gh} {L : List Nat} {a : Act} {w : World} (sm : Sim G L s a w) {K : AV → Prop} (rv : ResultVar) (h : res1 ty s K rv) : ∃ x v, K x ∧ (res1Run a.tmps rv).run P w = .ok v w ∧ Rep G x v := by
  cases rv with
  | tmp t =>
    obtain ⟨hn, hK⟩ := h
    exact ⟨_, a.tmps.getD t undef, hK, rfl, (sm.ev (.tmp t)).base hn⟩
  | cell at_ t =>
    simp only [res1] at h
    split at h
    · rename_i d cs o hd hc
      obtain ⟨g, b, us, e, hr, hu⟩ := cellsAt_sound sm (sm.ev (.tmp at_)) hc
      obtain ⟨v, hv, hrep⟩ := load_run (hty _ _ hd) hr hu h.1
      have e' : a.tmps.getD at_ undef = .pointer (some ⟨g, b + o, none⟩) := e
      exact ⟨_, v, h.2, by simp only [res1Run, e', asAddr, Sem.run_bind, Sem.run_pure, Result.andThen_ok, hv], hrep⟩
    · exact h.elim
theorem resL_sound (hty : TyOk P ty) {G : Gh} {L : List Nat} {a : Act} {w : World} (sm : Sim G L s a w) : ∀ (rs : List ResultVar) {K : List AV → Prop} (_ : resL ty s rs K),
    ∃ (xs : List AV) (vs : List Value), K xs ∧ (rs.mapM (res1Run a.tmps)).run P w = .ok vs w ∧ vs.length = xs.length ∧ xs.length = rs.length ∧ ∀ j (hj : j < xs.length) (hj' : j < vs.length), Rep G xs[j] vs[j]
  | [], K, h => ⟨[], [], h, rfl, rfl, rfl, fun j hj => by simp at hj⟩
  | rv :: rs, K, h => by
    obtain ⟨x, v, hK, hv, hr⟩ := res1_sound hty sm rv h
    obtain ⟨xs, vs, hK2, hvs, hl, hl2, hrs⟩ := resL_sound hty sm rs hK
    refine ⟨x :: xs, v :: vs, hK2, ?_, by simp [hl], by simp [hl2], fun j hj hj' => ?_⟩
    · rw [List.mapM_cons]
      simp only [Sem.run_bind, hv, Result.andThen_ok, hvs, Sem.run_pure]
    · cases j with
      | zero => exact hr
      | succ j => exact hrs j (by simpa using hj) (by simpa using hj')
theorem results_sound (hty : TyOk P ty) {G : Gh} {L : List Nat} {a : Act} {w : World} (sm : Sim G L s a w) (fn : Func) {K : AV → Prop} (h : resV ty s fn.results.toList K) : ∃ x v, K x ∧ (results fn a.tmps).run P w = .ok v w ∧ Rep G x v := by
  have hres : results fn a.tmps = (do let vs ← fn.results.mapM (res1Run a.tmps); pure (if h : vs.size = 1 then vs[0] else .tuple vs)) := by
    unfold results
    congr 1
    first | (congr 1; funext rv; cases rv <;> rfl) | skip
  have harr : ∀ vs : List Value, (fn.results.toList.mapM (res1Run a.tmps)).run P w = .ok vs w → (results fn a.tmps).run P w = .ok (if h : vs.toArray.size = 1 then vs.toArray[0] else .tuple vs.toArray) w := fun vs hv => by
    rw [hres, Array.mapM_eq_mapM_toList]
    simp only [Sem.run_bind, Sem.run_map, hv, Result.andThen_ok, Sem.run_pure]
  unfold resV at h
  split at h
  · rename_i rv hrs
    obtain ⟨x, v, hK, hv, hr⟩ := res1_sound hty sm rv h
    refine ⟨x, v, hK, ?_, hr⟩
    have := harr [v] (by rw [hrs, List.mapM_cons]; simp only [Sem.run_bind, hv, Result.andThen_ok, List.mapM_nil, Sem.run_pure])
    rw [this]; rfl
  · rename_i hne
    obtain ⟨xs, vs, hK, hv, hl, hl2, hr⟩ := resL_sound hty sm _ h
    have hlen : vs.length ≠ 1 := fun e => by
      rw [hl, hl2] at e
      match hrs : fn.results.toList, e with
      | [rv], _ => exact hne rv hrs
    refine ⟨.tup xs, .tuple vs.toArray, hK, ?_, ?_⟩
    · rw [harr vs hv, dif_neg (by simpa using hlen)]
    · refine .tup xs vs.toArray (fun j => vs.getD j undef) (by simpa using hl) (fun j hj => ?_) (fun j hj => ?_)
      all_goals have hj' : j < vs.length := by omega
      · simp [List.getD_eq_getElem?_getD, List.getElem?_eq_getElem hj']
      · show Rep G _ (vs.getD j undef)
        rw [List.getD_eq_getElem?_getD, List.getElem?_eq_getElem hj']
        exact hr j hj hj'
/-- The end of a function's body. -/
def retQ (ty : Nat → Option TyD) (rs : List ResultVar) (R : AV → Hp → Prop) : Exit → St → Prop
  | .ret, s | .normal, s => resV ty s rs fun r => ∃ r' h', Weak r r' ∧ Hp.le h' s.h ∧ R r' h'
  | _, _ => False
theorem acalls_of (hty : TyOk P ty) {f : Nat} {fn : Func} {code : Code} {args : List AV} {h : Hp} {R : AV → Hp → Prop} (hf : P.funcs[f]? = some fn) (hb : fn.body = some code) (hok : fnOk P f = true)
    (hw : ∀ c : Cx, Awp P c code (retQ ty fn.results.toList R) ⟨args ++ List.replicate (fn.ntmps - args.length) .junk, [], h⟩) : ACalls P f args h R := by
  refine ⟨hok, fun G w vs hs hl ha => ?_⟩
  refine calls_of_wp hf hb (Code.wp_mono ?_ (hw ⟨G, h, w⟩ _ w ⟨G, [], ⟨hs, ?_, fun t ht => ?_, rfl, ⟨rfl, fun j b cs e => by simp at e, fun b hb => by simp at hb, List.nodup_nil⟩⟩, GLe.refl _, Fr.refl _ _ _, fun b hb => by simp at hb⟩))
  · rintro e a w' ⟨s, hq, G', L, sm, hg, hfr, _⟩
    have fin : resV ty s fn.results.toList (fun r => ∃ r' h', Weak r r' ∧ Hp.le h' s.h ∧ R r' h') → a.defers = [] ∧ ∃ v, (results fn a.tmps).run P w' = .ok v w' ∧ (∃ r h' G' v', (Ending.returned v) = Ending.returned v' ∧ R r h' ∧ GLe G G' ∧ Fr G h w G' h' w' ∧ HSim G' h' w' ∧ Rep G' r v') := fun hq => by
      obtain ⟨x, v, ⟨r', h', hwk, hle, hR⟩, hv, hr⟩ := results_sound hty sm fn hq
      exact ⟨sm.df, v, hv, r', h', G', v, rfl, hR, hg, hfr.less hle, sm.hs.less hle, hwk _ _ hr⟩
    cases e with
    | ret => exact fin hq
    | normal => exact fin hq
    | _ => exact hq.elim
  · simp [hl]
  · by_cases hj : t < args.length
    · have e1 : (vs ++ Array.replicate (fn.ntmps - vs.size) undef).getD t undef = vs.getD t undef := by
        simp only [Array.getD_eq_getD_getElem?]
        rw [Array.getElem?_append_left (by omega)]
      show RepT G [] _ ((vs ++ Array.replicate (fn.ntmps - vs.size) undef).getD t undef)
      rw [e1]
      simp only [List.getElem_append_left hj]
      exact RepT.of (ha t hj)
    · rw [List.getElem_append_right (by omega)]
      simp only [List.getElem_replicate]
      exact RepT.junk _
end
end Go.Proofs.YtoleejecmefogaaDoor
/- What an operation does, as one function of what is told. -/
namespace Go.Proofs.YtoleejecmefogaaDoor
open Go
def bndE (ev : Operand → AV) (x : Option Operand) (d : Int) : Option Int :=
  match x with
  | none => some d
  | some x => match ev x with
    | .v (.int _ n) => some n
    | _ => none
def boolOk (d : TyD) : AV → Bool
  | .v (.bool _) => match d.kind with | .bool => true | _ => false
  | _ => true
def convI (k : IntKind) (n : Int) (K : AV → Prop) : Prop :=
  match k with
  | .i64 => (-9223372036854775808 ≤ n ∧ n ≤ 9223372036854775807) ∧ K (.v (.int .i64 n))
  | k => K (.v (.int k (k.wrap n)))
def allTy (ty : Nat → Option TyD) (d : TyD) : Bool := match d.kind with | .struct fs => fs.all (fun f => (ty f.2).isSome) | _ => false
def storeE (d : TyD) (lo : List (List AV)) (h : Hp) (ds : List AV) (K : List (List AV) → Hp → Prop) : AV → Prop
  | .loc j off => match lo[j]? with
    | some cs => off + d.size ≤ cs.length ∧ K (lo.set j (splice cs off ds)) h
    | none => False
  | .ptr i off => match h.H i with
    | some (.cells cs) => off + d.size ≤ cs.length ∧ K lo { h with H := upd h.H i (some (.cells (splice cs off ds))) }
    | _ => False
  | .eptr k n i f => match h.T k with
    | some (.cont z xs) => (xs.length = n ∧ i < n ∧ f + d.size ≤ z) ∧ K lo { h with T := upd h.T k (some (.cont z (xs.set i (splice (xs.getD i []) f ds)))) }
    | _ => False
  | _ => False
def newE (h : Hp) (cs : List AV) (K : Hp → AV → Prop) : Prop := ∀ i, h.H i = none → K { h with H := upd h.H i (some (.cells cs)) } (.ptr i 0)
def sliceE (ty : Nat → Option TyD) (t : Nat) (l n : Option Operand) (ev : Operand → AV) (K : AV → Prop) : AV → Prop
  | .row z xs _ => match elemD ty t, bndE ev l 0, bndE ev n xs.length with
    | some e, some l, some n => (0 ≤ l ∧ l ≤ n ∧ n ≤ xs.length ∧ z = e.size) ∧ K (.row z ((xs.drop l.toNat).take (n.toNat - l.toNat)) none)
    | _, _, _ => False
  | .v (.string b) => match bndE ev l 0, bndE ev n b.size with
    | some l, some n => (isStr ty t = true ∧ 0 ≤ l ∧ l ≤ n ∧ n ≤ b.size) ∧ K (.v (.string (b.extract l.toNat n.toNat)))
    | _, _ => False
  | _ => False
def appE (e : TyD) (h : Hp) (K : Hp → AV → Prop) (y : AV) : AV → Prop
  | .row z xs (some k) => match rowOf y with
    | some (zy, ys) => (z = e.size ∧ h.T k = some (.tail xs.length) ∧ (zy = e.size ∨ ys = []) ∧ 0 < e.size ∧ e.zero.length = e.size) ∧ ((xs.length + ys.length) * e.bytes ≤ 140737488355328 ∧ xs.length + ys.length ≤ 9223372036854775807) ∧
        K { h with T := upd h.T k (some (.tail (xs.length + ys.length))) } (.row z (xs ++ ys) (some k))
    | none => False
  | .arr z k n => match rowOf y, h.T k with
    | some (zy, ys), some (.cont z' xs) => (z = e.size ∧ z' = z ∧ xs.length = n ∧ (zy = e.size ∨ ys = []) ∧ 0 < e.size ∧ e.zero.length = e.size) ∧ ((xs.length + ys.length) * e.bytes ≤ 140737488355328 ∧ xs.length + ys.length ≤ 9223372036854775807) ∧
        K { h with T := upd h.T k (some (.cont z (xs ++ ys))) } (.arr z k (n + ys.length))
    | _, _ => False
  | .v (.slice none 0 0) => match rowOf y with
    | some (zy, ys) => (zy = e.size ∧ 0 < e.size ∧ e.zero.length = e.size) ∧ (ys.length * e.bytes ≤ 140737488355328 ∧ ys.length ≤ 9223372036854775807) ∧
        ∀ k, h.T k = none → K { h with T := upd h.T k (some (.tail ys.length)) } (.row e.size ys (some k))
    | none => False
  | _ => False
def lenE (ty : Nat → Option TyD) (t : Nat) (K : AV → Prop) : AV → Prop
  | .row _ xs _ => (elemD ty t).isSome = true ∧ K (.v (.int .i64 xs.length))
  | .v (.string b) => isStr ty t = true ∧ K (.v (.int .i64 b.size))
  | .arr _ _ n => (elemD ty t).isSome = true ∧ K (.v (.int .i64 n))
  | .v (.slice none 0 0) => (elemD ty t).isSome = true ∧ K (.v (.int .i64 0))
  | _ => False
def minE (mx : Bool) (K : AV → Prop) : AV → AV → Prop
  | .v (.int k m), .v (.int k' n) => k = k' ∧ K (.v (.int k (bif mx then max m n else min m n)))
  | _, _ => False
def biE (ty : Nat → Option TyD) (b : Builtin) (ev : Operand → AV) (h : Hp) (K : Hp → AV → Prop) : List Operand → List Nat → Prop
  | [x], [t] => match b with
    | .len => lenE ty t (K h) (ev x)
    | _ => False
  | [x, y], [t, u] => match b with
    | .append => t = u ∧ match elemD ty t with
      | some e => appE e h K (ev y) (ev x)
      | none => False
    | .min => minE false (K h) (ev x) (ev y)
    | .max => minE true (K h) (ev x) (ev y)
    | _ => False
  | _, _ => False
def binE (d : TyD) (op : BinOp) (K : AV → Prop) (x y : AV) : Prop :=
  match nilOf d.kind x, nilOf d.kind y with
  | some a, some b => (a || b) = true ∧ nBin op (a && b) K
  | _, _ => boolOk d x = true ∧ vBin op x y K
def vEff (P : Program) (ty : Nat → Option TyD) (md : Nat) (op : Op) (ev : Operand → AV) (lo : List (List AV)) (h : Hp) (K : List (List AV) → Hp → AV → Prop) : Prop :=
  match op with
  | .move x | .assign x => K lo h (ev x)
  | .pick p x y => match ev p with
    | .v (.bool b) => K lo h (bif b then ev x else ev y)
    | _ => False
  | .nilCheck x => match ev x with
    | .fn f cs => K lo h (.fn f cs)
    | a => a.isAddr = true ∧ K lo h a
  | .load t x => match ty t, cellsAt lo h (ev x) with
    | some d, some (cs, off) => ldOk d cs off ∧ K lo h (ld d cs off)
    | _, _ => False
  | .store t x y => match ty t, (ev y).cellsB with
    | some d, some ds => ds.length = d.size ∧ storeE d lo h ds (fun lo' h' => K lo' h' .junk) (ev x)
    | _, _ => False
  | .alloc t => match ty t with
    | some d => match md with
      | 2 => newE h d.zero (K lo)
      | _ => K (lo ++ [d.zero]) h (.loc lo.length 0)
    | none => False
  | .box _ x => match (ev x).cellsB with
    | some cs => match md with
      | 0 => K lo h (.ref cs 0)
      | 1 => K (lo ++ [cs]) h (.loc lo.length 0)
      | _ => newE h cs (K lo)
    | none => False
  | .build t parts => match structD ty t with
    | some d => match fillA (places ty t) d.zero (parts.toList.map fun p => (p.1, ev p.2)) with
      | some ds => allTy ty d = true ∧ K lo h (.agg ds)
      | none => False
    | none => False
  | .buildSlice t n parts => match elemD ty t with
    | some e => if md = 1 ∧ n = 0 then parts.toList.map (·.1) = List.range 0 ∧ ∀ k, h.T k = none → K lo { h with T := upd h.T k (some (.cont e.size [])) } (.arr e.size k 0) else
      if md = 2 ∧ n = 0 then parts.toList.map (·.1) = List.range 0 ∧ ∀ k, h.T k = none → K lo { h with T := upd h.T k (some (.tail 0)) } (.row e.size [] (some k)) else
      match litRow e.size (parts.toList.map fun p => ev p.2) with
      | some xs => (parts.toList.map (·.1) = List.range n ∧ n * e.size ≤ 16777216 ∧ e.size ≠ 0 ∧ e.zero.length = e.size) ∧ K lo h (.row e.size xs none)
      | none => False
    | none => False
  | .makeSlice t x y => match elemD ty t, ev x, ev y with
    | some e, .v (.int _ n), .v (.int _ m) => (0 ≤ n ∧ n = m ∧ e.size = 1 ∧ e.zero.length = 1) ∧ (n * e.bytes ≤ 140737488355328 ∧ n ≤ 9223372036854775807) ∧ ∀ k, h.T k = none → K lo { h with T := upd h.T k (some (.cont 1 (List.replicate n.toNat e.zero))) } (.arr 1 k n.toNat)
    | _, _, _ => False
  | .binOp b t x y _ => match ty t with
    | some d => binE d b (K lo h) (ev x) (ev y)
    | none => False
  | .unOp .not _ x => match ev x with
    | .v (.bool b) => K lo h (.v (.bool (!b)))
    | _ => False
  | .unOp .neg _ x => match ev x with
    | .v (.int .i64 n) => (-9223372036854775808 ≤ -n ∧ -n ≤ 9223372036854775807) ∧ K lo h (.v (.int .i64 (-n)))
    | _ => False
  | .convert a b x => match ty a, ty b, ev x with
    | some _, some e, .v (.int _ n) => match e.kind with
      | .int k => convI k n (K lo h)
      | _ => False
    | _, _, _ => False
  | .slice t x l n none => sliceE ty t l n ev (K lo h) (ev x)
  | .fieldAddr t x f => match fdd ty t f with
    | some (off, e) => (e.size ≠ 0 ∧ (ev x).isAddr = true) ∧ K lo h ((ev x).shift off)
    | none => False
  | .field t x f => match fdd ty t f, ev x with
    | some (off, e), .agg cs => ldOk e cs off ∧ K lo h (ld e cs off)
    | _, _ => False
  | .indexAddr t x i => match elemD ty t, ev x, ev i with
    | some e, .row z xs _, .v (.int _ n) => (0 ≤ n ∧ n < xs.length ∧ z = e.size) ∧ K lo h (.ref (xs.getD n.toNat []) 0)
    | some e, .arr z k m, .v (.int _ n) => (0 ≤ n ∧ n < m ∧ z = e.size) ∧ K lo h (.eptr k m n.toNat 0)
    | _, _, _ => False
  | .index t x i => match ev x, ev i with
    | .v (.string b), .v (.int _ n) => (isStr ty t = true ∧ 0 ≤ n ∧ n < b.size) ∧ K lo h (.v (.int .u8 ((b.data.toList.getD n.toNat 0).toNat : Int)))
    | _, _ => False
  | .extract x i => match ev x with
    | .tup vs => i < vs.length ∧ K lo h (vs.getD i .junk)
    | _ => False
  | .makeFunc (.func f) first caps => (first.size = 0 ∧ (caps.toList.map ev).all AV.noLoc = true) ∧ K lo h (.fn f (caps.toList.map ev))
  | .call c => match c.callee with
    | .builtin b => biE ty b ev h (K lo) c.args.toList c.argTypes.toList
    | .value f => match ev f with
      | .fn fid caps => (c.args.toList.map ev).all AV.noLoc = true ∧ ACalls P fid (c.args.toList.map ev ++ caps) h (fun r h' => K lo h' r)
      | _ => False
    | _ => False
  | _ => False
section
variable {P : Program} {c : Cx} {o : Oper} {s : St} {ty : Nat → Option TyD}
theorem q_nilFn {x : Operand} (ho : o.op = .nilCheck x) {f : Nat} {cs : List AV} (h : s.ev x = .fn f cs) : Quiet P c o s (.fn f cs) := by
  refine quiet_pure fun G L a w sm => ?_
  have hr := sm.eve h
  generalize hq : a.eval x = q at hr
  have hr' : Rep G (.fn f cs) q := hr
  cases hr' with
  | fn _ _ vs u hl hu hr2 => exact ⟨_, by simp [execOp, ho, hq], RepT.of (.fn f cs vs u hl hu hr2)⟩
def eK (s : St) (o : Oper) (K : St → Prop) : List (List AV) → Hp → AV → Prop := fun lo' h' x => K (({ sl := s.sl, lo := lo', h := h' } : St).put o.dst x)
theorem vEff_sound (hty : TyOk P ty) {md : Nat} {K : St → Prop} (h : vEff P ty md o.op s.ev s.lo s.h (eK s o K)) : Aop P c o s K := by
  have ek : ∀ x, eK s o K s.lo s.h x → K (s.put o.dst x) := fun x h => h
  cases hop : o.op <;> simp only [vEff, hop] at h
  case move x => exact (q_move (.inl hop)).aop h
  case assign x => exact (q_move (.inr hop)).aop h
  case pick p x y =>
    split at h
    · rename_i b hb; exact (q_pick hop hb).aop h
    · exact h.elim
  case nilCheck x =>
    split at h
    · rename_i f cs hf; exact (q_nilFn hop hf).aop h
    · exact (q_nilCheck hop h.1).aop h.2
  case load t x =>
    split at h
    · rename_i d cs off hd hc; exact (q_load hop (hty _ _ hd) hc h.1).aop h.2
    · exact h.elim
  case store t x y =>
    split at h
    · rename_i d ds hd hc
      obtain ⟨hl, h⟩ := h
      unfold storeE at h
      split at h
      · rename_i j off hx
        split at h
        · rename_i cs hj; exact a_storeLoc hty hop hd hx hj hc hl h.1 h.2
        · exact h.elim
      · rename_i i off hx
        split at h
        · rename_i cs hi; exact a_storePtr hty hop hd hx hi hc hl h.1 h.2
        · exact h.elim
      · rename_i k n i f hx
        split at h
        · rename_i z xs hT; exact a_storeEptr hty hop hd hx hT h.1.1 h.1.2.1 hc hl h.1.2.2 h.2
        · exact h.elim
      · exact h.elim
    · exact h.elim
  case alloc t =>
    split at h
    · rename_i d hd
      split at h
      · exact a_allocNew hty hop hd h
      · exact a_allocLoc hty hop hd h
    · exact h.elim
  case box t x =>
    split at h
    · rename_i cs hc
      split at h
      · exact (q_box hop hc).aop h
      · exact a_boxLoc hop hc h
      · exact a_boxNew hop hc h
    · exact h.elim
  case build t parts =>
    split at h
    · rename_i d hd
      split at h
      · rename_i ds hds; exact (q_build hty hop hd hds h.1).aop h.2
      · exact h.elim
    · exact h.elim
  case buildSlice t n parts =>
    split at h
    · rename_i e he
      split at h
      · rename_i hmd
        obtain ⟨_, rfl⟩ := hmd
        exact a_slice0 hty hop h.1 he h.2
      · split at h
        · rename_i hmd
          obtain ⟨_, rfl⟩ := hmd
          exact a_slice0t hty hop h.1 he h.2
        · split at h
          · rename_i xs hxs
            obtain ⟨⟨h1, h2, h3, h4⟩, h⟩ := h
            exact (q_buildSlice hty hop he h1 h2 hxs h3 h4).aop h
          · exact h.elim
    · exact h.elim
  case makeSlice t x y =>
    split at h
    · rename_i e k1 n k2 m he hx hy
      obtain ⟨⟨h0, rfl, h1, h2⟩, ⟨h3, h4⟩, h⟩ := h
      exact a_makeSlice hty hop he hx hy h0 h1 h2 h3 h4 h
    · exact h.elim
  case binOp b t x y t' =>
    split at h
    · rename_i d hd
      unfold binE at h
      split at h
      · rename_i p q hp hq
        obtain ⟨hb, h⟩ := h
        have key : ∀ (r : Bool), ((b = .eql ∧ r = (p && q)) ∨ (b = .neq ∧ r = !(p && q))) → Quiet P c o s (.v (.bool r)) := fun r hr => quiet_pure fun G L a w sm => by
          have hrun := nil_run (hty _ _ hd) (nilOf_sound (sm.ev x) hp) (nilOf_sound (sm.ev y) hq) hb x y w
          refine ⟨.bool r, ?_, RepT.of (.v _ rfl)⟩
          rcases hr with ⟨rfl, rfl⟩ | ⟨rfl, rfl⟩
          · have := hrun.1; simp only [execOp, hop]; simp only [Sem.run_bind] at this ⊢; rw [this]; rfl
          · have := hrun.2; simp only [execOp, hop]; simp only [Sem.run_bind] at this ⊢; rw [this]; rfl
        unfold nBin at h
        split at h
        · exact (key _ (.inl ⟨rfl, rfl⟩)).aop h
        · exact (key _ (.inr ⟨rfl, rfl⟩)).aop h
        · exact h.elim
      · obtain ⟨hb, h⟩ := h
        intro a w hi Kc Qc hk
        exact q_bin hty hop h hd (fun bb hbb => by
          rw [hbb] at hb
          simp only [boolOk] at hb
          split at hb
          · assumption
          · cases hb) a w hi Kc Qc (fun z v w' hz hi' => hk _ _ _ hz hi')
    · exact h.elim
  case unOp uo t x =>
    cases uo <;> simp only at h
    case not =>
      split at h
      · rename_i b hb; exact (q_not hop hb).aop h
      · exact h.elim
    case neg =>
      split at h
      · rename_i n hn; exact (q_neg hop hn h.1).aop h.2
      · exact h.elim
  case convert a b x =>
    split at h
    · rename_i d e k n hd he hx
      split at h
      · rename_i kk hk
        unfold convI at h
        split at h
        · exact (q_convInt hty hop hd he hk hx (by rw [IntWalk.i64_in _ h.1])).aop h.2
        · exact (q_convInt hty hop hd he hk hx rfl).aop h
      · exact h.elim
    · exact h.elim
  case slice t x l n mx =>
    cases mx <;> simp only at h
    unfold sliceE at h
    split at h
    · rename_i z xs tk hx
      split at h
      · rename_i e l' n' he hl hn
        obtain ⟨⟨h1, h2, h3, h4⟩, h⟩ := h
        exact (q_sliceRow hty hop he hx hl hn h1 h2 h3 h4).aop h
      · exact h.elim
    · rename_i b hx
      split at h
      · rename_i l' n' hl hn
        obtain ⟨⟨h1, h2, h3, h4⟩, h⟩ := h
        exact (q_sliceStr hty hop h1 hx hl hn h2 h3 h4).aop h
      · exact h.elim
    · exact h.elim
  case fieldAddr t x f =>
    split at h
    · rename_i off e hf; exact (q_fieldAddr hty hop hf h.1.1 h.1.2).aop h.2
    · exact h.elim
  case field t x f =>
    split at h
    · rename_i off e cs hf hx; exact (q_field hty hop hf hx h.1).aop h.2
    · exact h.elim
  case indexAddr t x i =>
    split at h
    · rename_i e z xs tk k n he hx hn; exact (q_indexRow hty hop he hx hn h.1.1 h.1.2.1 h.1.2.2).aop h.2
    · rename_i e z k m kk n he hx hn; exact (q_indexArr hty hop he hx hn h.1.1 h.1.2.1 h.1.2.2).aop h.2
    · exact h.elim
  case index t x i =>
    split at h
    · rename_i b k n hx hn; exact (q_indexStr hty hop h.1.1 hx hn h.1.2.1 h.1.2.2).aop h.2
    · exact h.elim
  case extract x i =>
    split at h
    · rename_i vs hx; exact (q_extract hop hx h.1).aop h.2
    · exact h.elim
  case makeFunc f first caps =>
    cases f <;> simp only at h
    obtain ⟨⟨h1, h2⟩, h⟩ := h
    refine (q_makeFunc hop (Array.eq_empty_of_size_eq_zero h1) ?_).aop h
    rw [List.all_eq_true] at h2 ⊢
    intro y hy
    have := h2 y hy
    cases y <;> first | rfl | simp [AV.noLoc] at this
  case call c' =>
    obtain ⟨callee, args, ts⟩ := c'
    cases callee <;> simp only at h
    case builtin b =>
      unfold biE at h
      split at h
      · rename_i x t ha ht
        have ha' : args = #[x] := by rw [← Array.toList_inj]; exact ha
        have ht' : ts = #[t] := by rw [← Array.toList_inj]; exact ht
        subst ha'; subst ht'
        cases b <;> simp only at h
        unfold lenE at h
        split at h
        · rename_i z xs tk hx; exact (q_len (tt := 0) hop h.1 hty hx rfl).aop h.2
        · rename_i b hx; exact (q_lenStr hty hop h.1 hx).aop h.2
        · rename_i z k n hx; exact (q_lenArr hop h.1 hty hx).aop h.2
        · rename_i hx; exact (q_lenNil hop h.1 hty hx).aop h.2
        · exact h.elim
      · rename_i x y t u ha ht
        have ha' : args = #[x, y] := by rw [← Array.toList_inj]; exact ha
        have ht' : ts = #[t, u] := by rw [← Array.toList_inj]; exact ht
        subst ha'; subst ht'
        cases b <;> simp only at h
        case append =>
          obtain ⟨rfl, h⟩ := h
          split at h
          · rename_i e he
            unfold appE at h
            split at h
            · rename_i z xs k hx
              split at h
              · rename_i zy ys hy
                obtain ⟨⟨h1, h2, h3, h4, h5⟩, ⟨h6, h7⟩, h⟩ := h
                exact a_append hty hop he hx h1 h2 hy h3 h4 h5 h6 h7 h
              · exact h.elim
            · rename_i z k n hx
              split at h
              · rename_i zy ys z' xs hy hT
                obtain ⟨⟨h1, rfl, h2, h3, h4, h5⟩, ⟨h6, h7⟩, h⟩ := h
                exact a_appendArr hty hop he hx h1 hT h2 hy h3 h4 h5 h6 h7 h
              · exact h.elim
            · rename_i hx
              split at h
              · rename_i zy ys hy
                obtain ⟨⟨rfl, h1, h2⟩, ⟨h3, h4⟩, h⟩ := h
                exact a_appendNil hty hop he hx hy h1 h2 h3 h4 h
              · exact h.elim
            · exact h.elim
          · exact h.elim
        case min =>
          unfold minE at h
          split at h
          · rename_i k m k' n hx hy
            obtain ⟨rfl, h⟩ := h
            exact (q_min hop hx hy).aop h
          · exact h.elim
        case max =>
          unfold minE at h
          split at h
          · rename_i k m k' n hx hy
            obtain ⟨rfl, h⟩ := h
            exact (q_max hop hx hy).aop h
          · exact h.elim
      · exact h.elim
    case value f =>
      split at h
      · rename_i fid caps hf; exact a_call hop hf h.1 h.2
      · exact h.elim
end
end Go.Proofs.YtoleejecmefogaaDoor
/- Regions in the text's order: guards, and values that may not be there. -/
namespace Go.Proofs.YtoleejecmefogaaDoor
open Go
def opsOf : Op → List Operand
  | .alloc _ | .ready _ | .waits _ => []
  | .move x | .assign x | .box _ x | .load _ x | .nilCheck x | .unOp _ _ x | .convert _ _ x | .fieldAddr _ x _ | .field _ x _ | .extract x _ => [x]
  | .pick c a b => [c, a, b]
  | .build _ ps | .buildSlice _ _ ps => ps.toList.map (·.2)
  | .store _ a v | .binOp _ _ a v _ | .indexAddr _ a v | .index _ a v | .makeSlice _ a v => [a, v]
  | .makeFunc _ first captured => first.toList ++ captured.toList
  | .slice _ x l h m => x :: (l.toList ++ h.toList ++ m.toList)
  | .call c => (match c.callee with | .value f => [f] | .invoke r _ => [r] | .builtin _ => []) ++ c.args.toList
  | op => op.operands.toList
theorem opsOf_mem {op : Op} {x : Operand} (h : x ∈ op.operands.toList) : x ∈ opsOf op := by
  cases op <;> simp only [opsOf, Op.operands] at h ⊢ <;> try exact h
  case makeFunc f a b => simpa using h
  case slice t x l u m => cases l <;> cases u <;> cases m <;> simpa using h
  case call c =>
    simp only [Call.operands] at h
    cases hc : c.callee <;> simp only [hc] at h ⊢ <;> simpa using h
theorem vEff_congr {P : Program} {ty : Nat → Option TyD} {md : Nat} {op : Op} {ev ev' : Operand → AV} {lo : List (List AV)} {h : Hp} {K : List (List AV) → Hp → AV → Prop} (he : ∀ x ∈ op.operands.toList, ev x = ev' x) :
    vEff P ty md op ev lo h K = vEff P ty md op ev' lo h K := by
  have hb : ∀ (x : Option Operand) (d : Int), (∀ y, x = some y → ev y = ev' y) → bndE ev x d = bndE ev' x d := fun x d hx => by
    cases x with
    | none => rfl
    | some y => simp only [bndE, hx y rfl]
  cases op <;> simp only [Op.operands, List.mem_cons, List.not_mem_nil, or_false, forall_eq_or_imp, forall_eq] at he <;> simp only [vEff]
  case move x => rw [he]
  case assign x => rw [he]
  case pick p x y => obtain ⟨h1, h2, h3⟩ := he; rw [h1, h2, h3]
  case nilCheck x => rw [he]
  case load t x => rw [he]
  case store t x y => obtain ⟨h1, h2⟩ := he; rw [h1, h2]
  case box t x => rw [he]
  case build t parts =>
    have : (parts.toList.map fun p => (p.1, ev p.2)) = (parts.toList.map fun p => (p.1, ev' p.2)) := List.map_congr_left fun p hp => by rw [he p.2 (List.mem_map.2 ⟨p, hp, rfl⟩)]
    rw [this]
  case buildSlice t n parts =>
    have : (parts.toList.map fun p => ev p.2) = (parts.toList.map fun p => ev' p.2) := List.map_congr_left fun p hp => by rw [he p.2 (List.mem_map.2 ⟨p, hp, rfl⟩)]
    rw [this]
  case binOp b t x y t' => obtain ⟨h1, h2⟩ := he; rw [h1, h2]
  case unOp u t x => cases u <;> simp only [] <;> rw [he]
  case convert a b x => rw [he]
  case slice t x l n m =>
    have hx : ev x = ev' x := he x (by simp)
    have hl : ∀ y, l = some y → ev y = ev' y := fun y e => he y (by simp [e])
    have hn : ∀ y, n = some y → ev y = ev' y := fun y e => he y (by simp [e])
    cases m <;> simp only []
    rw [hx]
    cases ev' x <;> simp only [sliceE, hb _ _ hl, hb _ _ hn]
  case fieldAddr t x f => rw [he]
  case field t x f => rw [he]
  case indexAddr t x i => obtain ⟨h1, h2⟩ := he; rw [h1, h2]
  case makeSlice t x y => obtain ⟨h1, h2⟩ := he; rw [h1, h2]
  case index t x i => obtain ⟨h1, h2⟩ := he; rw [h1, h2]
  case extract x i => rw [he]
  case makeFunc fn first caps =>
    have hc : caps.toList.map ev = caps.toList.map ev' := List.map_congr_left fun x hx => he x (by simp; exact .inr (by simpa using hx))
    cases fn <;> simp only [hc]
  case call cl =>
    obtain ⟨callee, args, ts⟩ := cl
    have ha : ∀ x ∈ args.toList, ev x = ev' x := fun x hx => he x (by simp [Call.operands]; exact .inr (by simpa using hx))
    cases callee <;> simp only []
    case value f =>
      have hf : ev f = ev' f := he f (by simp [Call.operands])
      rw [hf, List.map_congr_left ha]
    case builtin b =>
      unfold biE
      split
      · rename_i x t hx ht
        have e := ha x (by rw [hx]; simp)
        cases b <;> simp only [e]
      · rename_i x y t u hx ht
        have e := ha x (by rw [hx]; simp)
        have e2 := ha y (by rw [hx]; simp)
        cases b <;> simp only [e, e2]
      · rfl
theorem iBin_mono {op : BinOp} {k : IntKind} {a b : Int} {K K' : AV → Prop} (hk : ∀ x, K x → K' x) (h : iBin op k a b K) : iBin op k a b K' := by
  have ha : ∀ r, arith k r K → arith k r K' := fun r h => by cases k <;> first | exact ⟨h.1, hk _ h.2⟩ | exact hk _ h
  cases op <;> simp only [iBin] at h ⊢ <;> first | exact hk _ h | exact ha _ h | exact ⟨h.1, hk _ h.2⟩ | exact ⟨h.1, ha _ h.2⟩
theorem vBin_mono {op : BinOp} {x y : AV} {K K' : AV → Prop} (hk : ∀ x, K x → K' x) (h : vBin op x y K) : vBin op x y K' := by
  unfold vBin at h ⊢
  split at h
  · exact ⟨h.1, iBin_mono hk h.2⟩
  · cases op <;> simp only [sBin] at h ⊢ <;> first | exact hk _ h | exact ⟨h.1, hk _ h.2⟩
  · cases op <;> simp only at h ⊢ <;> exact hk _ h
  · exact h.elim
theorem vEff_mono {P : Program} {ty : Nat → Option TyD} {md : Nat} {op : Op} {ev : Operand → AV} {lo : List (List AV)} {h : Hp} {K K' : List (List AV) → Hp → AV → Prop} (hk : ∀ lo h x, K lo h x → K' lo h x) (hv : vEff P ty md op ev lo h K) :
    vEff P ty md op ev lo h K' := by
  cases op <;> simp only [vEff] at hv ⊢
  case move x => exact hk _ _ _ hv
  case assign x => exact hk _ _ _ hv
  case binOp b t x y t' =>
    split at hv
    · rename_i d hd
      unfold binE at hv ⊢
      split at hv
      · refine ⟨hv.1, ?_⟩
        have h2 := hv.2
        unfold nBin at h2 ⊢
        split at h2 <;> first | exact hk _ _ _ h2 | exact h2.elim
      · exact ⟨hv.1, vBin_mono (hk _ _) hv.2⟩
    · exact hv.elim
  case unOp u t x => cases u <;> simp only at hv ⊢ <;> (split at hv) <;> first | exact hk _ _ _ hv | exact ⟨hv.1, hk _ _ _ hv.2⟩ | exact hv.elim
  case alloc t =>
    split at hv
    · split at hv <;> first | exact hk _ _ _ hv | exact fun i hi => hk _ _ _ (hv i hi)
    · exact hv.elim
  case box t x =>
    split at hv
    · split at hv <;> first | exact hk _ _ _ hv | exact fun i hi => hk _ _ _ (hv i hi)
    · exact hv.elim
  case store t x y =>
    split at hv
    · refine ⟨hv.1, ?_⟩
      have h2 := hv.2
      unfold storeE at h2 ⊢
      split at h2
      · split at h2
        · exact ⟨h2.1, hk _ _ _ h2.2⟩
        · exact h2.elim
      · split at h2
        · exact ⟨h2.1, hk _ _ _ h2.2⟩
        · exact h2.elim
      · split at h2
        · exact ⟨h2.1, hk _ _ _ h2.2⟩
        · exact h2.elim
      · exact h2.elim
    · exact hv.elim
  case buildSlice t n parts =>
    split at hv
    · by_cases hmn : md = 1 ∧ n = 0
      · simp only [if_pos hmn] at hv ⊢
        exact ⟨hv.1, fun k hk2 => hk _ _ _ (hv.2 k hk2)⟩
      · by_cases hmn2 : md = 2 ∧ n = 0
        · simp only [if_neg hmn, if_pos hmn2] at hv ⊢
          exact ⟨hv.1, fun k hk2 => hk _ _ _ (hv.2 k hk2)⟩
        · simp only [if_neg hmn, if_neg hmn2] at hv ⊢
          split at hv
          · exact ⟨hv.1, hk _ _ _ hv.2⟩
          · exact hv.elim
    · exact hv.elim
  case makeSlice t x y =>
    split at hv
    · exact ⟨hv.1, hv.2.1, fun k hk2 => hk _ _ _ (hv.2.2 k hk2)⟩
    · exact hv.elim
  case convert a b x =>
    split at hv
    · split at hv
      · unfold convI at hv ⊢
        split at hv <;> first | exact ⟨hv.1, hk _ _ _ hv.2⟩ | exact hk _ _ _ hv
      · exact hv.elim
    · exact hv.elim
  case slice t x l n m =>
    cases m <;> simp only at hv ⊢
    unfold sliceE at hv ⊢
    split at hv
    · split at hv
      · exact ⟨hv.1, hk _ _ _ hv.2⟩
      · exact hv.elim
    · split at hv
      · exact ⟨hv.1, hk _ _ _ hv.2⟩
      · exact hv.elim
    · exact hv.elim
  case makeFunc fn first caps => cases fn <;> simp only at hv ⊢; exact ⟨hv.1, hk _ _ _ hv.2⟩
  case call cl =>
    obtain ⟨callee, args, ts⟩ := cl
    cases callee <;> simp only at hv ⊢
    case value f =>
      split at hv
      · exact ⟨hv.1, hv.2.mono fun r h' hr => hk _ _ _ hr⟩
      · exact hv.elim
    case builtin b =>
      unfold biE at hv ⊢
      split at hv
      · cases b <;> simp only at hv ⊢
        unfold lenE at hv ⊢
        split at hv <;> first | exact ⟨hv.1, hk _ _ _ hv.2⟩ | exact hv.elim
      · cases b <;> simp only at hv ⊢
        case append =>
          refine ⟨hv.1, ?_⟩
          have h2 := hv.2
          split at h2
          · unfold appE at h2 ⊢
            split at h2
            · split at h2
              · exact ⟨h2.1, h2.2.1, hk _ _ _ h2.2.2⟩
              · exact h2.elim
            · split at h2
              · exact ⟨h2.1, h2.2.1, hk _ _ _ h2.2.2⟩
              · exact h2.elim
            · split at h2
              · exact ⟨h2.1, h2.2.1, fun k hk2 => hk _ _ _ (h2.2.2 k hk2)⟩
              · exact h2.elim
            · exact h2.elim
          · exact h2.elim
        all_goals
          unfold minE at hv ⊢
          split at hv <;> first | exact ⟨hv.1, hk _ _ _ hv.2⟩ | exact hv.elim
      · exact hv.elim
  all_goals first
    | (split at hv <;> first | exact hk _ _ _ hv | exact ⟨hv.1, hk _ _ _ hv.2⟩ | exact hv.elim | (split at hv <;> first | exact hk _ _ _ hv | exact ⟨hv.1, hk _ _ _ hv.2⟩ | exact hv.elim))
    | exact hv.elim
def opS (ev : Operand → AV) : List Operand → Prop
  | [] => True
  | x :: xs => uside (ev x) ∧ opS ev xs
theorem opS_mem {ev : Operand → AV} : ∀ {xs : List Operand} (_ : opS ev xs) {x : Operand} (_ : x ∈ xs), uside (ev x)
  | _ :: _, h, x, hx => by
    rcases List.mem_cons.1 hx with rfl | hx
    · exact h.1
    · exact opS_mem h.2 hx
/-- One of two, by a test. -/
def joinA (b : Bool) (x y : AV) : AV :=
  match x, y with
  | .v (.bool p), .v (.bool q) => .v (.bool (bif b then p else q))
  | .v (.int k m), .v (.int _ n) => .v (.int k (bif b then m else n))
  | .v (.string m), .v (.string n) => .v (.string (bif b then m else n))
  | x, y => bif b then x else y
def joinOk : AV → AV → Prop
  | .v (.int k _), .v (.int k' _) => k = k'
  | _, _ => True
theorem joinA_eq {b : Bool} {x y : AV} (h : joinOk x y) : joinA b x y = bif b then x else y := by
  unfold joinA
  split
  · cases b <;> rfl
  · simp only [joinOk] at h; subst h; cases b <;> rfl
  · cases b <;> rfl
  · rfl
def isOpt : AV → Bool
  | .opt _ _ => true
  | _ => false
def pickE (cnd : Prop) (ev : Operand → AV) (p x y : Operand) (K : AV → Prop) : Prop :=
  match unw (ev p) with
  | .v (.bool b) => (cnd → uside (ev p) ∧ (b = true → uside (ev x)) ∧ (b = false → uside (ev y)) ∧ joinOk (unw (ev x)) (unw (ev y))) ∧ K (joinA b (unw (ev x)) (unw (ev y)))
  | _ => False
/-- A quiet operation yields x. -/
def qE (P : Program) (ty : Nat → Option TyD) (op : Op) (ev : Operand → AV) (lo : List (List AV)) (h : Hp) (x : AV) : Prop := vEff P ty 0 op ev lo h fun lo' h' x' => lo' = lo ∧ h' = h ∧ x' = x
def condG (all : Array Oper) (sl : List AV) (j : Nat) (w : Bool) : Option Bool :=
  match (all[j]?).bind (·.dst) with
  | some d => match sl.getD d .junk with
    | .v (.bool b) => some (b == w)
    | .opt c (.v (.bool b)) => some (c && (b == w))
    | .tup [] => some false
    | _ => none
  | none => none
def arV (k : IntKind) (r : Int) : Prop × AV :=
  match k with
  | .i64 => (-9223372036854775808 ≤ r ∧ r ≤ 9223372036854775807, .v (.int .i64 r))
  | k => (True, .v (.int k (k.wrap r)))
def iV (op : BinOp) (k : IntKind) (a b : Int) : Option (Prop × AV) :=
  match op with
  | .add => some (arV k (a + b))
  | .sub => some (arV k (a - b))
  | .mul => some (arV k (a * b))
  | .rem => some (b ≠ 0, .v (.int k (a.tmod b)))
  | .eql => some (True, .v (.bool (a == b)))
  | .neq => some (True, .v (.bool (a != b)))
  | .lss => some (True, .v (.bool (decide (a < b))))
  | .leq => some (True, .v (.bool (decide (a ≤ b))))
  | .gtr => some (True, .v (.bool (decide (b < a))))
  | .geq => some (True, .v (.bool (decide (b ≤ a))))
  | _ => none
def sV (op : BinOp) (a b : ByteArray) : Option (Prop × AV) :=
  match op with
  | .eql => some (True, .v (.bool (a == b)))
  | .neq => some (True, .v (.bool (!(a == b))))
  | .lss => some (True, .v (.bool (Op.bytesLess a.toList b.toList)))
  | .leq => some (True, .v (.bool (Op.bytesLess a.toList b.toList || (a == b))))
  | .gtr => some (True, .v (.bool (!(Op.bytesLess a.toList b.toList || (a == b)))))
  | .geq => some (True, .v (.bool (!Op.bytesLess a.toList b.toList)))
  | _ => none
def bV (op : BinOp) (a b : Bool) : Option (Prop × AV) :=
  match op with
  | .eql => some (True, .v (.bool (a == b)))
  | .neq => some (True, .v (.bool (!(a == b))))
  | _ => none
def nV (op : BinOp) (b : Bool) : Option (Prop × AV) :=
  match op with
  | .eql => some (True, .v (.bool b))
  | .neq => some (True, .v (.bool (!b)))
  | _ => none
def vV (op : BinOp) (x y : AV) : Option (Prop × AV) :=
  match x, y with
  | .v (.int k a), .v (.int k' b) => match iV op k a b with
    | some (p, r) => some (k = k' ∧ p, r)
    | none => none
  | .v (.string a), .v (.string b) => sV op a b
  | .v (.bool a), .v (.bool b) => bV op a b
  | _, _ => none
def binV (d : TyD) (op : BinOp) (x y : AV) : Option (Prop × AV) :=
  match nilOf d.kind x, nilOf d.kind y with
  | some a, some b => match nV op (a && b) with
    | some (p, r) => some ((a || b) = true ∧ p, r)
    | none => none
  | _, _ => match vV op x y with
    | some (p, r) => some (boolOk d x = true ∧ p, r)
    | none => none
/-- The value of a quiet operation, with what it asks. -/
def qV (ty : Nat → Option TyD) (op : Op) (ev : Operand → AV) (lo : List (List AV)) (h : Hp) : Option (Prop × AV) :=
  match op with
  | .move x | .assign x => some (True, ev x)
  | .nilCheck x => some ((ev x).isAddr = true, ev x)
  | .load t x => match ty t, cellsAt lo h (ev x) with
    | some d, some (cs, off) => some (ldOk d cs off, ld d cs off)
    | _, _ => none
  | .box _ x => match (ev x).cellsB with
    | some cs => some (True, .ref cs 0)
    | none => none
  | .binOp b t x y _ => match ty t with
    | some d => binV d b (ev x) (ev y)
    | none => none
  | .unOp .not _ x => match ev x with
    | .v (.bool b) => some (True, .v (.bool (!b)))
    | _ => none
  | .fieldAddr t x f => match fdd ty t f with
    | some (off, e) => some (e.size ≠ 0 ∧ (ev x).isAddr = true, (ev x).shift off)
    | none => none
  | .field t x f => match fdd ty t f, ev x with
    | some (off, e), .agg cs => some (ldOk e cs off, ld e cs off)
    | _, _ => none
  | .indexAddr t x i => match elemD ty t, ev x, ev i with
    | some e, .row z xs _, .v (.int _ n) => some (0 ≤ n ∧ n < xs.length ∧ z = e.size, .ref (xs.getD n.toNat []) 0)
    | some e, .arr z k m, .v (.int _ n) => some (0 ≤ n ∧ n < m ∧ z = e.size, .eptr k m n.toNat 0)
    | _, _, _ => none
  | .index t x i => match ev x, ev i with
    | .v (.string b), .v (.int _ n) => some (isStr ty t = true ∧ 0 ≤ n ∧ n < b.size, .v (.int .u8 ((b.data.toList.getD n.toNat 0).toNat : Int)))
    | _, _ => none
  | .extract x i => match ev x with
    | .tup vs => some (i < vs.length, vs.getD i .junk)
    | _ => none
  | .call c => match c.callee, c.args.toList, c.argTypes.toList with
    | .builtin .len, [x], [t] => match ev x with
      | .row _ xs _ => some ((elemD ty t).isSome = true, .v (.int .i64 xs.length))
      | .v (.string b) => some (isStr ty t = true, .v (.int .i64 b.size))
      | .arr _ _ n => some ((elemD ty t).isSome = true, .v (.int .i64 n))
      | .v (.slice none 0 0) => some ((elemD ty t).isSome = true, .v (.int .i64 0))
      | _ => none
    | _, _, _ => none
  | _ => none
def isCallV : Op → Bool
  | .call { callee := .value _, .. } => true
  | _ => false
def gStep (P : Program) (ty : Nat → Option TyD) (md : Option Tmp → Nat) (all : Array Oper) (o : Oper) (sl : List AV) (lo : List (List AV)) (h : Hp) (K : List (List AV) → Hp → AV → Prop) : Prop :=
  match o.guard with
  | none => match o.op with
    | .pick p x y => pickE True (evL sl) p x y (K lo h)
    | op => opS (evL sl) (opsOf op) ∧ vEff P ty (md o.dst) op (fun x => unw (evL sl x)) lo h K
  | some (j, w) => match condG all sl j w with
    | none => False
    | some cnd => match o.op with
      | .pick p x y => pickE (cnd = true) (evL sl) p x y (fun x => isOpt x = false ∧ K lo h (.opt cnd x))
      | op => match isCallV op with
        | true => (cnd = true → opS (evL sl) (opsOf op) ∧ vEff P ty 0 op (fun x => unw (evL sl x)) lo h fun lo' h' x => isOpt x = false ∧ K lo' h' (.opt true x)) ∧ (cnd = false → K lo h (.opt false .junk))
        | false => match qV ty op (fun x => unw (evL sl x)) lo h with
        | some (p, x) => (cnd = true → opS (evL sl) (opsOf op) ∧ p) ∧ isOpt x = false ∧ K lo h (.opt cnd x)
        | none => ∃ x, (cnd = true → opS (evL sl) (opsOf op) ∧ qE P ty op (fun x => unw (evL sl x)) lo h x) ∧ isOpt x = false ∧ K lo h (.opt cnd x)
theorem arV_sound {k : IntKind} {r : Int} (h : (arV k r).1) : arith k r (fun x => x = (arV k r).2) := by
  cases k <;> first | exact ⟨h, rfl⟩ | exact rfl
theorem vV_sound {op : BinOp} {x y : AV} {p : Prop} {r : AV} (h : vV op x y = some (p, r)) (hp : p) : vBin op x y (fun z => z = r) := by
  unfold vV at h
  split at h
  · rename_i k a k' b
    cases hi : iV op k a b with
    | none => rw [hi] at h; cases h
    | some q =>
      obtain ⟨q, r'⟩ := q
      rw [hi] at h
      simp only [Option.some.injEq, Prod.mk.injEq] at h
      obtain ⟨rfl, rfl⟩ := h
      refine ⟨hp.1, ?_⟩
      have hq := hp.2
      cases op <;> simp only [iV, Option.some.injEq, Prod.mk.injEq, reduceCtorEq] at hi
      case add => have h2 := arV_sound (k := k) (r := a + b) (by rw [hi]; exact hq); rw [hi] at h2; exact h2
      case sub => have h2 := arV_sound (k := k) (r := a - b) (by rw [hi]; exact hq); rw [hi] at h2; exact h2
      case mul => have h2 := arV_sound (k := k) (r := a * b) (by rw [hi]; exact hq); rw [hi] at h2; exact h2
      case rem => obtain ⟨rfl, rfl⟩ := hi; exact ⟨hq, rfl⟩
      all_goals (obtain ⟨_, rfl⟩ := hi; exact rfl)
  · cases op <;> simp only [sV, Option.some.injEq, Prod.mk.injEq, reduceCtorEq] at h <;> (obtain ⟨_, rfl⟩ := h; exact rfl)
  · cases op <;> simp only [bV, Option.some.injEq, Prod.mk.injEq, reduceCtorEq] at h <;> (obtain ⟨_, rfl⟩ := h; exact rfl)
  · cases h
theorem qV_sound {P : Program} {ty : Nat → Option TyD} {op : Op} {ev : Operand → AV} {lo : List (List AV)} {h : Hp} {p : Prop} {x : AV} (hq : qV ty op ev lo h = some (p, x)) (hp : p) : qE P ty op ev lo h x := by
  unfold qE
  cases op <;> simp only [qV, reduceCtorEq, Option.some.injEq, Prod.mk.injEq] at hq <;> simp only [vEff, true_and]
  case move y => exact hq.2
  case assign y => exact hq.2
  case nilCheck y =>
    obtain ⟨rfl, rfl⟩ := hq
    split
    · rename_i f cs hf; exact hf.symm
    · exact ⟨hp, rfl⟩
  case load t y =>
    split at hq
    · rename_i d cs off hd hc
      simp only [Option.some.injEq, Prod.mk.injEq] at hq
      obtain ⟨rfl, rfl⟩ := hq
      rw [hd, hc]; exact ⟨hp, rfl⟩
    · cases hq
  case box t y =>
    split at hq
    · rename_i cs hc
      simp only [Option.some.injEq, Prod.mk.injEq] at hq
      obtain ⟨_, rfl⟩ := hq
      rw [hc]
    · cases hq
  case binOp b t y z t' =>
    split at hq
    · rename_i d hd
      rw [hd]
      simp only
      unfold binV at hq
      unfold binE
      split at hq
      · rename_i u v hu hv
        rw [hu, hv]
        simp only
        split at hq
        · rename_i q r hn
          simp only [Option.some.injEq, Prod.mk.injEq] at hq
          obtain ⟨rfl, rfl⟩ := hq
          refine ⟨hp.1, ?_⟩
          cases b <;> simp only [nV, Option.some.injEq, Prod.mk.injEq, reduceCtorEq] at hn <;> (obtain ⟨_, rfl⟩ := hn; exact rfl)
        · cases hq
      · rename_i hno
        split at hq
        · rename_i q r hv
          simp only [Option.some.injEq, Prod.mk.injEq] at hq
          obtain ⟨rfl, rfl⟩ := hq
          have h2 := vV_sound hv hp.2
          split
          · rename_i u v hu hvv; exact absurd hvv (hno u v hu)
          · refine ⟨hp.1, ?_⟩
            exact h2
        · cases hq
    · cases hq
  case unOp u t y =>
    cases u <;> simp only [reduceCtorEq] at hq ⊢
    split at hq
    · rename_i b hb
      simp only [Option.some.injEq, Prod.mk.injEq] at hq
      obtain ⟨_, rfl⟩ := hq
      rw [hb]
    · cases hq
  case fieldAddr t y f =>
    split at hq
    · rename_i off e hf
      simp only [Option.some.injEq, Prod.mk.injEq] at hq
      obtain ⟨rfl, rfl⟩ := hq
      rw [hf]; exact ⟨hp, rfl⟩
    · cases hq
  case field t y f =>
    split at hq
    · rename_i off e cs hf hy
      simp only [Option.some.injEq, Prod.mk.injEq] at hq
      obtain ⟨rfl, rfl⟩ := hq
      rw [hf, hy]; exact ⟨hp, rfl⟩
    · cases hq
  case indexAddr t y i =>
    split at hq
    · rename_i e z xs tk k n he hy hn
      simp only [Option.some.injEq, Prod.mk.injEq] at hq
      obtain ⟨rfl, rfl⟩ := hq
      rw [he, hy, hn]; exact ⟨hp, rfl⟩
    · rename_i e z k m kk n he hy hn
      simp only [Option.some.injEq, Prod.mk.injEq] at hq
      obtain ⟨rfl, rfl⟩ := hq
      rw [he, hy, hn]; exact ⟨hp, rfl⟩
    · cases hq
  case index t y i =>
    split at hq
    · rename_i b k n hy hn
      simp only [Option.some.injEq, Prod.mk.injEq] at hq
      obtain ⟨rfl, rfl⟩ := hq
      rw [hy, hn]; exact ⟨hp, rfl⟩
    · cases hq
  case extract y i =>
    split at hq
    · rename_i vs hy
      simp only [Option.some.injEq, Prod.mk.injEq] at hq
      obtain ⟨rfl, rfl⟩ := hq
      rw [hy]; exact ⟨hp, rfl⟩
    · cases hq
  case call cl =>
    obtain ⟨callee, args, ts⟩ := cl
    simp only at hq ⊢
    split at hq
    · rename_i y t ha ht
      rw [ha, ht]
      simp only [biE]
      split at hq
      · rename_i z xs tk hy
        simp only [Option.some.injEq, Prod.mk.injEq] at hq
        obtain ⟨rfl, rfl⟩ := hq
        rw [hy]; exact ⟨hp, trivial, rfl⟩
      · rename_i b hy
        simp only [Option.some.injEq, Prod.mk.injEq] at hq
        obtain ⟨rfl, rfl⟩ := hq
        rw [hy]; exact ⟨hp, trivial, rfl⟩
      · rename_i z k n hy
        simp only [Option.some.injEq, Prod.mk.injEq] at hq
        obtain ⟨rfl, rfl⟩ := hq
        rw [hy]; exact ⟨hp, trivial, rfl⟩
      · rename_i hy
        simp only [Option.some.injEq, Prod.mk.injEq] at hq
        obtain ⟨rfl, rfl⟩ := hq
        rw [hy]; exact ⟨hp, trivial, rfl⟩
      · cases hq
    · cases hq
section
variable {P : Program} {c : Cx} {ty : Nat → Option TyD} {md : Option Tmp → Nat} {all : Array Oper}
theorem condG_sound {G : Gh} {L : List Nat} {s : St} {a : Act} {w : World} (sm : Sim G L s a w) {j : Nat} {wt b : Bool} (h : condG all s.sl j wt = some b) : (yielded all a.tmps j == some wt) = b := by
  unfold condG at h
  unfold yielded
  split at h
  · rename_i d hd
    rw [hd]
    simp only [Option.bind_some]
    by_cases hlt : d < s.sl.length
    · have hr := sm.sl d hlt
      rw [List.getD_eq_getElem?_getD, List.getElem?_eq_getElem hlt] at h
      simp only [Option.getD_some] at h
      have hts : d < a.tmps.size := Nat.lt_of_lt_of_le hlt sm.sz
      have e : a.tmps[d]? = some (a.tmps.getD d undef) := by simp [Array.getElem?_eq_getElem hts]
      rw [e]
      generalize a.tmps.getD d undef = v at hr
      split at h <;> simp only [Option.some.injEq, reduceCtorEq] at h
      · rename_i q hb
        rw [hb] at hr
        cases hr.v_inv
        subst h
        rfl
      · rename_i cc q hb
        rw [hb] at hr
        subst h
        cases cc with
        | true =>
          have h0 : RepT0 G L (.v (.bool q)) v := hr.1 rfl
          cases (show Rep G (.v (.bool q)) v from h0) with
          | v _ _ => simp
        | false =>
          rw [hr.2 rfl]; rfl
      · rename_i hb
        rw [hb] at hr
        have hr' : Rep G (.tup []) v := hr
        subst h
        cases hr' with
        | tup _ vs u hl hu hrr => rfl
    · rw [List.getD_eq_getElem?_getD, List.getElem?_eq_none (Nat.le_of_not_lt hlt)] at h
      simp at h
  · cases h
/-- The values that are there, bare. -/
def unB : AV → AV
  | .opt true x => x
  | a => a
theorem Sim.unB {G : Gh} {L : List Nat} {s : St} {a : Act} {w : World} (sm : Sim G L s a w) : Sim G L { s with sl := s.sl.map unB } a w := by
  refine ⟨sm.hs, by simpa using sm.sz, fun t ht => ?_, sm.df, sm.ls⟩
  have ht' : t < s.sl.length := by simpa using ht
  have h := sm.sl t ht'
  simp only [List.getElem_map]
  generalize s.sl[t] = x at h
  unfold Go.Proofs.YtoleejecmefogaaDoor.unB
  split
  · exact (h.1 rfl).of
  · exact h
theorem evL_unB {sl : List AV} {x : Operand} (h : uside (evL sl x)) : unw (evL sl x) = evL (sl.map unB) x := by
  cases x with
  | tmp t =>
    simp only [evL, List.getD_eq_getElem?_getD, List.getElem?_map] at h ⊢
    cases hs : sl[t]? with
    | none => rfl
    | some y =>
      rw [hs] at h
      simp only [Option.getD_some, Option.map_some] at h ⊢
      cases y <;> first | rfl | (simp only [uside] at h; subst h; rfl)
  | const x =>
    simp only [evL] at h ⊢
    cases x <;> first | rfl | (simp only [cv]; split <;> rfl)
  | _ => rfl
theorem Sim.okOpt {G : Gh} {L : List Nat} {s : St} {a : Act} {w : World} (sm : Sim G L s a w) {t : Nat} {y : AV} (h : s.sl[t]? = some (.opt true y)) : isOpt y = false := by
  obtain ⟨ht, e⟩ := List.getElem?_eq_some_iff.1 h
  have h0 := sm.sl t ht
  rw [e] at h0
  have h1 := h0.1 rfl
  cases y <;> first | rfl | cases (show Rep G (.opt _ _) _ from h1)
theorem unB_back {G' : Gh} {L' : List Nat} {x : AV} {v' : Value} (h0 : ∀ y, x = .opt true y → isOpt y = false) (h : RepT G' L' (Go.Proofs.YtoleejecmefogaaDoor.unB x) v') : RepT G' L' x v' := by
  unfold Go.Proofs.YtoleejecmefogaaDoor.unB at h
  split at h
  · rename_i y
    refine RepT.opt (fun _ => h) (fun e => by cases e) (fun c d e => ?_)
    have := h0 y rfl
    subst e
    cases this
  · exact h
theorem In.rewrap {sl : List AV} (hok : ∀ (t : Nat) y, sl[t]? = some (.opt true y) → isOpt y = false) {d : Option Tmp} {x : AV} {lo : List (List AV)} {h : Hp} {a : Act} {w : World}
    (hi : In c (({ sl := sl.map unB, lo := lo, h := h } : St).put d x) a w) : In c (({ sl := sl, lo := lo, h := h } : St).put d x) a w := by
  obtain ⟨G, L, sm, hg, hf, hL⟩ := hi
  cases d with
  | none =>
    refine ⟨G, L, ⟨sm.hs, by simpa [St.put] using sm.sz, fun t ht => ?_, sm.df, sm.ls⟩, hg, hf, hL⟩
    have ht' : t < sl.length := ht
    have h0 := sm.sl t (by simpa [St.put] using ht')
    simp only [St.put, List.getElem_map] at h0 ⊢
    exact unB_back (fun y e => hok t y (by rw [List.getElem?_eq_getElem ht', e])) h0
  | some d =>
    refine ⟨G, L, ⟨sm.hs, by simpa [St.put] using sm.sz, fun t ht => ?_, sm.df, sm.ls⟩, hg, hf, hL⟩
    have ht' : t < sl.length := by simpa only [St.put, List.length_set] using ht
    have h0 := sm.sl t (by simpa [St.put] using ht')
    simp only [St.put, List.getElem_set, List.getElem_map] at h0 ⊢
    by_cases e : d = t
    · rw [if_pos e] at h0 ⊢; exact h0
    · rw [if_neg e] at h0 ⊢
      exact unB_back (fun y e => hok t y (by rw [List.getElem?_eq_getElem ht', e])) h0
theorem In.wrap {s : St} {d : Option Tmp} {x : AV} (hx : isOpt x = false) {a : Act} {w : World} (hi : In c (s.put d x) a w) : In c (s.put d (.opt true x)) a w := by
  obtain ⟨G, L, sm, hg, hf, hL⟩ := hi
  cases d with
  | none => exact ⟨G, L, sm, hg, hf, hL⟩
  | some d =>
    refine ⟨G, L, ⟨sm.hs, by simpa [St.put] using sm.sz, fun t ht => ?_, sm.df, sm.ls⟩, hg, hf, hL⟩
    have ht' : t < s.sl.length := by simpa only [St.put, List.length_set] using ht
    have h0 := sm.sl t (by simpa [St.put] using ht')
    simp only [St.put, List.getElem_set] at h0 ⊢
    by_cases e : d = t
    · rw [if_pos e] at h0 ⊢
      exact RepT.opt (fun _ => h0) (fun e => by cases e) (fun c d e => by subst e; cases hx)
    · rw [if_neg e] at h0 ⊢; exact h0
/-- An operation that is run, its operands bare. -/
theorem vEff_run (hty : TyOk P ty) {mdn : Nat} {o : Oper} {s : St} {K : List (List AV) → Hp → AV → Prop} (hops : opS (evL s.sl) (opsOf o.op)) (h : vEff P ty mdn o.op (fun x => unw (evL s.sl x)) s.lo s.h K) {a : Act} {w : World} (hi : In c s a w)
    {Kc : Act → World → Prop} {Q : Exit → Act → World → Prop} (hk : ∀ lo' h' x a' w', K lo' h' x → In c (({ sl := s.sl, lo := lo', h := h' } : St).put o.dst x) a' w' → Kc a' w') : o.wp P a w Kc Q := by
  obtain ⟨G, L, sm, hg, hf, hL⟩ := id hi
  have hok : ∀ (t : Nat) y, s.sl[t]? = some (.opt true y) → isOpt y = false := fun t y => sm.okOpt
  have hi' : In c { s with sl := s.sl.map Go.Proofs.YtoleejecmefogaaDoor.unB } a w := ⟨G, L, sm.unB, hg, hf, hL⟩
  rw [vEff_congr (ev' := evL (s.sl.map Go.Proofs.YtoleejecmefogaaDoor.unB)) (fun x hx => evL_unB (opS_mem hops (opsOf_mem hx)))] at h
  have hv : vEff P ty mdn o.op (St.ev { s with sl := s.sl.map Go.Proofs.YtoleejecmefogaaDoor.unB }) s.lo s.h (eK { s with sl := s.sl.map Go.Proofs.YtoleejecmefogaaDoor.unB } o (fun st => ∃ x, K st.lo st.h x ∧ st = ({ sl := s.sl.map Go.Proofs.YtoleejecmefogaaDoor.unB, lo := st.lo, h := st.h } : St).put o.dst x)) := by
    have e : (eK { s with sl := s.sl.map Go.Proofs.YtoleejecmefogaaDoor.unB } o (fun st => ∃ x, K st.lo st.h x ∧ st = ({ sl := s.sl.map Go.Proofs.YtoleejecmefogaaDoor.unB, lo := st.lo, h := st.h } : St).put o.dst x)) = fun lo' h' x => ∃ x', K lo' h' x' ∧ ({ sl := s.sl.map Go.Proofs.YtoleejecmefogaaDoor.unB, lo := lo', h := h' } : St).put o.dst x = ({ sl := s.sl.map Go.Proofs.YtoleejecmefogaaDoor.unB, lo := lo', h := h' } : St).put o.dst x' := by
      funext lo' h' x
      unfold eK
      cases o.dst <;> rfl
    rw [e]
    exact vEff_mono (fun lo' h' x hx => ⟨x, hx, rfl⟩) h
  refine vEff_sound (c := c) hty hv a w hi' Kc Q fun s' a' w' ⟨x, hK, e⟩ hi2 => ?_
  rw [e] at hi2
  exact hk _ _ x a' w' hK (In.rewrap hok hi2)
theorem pick_run {o : Oper} {s : St} {p x y : Operand} (hop : o.op = .pick p x y) {cnd : Prop} (hc : cnd) {K : AV → Prop} (h : pickE cnd (evL s.sl) p x y K) {a : Act} {w : World} (hi : In c s a w)
    {Kc : Act → World → Prop} {Q : Exit → Act → World → Prop} (hk : ∀ z a' w', K z → In c (s.put o.dst z) a' w' → Kc a' w') : o.wp P a w Kc Q := by
  obtain ⟨G, L, sm, hg, hf, hL⟩ := id hi
  unfold pickE at h
  split at h
  · rename_i b hb
    obtain ⟨hs, hK⟩ := h
    obtain ⟨h1, h2, h3, h4⟩ := hs hc
    have hp := (sm.ev p).unw h1
    have hb' : Go.Proofs.YtoleejecmefogaaDoor.unw (s.ev p) = .v (.bool b) := hb
    rw [hb'] at hp
    have e := hp.v_inv
    rw [joinA_eq h4] at hK
    cases b with
    | true =>
      have hx := (sm.ev x).unw (h2 rfl)
      have hrun : (execOp a.eval o).run P w = .ok (.value (a.eval x)) w := by simp [execOp, hop, e, asBool]
      unfold Oper.wp
      rw [hrun]
      exact hk _ _ _ hK (In.put sm hg hf hL o.dst hx)
    | false =>
      have hy := (sm.ev y).unw (h3 rfl)
      have hrun : (execOp a.eval o).run P w = .ok (.value (a.eval y)) w := by simp [execOp, hop, e, asBool]
      unfold Oper.wp
      rw [hrun]
      exact hk _ _ _ hK (In.put sm hg hf hL o.dst hy)
  · exact h.elim
theorem skip_opt {s : St} {a : Act} {w : World} (hi : In c s a w) (d : Option Tmp) (x : AV) : In c (s.put d (.opt false x)) (a.put d undef) w := by
  obtain ⟨G, L, sm, hg, hf, hL⟩ := hi
  exact In.put sm hg hf hL d (⟨fun e => (by cases e), fun _ => rfl⟩ : RepT G L (.opt false x) undef)
/-- One operation, guarded or not. -/
theorem gStep_sound (hty : TyOk P ty) {o : Oper} {s : St} {K : List (List AV) → Hp → AV → Prop} (h : gStep P ty md all o s.sl s.lo s.h K) {a : Act} {w : World} (hi : In c s a w) {Kc : Act → World → Prop} {Q : Exit → Act → World → Prop}
    (hk : ∀ lo' h' x a' w', K lo' h' x → In c (({ sl := s.sl, lo := lo', h := h' } : St).put o.dst x) a' w' → Kc a' w') :
    if Region.wanted o (yielded all a.tmps) then o.wp P a w Kc Q else Kc (a.put o.dst undef) w := by
  obtain ⟨G, L, sm, hg, hf, hL⟩ := id hi
  unfold gStep at h
  split at h
  · rename_i hgd
    simp only [Region.wanted, hgd, if_true]
    split at h
    · rename_i p x y hop
      exact pick_run hop trivial h hi fun z a' w' hz hi' => hk _ _ z a' w' hz hi'
    · exact vEff_run hty h.1 h.2 hi hk
  · rename_i j wt hgd
    simp only [Region.wanted, hgd]
    split at h
    · exact h.elim
    · rename_i cnd hcnd
      rw [condG_sound sm hcnd]
      split at h
      · rename_i p x y hop
        cases cnd with
        | true =>
          simp only [if_true]
          exact pick_run hop rfl h hi fun z a' w' hz hi' => hk _ _ _ a' w' hz.2 (In.wrap hz.1 hi')
        | false =>
          simp only [Bool.false_eq_true, if_false]
          unfold pickE at h
          split at h
          · exact hk _ _ _ _ _ h.2.2 (skip_opt hi o.dst _)
          · exact h.elim
      · cases hcv : isCallV o.op with
        | true =>
          simp only [hcv, cond_true] at h
          cases cnd with
          | true =>
            simp only [if_true]
            obtain ⟨h4, h5⟩ := h.1 rfl
            exact vEff_run hty h4 h5 hi fun lo' h' z a' w' hz hi' => hk _ _ _ a' w' hz.2 (In.wrap (s := { sl := s.sl, lo := lo', h := h' }) hz.1 hi')
          | false =>
            simp only [Bool.false_eq_true, if_false]
            exact hk _ _ _ _ _ (h.2 rfl) (skip_opt hi o.dst _)
        | false =>
        simp only [hcv, cond_false] at h
        split at h
        · rename_i p x hq
          obtain ⟨h1, h2, h3⟩ := h
          cases cnd with
          | true =>
            simp only [if_true]
            obtain ⟨h4, h5⟩ := h1 rfl
            refine vEff_run hty h4 (qV_sound (P := P) hq h5) hi fun lo' h' z a' w' hz hi' => ?_
            obtain ⟨rfl, rfl, rfl⟩ := hz
            exact hk _ _ _ a' w' h3 (In.wrap h2 hi')
          | false =>
            simp only [Bool.false_eq_true, if_false]
            exact hk _ _ _ _ _ h3 (skip_opt hi o.dst _)
        · obtain ⟨x, h1, h2, h3⟩ := h
          cases cnd with
          | true =>
            simp only [if_true]
            obtain ⟨h4, h5⟩ := h1 rfl
            refine vEff_run hty h4 h5 hi fun lo' h' z a' w' hz hi' => ?_
            obtain ⟨rfl, rfl, rfl⟩ := hz
            exact hk _ _ _ a' w' h3 (In.wrap h2 hi')
          | false =>
            simp only [Bool.false_eq_true, if_false]
            exact hk _ _ _ _ _ h3 (skip_opt hi o.dst _)
def vOps (P : Program) (ty : Nat → Option TyD) (md : Option Tmp → Nat) (all : Array Oper) : List Oper → St → (St → Prop) → Prop
  | [], s, K => K s
  | o :: r, s, K => gStep P ty md all o s.sl s.lo s.h fun lo' h' x => vOps P ty md all r (({ sl := s.sl, lo := lo', h := h' } : St).put o.dst x) K
theorem vOps_sound (hty : TyOk P ty) {Qc : Exit → Act → World → Prop} : ∀ (l : List Oper) {s : St} {K : St → Prop} (_ : vOps P ty md all l s K) {a : Act} {w : World} (_ : In c s a w) (_ : ∀ s' a' w', K s' → In c s' a' w' → Qc .normal a' w'), wpList P all Qc l a w
  | [], s, K, h, a, w, hi, hk => hk s a w h hi
  | o :: r, s, K, h, a, w, hi, hk => by
    have := gStep_sound (c := c) hty h hi (Kc := wpList P all Qc r) (Q := Qc) (fun lo' h' x a' w' h' hi' => vOps_sound hty r h' hi' hk)
    unfold wpList
    split
    · rename_i hw; rw [if_pos hw] at this; exact .inl this
    · rename_i hw; rw [if_neg hw] at this; exact this
theorem awp_region (hty : TyOk P ty) {id : Nat} {Q : Exit → St → Prop} {s : St} (md : Option Tmp → Nat) (h : ∀ K : St → Prop, (∀ s', Q .normal s' → K s') → vOps P ty md all all.toList s K) : Awp P c (.region id all false) Q s := by
  intro a w hi
  exact wp_region_list (vOps_sound hty _ (h _ (fun _ h => h)) hi fun s' a' w' h' hi' => ⟨s', h', hi'⟩)
end
end Go.Proofs.YtoleejecmefogaaDoor
