/- Append: the right to it, and what becomes of it. -/
import Derived.Test.YtpnfkfbapfnboaaGreatDoorAvMake3
namespace Go.Proofs.YtpnfkfbapfnboaaGreatDoor
open Go
set_option linter.unusedVariables false
set_option linter.unusedSimpArgs false
def Gh.app (G : Gh) (B lo : Nat) (us : List Value) (k : Nat) (t : Tail) : Gh :=
  { G with val := fun g o => if g = B ∧ lo ≤ o then us[o - lo]? else G.val g o, tl := upd G.tl k (some (some t)) }
theorem Gh.app_le {G : Gh} {B lo k : Nat} {us : List Value} {t : Tail} (hf : ∀ o, lo ≤ o → G.val B o = none) (ht : G.tl k = some none ∧ 0 < t.m ∨ ∃ t0, G.tl k = some (some t0) ∧ t0.m < t.m) : GLe G (G.app B lo us k t) :=
  ⟨fun g o x e => by
    simp only [Gh.app]
    split
    · rename_i h; rw [h.1, hf o h.2] at e; cases e
    · exact e, fun _ _ e => e, Nat.le_refl _, fun j _ => by
      simp only [Gh.app]
      by_cases hj : j = k
      · subst hj
        rw [upd_same]
        rcases ht with ⟨e, h⟩ | ⟨t0, e, h⟩
        · rw [e]; exact .born t h
        · rw [e]; exact .more t0 t h
      · rw [upd_other _ _ hj]; exact .same _⟩
section
variable {G : Gh} {w w' : World} {L : List Nat} {s : St} {a : Act}
theorem Sim.tokAt (sm : Sim G L s a w) {G' : Gh} {k B : Nat} {o0 o' : TO} {t' : Tail} (hT : s.h.T k = some o0) (hle : GLe G G') (htl : ∀ l, l ≠ k → G'.tl l = G.tl l) (htlk : G'.tl k = some (some t')) (htg : t'.g = B)
    (hvo : ∀ b o, b ≠ B → G'.val b o = G.val b o) (hat : G'.at_ = G.at_) (hnx : G'.nx = G.nx) (hv : ∀ o x, G'.val B o = some x → cellT w' B o = some x) (hTR : TRep G' w' k o')
    (hkeep : ∀ b, b < w.heap.size → b ≠ B → w'.heap[b]? = w.heap[b]?) (hown : w.heap.size ≤ B ∨ ∃ t, G.tl k = some (some t) ∧ t.g = B) (h1 : w'.os = w.os) (h2 : w'.tape = w.tape) (h3 : w'.output = w.output) (h4 : w.heap.size ≤ w'.heap.size) :
    Sim G' L { s with h := { s.h with T := upd s.h.T k (some o') } } a w' ∧ Fr G s.h w G' { s.h with T := upd s.h.T k (some o') } w' := by
  have hs := sm.hs
  have htk := hs.tok k _ hT
  have hobj : ∀ i b, s.h.H i ≠ none → G.at_ i = some b → b ≠ B ∧ b < w.heap.size := fun i b hi e => by
    have hlt := hs.own_lt (.inl ⟨i, hi, e⟩)
    refine ⟨fun e' => ?_, hlt⟩
    rcases hown with h | ⟨t, ht, hg⟩
    · omega
    · exact hs.tobj k i t (by rw [hT]; simp) hi ht (by rw [e, e', hg])
  have htok : ∀ l t, l ≠ k → s.h.T l ≠ none → G.tl l = some (some t) → t.g ≠ B ∧ t.g < w.heap.size := fun l t hl hn e => by
    have hlt := hs.own_lt (.inr ⟨l, t, hn, e, rfl⟩)
    refine ⟨fun e' => ?_, hlt⟩
    rcases hown with h | ⟨t', ht', hg⟩
    · omega
    · exact hl (hs.tinj l k t t' hn (by rw [hT]; simp) e ht' (by rw [e', hg]))
  have hTn : ∀ l, upd s.h.T k (some o') l ≠ none → s.h.T l ≠ none := fun l hl => by
    by_cases h : l = k
    · subst h; rw [hT]; simp
    · rwa [upd_other _ _ h] at hl
  have hLB : ∀ b ∈ L, b ≠ B := fun b hb e => by
    rcases hown with h | ⟨t, ht, hg⟩
    · have := sm.ls.lt hb; omega
    · exact (sm.ls.free b hb).1 (.inr ⟨k, t, by rw [hT]; simp, ht, by rw [hg, e]⟩)
  refine ⟨⟨?_, sm.sz, fun t ht => (sm.sl t ht).mono hle, sm.df, ?_⟩, ⟨h1, h2, h3, h4, fun b hlt hn => ?_⟩⟩
  · refine ⟨fun g o x e => ?_, fun i ob e => ?_, fun i j b hi hj e e' => hs.inj i j b hi hj (by rw [← hat]; exact e) (by rw [← hat]; exact e'), fun l n e => ?_, fun l j t t' hl hj e e' hg => ?_, fun l i t hl hi e => ?_, fun i hi => by rw [hat]; exact hs.fat i (by omega), fun l hl => ?_⟩
    · by_cases hg : g = B
      · subst hg; exact hv o x e
      · rw [hvo g o hg] at e
        rw [cellT_at (hkeep g (hs.val_lt e) hg)]; exact hs.val g o x e
    · obtain ⟨b, o, x, y, r, q⟩ := hs.obj i ob e
      obtain ⟨hne, hlt⟩ := hobj i b (by rw [show s.h.H i = some ob from e]; simp) x
      exact ⟨b, o, by rw [hat]; exact x, by rw [hkeep b hlt hne]; exact y, r.mono hle, fun o' => by rw [hvo b o' hne]; exact q o'⟩
    · by_cases hlk : l = k
      · subst hlk
        simp only [upd_same, Option.some.injEq] at e
        subst e
        exact hTR
      · simp only [upd_other _ _ hlk] at e
        refine (hs.tok l n e).move hle (htl l hlk) fun t e' => ?_
        obtain ⟨hne, hlt⟩ := htok l t hlk (by rw [show s.h.T l = some n from e]; simp) e'
        exact ⟨hkeep _ hlt hne, fun o => hvo _ _ hne⟩
    · have hl' := hTn l hl
      have hj' := hTn j hj
      by_cases hlk : l = k <;> by_cases hjk : j = k
      · rw [hlk, hjk]
      · subst hlk
        rw [htlk] at e; simp only [Option.some.injEq] at e
        rw [htl j hjk] at e'
        exact absurd (by rw [← hg, ← e, htg]) (htok j t' hjk hj' e').1
      · subst hjk
        rw [htlk] at e'; simp only [Option.some.injEq] at e'
        rw [htl l hlk] at e
        exact absurd (by rw [hg, ← e', htg]) (htok l t hlk hl' e).1
      · rw [htl l hlk] at e; rw [htl j hjk] at e'
        exact hs.tinj l j t t' hl' hj' e e' hg
    · rw [hat]
      by_cases hlk : l = k
      · subst hlk
        rw [htlk] at e; simp only [Option.some.injEq] at e
        subst e
        intro e'
        exact (hobj i _ hi e').1 htg
      · rw [htl l hlk] at e
        exact hs.tobj l i t (hTn l hl) hi e
    · by_cases hlk : l = k
      · subst hlk
        have : G.nx ≤ l := by omega
        have h0 := hs.ftl l this
        exact absurd h0 htk.tl
      · rw [htl l hlk]; exact hs.ftl l (by omega)
  · refine ⟨sm.ls.len, fun j b cs e e' => ?_, fun b hb => ⟨fun o' => ?_, fun o => ?_⟩, sm.ls.nd⟩
    · obtain ⟨vs, E', x, y, r⟩ := sm.ls.lo j b cs e e'
      have hbm := List.mem_of_getElem? e
      exact ⟨vs, E', by rw [hkeep b (sm.ls.lt hbm) (hLB b hbm)]; exact x, y, r.mono hle⟩
    · rcases o' with ⟨i, hi, e⟩ | ⟨l, t, hl, e, hg⟩
      · rw [hat] at e; exact (sm.ls.free b hb).1 (.inl ⟨i, hi, e⟩)
      · by_cases hlk : l = k
        · subst hlk
          rw [htlk] at e; simp only [Option.some.injEq] at e; subst e
          exact hLB b hb (by rw [← hg, htg])
        · rw [htl l hlk] at e
          exact (sm.ls.free b hb).1 (.inr ⟨l, t, hTn l hl, e, hg⟩)
    · rw [hvo b o (hLB b hb)]; exact (sm.ls.free b hb).2 o
  · have hne : b ≠ B := fun e => by
      rcases hown with h | ⟨t, ht, hg⟩
      · omega
      · exact hn (.inr ⟨k, t, by rw [hT]; simp, ht, by rw [hg, e]⟩)
    refine ⟨hkeep b hlt hne, fun o' => ?_, fun o => hvo b o hne⟩
    rcases o' with ⟨i, hi, e⟩ | ⟨l, t, hl, e, hg⟩
    · rw [hat] at e; exact hn (.inl ⟨i, hi, e⟩)
    · by_cases hlk : l = k
      · subst hlk
        rw [htlk] at e; simp only [Option.some.injEq] at e; subst e
        exact hne (by rw [← hg, htg])
      · rw [htl l hlk] at e
        exact hn (.inr ⟨l, t, hTn l hl, e, hg⟩)
theorem Sim.app (sm : Sim G L s a w) {k m m' B lo z c : Nat} {us : List Value} {arr : Array Value} {E : TypeId} (hT : s.h.T k = some (.tail m))
    (hkeep : ∀ b, b < w.heap.size → b ≠ B → w'.heap[b]? = w.heap[b]?) (hB : w'.heap[B]? = some (.cells arr E (0, 0))) (hsz : arr.size = c * z) (hus : ∀ (o : Nat) x, us[o]? = some x → arr[lo + o]? = some x)
    (hold : ∀ o x, G.val B o = some x → arr[o]? = some x) (hfree : ∀ o, lo ≤ o → G.val B o = none) (hlen : lo + us.length = m' * z) (hc : m' ≤ c) (hcm : c ≤ maxLen) (hm : m < m')
    (hown : w.heap.size ≤ B ∨ ∃ t, G.tl k = some (some t) ∧ t.g = B) (h1 : w'.os = w.os) (h2 : w'.tape = w.tape) (h3 : w'.output = w.output) (h4 : w.heap.size ≤ w'.heap.size) :
    Sim (G.app B lo us k ⟨B, m', z, c⟩) L { s with h := { s.h with T := upd s.h.T k (some (.tail m')) } } a w' ∧ GLe G (G.app B lo us k ⟨B, m', z, c⟩) ∧
      Fr G s.h w (G.app B lo us k ⟨B, m', z, c⟩) { s.h with T := upd s.h.T k (some (.tail m')) } w' := by
  have htk := sm.hs.tok k _ hT
  have hle : GLe G (G.app B lo us k ⟨B, m', z, c⟩) := Gh.app_le hfree (by
    rcases htk with ⟨e, _⟩ | ⟨t, _, _, e, e2, _⟩
    · exact .inl ⟨e, by show 0 < m'; omega⟩
    · exact .inr ⟨t, e, by show t.m < m'; omega⟩)
  have htlk : (G.app B lo us k ⟨B, m', z, c⟩).tl k = some (some ⟨B, m', z, c⟩) := upd_same _ _ _
  obtain ⟨x, y⟩ := sm.tokAt (G' := G.app B lo us k ⟨B, m', z, c⟩) (w' := w') (o' := .tail m') hT hle (fun l hl => upd_other _ _ hl) htlk rfl (fun b o hb => by simp only [Gh.app]; rw [if_neg (fun h => hb h.1)]) rfl rfl (fun o x e => by
      rw [cellT_of hB]
      by_cases ho : lo ≤ o
      · have e' : us[o - lo]? = some x := by simpa [Gh.app, ho] using e
        have := hus _ _ e'
        rwa [show lo + (o - lo) = o by omega] at this
      · simp only [Gh.app] at e
        rw [if_neg (fun h => ho h.2)] at e
        exact hold o x e) (.inr ⟨_, arr, E, htlk, rfl, by omega, hB, hsz, hc, hcm, fun o ho => by
        simp only at ho ⊢
        have ho2 : lo ≤ o := by omega
        simp only [Gh.app, ho2, and_self, if_true]
        exact List.getElem?_eq_none (by omega)⟩) hkeep hown h1 h2 h3 h4
  exact ⟨x, hle, y⟩
theorem Sim.setCont (sm : Sim G L s a w) {k B z z0 c : Nat} {xs0 xs : List (List AV)} {arr : Array Value} {E : TypeId} (hT : s.h.T k = some (.cont z0 xs0))
    (hkeep : ∀ b, b < w.heap.size → b ≠ B → w'.heap[b]? = w.heap[b]?) (hB : w'.heap[B]? = some (.cells arr E (0, 0))) (hsz : arr.size = c * z) (hfree : ∀ o, G.val B o = none) (hzx : ∀ x ∈ xs, x.length = z)
    (hr : RepL G xs.flatten (arr.toList.take xs.flatten.length)) (hc : xs.length ≤ c) (hcm : c ≤ maxLen) (h0 : 0 < xs.length) (hm : xs0.length < xs.length ∨ xs0.length = xs.length ∧ z = z0 ∧ ∃ t, G.tl k = some (some t) ∧ t.g = B ∧ t.c = c)
    (hown : w.heap.size ≤ B ∨ ∃ t, G.tl k = some (some t) ∧ t.g = B) (h1 : w'.os = w.os) (h2 : w'.tape = w.tape) (h3 : w'.output = w.output) (h4 : w.heap.size ≤ w'.heap.size) :
    ∃ G', G' = { G with tl := upd G.tl k (some (some ⟨B, xs.length, z, c⟩)) } ∧ Sim G' L { s with h := { s.h with T := upd s.h.T k (some (.cont z xs)) } } a w' ∧ GLe G G' ∧ Fr G s.h w G' { s.h with T := upd s.h.T k (some (.cont z xs)) } w' := by
  have htk := sm.hs.tok k _ hT
  have hle : GLe G { G with tl := upd G.tl k (some (some ⟨B, xs.length, z, c⟩)) } := ⟨fun _ _ _ e => e, fun _ _ e => e, Nat.le_refl _, fun j _ => by
    by_cases hj : j = k
    · subst hj
      simp only [upd_same]
      rcases htk with ⟨e, e0⟩ | ⟨t, _, _, e, e2, _, _, _, _, _, _, ez, _⟩
      · rw [e]; exact .born _ h0
      · rw [e]
        rcases hm with hlt | ⟨heq, hz, t', e', hg, hcc⟩
        · exact .more _ _ (by show t.m < xs.length; omega)
        · rw [e] at e'; cases e'
          have : (⟨B, xs.length, z, c⟩ : Tail) = t := by
            cases t; simp only [Tail.mk.injEq]; exact ⟨hg.symm, by simp only at e2; omega, by simp only at ez; omega, hcc.symm⟩
          rw [this]; exact .same _
    · simp only [upd_other _ _ hj]; exact .same _⟩
  have htlk : ({ G with tl := upd G.tl k (some (some ⟨B, xs.length, z, c⟩)) } : Gh).tl k = some (some ⟨B, xs.length, z, c⟩) := upd_same _ _ _
  obtain ⟨x, y⟩ := sm.tokAt (G' := { G with tl := upd G.tl k (some (some ⟨B, xs.length, z, c⟩)) }) (w' := w') (o' := .cont z xs) hT hle (fun l hl => upd_other _ _ hl) htlk rfl (fun b o hb => rfl) rfl rfl (fun o x e => by rw [hfree] at e; cases e)
    (.inr ⟨_, arr, E, htlk, rfl, Nat.lt_of_lt_of_le h0 hc, hB, hsz, hc, hcm, hfree, rfl, hzx, hr.mono hle⟩) hkeep hown h1 h2 h3 h4
  exact ⟨_, rfl, x, hle, y⟩
theorem Sim.setBuf (sm : Sim G L s a w) {k B c : Nat} {xs0 xs : List (List AV)} {arr : Array Value} {E : TypeId} (hT : s.h.T k = some (.buf E xs0))
    (hkeep : ∀ b, b < w.heap.size → b ≠ B → w'.heap[b]? = w.heap[b]?) (hB : w'.heap[B]? = some (.cells arr E (0, 0))) (hsz : arr.size = c * 1) (hfree : ∀ o, G.val B o = none) (hzx : ∀ x ∈ xs, x.length = 1)
    (hr : RepL G xs.flatten (arr.toList.take xs.flatten.length)) (hc : xs.length ≤ c) (hcm : c ≤ maxLen) (h0 : 0 < xs.length) (hm : xs0.length < xs.length ∨ xs0.length = xs.length ∧ ∃ t, G.tl k = some (some t) ∧ t.g = B ∧ t.c = c)
    (hown : w.heap.size ≤ B ∨ ∃ t, G.tl k = some (some t) ∧ t.g = B) (h1 : w'.os = w.os) (h2 : w'.tape = w.tape) (h3 : w'.output = w.output) (h4 : w.heap.size ≤ w'.heap.size) :
    ∃ G', G' = { G with tl := upd G.tl k (some (some ⟨B, xs.length, 1, c⟩)) } ∧ Sim G' L { s with h := { s.h with T := upd s.h.T k (some (.buf E xs)) } } a w' ∧ GLe G G' ∧ Fr G s.h w G' { s.h with T := upd s.h.T k (some (.buf E xs)) } w' := by
  have htk := sm.hs.tok k _ hT
  have hle : GLe G { G with tl := upd G.tl k (some (some ⟨B, xs.length, 1, c⟩)) } := ⟨fun _ _ _ e => e, fun _ _ e => e, Nat.le_refl _, fun j _ => by
    by_cases hj : j = k
    · subst hj
      simp only [upd_same]
      rcases htk with ⟨e, e0⟩ | ⟨t, _, e, e2, _, _, _, _, _, _, ez, _⟩
      · rw [e]; exact .born _ h0
      · rw [e]
        rcases hm with hlt | ⟨heq, t', e', hg, hcc⟩
        · exact .more _ _ (by show t.m < xs.length; omega)
        · rw [e] at e'; cases e'
          have : (⟨B, xs.length, 1, c⟩ : Tail) = t := by
            cases t; simp only [Tail.mk.injEq]; exact ⟨hg.symm, by simp only at e2; omega, by simp only at ez; omega, hcc.symm⟩
          rw [this]; exact .same _
    · simp only [upd_other _ _ hj]; exact .same _⟩
  have htlk : ({ G with tl := upd G.tl k (some (some ⟨B, xs.length, 1, c⟩)) } : Gh).tl k = some (some ⟨B, xs.length, 1, c⟩) := upd_same _ _ _
  obtain ⟨x, y⟩ := sm.tokAt (G' := { G with tl := upd G.tl k (some (some ⟨B, xs.length, 1, c⟩)) }) (w' := w') (o' := .buf E xs) hT hle (fun l hl => upd_other _ _ hl) htlk rfl (fun b o hb => rfl) rfl rfl (fun o x e => by rw [hfree] at e; cases e)
    (.inr ⟨_, arr, htlk, rfl, Nat.lt_of_lt_of_le h0 hc, hB, hsz, hc, hcm, hfree, rfl, hzx, hr.mono hle⟩) hkeep hown h1 h2 h3 h4
  exact ⟨_, rfl, x, hle, y⟩
def Gh.newTk (G : Gh) : Gh := { G with tl := upd G.tl G.nx (some none), nx := G.nx + 1 }
theorem Sim.newTok (sm : Sim G L s a w) {o : TO} (ho : o = .tail 0 ∨ (∃ z, o = .cont z []) ∨ ∃ E, o = .buf E []) : s.h.T G.nx = none ∧ Sim G.newTk L { s with h := { s.h with T := upd s.h.T G.nx (some o) } } a w ∧ GLe G G.newTk ∧ Fr G s.h w G.newTk { s.h with T := upd s.h.T G.nx (some o) } w := by
  have hs := sm.hs
  have hTnx : s.h.T G.nx = none := by
    cases e : s.h.T G.nx with
    | none => rfl
    | some m =>
      have h0 := hs.ftl G.nx (Nat.le_refl _)
      exact absurd h0 (hs.tok _ m e).tl
  have hle : GLe G G.newTk := ⟨fun _ _ _ e => e, fun _ _ e => e, by simp [Gh.newTk], fun j hj => by
    simp only [Gh.newTk]; rw [upd_other _ _ (by omega)]; exact .same _⟩
  have htlk : G.newTk.tl G.nx = some none := upd_same _ _ _
  have htl : ∀ l, l ≠ G.nx → G.newTk.tl l = G.tl l := fun l hl => upd_other _ _ hl
  have hTn : ∀ l, l ≠ G.nx → upd s.h.T G.nx (some o) l ≠ none → s.h.T l ≠ none := fun l hlk hl => by rwa [upd_other _ _ hlk] at hl
  have hown : ∀ b, Own G.newTk { s.h with T := upd s.h.T G.nx (some o) } b → Own G s.h b := by
    rintro b (⟨i, hi, e⟩ | ⟨l, t, hl, e, hg⟩)
    · exact .inl ⟨i, hi, e⟩
    · by_cases hlk : l = G.nx
      · subst hlk; rw [htlk] at e; cases e
      · rw [htl l hlk] at e; exact .inr ⟨l, t, hTn l hlk hl, e, hg⟩
  refine ⟨hTnx, ⟨⟨hs.val, fun i ob e => ?_, hs.inj, fun l n e => ?_, fun l j t t' hl hj e e' hg => ?_, fun l i t hl hi e => ?_, fun i hi => hs.fat i (by have : G.nx + 1 ≤ i := hi; omega), fun l hl => ?_⟩, sm.sz, fun t ht => (sm.sl t ht).mono hle, sm.df, ?_⟩, hle,
    ⟨rfl, rfl, rfl, Nat.le_refl _, fun b _ hn => ⟨rfl, fun o' => hn (hown b o'), fun _ => rfl⟩⟩⟩
  · obtain ⟨b, o, x, y, r, q⟩ := hs.obj i ob e
    exact ⟨b, o, x, y, r.mono hle, q⟩
  · by_cases hlk : l = G.nx
    · subst hlk
      simp only [upd_same, Option.some.injEq] at e
      subst e
      rcases ho with rfl | ⟨z, rfl⟩ | ⟨E, rfl⟩
      · exact .inl ⟨htlk, rfl⟩
      · exact .inl ⟨htlk, rfl⟩
      · exact .inl ⟨htlk, rfl⟩
    · simp only [upd_other _ _ hlk] at e
      exact (hs.tok l n e).move hle (htl l hlk) fun t e' => ⟨rfl, fun _ => rfl⟩
  · by_cases hlk : l = G.nx
    · subst hlk; rw [htlk] at e; cases e
    · by_cases hjk : j = G.nx
      · subst hjk; rw [htlk] at e'; cases e'
      · rw [htl l hlk] at e; rw [htl j hjk] at e'
        exact hs.tinj l j t t' (hTn l hlk hl) (hTn j hjk hj) e e' hg
  · by_cases hlk : l = G.nx
    · subst hlk; rw [htlk] at e; cases e
    · rw [htl l hlk] at e
      exact hs.tobj l i t (hTn l hlk hl) hi e
  · have : G.nx + 1 ≤ l := hl
    rw [htl l (by omega)]; exact hs.ftl l (by omega)
  · exact ⟨sm.ls.len, fun j b cs e e' => let ⟨vs, E', x, y, r⟩ := sm.ls.lo j b cs e e'; ⟨vs, E', x, y, r.mono hle⟩, fun b hb => ⟨fun o' => (sm.ls.free b hb).1 (hown b o'), (sm.ls.free b hb).2⟩, sm.ls.nd⟩
end
end Go.Proofs.YtpnfkfbapfnboaaGreatDoor

