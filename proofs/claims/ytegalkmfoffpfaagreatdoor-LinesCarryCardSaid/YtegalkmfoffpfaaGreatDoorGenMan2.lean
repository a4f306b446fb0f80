/- Stream.Manifest: some manifest, nearly always right. -/
import Derived.Test.YtegalkmfoffpfaaGreatDoorGenMan
import Derived.Test.YtegalkmfoffpfaaGreatDoorFlat
namespace Go.Proofs.YtegalkmfoffpfaaGreatDoor
open Go.RowKit
attribute [local go_sem ↓] Go.wp_at_zero Go.wp_at_succ

theorem flat_set0 {α : Type} (p q : α → Value) : ∀ (l : List α) (i : Nat) (x : α) (hi : i < l.length), q x = q l[i] → (l.flatMap fun a => [p a, q a]).set (i * 2) (p x) = (l.set i x).flatMap fun a => [p a, q a]
  | a :: l, 0, x, _, h => by simp at h; simp [h]
  | a :: l, i + 1, x, hi, h => by
    have := flat_set0 p q l i x (by simpa using hi) (by simpa using h)
    rw [show (i + 1) * 2 = i * 2 + 1 + 1 by omega]
    simp only [List.flatMap_cons, List.cons_append, List.nil_append, List.set_cons_succ]
    rw [this]
theorem flat_set1 {α : Type} (p q : α → Value) : ∀ (l : List α) (i : Nat) (x : α) (hi : i < l.length), p x = p l[i] → (l.flatMap fun a => [p a, q a]).set (i * 2 + 1) (q x) = (l.set i x).flatMap fun a => [p a, q a]
  | a :: l, 0, x, _, h => by simp at h; simp [h]
  | a :: l, i + 1, x, hi, h => by
    have := flat_set1 p q l i x (by simpa using hi) (by simpa using h)
    rw [show (i + 1) * 2 + 1 = i * 2 + 1 + 1 + 1 by omega]
    simp only [List.flatMap_cons, List.cons_append, List.nil_append, List.set_cons_succ]
    rw [this]

/-- Chunks stay chunks when a good sum, or good bytes, are stored at the head of some row of chunks. -/
theorem ChWf.store {w : World} {base lo g j : Nat} {v x : Value} {cur : Array Value} (h : ChWf w base lo v) (_hg : w.heap[g]? = some (.cells cur 49 (0, 0)))
    (hx : (j = 0 ∧ ∃ t : ByteArray, t.size ≤ 16 ∧ x = .string t) ∨ (j = 1 ∧ ∃ z : Int, -100000000000001 ≤ z ∧ z ≤ 100000000000001 ∧ x = .int .i64 z)) : ChWf (w.setCell ⟨g, j, none⟩ x) base lo v := by
  obtain ⟨cs, h1, h2, h3, h4⟩ := h
  by_cases hb : v.ownBlock = some g
  · have hv : ∃ cap, v = .slice (some ⟨g, 0, none⟩) cs.length cap := by
      rcases h4.2 with ⟨rfl, _⟩ | ⟨g', cap, cur, rfl, _⟩
      · simp [Value.ownBlock] at hb
      · simp [Value.ownBlock] at hb; subst hb; exact ⟨cap, rfl⟩
    obtain ⟨cap, rfl⟩ := hv
    have hst := (h4.stored j x).1
    by_cases h0 : cs.length = 0
    · have : cs = [] := List.eq_nil_of_length_eq_zero h0
      subst this
      exact ⟨[], h1, h2, h3, by simpa using hst⟩
    · have hlt : 0 < cs.length := by omega
      rcases hx with ⟨rfl, t, ht, rfl⟩ | ⟨rfl, z, hz0, hz1, rfl⟩
      · have e := flat_set0 (fun c : ByteArray × Int => Value.string c.1) (fun c => Value.int .i64 c.2) cs 0 (t, cs[0].2) hlt rfl
        refine ⟨cs.set 0 (t, cs[0].2), by simpa using h1, by simpa using h2, fun c hc => ?_, ?_⟩
        · rcases List.mem_or_eq_of_mem_set hc with h | rfl
          · exact h3 c h
          · exact ⟨ht, (h3 _ (List.getElem_mem hlt)).2⟩
        · have e' : (cs.set 0 (t, cs[0].2)).flatMap chC = (cs.flatMap chC).set 0 (.string t) := e.symm
          rw [e', List.length_set]; exact hst
      · have e := flat_set1 (fun c : ByteArray × Int => Value.string c.1) (fun c => Value.int .i64 c.2) cs 0 (cs[0].1, z) hlt rfl
        refine ⟨cs.set 0 (cs[0].1, z), by simpa using h1, by simpa using h2, fun c hc => ?_, ?_⟩
        · rcases List.mem_or_eq_of_mem_set hc with h | rfl
          · exact h3 c h
          · exact ⟨(h3 _ (List.getElem_mem hlt)).1, hz0, hz1⟩
        · have e' : (cs.set 0 (cs[0].1, z)).flatMap chC = (cs.flatMap chC).set 1 (.int .i64 z) := e.symm
          rw [e', List.length_set]; exact hst
  · refine ⟨cs, h1, h2, h3, ?_⟩
    have hg' : w.grownBy (w.setCell ⟨g, j, none⟩ x) (some g) := ⟨rfl, rfl, rfl, by simp [World.setCell], fun k _ hn => Below.heap_setCell _ _ _ _ (by intro e; exact hn (by rw [e]))⟩
    exact h4.kept hg' (.inr hb)
theorem FiWf.chStore {w : World} {base lo n g j : Nat} {v x : Value} {cur : Array Value} (h : FiWf w base lo v n) (hg : w.heap[g]? = some (.cells cur 49 (0, 0)))
    (hx : (j = 0 ∧ ∃ t : ByteArray, t.size ≤ 16 ∧ x = .string t) ∨ (j = 1 ∧ ∃ z : Int, -100000000000001 ≤ z ∧ z ≤ 100000000000001 ∧ x = .int .i64 z)) : FiWf (w.setCell ⟨g, j, none⟩ x) base lo v n := by
  obtain ⟨fs, h1, h2, h3⟩ := h
  refine ⟨fs, h1, ?_, fun f hf => ⟨(h3 f hf).1, (h3 f hf).2.store hg hx⟩⟩
  have hg' : w.grownBy (w.setCell ⟨g, j, none⟩ x) (some g) := ⟨rfl, rfl, rfl, by simp [World.setCell], fun k _ hn => Below.heap_setCell _ _ _ _ (by intro e; exact hn (by rw [e]))⟩
  refine h2.kept hg' (.inr (fun hb => ?_))
  rcases h2.2 with ⟨rfl, _⟩ | ⟨g', cap, cur', rfl, _, hh, _⟩
  · simp [Value.ownBlock] at hb
  · simp [Value.ownBlock] at hb
    subst hb
    rw [hh] at hg
    injection hg with hg
    injection hg with _ ht
    exact absurd ht (by decide)
/-- Files stay files when a key, or no chunks, are stored into one. -/
theorem FiWf.store {w : World} {base lo n g cap i j : Nat} {x : Value} (h : FiWf w base lo (.slice (some ⟨g, 0, none⟩) n cap) n) (hi : i < n)
    (hx : (j = i * 2 ∧ ∃ t : ByteArray, t.size ≤ 16 ∧ x = .string t) ∨ (j = i * 2 + 1 ∧ x = .slice none 0 0)) : FiWf (w.setCell ⟨g, j, none⟩ x) base 0 (.slice (some ⟨g, 0, none⟩) n cap) n := by
  obtain ⟨fs, h1, h2, h3⟩ := h
  subst h1
  have hst := (h2.stored j x).1
  have hgr := (h2.stored j x).2
  have ck : ∀ u, ChWf w base lo u → ChWf (w.setCell ⟨g, j, none⟩ x) base 0 u := by
    rintro u ⟨cs, a1, a2, a3, a4⟩
    exact ⟨cs, by omega, a2, a3, a4.kept hgr (ownsRow_ne a4 h2 (by decide))⟩
  rcases hx with ⟨rfl, t, ht, rfl⟩ | ⟨rfl, rfl⟩
  · have e := flat_set0 (fun c : ByteArray × Value => Value.string c.1) (fun c => c.2) fs i (t, fs[i].2) hi rfl
    refine ⟨fs.set i (t, fs[i].2), by simp, ?_, fun f hf => ?_⟩
    · have e' : (fs.set i (t, fs[i].2)).flatMap fiC = (fs.flatMap fiC).set (i * 2) (.string t) := e.symm
      rw [e']; exact hst
    · rcases List.mem_or_eq_of_mem_set hf with h | rfl
      · exact ⟨(h3 f h).1, ck _ (h3 f h).2⟩
      · exact ⟨ht, ck _ (h3 _ (List.getElem_mem hi)).2⟩
  · have e := flat_set1 (fun c : ByteArray × Value => Value.string c.1) (fun c => c.2) fs i (fs[i].1, .slice none 0 0) hi rfl
    refine ⟨fs.set i (fs[i].1, .slice none 0 0), by simp, ?_, fun f hf => ?_⟩
    · have e' : (fs.set i (fs[i].1, .slice none 0 0)).flatMap fiC = (fs.flatMap fiC).set (i * 2 + 1) (.slice none 0 0) := e.symm
      rw [e']; exact hst
    · rcases List.mem_or_eq_of_mem_set hf with h | rfl
      · exact ⟨(h3 f h).1, ck _ (h3 f h).2⟩
      · exact ⟨(h3 _ (List.getElem_mem hi)).1, ⟨[], by simp, by simp, by simp, World.ownsRow_nil _ _ _ _⟩⟩

theorem own_len {w : World} {base n size m c : Nat} {e : TypeId} {A : Option Addr} {xs : List Value} (h : w.ownsRow base e size (.slice A m c) n xs) : m = n := by
  rcases h.2 with ⟨hv, hn⟩ | ⟨g, cap, cur, hv, _⟩
  · simp at hv; omega
  · simp at hv; omega
def GoesMan (b M : Nat) (w : World) (e : Ending) (w' : World) : Prop :=
  ∃ (v : Value) (n : Nat) (no : Int), n ≤ 5 ∧ -100000000000001 ≤ no ∧ no ≤ 100000000000001 ∧ e = .returned (.agg #[.int .i64 no, v]) ∧ FiWf w' w.heap.size 0 v n ∧ Goes 25 b M 40 w w'

/-- Behind 'f := &m.Files[..]': f points at a file; the two boxes stand. -/
def ManAt (b M : Nat) (w : World) (mb : Nat) (no : Int) (g n c : Nat) (s6 : Value) (wx : World) : Prop :=
  ∃ i, i < n ∧ s6 = .pointer (some ⟨g, i * 2, none⟩) ∧ wx.heap[mb]? = some (.cells #[.int .i64 no, .slice (some ⟨g, 0, none⟩) n c] 28 (0, 0)) ∧
    wx.heap[w.heap.size]? = some (.cells #[.int .i64 0, .slice none 0 0] 28 (0, 0)) ∧ FiWf wx (w.heap.size + 1) 1 (.slice (some ⟨g, 0, none⟩) n c) n ∧ Goes 25 b M 27 w wx
/-- The two boxes and the files, k numbers later. -/
structure ManSt (b M : Nat) (w : World) (mb : Nat) (no : Int) (g n c k : Nat) (wx : World) : Prop where
  m : wx.heap[mb]? = some (.cells #[.int .i64 no, .slice (some ⟨g, 0, none⟩) n c] 28 (0, 0))
  r : wx.heap[w.heap.size]? = some (.cells #[.int .i64 0, .slice none 0 0] 28 (0, 0))
  f : FiWf wx (w.heap.size + 1) 1 (.slice (some ⟨g, 0, none⟩) n c) n
  go : Goes 25 b M k w wx
section
variable {b M : Nat} {w : World} {mb : Nat} {no : Int} {g n c k j : Nat} {wA wB : World}
theorem ManSt.goes (h : ManSt b M w mb no g n c k wA) (hlt : b < w.heap.size) (hmb : w.heap.size ≤ mb) (hg : Goes 25 b (M + k) j wA wB) : ManSt b M w mb no g n c (k + j) wB := by
  have bk : ∀ x, x < wA.heap.size → x ≠ b → wB.heap[x]? = wA.heap[x]? := fun x h1 h2 => hg.gb.block x h1 (fun e => by injection e with e; omega)
  exact ⟨(bk _ (block_lt h.m) (by omega)).trans h.m, (bk _ (block_lt h.r) (by omega)).trans h.r, h.f.keep (fun x hx h2 => bk x h2 (by omega)), h.go.trans hg (Nat.le_refl _)⟩
theorem ManSt.below (h : ManSt b M w mb no g n c k wA) (hb : Below wA.heap.size wA wB) : ManSt b M w mb no g n c k wB :=
  ⟨(hb.block _ (block_lt h.m)).trans h.m, (hb.block _ (block_lt h.r)).trans h.r, h.f.below hb, h.go.below hb⟩
theorem ManSt.alloc (h : ManSt b M w mb no g n c k wA) (o : Obj) : ManSt b M w mb no g n c k (wA.alloc o) := h.below ((Below.refl _ _).alloc (Nat.le_refl _) o)
theorem ManSt.drew (h : ManSt b M w mb no g n c k wA) : ManSt b M w mb no g n c k wA.drew := ⟨h.m, h.r, h.f, h.go.is, gb_drew h.go.gb⟩
theorem ManSt.cells (h : ManSt b M w mb no g n c k wA) : wA.cell? ⟨mb, 0, none⟩ = some (.int .i64 no) ∧ wA.cell? ⟨mb, 1, none⟩ = some (.slice (some ⟨g, 0, none⟩) n c) ∧ wA.frozen? ⟨mb, 0, none⟩ = false ∧
    wA.cell? ⟨w.heap.size, 0, none⟩ = some (.int .i64 0) ∧ wA.cell? ⟨w.heap.size, 1, none⟩ = some (.slice none 0 0) ∧ wA.frozen? ⟨w.heap.size, 0, none⟩ = false ∧ wA.frozen? ⟨w.heap.size, 1, none⟩ = false :=
  ⟨(stream_cells h.m).1, (stream_cells h.m).2.1, (stream_cells h.m).2.2.1, (stream_cells h.r).1, (stream_cells h.r).2.1, (stream_cells h.r).2.2.1, (stream_cells h.r).2.2.2⟩
/-- What a file's two cells hold: a key, and chunks in a block of their own. -/
theorem ManSt.file (h : ManSt b M w mb no g n c k wA) {i : Nat} (hi : i < n) : ∃ (key : ByteArray) (g2 m2 c2 : Nat) (cur : Array Value) (t : ByteArray) (z : Int), wA.cell? ⟨g, i * 2, none⟩ = some (.string key) ∧
    wA.cell? ⟨g, i * 2 + 1, none⟩ = some (.slice (some ⟨g2, 0, none⟩) m2 c2) ∧ (∀ x, wA.frozen? ⟨g, x, none⟩ = false) ∧ 1 ≤ m2 ∧ w.heap.size + 1 ≤ g2 ∧ wA.heap[g2]? = some (.cells cur 49 (0, 0)) ∧ cur[0]? = some (.string t) ∧ cur[1]? = some (.int .i64 z) ∧ g2 ≠ g := by
  obtain ⟨fs, hl, hown, hall⟩ := h.f
  subst hl
  have hc0 := hown.cellAt (i * 2) (by omega)
  have hc1 := hown.cellAt (i * 2 + 1) (by omega)
  have e0 : (fs.flatMap fiC)[i * 2]? = some (.string fs[i].1) := by
    have := flat2_at fs fiC (fun _ => rfl) i 0 hi (by omega)
    simpa [fiC] using this
  have e1 : (fs.flatMap fiC)[i * 2 + 1]? = some fs[i].2 := by
    have := flat2_at fs fiC (fun _ => rfl) i 1 hi (by omega)
    simpa [fiC] using this
  obtain ⟨cs, a1, a2, a3, a4⟩ := (hall _ (List.getElem_mem hi)).2
  have hne := ownsRow_ne a4 hown (by decide)
  rcases a4.2 with ⟨_, h0⟩ | ⟨g2, c2, cur, hv, hb2, hh2, b1, b2, b3, b4⟩
  · omega
  · have hcs : 0 < cs.length := by omega
    obtain ⟨x, cs', rfl⟩ : ∃ x cs', cs = x :: cs' := by
      cases cs with
      | nil => simp at hcs
      | cons x cs' => exact ⟨x, cs', rfl⟩
    have g0 : cur[0]? = some (.string x.1) := by
      have : (cur.toList.take ((x :: cs').length * 2))[0]? = ((x :: cs').flatMap chC)[0]? := by rw [b4]
      simpa [chC] using this
    have g1 : cur[1]? = some (.int .i64 x.2) := by
      have : (cur.toList.take ((x :: cs').length * 2))[1]? = ((x :: cs').flatMap chC)[1]? := by rw [b4]
      rw [List.getElem?_take, if_pos (by simp; omega)] at this
      simpa [chC] using this
    refine ⟨fs[i].1, g2, (x :: cs').length, c2, cur, x.1, x.2, hc0.trans e0, ?_, fun y => hown.frozenAt y, by simp, hb2, hh2, g0, g1, ?_⟩
    · rw [hc1, e1, hv]
    · rw [hv] at hne
      rcases hne with h | h
      · simp [Value.ownBlock] at h
      · intro e; subst e; exact h rfl
end
theorem own_other {w : World} {base size n mb j : Nat} {e t : TypeId} {v x : Value} {xs : List Value} {cs : Array Value} (h : w.ownsRow base e size v n xs) (hm : w.heap[mb]? = some (.cells cs t (0, 0))) (ht : t ≠ e) : (w.setCell ⟨mb, j, none⟩ x).ownsRow base e size v n xs := by
  have hg' : w.grownBy (w.setCell ⟨mb, j, none⟩ x) (some mb) := ⟨rfl, rfl, rfl, by simp [World.setCell], fun k _ hn => Below.heap_setCell _ _ _ _ (by intro e; exact hn (by rw [e]))⟩
  refine h.kept hg' (.inr (fun hb => ?_))
  rcases h.2 with ⟨rfl, _⟩ | ⟨g', cap, cur', rfl, _, hh, _⟩
  · simp [Value.ownBlock] at hb
  · simp [Value.ownBlock] at hb
    subst hb
    rw [hh] at hm
    injection hm with hm
    injection hm with _ ht'
    exact ht ht'.symm
theorem FiWf.other {w : World} {base lo n mb : Nat} {t : TypeId} {v : Value} {cs : Array Value} (h : FiWf w base lo v n) (hm : w.heap[mb]? = some (.cells cs t (0, 0))) (h1 : t ≠ 52) (h2 : t ≠ 49) (j : Nat) (x : Value) : FiWf (w.setCell ⟨mb, j, none⟩ x) base lo v n :=
  let ⟨fs, a1, a2, a3⟩ := h; ⟨fs, a1, own_other a2 hm h1, fun f hf => ⟨(a3 f hf).1, let ⟨cs', c1, c2, c3, c4⟩ := (a3 f hf).2; ⟨cs', c1, c2, c3, own_other c4 hm h2⟩⟩⟩
theorem man_bk {b M j : Nat} {ts : TypeId} {wA w5 w6 w7 : World} {o : Obj} (hb5 : Below wA.heap.size wA w5) (hb6 : Below w5.heap.size w5 w6) (hg7 : Goes ts b M j (w6.alloc o) w7) : ∀ x, x < wA.heap.size → x ≠ b → w7.heap[x]? = wA.heap[x]? := fun x h1 h2 => by
  have := hb5.size; have := hb6.size
  rw [hg7.gb.block x (by simp; omega) (fun e => by injection e with e; omega), Below.heap_alloc _ _ _ (by omega), hb6.block x (by omega), hb5.block x h1]
theorem block_cell {w : World} {g j : Nat} {cur : Array Value} {t : TypeId} {u : Value} (h : w.heap[g]? = some (.cells cur t (0, 0))) (hj : cur[j]? = some u) : w.cell? ⟨g, j, none⟩ = some u := by
  simp [World.cell?, h, hj]
theorem block_free {w : World} {g : Nat} {cur : Array Value} {t : TypeId} (h : w.heap[g]? = some (.cells cur t (0, 0))) (j : Nat) : w.frozen? ⟨g, j, none⟩ = false := by
  simp [World.frozen?, h]
theorem FiWf.weak {w : World} {base lo n : Nat} {v : Value} (h : FiWf w base lo v n) : FiWf w base 0 v n :=
  let ⟨fs, h1, h2, h3⟩ := h; ⟨fs, h1, h2, fun f hf => ⟨(h3 f hf).1, let ⟨cs, _, a2, a3, a4⟩ := (h3 f hf).2; ⟨cs, by omega, a2, a3, a4⟩⟩⟩

set_option maxRecDepth 100000 in
set_option maxHeartbeats 2000000 in
theorem manifest_any (b M : Nat) (no : Int) (w : World) (hs : IsStream 25 w b M) (hM : M ≤ 1000000000000) (hn0 : -100000000000001 ≤ no) (hn1 : no ≤ 100000000000001) :
    Calls Tryz.prog 7 #[.pointer (some ⟨b, 0, none⟩), .int .i64 no] w (GoesMan b M w) := by
  have hlt := hs.lt
  go_enter Tryz.func7, Tryz.ntmps7
  go_wp2_with fail
  refine (rightManifest_any b M no _ (hs.alloc _) (by omega)).mono ?_
  rintro e w1 ⟨v, n, hn, rfl, hf, hg1⟩
  have hz1 := hg1.gb.size
  have hR : w1.heap[w.heap.size]? = some (.cells #[.int .i64 0, .slice none 0 0] 28 (0, 0)) := (hg1.gb.block w.heap.size (by simp) (fun e => by injection e with e; omega)).trans (heap_alloc_new w _)
  have hg := hg1.of_alloc
  simp only [World.size_alloc] at hf hz1
  clear hg1
  have hend : ∀ (wE : World) (no' : Int) (A : Option Addr) (n' c : Nat), -100000000000001 ≤ no' → no' ≤ 100000000000001 → FiWf wE (w.heap.size + 1) 0 (.slice A n' c) n → Goes 25 b M 40 w wE →
      GoesMan b M w (.returned (.agg #[.int .i64 no', .slice A n' c])) ((wE.setCell ⟨w.heap.size, 0, none⟩ (.int .i64 no')).setCell ⟨w.heap.size, 1, none⟩ (.slice A n' c)) := fun wE no' A n' c e1 e2 e3 e4 =>
    ⟨_, n, no', hn, e1, e2, rfl, (e3.keep (fun k hk _ => by rw [Below.heap_setCell _ _ _ _ (by show k ≠ w.heap.size; omega), Below.heap_setCell _ _ _ _ (by show k ≠ w.heap.size; omega)])).mono (by omega),
      (e4.setCell hlt (p := ⟨w.heap.size, 0, none⟩) (Nat.le_refl _) _).setCell hlt (p := ⟨w.heap.size, 1, none⟩) (Nat.le_refl _) _⟩
  have HE := Lib.hid hend
  clear hend
  obtain ⟨A, n', c, rfl⟩ := fi_form hf
  have hmA : (w1.alloc (.cells #[.int .i64 no, .slice A n' c] 28)).heap[w1.heap.size]? = some (.cells #[.int .i64 no, .slice A n' c] 28 (0, 0)) := heap_alloc_new w1 _
  have hRA : (w1.alloc (.cells #[.int .i64 no, .slice A n' c] 28)).heap[w.heap.size]? = some (.cells #[.int .i64 0, .slice none 0 0] 28 (0, 0)) := (Below.heap_alloc w1 _ _ (block_lt hR)).trans hR
  obtain rfl : n' = n := by
    obtain ⟨fs, _, h2, _⟩ := hf
    exact own_len h2
  have sc := stream_cells hmA
  have sr := stream_cells hRA
  by_cases h0 : n' = 0
  · subst h0
    obtain ⟨m0, m1, _, _⟩ := sc
    obtain ⟨r0, r1, f0, f1⟩ := sr
    have HF := Lib.hid (hf.keep (w' := w1.alloc (.cells #[.int .i64 no, .slice A 0 c] 28)) (fun k _ hk => Below.heap_alloc _ _ _ hk))
    clear hmA hRA hR
    go_wp2_with fail
    exact bodyPost_ret (v := .agg #[.int .i64 no, .slice A 0 c]) (by simp [results, Tryz.results7, go_sem, r0, r1]) rfl (HE.out _ _ _ _ _ hn0 hn1 HF.out.weak ((hg.alloc _).more (by omega)))
  · have hpos : 0 < n' := by omega
    obtain ⟨g, cap, hv, hgb, hgl⟩ : ∃ g cap, Value.slice A n' c = .slice (some ⟨g, 0, none⟩) n' cap ∧ w.heap.size + 1 ≤ g ∧ g < w1.heap.size := by
      obtain ⟨fs, _, h2, _⟩ := hf
      exact h2.form (by omega)
    simp only [Value.slice.injEq, true_and] at hv
    obtain ⟨rfl, rfl⟩ := hv
    clear sc sr
    go_wp2_with fail
    refine (flip_any b (M + 25) _ _ (hg.is.alloc _) (by omega) (by omega) (by omega)).mono ?_
    rintro e w2 ⟨r, rfl, hg2⟩
    have bk2 : ∀ x, x < w1.heap.size + 1 → x ≠ b → w2.heap[x]? = (w1.alloc (.cells #[.int .i64 no, .slice (some ⟨g, 0, none⟩) n' c] 28)).heap[x]? := fun x h1 h2 => hg2.gb.block x (by simpa using h1) (fun e => by injection e with e; omega)
    have hm2 := (bk2 _ (by omega) (by omega)).trans hmA
    have hR2 := (bk2 _ (by omega) (by omega)).trans hRA
    have hf2 : FiWf w2 (w.heap.size + 1) 1 (.slice (some ⟨g, 0, none⟩) n' c) n' := (hf.keep (w' := w1.alloc (.cells #[.int .i64 no, .slice (some ⟨g, 0, none⟩) n' c] 28)) (fun k _ hk => Below.heap_alloc _ _ _ hk)).gb hg2.gb (by omega)
    have G2 : Goes 25 b M 26 w w2 := (hg.alloc _).trans hg2 (by omega)
    have hz2 : w1.heap.size + 1 ≤ w2.heap.size := by have := hg2.gb.size; simpa using this
    obtain ⟨m0, m1, fm0, fm1⟩ := stream_cells hm2
    obtain ⟨r0, r1, f0, f1⟩ := stream_cells hR2
    clear bk2 hmA hRA hR hg hg2 hf
    cases r
    · have Hm2 := Lib.hid hm2; have HR2 := Lib.hid hR2
      clear hm2 hR2
      go_wp2_with fail
      exact bodyPost_ret (v := .agg #[.int .i64 no, .slice (some ⟨g, 0, none⟩) n' c]) (by simp [results, Tryz.results7, go_sem, r0, r1]) rfl (HE.out _ _ _ _ _ hn0 hn1 hf2.weak (G2.more (by omega)))
    · have Hm2 := Lib.hid hm2; have HR2 := Lib.hid hR2
      clear hm2 hR2 r0 r1 f0 f1 m0 fm0 fm1
      go_upto_region 3 with fail
      go_cut [6] (fun s6 wx => ManAt b M w w1.heap.size no g n' c s6 wx)
      case first =>
        go_region_held3 (fun w' => w'.cell? ⟨w1.heap.size, 1, none⟩ = some (.slice (some ⟨g, 0, none⟩) n' c))
          (first
            | (go_keep; done)
            | (exact (World.cell?_of_block (hg3.gb.block w1.heap.size (by show w1.heap.size < w2.heap.size; omega) (fun e => by injection e with e; omega))).trans m1))
          ((go_at_call 20; refine (next_any b (M + 26) _ _ ?_ ?_ ?_ ?_).mono ?_; (exact G2.is); (omega); (omega); (omega); rintro e w3 ⟨r, ⟨hr0, hr1⟩, rfl, hg3⟩; obtain ⟨i, rfl⟩ := Int.eq_ofNat_of_zero_le hr0))
        go_wp2_with fail
        go_meet
        have bk3 : ∀ x, x < w2.heap.size → x ≠ b → w3.heap[x]? = w2.heap[x]? := fun x h1 h2 => hg3.gb.block x h1 (fun e => by injection e with e; omega)
        exact ⟨i, by omega, rfl, (bk3 _ (by omega) (by omega)).trans Hm2.out, (bk3 _ (by omega) (by omega)).trans HR2.out, hf2.keep (fun x hx h2 => bk3 x h2 (by omega)), Goes.trans (w1 := w2.drew) (j := 1) ⟨G2.is, gb_drew G2.gb⟩ hg3 (by omega)⟩
      case rest =>
        clear hf2 G2 m1 Hm2 HR2
        obtain ⟨i, hi, rfl, hm2, hR2, hf2, G2⟩ := hcut
        go_wp2_with fail
        refine (next_any b (M + 27) _ _ G2.is (by omega) (by omega) (by omega)).mono ?_
        rintro e w4 ⟨r, ⟨hr0, hr1⟩, rfl, hg4⟩
        have hzc := block_lt hm2
        have st0 : ManSt b M w w1.heap.size no g n' c 27 wc := ⟨hm2, hR2, hf2, G2⟩
        have st := st0.goes hlt (by omega) hg4
        clear st0 hm2 hR2 hf2 G2
        have hz4 := hg4.gb.size
        clear hg4
        have hcase : r = 0 ∨ r = 1 ∨ r = 2 ∨ r = 3 ∨ r = 4 := by omega
        rcases hcase with rfl | rfl | rfl | rfl | rfl
        · go_wp2_with fail
          refine (odd_any b (M + 28) _ _ _ st.go.is (by omega) (by omega) (by omega) (by omega)).mono ?_
          rintro e w5 ⟨q, ⟨hq0, hq1⟩, rfl, hg5⟩
          have st5 := st.goes hlt (by omega) hg5
          obtain ⟨m0, m1, fm0, r0, r1, f0, f1⟩ := st5.cells
          have hne : w.heap.size ≠ w1.heap.size := by omega
          go_wp2_with fail
          refine bodyPost_ret (v := .agg #[.int .i64 q, .slice (some ⟨g, 0, none⟩) n' c]) (by simp [results, Tryz.results7, go_sem, r0, r1]) rfl (HE.out _ _ _ _ _ hq0 hq1 ?_ ?_)
          · exact (st5.f.other st5.m (by decide) (by decide) 0 _).weak
          · exact (st5.go.more (by omega)).setCell hlt (by show w.heap.size ≤ w1.heap.size; omega) _
        · have hst := st
          go_wp2_with fail
          refine (some_any b (M + 28) w4.heap.size [⟨#[]⟩, ⟨#[102, 97]⟩, ⟨#[122, 122]⟩] 3 3 _ 9 (st.go.is.alloc _) (by omega) rfl (by omega) (by omega) (heap_alloc_new _ _) (by omega)).mono ?_
          rintro e w5 ⟨q, hq, rfl, hg5⟩
          have st5 := st.goes hlt (by omega) hg5.of_alloc
          obtain ⟨m0, m1, fm0, r0, r1, f0, f1⟩ := st5.cells
          obtain ⟨key, g2, m2, c2, cur, t, z, k0, k1, kf, _, _, _, _, _, hgg⟩ := st5.file hi
          have kf0 := kf (i * 2)
          have hq16 : q.size ≤ 16 := by
            have := List.all_eq_true.1 (show ([⟨#[]⟩, ⟨#[102, 97]⟩, ⟨#[122, 122]⟩] : List ByteArray).all (fun r => decide (r.size ≤ 16)) = true by decide) q hq
            simpa using this
          have hne : w.heap.size ≠ g := by omega
          have hne1 : w1.heap.size ≠ g := by omega
          clear hq kf
          go_wp2_with fail
          refine bodyPost_ret (v := .agg #[.int .i64 no, .slice (some ⟨g, 0, none⟩) n' c]) (by simp [results, Tryz.results7, go_sem, r0, r1]) rfl (HE.out _ _ _ _ _ hn0 hn1 ?_ ?_)
          · exact st5.f.store hi (.inl ⟨rfl, q, hq16, rfl⟩)
          · exact (st5.go.more (by omega)).setCell hlt (by show w.heap.size ≤ g; omega) _
        · obtain ⟨m0, m1, fm0, r0, r1, f0, f1⟩ := st.cells
          obtain ⟨key, g2, m2, c2, cur, t, z, k0, k1, kf, _, _, _, _, _, hgg⟩ := st.file hi
          have kf0 := kf (i * 2 + 1)
          have hne : w.heap.size ≠ g := by omega
          have hne1 : w1.heap.size ≠ g := by omega
          clear kf
          go_wp2_with fail
          refine bodyPost_ret (v := .agg #[.int .i64 no, .slice (some ⟨g, 0, none⟩) n' c]) (by simp [results, Tryz.results7, go_sem, r0, r1]) rfl (HE.out _ _ _ _ _ hn0 hn1 ?_ ?_)
          · exact st.f.store hi (.inr ⟨rfl, rfl⟩)
          · exact (st.go.more (by omega)).setCell hlt (by show w.heap.size ≤ g; omega) _
        · obtain ⟨key, g2, m2, c2, cur, t, z, k0, k1, kf, hm2, hg2b, hg2, hc0, hc1, hgg⟩ := st.file hi
          have hm2i : (0 : Int) < (m2 : Int) := by omega
          have hm2n : 0 < m2 := by omega
          have hgl4 : g < w4.heap.size := World.block_lt_of_cell? w4 _ k0
          clear kf
          go_upto_region 13 with fail
          go_region_held3 (fun w' => w'.cell? ⟨g, i * 2 + 1, none⟩ = some (.slice (some ⟨g2, 0, none⟩) m2 c2))
            (first
              | (go_keep; done)
              | (exact (hb5.cell (p := ⟨g, i * 2 + 1, none⟩) hgl4).trans k1)
              | (exact (hb6.cell (p := ⟨g, i * 2 + 1, none⟩) (Nat.lt_of_lt_of_le hgl4 hb5.size)).trans k15)
              | (exact k17))
            (first
              | ((go_at_call_of 18 (Value.string ⟨#[65]⟩); refine (Tryz.strings_Repeat ⟨#[65]⟩ 16 _ (by omega) (by decide)).mono ?_; rintro e w5 ⟨rfl, hb5⟩; have k15 : w5.cell? ⟨g, i * 2 + 1, none⟩ = some (.slice (some ⟨g2, 0, none⟩) m2 c2) := (hb5.cell (p := ⟨g, i * 2 + 1, none⟩) hgl4).trans k1))
              | ((go_at_call_of 18 (Value.string ⟨#[57]⟩); refine (Tryz.strings_Repeat ⟨#[57]⟩ 15 _ (by omega) (by decide)).mono ?_; rintro e w6 ⟨rfl, hb6⟩; have st6 := (st.drew.below hb5).below hb6))
              | ((go_at_call 8; refine (some_any b (M + 28) w6.heap.size [⟨#[]⟩, ⟨#[120]⟩, ⟨(Lib.repeatL [65] 16).toArray⟩, ⟨(Lib.repeatL [57] 15).toArray⟩] 4 4 _ 9 ?_ ?_ ?_ ?_ ?_ ?_ ?_).mono ?_; (exact st6.go.is.alloc _); (omega); (rfl); (omega); (omega); (exact heap_alloc_new _ _); (have := st6.go.is.lt; omega); rintro e w7 ⟨q, hq, rfl, hg7⟩; have st7 := st6.goes hlt (by omega) hg7.of_alloc; have bk7 := man_bk hb5 hb6 hg7; have k17 : w7.cell? ⟨g, i * 2 + 1, none⟩ = some (.slice (some ⟨g2, 0, none⟩) m2 c2) := (World.cell?_of_block (w := w4) (bk7 g hgl4 (by omega))).trans k1; have hg27 : w7.heap[g2]? = some (.cells cur 49 (0, 0)) := (bk7 g2 (block_lt hg2) (by omega)).trans hg2; have ch0 := block_cell hg27 hc0; have ch1 := block_cell hg27 hc1; have chf := block_free hg27 0)))
          have hq16 : q.size ≤ 16 := by
            have := List.all_eq_true.1 (show ([⟨#[]⟩, ⟨#[120]⟩, ⟨(Lib.repeatL [65] 16).toArray⟩, ⟨(Lib.repeatL [57] 15).toArray⟩] : List ByteArray).all (fun r => decide (r.size ≤ 16)) = true by decide) q hq
            simpa using this
          obtain ⟨m0, m1, fm0, r0, r1, f0, f1⟩ := st7.cells
          have HF := Lib.hid (st7.f.chStore hg27 (.inl ⟨rfl, q, hq16, rfl⟩)).weak
          have HG := Lib.hid (((st7.go.more (show 27 + 1 + 1 ≤ 40 by omega)).setCell hlt (p := ⟨g2, 0, none⟩) (by show w.heap.size ≤ g2; omega) (.string q)))
          have hne : w.heap.size ≠ g2 := by omega
          have hne1 : w1.heap.size ≠ g2 := by
            intro e
            have := st7.m
            rw [e, hg27] at this
            injection this with this
            injection this with _ ht
            exact absurd ht (by decide)
          clear hq st6 st7 hb5 hb6 hg7 bk7 k15 k17 hg27 ch1 hg2 st k0 k1
          go_wp2_with fail
          refine bodyPost_ret (v := .agg #[.int .i64 no, .slice (some ⟨g, 0, none⟩) n' c]) (by simp [results, Tryz.results7, go_sem, r0, r1]) rfl (HE.out _ _ _ _ _ hn0 hn1 ?_ ?_)
          · exact HF.out
          · exact HG.out
        · obtain ⟨key, g2, m2, c2, cur, t, z, k0, k1, kf, hm2, hg2b, hg2, hc0, hc1, hgg⟩ := st.file hi
          have hm2i : (0 : Int) < (m2 : Int) := by omega
          have hm2n : 0 < m2 := by omega
          have hgl4 : g < w4.heap.size := World.block_lt_of_cell? w4 _ k0
          clear kf
          go_upto_region 5 with fail
          go_region_held3 (fun w' => w'.cell? ⟨g, i * 2 + 1, none⟩ = some (.slice (some ⟨g2, 0, none⟩) m2 c2))
            (first
              | (go_keep; done)
              | (exact k17))
            (first
              | ((go_at_call 28; refine (pick_any b (M + 28) w4.heap.size [0, 99, 1000000000001] 3 3 _ 3 ?_ ?_ ?_ ?_ ?_ ?_ ?_).mono ?_; (exact st.go.is.alloc _); (omega); (rfl); (omega); (omega); (exact heap_alloc_new _ _); (have := st.go.is.lt; omega); rintro e w7 ⟨q, hq, rfl, hg7⟩; have st7 := st.drew.goes hlt (by omega) hg7.of_alloc; have bk7 := man_bk (Below.refl _ w4.drew) (Below.refl _ _) hg7; have k17 : w7.cell? ⟨g, i * 2 + 1, none⟩ = some (.slice (some ⟨g2, 0, none⟩) m2 c2) := (World.cell?_of_block (w := w4) (bk7 g hgl4 (by omega))).trans k1; have hg27 : w7.heap[g2]? = some (.cells cur 49 (0, 0)) := (bk7 g2 (block_lt hg2) (by omega)).trans hg2; have ch0 := block_cell hg27 hc0; have ch1 := block_cell hg27 hc1; have chf := block_free hg27 1)))
          have hq2 : -100000000000001 ≤ q ∧ q ≤ 100000000000001 := by
            simp at hq
            omega
          obtain ⟨m0, m1, fm0, r0, r1, f0, f1⟩ := st7.cells
          have HF := Lib.hid (st7.f.chStore hg27 (.inr ⟨rfl, q, hq2.1, hq2.2, rfl⟩)).weak
          have HG := Lib.hid (((st7.go.more (show 27 + 1 + 1 ≤ 40 by omega)).setCell hlt (p := ⟨g2, 1, none⟩) (by show w.heap.size ≤ g2; omega) (.int .i64 q)))
          have hne : w.heap.size ≠ g2 := by omega
          have hne1 : w1.heap.size ≠ g2 := by
            intro e
            have := st7.m
            rw [e, hg27] at this
            injection this with this
            injection this with _ ht
            exact absurd ht (by decide)
          clear hq st7 hg7 bk7 k17 hg27 ch0 hg2 st k0 k1
          go_wp2_with fail
          refine bodyPost_ret (v := .agg #[.int .i64 no, .slice (some ⟨g, 0, none⟩) n' c]) (by simp [results, Tryz.results7, go_sem, r0, r1]) rfl (HE.out _ _ _ _ _ hn0 hn1 ?_ ?_)
          · exact HF.out
          · exact HG.out
end Go.Proofs.YtegalkmfoffpfaaGreatDoor
