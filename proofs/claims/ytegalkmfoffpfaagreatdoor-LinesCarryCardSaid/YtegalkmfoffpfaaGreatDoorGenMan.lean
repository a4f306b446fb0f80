/- The stream's makers of manifests. -/
import Derived.Test.YtegalkmfoffpfaaGreatDoorGenSync
import Derived.Deep.DrawnRows
import Derived.Deep.RegionLaw
namespace Go.Proofs.YtegalkmfoffpfaaGreatDoor
open Go.RowKit
attribute [local go_sem ↓] Go.wp_at_zero Go.wp_at_succ

/-- A file: its key and the slice of its chunks, as cells. -/
def fiC (f : ByteArray × Value) : List Value := [.string f.1, f.2]
theorem infoFile : (Tryz.prog.info? 52).map (fun i => (i.zero, i.size, i.bytes)) = some (some (.agg #[.string ⟨#[]⟩, .slice none 0 0]), 2, 40) := by kernel_rfl
/-- Chunks in a row of the call's own, lo of them at least. -/
def ChWf (w : World) (base lo : Nat) (v : Value) : Prop := ∃ cs : List (ByteArray × Int), lo ≤ cs.length ∧ cs.length ≤ 3 ∧ (∀ c ∈ cs, okCh c) ∧ w.ownsRow base 49 2 v cs.length (cs.flatMap chC)
/-- Files in a row of the call's own. -/
def FiWf (w : World) (base lo : Nat) (v : Value) (n : Nat) : Prop := ∃ fs : List (ByteArray × Value), fs.length = n ∧ w.ownsRow base 52 2 v n (fs.flatMap fiC) ∧ ∀ f ∈ fs, f.1.size ≤ 16 ∧ ChWf w base lo f.2

theorem ChWf.gb {w w' : World} {base lo b : Nat} {v : Value} (h : ChWf w base lo v) (hg : w.grownBy w' (some b)) (hb : b < base) : ChWf w' base lo v :=
  let ⟨cs, h1, h2, h3, h4⟩ := h; ⟨cs, h1, h2, h3, ownsRow_gb h4 hg hb⟩
theorem ChWf.mono {w : World} {base base' lo : Nat} {v : Value} (h : ChWf w base lo v) (hb : base' ≤ base) : ChWf w base' lo v :=
  let ⟨cs, h1, h2, h3, h4⟩ := h; ⟨cs, h1, h2, h3, ownsRow_base h4 hb⟩
theorem FiWf.gb {w w' : World} {base lo b n : Nat} {v : Value} (h : FiWf w base lo v n) (hg : w.grownBy w' (some b)) (hb : b < base) : FiWf w' base lo v n :=
  let ⟨fs, h1, h2, h3⟩ := h; ⟨fs, h1, ownsRow_gb h2 hg hb, fun f hf => ⟨(h3 f hf).1, (h3 f hf).2.gb hg hb⟩⟩
theorem ChWf.below {w w' : World} {base lo : Nat} {v : Value} (h : ChWf w base lo v) (hb : Below w.heap.size w w') : ChWf w' base lo v :=
  let ⟨cs, h1, h2, h3, h4⟩ := h; ⟨cs, h1, h2, h3, ownsRow_below h4 hb⟩
theorem FiWf.below {w w' : World} {base lo n : Nat} {v : Value} (h : FiWf w base lo v n) (hb : Below w.heap.size w w') : FiWf w' base lo v n :=
  let ⟨fs, h1, h2, h3⟩ := h; ⟨fs, h1, ownsRow_below h2 hb, fun f hf => ⟨(h3 f hf).1, (h3 f hf).2.below hb⟩⟩

/-- Two rows whose element types differ lie in different blocks. -/
theorem ownsRow_ne {w : World} {b1 b2 s1 s2 n1 n2 : Nat} {e1 e2 : TypeId} {v1 v2 : Value} {x1 x2 : List Value} (h1 : w.ownsRow b1 e1 s1 v1 n1 x1) (h2 : w.ownsRow b2 e2 s2 v2 n2 x2) (he : e1 ≠ e2) : v1.ownBlock = none ∨ v1.ownBlock ≠ v2.ownBlock := by
  rcases h1.2 with ⟨rfl, _⟩ | ⟨g1, c1, k1, rfl, _, hh1, _⟩
  · exact .inl rfl
  · rcases h2.2 with ⟨rfl, _⟩ | ⟨g2, c2, k2, rfl, _, hh2, _⟩
    · exact .inr (by simp [Value.ownBlock])
    · refine .inr (fun h => ?_)
      simp only [Value.ownBlock, Option.some.injEq] at h
      subst h
      rw [hh1] at hh2
      injection hh2 with hh2
      injection hh2 with _ ht
      exact he ht
/-- At the head of RightManifest's loop: k keys are done. R: the result's box, R + 1: m's, R + 2: the literal of keys. -/
def RmRel (b M : Nat) (w : World) (no : Int) (g : Nat) (i : Value) (wr : World) : Prop :=
  ∃ (k n : Nat) (v : Value), k + g = 5 ∧ i = .int .i64 k ∧ n ≤ k ∧ FiWf wr (w.heap.size + 3) 1 v n ∧
    wr.heap[w.heap.size]? = some (.cells #[.int .i64 0, .slice none 0 0] 28 (0, 0)) ∧ wr.heap[w.heap.size + 1]? = some (.cells #[.int .i64 no, v] 28 (0, 0)) ∧
    wr.heap[w.heap.size + 1 + 1]? = some (.cells #[.string ⟨#[102, 97]⟩, .string ⟨#[102, 98]⟩, .string ⟨#[102, 99]⟩, .string ⟨#[102, 100]⟩, .string ⟨#[102, 101]⟩] 9 (0, 0)) ∧ Goes 25 b M (5 * k) w wr

theorem ownsRow_keep {w w' : World} {base size n : Nat} {e : TypeId} {v : Value} {xs : List Value} (h : w.ownsRow base e size v n xs) (hk : ∀ k, base ≤ k → k < w.heap.size → w'.heap[k]? = w.heap[k]?) : w'.ownsRow base e size v n xs := by
  obtain ⟨hl, h2⟩ := h
  refine ⟨hl, ?_⟩
  rcases h2 with h2 | ⟨g, cap, cur, hv, hg', hh, r⟩
  · exact .inl h2
  · exact .inr ⟨g, cap, cur, hv, hg', (hk g hg' (block_lt hh)).trans hh, r⟩
theorem ChWf.keep {w w' : World} {base lo : Nat} {v : Value} (h : ChWf w base lo v) (hk : ∀ k, base ≤ k → k < w.heap.size → w'.heap[k]? = w.heap[k]?) : ChWf w' base lo v :=
  let ⟨cs, h1, h2, h3, h4⟩ := h; ⟨cs, h1, h2, h3, ownsRow_keep h4 hk⟩
theorem FiWf.keep {w w' : World} {base lo n : Nat} {v : Value} (h : FiWf w base lo v n) (hk : ∀ k, base ≤ k → k < w.heap.size → w'.heap[k]? = w.heap[k]?) : FiWf w' base lo v n :=
  let ⟨fs, h1, h2, h3⟩ := h; ⟨fs, h1, ownsRow_keep h2 hk, fun f hf => ⟨(h3 f hf).1, (h3 f hf).2.keep hk⟩⟩
theorem FiWf.mono {w : World} {base base' lo n : Nat} {v : Value} (h : FiWf w base lo v n) (hb : base' ≤ base) : FiWf w base' lo v n :=
  let ⟨fs, h1, h2, h3⟩ := h; ⟨fs, h1, ownsRow_base h2 hb, fun f hf => ⟨(h3 f hf).1, (h3 f hf).2.mono hb⟩⟩
/-- A store into a block of the call's own. -/
theorem Goes.setCell {ts : TypeId} {b M k : Nat} {w w1 : World} (h : Goes ts b M k w w1) (hlt : b < w.heap.size) {p : Addr} (hp : w.heap.size ≤ p.block) (u : Value) : Goes ts b M k w (w1.setCell p u) :=
  h.belowAt (Nat.le_refl _) hlt ((Below.refl _ _).setCell hp u)
theorem cf_gb {w w' : World} {b : Nat} {p : Addr} {v : Value} (hg : w.grownBy w' (some b)) (hc : w.cell? p = some v) (hf : w.frozen? p = false) (hb : b ≠ p.block) : w'.cell? p = some v ∧ w'.frozen? p = false := by
  have := hg.block p.block (World.block_lt_of_cell? w _ hc) (fun e => by injection e with e; exact hb e.symm)
  exact ⟨(World.cell?_of_block this).trans hc, (World.frozen?_of_block this).trans hf⟩
theorem cf_row {w w' : World} {r : Option Nat} {p : Addr} {v : Value} (hg : w.grownBy w' r) (hc : w.cell? p = some v) (hf : w.frozen? p = false) (hb : some p.block ≠ r) : w'.cell? p = some v ∧ w'.frozen? p = false := by
  have := hg.block p.block (World.block_lt_of_cell? w _ hc) hb
  exact ⟨(World.cell?_of_block this).trans hc, (World.frozen?_of_block this).trans hf⟩
theorem fi_one {w : World} {base n size : Nat} {e : TypeId} {v : Value} {xs : List Value} {key : ByteArray} (h : w.ownsRow base e size v n xs) : ∀ u ∈ [Value.string key, v], u.oneCell' = true := by
  intro u hu
  simp at hu
  rcases hu with rfl | rfl
  · rfl
  · rcases h.2 with ⟨rfl, _⟩ | ⟨g, cap, cur, rfl, _⟩ <;> rfl
theorem own_form {w : World} {base n size : Nat} {e : TypeId} {v : Value} {xs : List Value} (h : w.ownsRow base e size v n xs) : ∃ A m c, v = .slice A m c := by
  rcases h.2 with ⟨rfl, _⟩ | ⟨g, cap, cur, rfl, _⟩
  · exact ⟨_, _, _, rfl⟩
  · exact ⟨_, _, _, rfl⟩
theorem cf_alloc {w : World} {o : Obj} {p : Addr} {v : Value} (hc : w.cell? p = some v) (hf : w.frozen? p = false) : (w.alloc o).cell? p = some v ∧ (w.alloc o).frozen? p = false := by
  have := Below.heap_alloc w o p.block (World.block_lt_of_cell? w _ hc)
  exact ⟨(World.cell?_of_block this).trans hc, (World.frozen?_of_block this).trans hf⟩
theorem own_ne {w : World} {base n size g : Nat} {e : TypeId} {v : Value} {xs : List Value} (h : w.ownsRow base e size v n xs) (hb : g < base) : some g ≠ v.ownBlock := by
  intro hh
  have := (h.lt g hh.symm).1
  omega
theorem heap_new_at {w : World} {k : Nat} (h : k = w.heap.size) (o : Obj) : (w.alloc o).heap[k]? = some o := by rw [h]; exact heap_alloc_new w o
theorem fi_form {w : World} {base lo n : Nat} {v : Value} (h : FiWf w base lo v n) : ∃ A m c, v = .slice A m c := by
  obtain ⟨fs, _, h2, _⟩ := h
  rcases h2.2 with ⟨rfl, _⟩ | ⟨g, cap, cur, rfl, _⟩
  · exact ⟨_, _, _, rfl⟩
  · exact ⟨_, _, _, rfl⟩
/-- What one file more makes of the heap. -/
theorem rm_step {b M k n gg cap : Nat} {w w1 w2 w3 : World} {no : Int} {v cv : Value} {key : ByteArray} {fs : List (ByteArray × Value)} {cs : List (ByteArray × Int)} {lc : Array Value} {o : Obj}
    (hlt : b < w.heap.size) (hgo1 : Goes 25 b M (5 * k + 1) w w1) (hkey : key.size ≤ 16) (hfo : w1.ownsRow (w.heap.size + 3) 52 2 v n (fs.flatMap fiC)) (hfl : fs.length = n) (hfw : ∀ f ∈ fs, f.1.size ≤ 16 ∧ ChWf w1 (w.heap.size + 3) 1 f.2)
    (hR : w1.heap[w.heap.size]? = some (.cells #[.int .i64 0, .slice none 0 0] 28 (0, 0))) (hm : w1.heap[w.heap.size + 1]? = some (.cells #[.int .i64 no, v] 28 (0, 0))) (hl : w1.heap[w.heap.size + 1 + 1]? = some (.cells lc 9 (0, 0)))
    (hc1 : 1 ≤ cs.length) (hc3 : cs.length ≤ 3) (hok : ∀ c ∈ cs, okCh c) (hown2 : w2.ownsRow w1.drew.heap.size 49 2 cv cs.length (cs.flatMap chC)) (hg2 : Goes 25 b (M + (5 * k + 1)) 4 w1.drew w2) (hbase : w.heap.size + 3 ≤ w1.heap.size)
    (hown3 : w3.ownsRow (w.heap.size + 3) 52 2 (.slice (some ⟨gg, 0, none⟩) (n + 1) cap) (n + 1) (fs.flatMap fiC ++ [.string key, cv])) (hgrow : (w2.alloc o).grownBy w3 v.ownBlock) :
    FiWf (w3.setCell ⟨w.heap.size + 1, 1, none⟩ (.slice (some ⟨gg, 0, none⟩) (n + 1) cap)) (w.heap.size + 3) 1 (.slice (some ⟨gg, 0, none⟩) (n + 1) cap) (n + 1) ∧
    (w3.setCell ⟨w.heap.size + 1, 1, none⟩ (.slice (some ⟨gg, 0, none⟩) (n + 1) cap)).heap[w.heap.size]? = some (.cells #[.int .i64 0, .slice none 0 0] 28 (0, 0)) ∧
    (w3.setCell ⟨w.heap.size + 1, 1, none⟩ (.slice (some ⟨gg, 0, none⟩) (n + 1) cap)).heap[w.heap.size + 1]? = some (.cells #[.int .i64 no, .slice (some ⟨gg, 0, none⟩) (n + 1) cap] 28 (0, 0)) ∧
    (w3.setCell ⟨w.heap.size + 1, 1, none⟩ (.slice (some ⟨gg, 0, none⟩) (n + 1) cap)).heap[w.heap.size + 1 + 1]? = some (.cells lc 9 (0, 0)) ∧
    Goes 25 b M (5 * k + 5) w (w3.setCell ⟨w.heap.size + 1, 1, none⟩ (.slice (some ⟨gg, 0, none⟩) (n + 1) cap)) := by
  have hz2 : w1.heap.size ≤ w2.heap.size := hg2.gb.size
  have bk2 : ∀ x, x < w1.heap.size → x ≠ b → w2.heap[x]? = w1.heap[x]? := fun x h1 h2 => hg2.gb.block x h1 (fun e => by injection e with e; omega)
  have bk3 : ∀ x, x < w2.heap.size → some x ≠ v.ownBlock → w3.heap[x]? = w2.heap[x]? := fun x h1 h2 => (hgrow.block x (by simp; omega) h2).trans (Below.heap_alloc w2 o x h1)
  have small : ∀ x, x < w.heap.size + 3 → some x ≠ v.ownBlock := fun x hx => own_ne hfo hx
  have put : ∀ x, x ≠ w.heap.size + 1 → (w3.setCell ⟨w.heap.size + 1, 1, none⟩ (.slice (some ⟨gg, 0, none⟩) (n + 1) cap)).heap[x]? = w3.heap[x]? := fun x hx => Below.heap_setCell _ _ _ _ hx
  have hm3 : w3.heap[w.heap.size + 1]? = some (.cells #[.int .i64 no, v] 28 (0, 0)) :=
    (bk3 _ (by have := block_lt hm; omega) (small _ (by omega))).trans ((bk2 _ (block_lt hm) (by omega)).trans hm)
  have chk : ∀ (lo : Nat) (u : Value), ChWf w2 (w.heap.size + 3) lo u → ChWf (w3.setCell ⟨w.heap.size + 1, 1, none⟩ (.slice (some ⟨gg, 0, none⟩) (n + 1) cap)) (w.heap.size + 3) lo u := by
    rintro lo u ⟨cs', h1, h2, h3, h4⟩
    have hv2 : (w2.alloc o).ownsRow (w.heap.size + 3) 52 2 v n (fs.flatMap fiC) := (ownsRow_gb (w := w1.drew) hfo hg2.gb (by omega)).alloc o
    have h5 : w3.ownsRow (w.heap.size + 3) 49 2 u cs'.length (cs'.flatMap chC) := (h4.alloc o).kept hgrow (ownsRow_ne (h4.alloc o) hv2 (by decide))
    exact ⟨cs', h1, h2, h3, ownsRow_keep h5 (fun x hx _ => put x (by omega))⟩
  refine ⟨⟨fs ++ [(key, cv)], by simp [hfl], ?_, ?_⟩, ?_, ?_, ?_, ?_⟩
  · have : (fs ++ [(key, cv)]).flatMap fiC = fs.flatMap fiC ++ [.string key, cv] := by rw [List.flatMap_append]; rfl
    rw [this]
    exact ownsRow_keep hown3 (fun x hx _ => put x (by omega))
  · intro f hf
    rcases List.mem_append.1 hf with h | h
    · refine ⟨(hfw f h).1, chk 1 _ ?_⟩
      exact ((hfw f h).2.keep (fun x hx h2 => bk2 x h2 (by omega)))
    · simp at h
      subst h
      exact ⟨hkey, chk 1 _ ⟨cs, hc1, hc3, hok, ownsRow_base hown2 hbase⟩⟩
  · rw [put _ (by omega), bk3 _ (by have := block_lt hR; omega) (small _ (by omega)), bk2 _ (block_lt hR) (by omega)]; exact hR
  · exact stream_set hm3
  · rw [put _ (by omega), bk3 _ (by have := block_lt hl; omega) (small _ (by omega)), bk2 _ (block_lt hl) (by omega)]; exact hl
  · have g1 : Goes 25 b M (5 * k + 5) w w2 := Goes.trans (w1 := w1.drew) (j := 4) ⟨hgo1.is, gb_drew hgo1.gb⟩ hg2 (by omega)
    have g2 := (g1.alloc o).grown hgrow hlt (fun x hx => by have := (hfo.lt x hx).1; omega)
    exact g2.setCell hlt (by show w.heap.size ≤ w.heap.size + 1; omega) _

set_option maxRecDepth 100000 in
set_option maxHeartbeats 2000000 in
theorem rightManifest_any (b M : Nat) (no : Int) (w : World) (hs : IsStream 25 w b M) (hM : M ≤ 10000000000000) :
    Calls Tryz.prog 72 #[.pointer (some ⟨b, 0, none⟩), .int .i64 no] w fun e w' => ∃ (v : Value) (n : Nat), n ≤ 5 ∧ e = .returned (.agg #[.int .i64 no, v]) ∧ FiWf w' w.heap.size 1 v n ∧ Goes 25 b M 25 w w' := by
  have hlt := hs.lt
  obtain ⟨i0, hi, hz0, hz1, hz2⟩ := info_parts infoFile
  go_enter Tryz.func72, Tryz.ntmps72
  go_wp2_with fail
  go_loopg [12, 7] 5 (fun g i _ wr => RmRel b M w no g i wr)
  case atStart =>
    refine ⟨0, 0, .slice none 0 0, by omega, rfl, by omega, ⟨[], rfl, World.ownsRow_nil _ _ _ _, by simp⟩, ?_, ?_, ?_, (((Goes.refl hs).alloc _).alloc _).alloc _⟩
    · rw [Below.heap_alloc _ _ _ (by simp; omega), Below.heap_alloc _ _ _ (by simp)]; exact heap_alloc_new w _
    · rw [Below.heap_alloc _ _ _ (by simp)]; exact heap_new_at (by simp) _
    · exact heap_new_at (by simp) _
  case round =>
    obtain ⟨k, n, v, hk, rfl, hn, hf, hR, hm, hl, hgo⟩ := hrel
    have hR0 := (stream_cells hR).1; have hR1 := (stream_cells hR).2.1; have hRf0 := (stream_cells hR).2.2.1; have hRf1 := (stream_cells hR).2.2.2
    have hm0 := (stream_cells hm).1; have hm1 := (stream_cells hm).2.1
    have hz := hgo.gb.size
    have hmz := block_lt hm
    by_cases hg : gk = 0
    · obtain rfl : k = 5 := by omega
      obtain ⟨A, n', c, rfl⟩ := fi_form hf
      go_wp2_with fail
      refine bodyPost_ret (v := .agg #[.int .i64 no, .slice A n' c]) (by simp [results, Tryz.results72, go_sem, hR0, hR1]) rfl ⟨_, n, hn, rfl, ?_, ((hgo.setCell hlt (p := ⟨w.heap.size, 0, none⟩) (Nat.le_refl _) _).setCell hlt (p := ⟨w.heap.size, 1, none⟩) (Nat.le_refl _) _)⟩
      exact (hf.keep (fun k hk _ => by rw [Below.heap_setCell _ _ _ _ (by show k ≠ w.heap.size; omega), Below.heap_setCell _ _ _ _ (by show k ≠ w.heap.size; omega)])).mono (by omega)
    · have hk5 : k < 5 := by omega
      have HK := Lib.hid hk
      clear hk
      obtain ⟨key, hkey, hkc⟩ : ∃ key : ByteArray, key.size ≤ 16 ∧ wr.cell? ⟨w.heap.size + 1 + 1, k, none⟩ = some (.string key) := by
        have e : ∀ j, wr.cell? ⟨w.heap.size + 1 + 1, j, none⟩ = (#[.string ⟨#[102, 97]⟩, .string ⟨#[102, 98]⟩, .string ⟨#[102, 99]⟩, .string ⟨#[102, 100]⟩, .string ⟨#[102, 101]⟩] : Array Value)[j]? := fun j => cell_of_row wr _ j _ _ _ hl
        rw [e]
        rcases k with _ | _ | _ | _ | _ | k
        · exact ⟨_, by decide, rfl⟩
        · exact ⟨_, by decide, rfl⟩
        · exact ⟨_, by decide, rfl⟩
        · exact ⟨_, by decide, rfl⟩
        · exact ⟨_, by decide, rfl⟩
        · omega
      go_wp2_with fail
      refine (flip_any b (M + 5 * k) _ _ hgo.is (by omega) (by omega) (by omega)).mono ?_
      rintro e w1 ⟨r, rfl, hg1⟩
      have hgo1 := hgo.trans hg1 (Nat.le_refl _)
      have bk : ∀ x, w.heap.size ≤ x → x < wr.heap.size → w1.heap[x]? = wr.heap[x]? := fun x h1 h2 => hg1.gb.block x h2 (fun e => by injection e with e; omega)
      have hR' := (bk _ (by omega) (block_lt hR)).trans hR
      have hm' := (bk _ (by omega) (block_lt hm)).trans hm
      have hl' := (bk _ (by omega) (block_lt hl)).trans hl
      have hf' := hf.keep (w' := w1) (fun x h1 h2 => bk x (by omega) h2)
      have hz1' := hgo1.gb.size
      have hmz1 := block_lt hm'
      clear hR hm hl hf hR0 hR1 hRf0 hRf1 hm0 hm1 hg1 hgo bk hkc hz hmz
      cases r
      · obtain ⟨fs, hfl, hfo, hfw⟩ := hf'
        have hcm : w1.cell? ⟨w.heap.size + 1, 1, none⟩ = some v := (stream_cells hm').2.1
        have hcf : w1.frozen? ⟨w.heap.size + 1, 1, none⟩ = false := (stream_cells hm').2.2.2
        have HFL := Lib.hid hfl; have HFW := Lib.hid hfw; have Hm := Lib.hid hm'; have HR := Lib.hid hR'; have Hl := Lib.hid hl'
        clear hfl hfw hm' hR' hl'
        have hbase : w.heap.size + 3 ≤ w1.heap.size := by have := block_lt Hl.out; omega
        go_upto_region 6 with fail
        go_region_law (first
            | ((refine step_append_lies _ (by rfl) _ _ _ (by rfl) (w.heap.size + 3) 52 i0 _ 2 40 Tryz.underlying26 hi hz0 hz1 hz2 rfl (by omega) v n (fs.flatMap fiC) (by rfl) ((ownsRow_gb (w := w1.drew) hfo hg2.gb (by omega)).alloc _) ⟨w2.heap.size, 0, none⟩ 1 1 [.string key, .slice cA cn cc] (by rfl) (by rfl) (cells_new w2 [.string key, .slice cA cn cc] 52) (fi_one hown2) (by omega) (by unfold maxLen; omega) (by omega) (by simp; omega) (w2.heap.size + 1) (by simp) ?_; intro gg cap w3 hown3 hgrow hat hlt3; have hcf3 := cf_row hgrow (cf_alloc (o := .cells #[.string key, .slice cA cn cc] 52) hcm2 hcf2).1 (cf_alloc (o := .cells #[.string key, .slice cA cn cc] 52) hcm2 hcf2).2 (own_ne hfo (show w.heap.size + 1 < w.heap.size + 3 by omega)); obtain ⟨hcm3, hcf3⟩ := hcf3))
            | ((go_simp; go_at_call 155; refine (gchunks_any b (M + (5 * k + 1)) _ ?_ ?_).mono ?_; (exact hgo1.is); (omega); rintro e w2 ⟨cv, cs, rfl, hc1, hc3, hok, hown2, hg2⟩; obtain ⟨cA, cn, cc, rfl⟩ := own_form hown2; have hzz : w1.heap.size ≤ w2.heap.size := hg2.gb.size; have hcf2 := cf_gb (w := w1.drew) hg2.gb hcm hcf (by show b ≠ w.heap.size + 1; omega); obtain ⟨hcm2, hcf2⟩ := hcf2; have hne2 : w.heap.size + 1 < w2.heap.size := World.block_lt_of_cell? w2 _ hcm2)))
        all_goals
          have HS := Lib.hid (rm_step (no := no) hlt hgo1 hkey hfo HFL.out HFW.out HR.out Hm.out Hl.out hc1 hc3 hok hown2 hg2 hbase hown3 hgrow)
          clear hown2 hg2 hgrow hok hat
          go_wp2_with fail
          go_roundg (gk - 1)
          case measure => omega
          case rel =>
            obtain ⟨q1, q2, q3, q4, q5⟩ := HS.out
            exact ⟨k + 1, n + 1, _, by have := HK.out; omega, by go_num, by omega, q1, q2, q3, q4, q5.more (by omega)⟩
      · go_wp2_with fail
        go_roundg (gk - 1)
        case measure => omega
        case rel => exact ⟨k + 1, n, v, by have := HK.out; omega, by go_num, by omega, hf', hR', hm', hl', hgo1.more (by omega)⟩
end Go.Proofs.YtegalkmfoffpfaaGreatDoor
