/- sync.Chunks and the reference's ChunksOf: the parts' sums and lengths. -/
import Derived.Test.YtegalkmfoffpfaaDoorCutRef
namespace Go.Proofs.YtegalkmfoffpfaaDoor
open Go.RowKit

def chunkCells (p : ByteArray) : List Value := [.string (sumS p), .int .i64 (p.size : Int)]
theorem infoChunk : (Tryd.prog.info? 44).map (fun i => (i.zero, i.size, i.bytes)) = some (some (.agg #[.string ⟨#[]⟩, .int .i64 0]), 2, 24) := by kernel_rfl
theorem flat_snoc (ps : List ByteArray) (k : Nat) (h : k < ps.length) : (ps.take (k + 1)).flatMap chunkCells = (ps.take k).flatMap chunkCells ++ chunkCells ps[k] := by
  rw [List.take_succ_eq_append_getElem h, List.flatMap_append]; simp only [List.flatMap_cons, List.flatMap_nil, List.append_nil]
theorem flat_len (ps : List ByteArray) (k : Nat) (h : k ≤ ps.length) : ((ps.take k).flatMap chunkCells).length = k * 2 := by
  induction k with
  | zero => simp
  | succ k ih => rw [flat_snoc ps k (by omega), List.length_append, ih (by omega)]; simp [chunkCells]; omega

def ChunksRel (ps : List ByteArray) (w1 : World) (g : Nat) (out i : Value) (wr : World) : Prop :=
  ∃ k : Nat, k + g = ps.length ∧ i = .int .i64 k ∧ wr.ownsRow w1.heap.size 44 2 out k ((ps.take k).flatMap chunkCells) ∧ Below w1.heap.size w1 wr

/-- Every part of a cut is at most as long as the string. -/
theorem cutSt_part (s : ByteArray) (low : Int) (bits : Nat) (high : Int) : ∀ k, ∀ p ∈ (cutSt s low bits high k).2, p.size ≤ s.size
  | 0 => by simp [cutSt]
  | k + 1 => by
    have ih := cutSt_part s low bits high k
    rw [cutSt]
    split
    · intro p hp
      rcases List.mem_append.1 hp with h | h
      · exact ih p h
      · simp at h; subst h; simp; omega
    · exact ih

set_option maxRecDepth 100000 in
set_option maxHeartbeats 2000000 in
theorem chunks_ok (s : ByteArray) (low : Int) (bits : Nat) (high : Int) (hsz : s.size ≤ 100000) (h1 : 1 ≤ low) (h2 : low ≤ high) (h3 : high ≤ 100000) (h4 : bits ≤ 16) (w : World)
    (hgl : w.cell? ⟨5, 15, none⟩ = some (.int .u8 4)) :
    Calls Tryd.prog 11 #[.string s, .int .i64 low, .int .i64 bits, .int .i64 high] w fun e w' => ∃ v, e = .returned (.tuple #[v, .int .i64 0]) ∧
      w'.ownsRow w.heap.size 44 2 v (cutSt s low bits high s.size).2.length ((cutSt s low bits high s.size).2.flatMap chunkCells) ∧ Below w.heap.size w w' := by
  obtain ⟨i0, hi, hz0, hz1, hz2⟩ := info_parts infoChunk
  have hpart := cutSt_part s low bits high s.size
  have hnum := (cutSt_le s low bits high s.size).2
  go_enter Tryd.func11, Tryd.ntmps11
  go_wp2_with fail
  refine (cut_ok s low bits high hsz h1 h2 h3 h4 _).mono ?_
  rintro e w1 ⟨v, rfl, hown1, hb1⟩
  generalize hps : (cutSt s low bits high s.size).2 = ps at *
  have HPS := Lib.hid hps
  clear hps
  have hl := Lst.of_own hown1
  obtain ⟨A, n, c, rfl, hnc, hcm, hlen⟩ := hl.form
  simp only [List.length_map, Nat.mul_one] at hlen
  subst hlen
  have h5 := World.block_lt_of_cell? w _ hgl
  have hg1 : w1.cell? ⟨5, 15, none⟩ = some (.int .u8 4) := (hb1.cell (p := ⟨5, 15, none⟩) h5).trans hgl
  have h51 := World.block_lt_of_cell? w1 _ hg1
  clear hown1 hgl
  go_wp2_with fail
  go_loopg [12, 28, 14] ps.length (fun g out i _ wr => ChunksRel ps w1 g out i wr)
  case atStart => exact ⟨0, by omega, rfl, World.ownsRow_nil _ _ _ _, Below.refl _ _⟩
  case round =>
    obtain ⟨k, hk, rfl, hown, hb⟩ := hrel
    by_cases hg : gk = 0
    · obtain rfl : k = ps.length := by omega
      go_wp2_with fail
      go_ret2
      refine ⟨_, rfl, ?_, hb1.trans (hb.mono hb1.size)⟩
      have hown' : wr.ownsRow w1.heap.size 44 2 u12 ps.length (ps.flatMap chunkCells) := by simpa using hown
      have hq := ownsRow_base hown' hb1.size
      rw [HPS.out]
      exact hq
    · have hlt : k < ps.length := by omega
      obtain ⟨g, o, u, rfl, _, hgl, hu, hcell0⟩ := hl.at_ hlt
      have hu' : u = .string ps[k] := by
        rw [List.getElem?_map, List.getElem?_eq_getElem hlt] at hu
        simpa using hu.symm
      subst hu'
      have hp : ps[k].size ≤ s.size := hpart _ (List.getElem_mem hlt)
      have hcell : wr.cell? ⟨g, o + k, none⟩ = some (.string ps[k]) := (hb.cell (p := ⟨g, o + k, none⟩) hgl).trans hcell0
      have hgr : wr.cell? ⟨5, 15, none⟩ = some (.int .u8 4) := (hb.cell (p := ⟨5, 15, none⟩) h51).trans hg1
      have HF := Lib.hid (flat_snoc ps k hlt)
      clear hcell0 hu
      have HK := Lib.hid hk
      clear hk
      go_wp2_with fail
      refine (sumOf_any ps[k] (by omega) _ hgr).mono ?_
      rintro e w2 ⟨rfl, hb2⟩
      have hown2 := ownsRow_below hown hb2
      have hbz := hb.size
      have hb3 : Below w1.heap.size w1 w2 := hb.trans (hb2.mono hb.size)
      have hb3z := hb3.size
      generalize hq : ps[k] = pk at *
      have HQ := Lib.hid hq
      clear hq
      go_wp2_with (at_builtin; refine wpList_append_own _ rfl _ _ 35 rfl w1.heap.size 44 i0 (.agg #[.string ⟨#[]⟩, .int .i64 0]) 2 24 Tryd.underlying35 hi hz0 hz1 hz2 rfl (by decide) _ _ _ rfl (hown2.alloc _) ⟨w2.heap.size, 0, none⟩ 1 1 [.string (sumS pk), .int .i64 (pk.size : Int)] rfl rfl ?c1 ?c2 ?c3 ?c4 ?c5 ?_)
      case c1 => exact cells_new w2 [.string (sumS pk), .int .i64 (pk.size : Int)] _
      case c2 => intro u hu; simp at hu; rcases hu with rfl | rfl <;> rfl
      case c3 => unfold maxLen; omega
      case c4 => omega
      case c5 => simp; omega
      intro v' w3 hown3 hgrow _
      have hb4 : Below w1.heap.size w1 w3 := (hb3.alloc hb3z _).grown hgrow (by simp; omega) (fun x hx => (hown2.lt x hx).1)
      go_wp2_with fail
      go_roundg (gk - 1)
      case measure => omega
      case rel =>
        refine ⟨k + 1, by have := HK.out; omega, by go_num, ?_, hb4⟩
        rw [HF.out]; exact hown3
set_option maxRecDepth 100000 in
set_option maxHeartbeats 2000000 in
theorem chunksOf_any (s : ByteArray) (low : Int) (bits : Nat) (high : Int) (hsz : s.size ≤ 100000) (h1 : 1 ≤ low) (h2 : low ≤ high) (h3 : high ≤ 100000) (h4 : bits ≤ 16) (w : World)
    (hgl : w.cell? ⟨5, 15, none⟩ = some (.int .u8 4)) :
    Calls Tryd.prog 17 #[.string s, .int .i64 low, .int .i64 bits, .int .i64 high] w fun e w' => ∃ v, e = .returned (v) ∧
      w'.ownsRow w.heap.size 44 2 v (cutSt s low bits high s.size).2.length ((cutSt s low bits high s.size).2.flatMap chunkCells) ∧ Below w.heap.size w w' := by
  obtain ⟨i0, hi, hz0, hz1, hz2⟩ := info_parts infoChunk
  have hpart := cutSt_part s low bits high s.size
  have hnum := (cutSt_le s low bits high s.size).2
  go_enter Tryd.func17, Tryd.ntmps17
  go_wp2_with fail
  refine (cutOf_any s low bits high hsz h1 h2 h3 h4 _).mono ?_
  rintro e w1 ⟨v, rfl, hown1, hb1⟩
  generalize hps : (cutSt s low bits high s.size).2 = ps at *
  have HPS := Lib.hid hps
  clear hps
  have hl := Lst.of_own hown1
  obtain ⟨A, n, c, rfl, hnc, hcm, hlen⟩ := hl.form
  simp only [List.length_map, Nat.mul_one] at hlen
  subst hlen
  have h5 := World.block_lt_of_cell? w _ hgl
  have hg1 : w1.cell? ⟨5, 15, none⟩ = some (.int .u8 4) := (hb1.cell (p := ⟨5, 15, none⟩) h5).trans hgl
  have h51 := World.block_lt_of_cell? w1 _ hg1
  clear hown1 hgl
  go_wp2_with fail
  go_loopg [9, 18, 11] ps.length (fun g out i _ wr => ChunksRel ps w1 g out i wr)
  case atStart => exact ⟨0, by omega, rfl, World.ownsRow_nil _ _ _ _, Below.refl _ _⟩
  case round =>
    obtain ⟨k, hk, rfl, hown, hb⟩ := hrel
    by_cases hg : gk = 0
    · obtain rfl : k = ps.length := by omega
      go_wp2_with fail
      go_ret
      refine ⟨_, rfl, ?_, hb1.trans (hb.mono hb1.size)⟩
      have hown' : wr.ownsRow w1.heap.size 44 2 u9 ps.length (ps.flatMap chunkCells) := by simpa using hown
      have hq := ownsRow_base hown' hb1.size
      rw [HPS.out]
      exact hq
    · have hlt : k < ps.length := by omega
      obtain ⟨g, o, u, rfl, _, hgl, hu, hcell0⟩ := hl.at_ hlt
      have hu' : u = .string ps[k] := by
        rw [List.getElem?_map, List.getElem?_eq_getElem hlt] at hu
        simpa using hu.symm
      subst hu'
      have hp : ps[k].size ≤ s.size := hpart _ (List.getElem_mem hlt)
      have hcell : wr.cell? ⟨g, o + k, none⟩ = some (.string ps[k]) := (hb.cell (p := ⟨g, o + k, none⟩) hgl).trans hcell0
      have hgr : wr.cell? ⟨5, 15, none⟩ = some (.int .u8 4) := (hb.cell (p := ⟨5, 15, none⟩) h51).trans hg1
      have HF := Lib.hid (flat_snoc ps k hlt)
      clear hcell0 hu
      have HK := Lib.hid hk
      clear hk
      go_wp2_with fail
      refine (rsum_any ps[k] (by omega) _ hgr).mono ?_
      rintro e w2 ⟨rfl, hb2⟩
      have hown2 := ownsRow_below hown hb2
      have hbz := hb.size
      have hb3 : Below w1.heap.size w1 w2 := hb.trans (hb2.mono hb.size)
      have hb3z := hb3.size
      generalize hq : ps[k] = pk at *
      have HQ := Lib.hid hq
      clear hq
      go_wp2_with (at_builtin; refine wpList_append_own _ rfl _ _ 35 rfl w1.heap.size 44 i0 (.agg #[.string ⟨#[]⟩, .int .i64 0]) 2 24 Tryd.underlying35 hi hz0 hz1 hz2 rfl (by decide) _ _ _ rfl (hown2.alloc _) ⟨w2.heap.size, 0, none⟩ 1 1 [.string (sumS pk), .int .i64 (pk.size : Int)] rfl rfl ?c1 ?c2 ?c3 ?c4 ?c5 ?_)
      case c1 => exact cells_new w2 [.string (sumS pk), .int .i64 (pk.size : Int)] _
      case c2 => intro u hu; simp at hu; rcases hu with rfl | rfl <;> rfl
      case c3 => unfold maxLen; omega
      case c4 => omega
      case c5 => simp; omega
      intro v' w3 hown3 hgrow _
      have hb4 : Below w1.heap.size w1 w3 := (hb3.alloc hb3z _).grown hgrow (by simp; omega) (fun x hx => (hown2.lt x hx).1)
      go_wp2_with fail
      go_roundg (gk - 1)
      case measure => omega
      case rel =>
        refine ⟨k + 1, by have := HK.out; omega, by go_num, ?_, hb4⟩
        rw [HF.out]; exact hown3

set_option maxRecDepth 100000 in
set_option maxHeartbeats 1000000 in
theorem chunks_no (s : ByteArray) (low bits high : Int) (hsz : s.size ≤ 100000) (hf : (cutFault low bits high != 0) = true) (w : World) :
    Calls Tryd.prog 11 #[.string s, .int .i64 low, .int .i64 bits, .int .i64 high] w fun e w' => e = .returned (.tuple #[.slice none 0 0, .int .i64 (cutFault low bits high)]) ∧ w = w' := by
  have hf' : cutFault low bits high ≠ 0 := by simpa using hf
  have Hf := Lib.hid hf'
  clear hf'
  go_enter Tryd.func11, Tryd.ntmps11
  go_wp2_with fail
  refine (cut_no s low bits high hsz Hf.out _).mono ?_
  rintro e w1 ⟨rfl, rfl⟩
  go_wp2_with fail
  go_ret2
  exact ⟨rfl, rfl⟩
end Go.Proofs.YtegalkmfoffpfaaDoor
