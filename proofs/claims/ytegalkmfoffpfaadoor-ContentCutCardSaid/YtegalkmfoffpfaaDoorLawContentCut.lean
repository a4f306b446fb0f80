/- The law ContentCut returns true at every slice of ints. -/
import Derived.Test.YtegalkmfoffpfaaDoorContent
import Derived.Test.YtegalkmfoffpfaaDoorChunks
import Derived.Test.YtegalkmfoffpfaaDoorEqual
import Derived.Test.YtegalkmfoffpfaaDoorSynced
namespace Go.Proofs.YtegalkmfoffpfaaDoor
open Go.RowKit

theorem cell_below {w w' : World} {p : Addr} {v : Value} (hb : Below w.heap.size w w') (h : w.cell? p = some v) : w'.cell? p = some v :=
  (hb.cell (World.block_lt_of_cell? w _ h)).trans h
theorem equalString_same (A A' : Option Addr) (n c n' c' lo lo' : Nat) (ss : List ByteArray) (w : World) (hn : n ≤ 1000000000000) (hl : ss.length = n) (hl' : ss.length = n')
    (h1 : Lst w lo 1 (.slice A n c) (ss.map Value.string)) (h2 : Lst w lo' 1 (.slice A' n' c') (ss.map Value.string)) :
    Calls Tryd.prog 14 #[.slice A n c, .slice A' n' c'] w fun e w' => e = .returned (.bool true) ∧ ∃ q, w' = w.drewN q := by
  subst hl; subst hl'
  by_cases h0 : ss.length = 0
  · rw [h0]
    refine (Tryd.slices_Equal_string_empty A A' c 0 c' w (by omega)).mono ?_
    rintro e w' ⟨rfl, rfl⟩
    exact ⟨rfl, 0, rfl⟩
  · obtain ⟨g, o, rfl, _, _, hc⟩ := h1.open_ (by omega)
    obtain ⟨g', o', rfl, _, _, hc'⟩ := h2.open_ (by omega)
    have get : ∀ j, j < ss.length → (ss.map Value.string)[j]? = some (.string (ss.getD j ByteArray.empty)) := fun j hj => by simp [List.getElem?_eq_getElem hj]
    refine (Tryd.slices_Equal_string g o ss.length c g' o' ss.length c' ss ss w (Nat.le_refl _) (Nat.le_refl _) (by omega) (by omega) (fun j hj => hc j _ (get j hj)) (fun j hj => hc' j _ (get j hj))).mono ?_
    rintro e w' ⟨rfl, q, rfl⟩
    exact ⟨by simp, q, rfl⟩
theorem cutFault_ok {low bits high : Int} (h : (cutFault low bits high != 0) = false) : 1 ≤ low ∧ low ≤ high ∧ high ≤ 100000 ∧ 0 ≤ bits ∧ bits ≤ 16 := by
  unfold cutFault at h
  split at h
  · simp at h
  · rename_i hc
    simp [outsideB] at hc
    omega
def pairOf (p : ByteArray) : ByteArray × Int := (sumS p, p.size)
theorem chunk_pairs (ps : List ByteArray) : ps.flatMap chunkCells = (ps.map pairOf).flatMap (fun p => [.string p.1, .int .i64 p.2]) := by
  rw [List.flatMap_map]; rfl

set_option maxRecDepth 100000 in
set_option maxHeartbeats 4000000 in
theorem contentCut_walk (a : Option Addr) (len cap : Nat) (zs : List Int) (w : World) (h : IsRow .i64 w a len cap zs) (hgl : w.cell? ⟨5, 15, none⟩ = some (.int .u8 4)) :
    Calls Tryd.prog 3 #[.slice a len cap] w fun e w' => e = .returned (.bool true) ∧ Below w.heap.size w w' := by
  have hs0 := isStream_new (ts := 25) h
  have h5 := World.block_lt_of_cell? w _ hgl
  clear h
  go_enter Tryd.func3, Tryd.ntmps3
  go_wp2_with fail
  refine (range_any _ 0 _ _ _ hs0 (by omega) (by omega) (by omega) (by omega)).mono ?_
  rintro e w1 ⟨many, ⟨hm0, hm1⟩, rfl, g1⟩
  go_wp2_with fail
  refine (content_any _ _ _ _ g1.is (by omega) (by omega) (by omega)).mono ?_
  rintro e w2 ⟨t, ht, rfl, g2⟩
  have ht' : t.size ≤ 360 := by omega
  have G2 := g1.trans g2 (Nat.le_refl _)
  have z2 := G2.gb.size
  simp only [World.size_alloc] at z2
  clear ht hm0 hm1 hs0 g1 g2
  go_wp2_with fail
  refine (pick_any _ _ w2.heap.size [1, 2, 5, 17, 0] 5 5 _ 3 (G2.is.alloc _) (by omega) rfl (by omega) (by omega) (heap_alloc_new _ _) (by omega)).mono ?_
  rintro e w3 ⟨low, hlow, rfl, g3⟩
  have G3 := G2.trans g3.of_alloc (Nat.le_refl _)
  have z3 := G3.gb.size
  simp only [World.size_alloc] at z3
  clear G2 g3 z2
  go_wp2_with fail
  refine (pick_any _ _ w3.heap.size [0, 1, 2, 3, 16, 17, -1] 7 7 _ 3 (G3.is.alloc _) (by omega) rfl (by omega) (by omega) (heap_alloc_new _ _) (by omega)).mono ?_
  rintro e w4 ⟨bits, hbits, rfl, g4⟩
  have G4 := G3.trans g4.of_alloc (Nat.le_refl _)
  have z4 := G4.gb.size
  simp only [World.size_alloc] at z4
  clear G3 g4 z3
  go_wp2_with fail
  refine (pick_any _ _ w4.heap.size [1, 5, 20, 100, 100000, 100001] 6 6 _ 3 (G4.is.alloc _) (by omega) rfl (by omega) (by omega) (heap_alloc_new _ _) (by omega)).mono ?_
  rintro e w5 ⟨high, hhigh, rfl, g5⟩
  have G5 := G4.trans g5.of_alloc (Nat.le_refl _)
  have hB : Below w.heap.size w w5 := below_gb ((Below.refl _ _).alloc (Nat.le_refl _) _) G5.gb (Nat.le_refl _)
  have q5 : w5.cell? ⟨5, 15, none⟩ = some (.int .u8 4) := (hB.cell (p := ⟨5, 15, none⟩) h5).trans hgl
  have z5 := hB.size
  have HL := Lib.hid hlow; have HBi := Lib.hid hbits; have HH := Lib.hid hhigh
  clear G4 G5 g5 z4 hgl hlow hbits hhigh
  go_wp2_with fail
  refine (SumOf_any t (by omega) _ q5).mono ?_
  rintro e w6 ⟨rfl, b6⟩
  have q6 : w6.cell? ⟨5, 15, none⟩ = some (.int .u8 4) := cell_below b6 q5
  have B6 := hB.trans (b6.mono z5)
  have z6 := B6.size
  clear q5 hB b6
  go_wp2_with fail
  refine (SumFor_any t (by omega) _ q6).mono ?_
  rintro e w7 ⟨rfl, b7⟩
  have q7 : w7.cell? ⟨5, 15, none⟩ = some (.int .u8 4) := cell_below b7 q6
  have B7 := B6.trans (b7.mono z6)
  have z7 := B7.size
  clear q6 B6 b7 z6 z5
  go_wp2_with fail
  rcases Bool.eq_false_or_eq_true (cutFault low bits high != 0) with hf | hf
  · have hf' : cutFault low bits high ≠ 0 := by simpa using hf
    have Hf' := Lib.hid hf'
    clear hf'
    refine (cut_no t low bits high (by omega) Hf'.out _).mono ?_
    rintro e w8 ⟨rfl, rfl⟩
    go_wp2_with fail
    refine (chunks_no t low bits high (by omega) hf _).mono ?_
    rintro e w8 ⟨rfl, rfl⟩
    go_wp2_with fail
    refine (cutFault_any t low bits high (by omega) _).mono ?_
    rintro e w8 ⟨rfl, rfl⟩
    go_wp2_with fail
    refine (synced_any _).mono ?_
    rintro e w8 ⟨rfl, b8⟩
    go_wp2_with fail
    go_ret
    exact ⟨rfl, B7.trans (b8.mono z7)⟩
  · obtain ⟨k1, k2, k3, k4, k5⟩ := cutFault_ok hf
    obtain ⟨bn, rfl⟩ := Int.eq_ofNat_of_zero_le k4
    refine (cut_ok t low bn high (by omega) k1 k2 k3 (by omega) _).mono ?_
    rintro e w8 ⟨v8, rfl, o8, b8⟩
    have q8 := cell_below b8 q7
    have B8 := B7.trans (b8.mono z7)
    have z8 := B8.size
    clear q7 B7
    have L8 := Lst.of_own o8
    obtain ⟨A8, n8, c8, rfl, hn8, _, hl8⟩ := L8.form
    clear o8
    have e8 := (cutSt_le t low bn high t.size).2
    generalize hps : (cutSt t low bn high t.size).2 = ps at *
    have HPS := Lib.hid hps
    clear hps
    simp only [List.length_map, Nat.mul_one] at hl8
    subst hl8
    go_wp2_with fail
    refine (chunks_ok t low bn high (by omega) k1 k2 k3 (by omega) _ q8).mono ?_
    rintro e w9 ⟨v9, rfl, o9, b9⟩
    rw [HPS.out] at o9
    have q9 := cell_below b9 q8
    have B9 := B8.trans (b9.mono z8)
    have z9 := B9.size
    have L89 := L8.below b9
    clear q8 B8 L8
    rw [chunk_pairs] at o9
    have L9 := Lst.of_own o9
    obtain ⟨A9, n9, c9, rfl, hn9, _, hl9⟩ := L9.form
    clear o9
    obtain rfl : n9 = ps.length := by
      rw [← chunk_pairs] at hl9
      have := flat_len ps ps.length (Nat.le_refl _)
      rw [List.take_length] at this; omega
    clear hl9
    go_wp2_with fail
    refine (cutFault_any t low bn high (by omega) _).mono ?_
    rintro e w10 ⟨rfl, rfl⟩
    rw [show cutFault low bn high = 0 by simpa using hf]
    go_wp2_with fail
    refine (cutOf_any t low bn high (by omega) k1 k2 k3 (by omega) _).mono ?_
    rintro e w10 ⟨v10, rfl, o10, b10⟩
    rw [HPS.out] at o10
    have q10 := cell_below b10 q9
    have B10 := B9.trans (b10.mono z9)
    have z10 := B10.size
    have L90 := L9.below b10
    have L810 := L89.below b10
    clear q9 B9 L9 L89
    have L10 := Lst.of_own o10
    obtain ⟨A10, n10, c10, rfl, hn10, _, hl10⟩ := L10.form
    clear o10
    simp only [List.length_map, Nat.mul_one] at hl10
    subst hl10
    go_wp2_with fail
    refine (equalString_same A8 A10 _ c8 _ c10 _ _ ps _ (by omega) rfl rfl L810 L10).mono ?_
    rintro e w11 ⟨rfl, q, rfl⟩
    go_wp2_with fail
    refine (chunksOf_any t low bn high (by omega) k1 k2 k3 (by omega) _ (show (w10.drewN q).cell? _ = _ from q10)).mono ?_
    rintro e w12 ⟨v12, rfl, o12, b12⟩
    rw [HPS.out, chunk_pairs] at o12
    have B12 := (below_drewN B10 q).trans (b12.mono z10)
    have z12 := B12.size
    have L912 := Lst.below (w := w10.drewN q) L90 b12
    clear B10 L90 L810
    have L12 := Lst.of_own o12
    obtain ⟨A12, n12, c12, rfl, hn12, _, hl12⟩ := L12.form
    clear o12
    obtain rfl : n12 = ps.length := by
      rw [← chunk_pairs] at hl12
      have := flat_len ps ps.length (Nat.le_refl _)
      rw [List.take_length] at this; omega
    clear hl12
    go_wp2_with fail
    rw [show ps.length = (ps.map pairOf).length by simp] at L912 L12 ⊢
    refine (equalChunk_same A9 A12 c9 c12 _ _ (ps.map pairOf) _ (by simp; omega) L912 L12).mono ?_
    rintro e w13 ⟨rfl, q', rfl⟩
    go_wp2_with fail
    refine (synced_any _).mono ?_
    rintro e w14 ⟨rfl, b14⟩
    go_wp2_with fail
    go_ret
    exact ⟨rfl, (below_drewN B12 q').trans (b14.mono z12)⟩
end Go.Proofs.YtegalkmfoffpfaaDoor
