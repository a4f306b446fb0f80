/- The law PiecesSpread returns true at every slice of ints. -/
import Derived.Test.YtegalkmfoffpfaaDoorGenNear
import Derived.Test.YtegalkmfoffpfaaDoorPOrs
import Derived.Test.YtegalkmfoffpfaaDoorSpreadBad
import Derived.Test.YtegalkmfoffpfaaDoorSpreadWalk
import Derived.Test.YtegalkmfoffpfaaDoorSpreadRef
import Derived.Test.YtegalkmfoffpfaaDoorNearFault
import Derived.Test.YtegalkmfoffpfaaDoorGiveLib
import Derived.Test.YtegalkmfoffpfaaDoorSynced
namespace Go.Proofs.YtegalkmfoffpfaaDoor
open Go.RowKit
attribute [local go_sem ↓] Go.wp_at_zero Go.wp_at_succ
theorem orF_twoP (a b : Int) : orF [a, b] = if a = 0 then b else a := by
  show (if a = 0 then (if b = 0 then 0 else b) else a) = _
  by_cases h : b = 0
  · rw [h]; rfl
  · rw [if_neg h]
theorem own_formP {w : World} {base n size : Nat} {e : TypeId} {v : Value} {xs : List Value} (h : w.ownsRow base e size v n xs) : ∃ A m c, v = .slice A m c ∧ m = n := by
  rcases h.2 with ⟨rfl, hn⟩ | ⟨g, cap, cur, rfl, _⟩
  · exact ⟨none, 0, 0, rfl, by omega⟩
  · exact ⟨_, _, _, rfl, rfl⟩
theorem spreadF_len (n m : Nat) (N : Nat → Nat → Bool) : ∀ (f no : Nat) (H : Nat → Nat → Bool), (spreadF n m N f no H).1.length ≤ f * n
  | 0, _, _ => by simp [spreadF]
  | f + 1, no, H => by
    have ih := spreadF_len n m N f (no + 1) (applyG H (gifts n m N H))
    have hg := (gifts_ok n m N H).2
    rw [spreadF, Nat.add_mul]
    split
    · simp
    · simp only [List.length_append, noted, List.length_map]; omega
theorem spreadG_len (ps : List PeerD) (ne : List PairD) (m : Nat) (hn : ps.length ≤ 12) (hm : m ≤ 60) : (spreadG ps ne m).length ≤ 1000000000 := by
  have h := spreadF_len ps.length m (nearM ps ne ne.length) (ps.length * m) 1 (hasM ps)
  have h1 : ps.length * m ≤ 12 * 60 := Nat.mul_le_mul hn hm
  have h2 : ps.length * m * ps.length ≤ 12 * 60 * 12 := Nat.mul_le_mul h1 hn
  unfold spreadG
  omega
theorem peersF_zero {m : Int} {ps : List PeerD} (h : peersF m ps = 0) : 1 ≤ m ∧ m ≤ 60 := by
  unfold peersF at h
  split at h
  · omega
  · rename_i h1
    simp [outsideB] at h1
    omega
set_option maxRecDepth 100000 in
set_option maxHeartbeats 1500000 in
theorem piecesSpread_walk (a : Option Addr) (len cap : Nat) (zs : List Int) (w : World) (h : IsRow .i64 w a len cap zs) :
    Calls Tryd.prog 4 #[.slice a len cap] w fun e w' => e = .returned (.bool true) ∧ Below w.heap.size w w' := by
  have hs0 := isStream_new (ts := 25) h
  clear h
  go_enter Tryd.func4, Tryd.ntmps4
  go_wp2_with fail
  refine (pick_any _ 0 _ [1, 3, 5, 8, 0, 61] 6 6 _ 3 (hs0.alloc _) (by omega) rfl (by omega) (by omega) (heap_newP _ _ _ (by simp)) (by first | omega | simp)).mono ?_
  rintro e w1 ⟨m, hm, rfl, g1⟩
  have G1 := g1.of_alloc
  have z1 := G1.gb.size
  simp only [World.size_alloc] at z1
  have hm2 : 0 ≤ m ∧ m ≤ 61 := by simp at hm; omega
  clear hs0 g1 hm
  go_wp2_with fail
  refine (gpeers_any _ _ m _ G1.is (by omega) hm2.1 hm2.2).mono ?_
  rintro e w2 ⟨v2, ps, hp5, hpk, rfl, pa2, g2⟩
  obtain ⟨A2, c2, rfl⟩ := pa2.form
  have G2 := G1.trans g2 (Nat.le_refl _)
  have z2 := G2.gb.size
  simp only [World.size_alloc] at z2
  clear G1 g2
  go_wp2_with fail
  refine (gnear_any _ _ w1.heap.size c2 A2 ps _ G2.is (by omega) pa2 (by omega) hp5).mono ?_
  rintro e w3 ⟨v3, ne, hn3, rfl, o3, g3⟩
  obtain ⟨A3, n3, c3, rfl, rfl⟩ := own_formP o3
  have G3 := G2.trans g3 (Nat.le_refl _)
  have pa3 := pa2.grown g3.gb (by omega)
  have B3 : Below w.heap.size w w3 := below_gb ((Below.refl _ _).alloc (Nat.le_refl _) _) G3.gb (Nat.le_refl _)
  have HOK := Lib.hid hpk
  have PA3 := Lib.hid (pa3.mono (Nat.zero_le _))
  have NE3 := Lib.hid (ownsRow_base o3 (Nat.zero_le _))
  clear G2 g3 G3 pa2 pa3 o3 hpk z1 z2
  go_wp2_with fail
  refine (peersFault_any A2 0 c2 ps m _ PA3.out HOK.out (by omega) (by omega) (by omega)).mono ?_
  rintro e w4 ⟨rfl, b4⟩
  have B4 := bon B3 b4
  have PA4 := Lib.hid (PA3.out.below b4)
  have NE4 := Lib.hid (ownsRow_below NE3.out b4)
  clear b4 B3 PA3 NE3
  go_wp2_with fail
  refine (checkPeers_any A2 0 c2 ps m _ PA4.out HOK.out (by omega) (by omega) (by omega)).mono ?_
  rintro e w5 ⟨rfl, b5⟩
  have B5 := bon B4 b5
  have PA5 := Lib.hid (PA4.out.below b5)
  have NE5 := Lib.hid (ownsRow_below NE4.out b5)
  clear b5 B4 PA4 NE4
  go_wp2_with fail
  have HOR := Lib.hid (orF_twoP (peersF m ps) (nearF ps ne))
  by_cases hz : peersF m ps = 0
  rotate_left
  · have HZ := Lib.hid hz
    have hx : (peersF m ps != 0) = true := by simpa using hz
    have HX := Lib.hid (show orF [peersF m ps, nearF ps ne] = peersF m ps by rw [HOR.out, if_neg hz])
    clear hz HOR
    refine (spread_peers A2 A3 0 c2 _ c3 ps m _ PA5.out HOK.out (by omega) (by omega) (by omega) HZ.out).mono ?_
    rintro e w6 ⟨rfl, b6⟩
    have B6 := bon B5 b6
    have PA6 := Lib.hid (PA5.out.below b6)
    have NE6 := Lib.hid (ownsRow_below NE5.out b6)
    clear b6 B5 PA5 NE5
    go_wp2_with fail
    refine (nearFault_any A2 A3 0 c2 c3 ps ne _ PA6.out (by omega) (Lst.of_own NE6.out) (by omega)).mono ?_
    rintro e w7 ⟨rfl, b7⟩
    have B7 := bon B6 b7
    have PA7 := Lib.hid (PA6.out.below b7)
    have NE7 := Lib.hid (ownsRow_below NE6.out b7)
    clear b7 B6 PA6 NE6
    go_wp2_with fail
    refine (or_any w7.heap.size 2 2 [peersF m ps, nearF ps ne] 29 _ rfl (by omega) (heap_alloc_new _ _)).mono ?_
    rintro e w' ⟨rfl, rfl⟩
    have b8 := bfirst w7 (.cells (List.map (Value.int .i64) [peersF m ps, nearF ps ne]).toArray 29)
    obtain ⟨w8, hw8⟩ : ∃ w8, w8 = w7.alloc (.cells (List.map (Value.int .i64) [peersF m ps, nearF ps ne]).toArray 29) := ⟨_, rfl⟩
    rw [← hw8] at b8 ⊢
    clear hw8
    have B8 := bon B7 b8
    have PA8 := Lib.hid (PA7.out.below b8)
    have NE8 := Lib.hid (ownsRow_below NE7.out b8)
    clear b8 B7 PA7 NE7
    rw [HX.out]
    clear HZ
    generalize peersF m ps = x at *
    clear HX
    go_wp2_with fail
    refine (synced_any _).mono ?_
    rintro e w9 ⟨rfl, b9⟩
    go_wp2_with fail
    go_ret
    exact ⟨rfl, bon B8 b9⟩
  · obtain ⟨m1, m60⟩ := peersF_zero hz
    obtain ⟨mn, rfl⟩ := Int.eq_ofNat_of_zero_le (show 0 ≤ m by omega)
    have HZ := Lib.hid hz
    by_cases hy : nearF ps ne = 0
    rotate_left
    · have HY := Lib.hid hy
      have hx : (nearF ps ne != 0) = true := by simpa using hy
      have HX := Lib.hid (show orF [peersF mn ps, nearF ps ne] = nearF ps ne by rw [HOR.out, if_pos hz])
      clear hz hy HOR
      refine (spread_near A2 A3 0 c2 c3 ps ne mn _ PA5.out HOK.out (by omega) (by omega) (by omega) HZ.out (Lst.of_own NE5.out) (by omega) HY.out).mono ?_
      rintro e w6 ⟨rfl, b6⟩
      have B6 := bon B5 b6
      have PA6 := Lib.hid (PA5.out.below b6)
      have NE6 := Lib.hid (ownsRow_below NE5.out b6)
      clear b6 B5 PA5 NE5
      go_wp2_with fail
      refine (nearFault_any A2 A3 0 c2 c3 ps ne _ PA6.out (by omega) (Lst.of_own NE6.out) (by omega)).mono ?_
      rintro e w7 ⟨rfl, b7⟩
      have B7 := bon B6 b7
      have PA7 := Lib.hid (PA6.out.below b7)
      have NE7 := Lib.hid (ownsRow_below NE6.out b7)
      clear b7 B6 PA6 NE6
      go_wp2_with fail
      generalize hm9 : (mn : Int) = m at *
      refine (or_any w7.heap.size 2 2 [peersF m ps, nearF ps ne] 29 _ rfl (by omega) (heap_alloc_new _ _)).mono ?_
      rintro e w' ⟨rfl, rfl⟩
      have b8 := bfirst w7 (.cells (List.map (Value.int .i64) [peersF m ps, nearF ps ne]).toArray 29)
      obtain ⟨w8, hw8⟩ : ∃ w8, w8 = w7.alloc (.cells (List.map (Value.int .i64) [peersF m ps, nearF ps ne]).toArray 29) := ⟨_, rfl⟩
      rw [← hw8] at b8 ⊢
      clear hw8
      have B8 := bon B7 b8
      have PA8 := Lib.hid (PA7.out.below b8)
      have NE8 := Lib.hid (ownsRow_below NE7.out b8)
      clear b8 B7 PA7 NE7
      rw [HX.out]
      clear HY
      generalize nearF ps ne = x at *
      clear HX
      go_wp2_with fail
      refine (synced_any _).mono ?_
      rintro e w9 ⟨rfl, b9⟩
      go_wp2_with fail
      go_ret
      exact ⟨rfl, bon B8 b9⟩
    · have HY := Lib.hid hy
      have HX := Lib.hid (show orF [peersF mn ps, nearF ps ne] = 0 by rw [HOR.out, if_pos hz, hy])
      clear hz hy HOR
      refine (spread_any A2 A3 0 c2 c3 mn ps ne _ PA5.out HOK.out (by omega) (by omega) HZ.out (Lst.of_own NE5.out) (by omega) HY.out).mono ?_
      rintro e w6 ⟨v6, rfl, o6, b6⟩
      obtain ⟨A6, n6, c6, rfl, rfl⟩ := own_formP o6
      have B6 := bon B5 b6
      have PA6 := Lib.hid (PA5.out.below b6)
      have NE6 := Lib.hid (ownsRow_below NE5.out b6)
      clear b6 B5 PA5 NE5
      have S6 := Lib.hid (ownsRow_base o6 (Nat.zero_le _))
      clear o6
      go_wp2_with fail
      refine (nearFault_any A2 A3 0 c2 c3 ps ne _ PA6.out (by omega) (Lst.of_own NE6.out) (by omega)).mono ?_
      rintro e w7 ⟨rfl, b7⟩
      have S7 := Lib.hid (ownsRow_below S6.out b7)
      clear S6
      have B7 := bon B6 b7
      have PA7 := Lib.hid (PA6.out.below b7)
      have NE7 := Lib.hid (ownsRow_below NE6.out b7)
      clear b7 B6 PA6 NE6
      go_wp2_with fail
      generalize hm9 : (mn : Int) = m at *
      refine (or_any w7.heap.size 2 2 [peersF m ps, nearF ps ne] 29 _ rfl (by omega) (heap_alloc_new _ _)).mono ?_
      rintro e w' ⟨rfl, rfl⟩
      have b8 := bfirst w7 (.cells (List.map (Value.int .i64) [peersF m ps, nearF ps ne]).toArray 29)
      obtain ⟨w8, hw8⟩ : ∃ w8, w8 = w7.alloc (.cells (List.map (Value.int .i64) [peersF m ps, nearF ps ne]).toArray 29) := ⟨_, rfl⟩
      rw [← hw8] at b8 ⊢
      clear hw8
      have S8 := Lib.hid (ownsRow_below S7.out b8)
      clear S7
      have B8 := bon B7 b8
      have PA8 := Lib.hid (PA7.out.below b8)
      have NE8 := Lib.hid (ownsRow_below NE7.out b8)
      clear b8 B7 PA7 NE7
      rw [HX.out]
      subst hm9
      go_wp2_with fail
      refine (spreadRef_any A2 A3 0 c2 c3 mn ps ne _ PA8.out HOK.out (by omega) (by omega) (by omega) HZ.out (Lst.of_own NE8.out) (by omega)).mono ?_
      rintro e w9 ⟨v9, rfl, o9, b9⟩
      obtain ⟨A9, n9, c9, rfl, e9⟩ := own_formP o9
      have S9 := Lib.hid (ownsRow_below S8.out b9)
      have T9 := Lib.hid (ownsRow_base o9 (Nat.zero_le _))
      clear S8 o9
      have B9 := bon B8 b9
      have PA9 := Lib.hid (PA8.out.below b9)
      have NE9 := Lib.hid (ownsRow_below NE8.out b9)
      clear b9 B8 PA8 NE8
      have hlen : (spreadG ps ne mn).length ≤ 1000000000 := spreadG_len ps ne mn (by omega) (by omega)
      have T9' : w9.ownsRow 0 61 4 (.slice A9 (spreadG ps ne mn).length c9) (spreadG ps ne mn).length ((spreadG ps ne mn).flatMap (giC (keysOf ps))) := by
        have := T9.out
        rw [e9] at this
        exact this
      obtain rfl : n9 = (spreadG ps ne mn).length := e9
      clear T9
      have HT := Lib.hid T9'
      clear T9'
      generalize hG : spreadG ps ne mn = G at *
      have HEQ := Lib.hid (show allF ps.length mn (spreadF ps.length mn (nearM ps ne ne.length) (ps.length * mn) 1 (hasM ps)).2 = spreadB ps ne mn from rfl)
      rw [HEQ.out]
      clear HEQ HZ HY HX
      generalize spreadB ps ne mn = sb at *
      clear hG
      go_wp2_with fail
      refine (equalG_same (keysOf ps) A6 A9 c6 c9 0 0 G _ hlen S9.out HT.out).mono ?_
      rintro e w10 ⟨rfl, q, rfl⟩
      go_wp2_with fail
      refine (synced_any _).mono ?_
      rintro e w11 ⟨rfl, b11⟩
      go_wp2_with fail
      go_ret
      exact ⟨rfl, bon (below_drewN B9 q) b11⟩
end Go.Proofs.YtegalkmfoffpfaaDoor
