/- signlaw1.synced: one closed call of sync.Done comes to 6. -/
import Derived.Test.YtegalkmfoffpfaaDoorSmall
import Derived.Deep.LoopGhost
namespace Go.Proofs.YtegalkmfoffpfaaDoor
open Go.RowKit

set_option maxRecDepth 100000 in
set_option maxHeartbeats 1000000 in
theorem checkLinks_one (g : Nat) (w : World) (c0 : w.cell? ⟨g, 0, none⟩ = some (.int .i64 0)) (c1 : w.cell? ⟨g, 1, none⟩ = some (.int .i64 10)) (c2 : w.cell? ⟨g, 2, none⟩ = some (.int .i64 5)) :
    Calls Tryd.prog 59 #[.slice (some ⟨g, 0, none⟩) 1 1] w fun e w' => e = .returned (.int .i64 0) ∧ Below w.heap.size w w' := by
  go_enter Tryd.func59, Tryd.ntmps59
  go_wp2_with fail
  go_loopg [10, 3, 4] 1 (fun g i _ _ wr => ∃ k : Nat, k + g = 1 ∧ i = .int .i64 k ∧ Below w.heap.size w wr)
  case atStart => exact ⟨0, by omega, rfl, Below.refl _ _⟩
  case round =>
    obtain ⟨k, hk, rfl, hb⟩ := hrel
    have hgl := World.block_lt_of_cell? w _ c0
    have d0 := (hb.cell (p := ⟨g, 0, none⟩) hgl).trans c0
    have d1 := (hb.cell (p := ⟨g, 1, none⟩) hgl).trans c1
    have d2 := (hb.cell (p := ⟨g, 2, none⟩) hgl).trans c2
    have hbz := hb.size
    clear c0 c1 c2
    rcases k with _ | k
    · have hg0 : decide ((0 : Int) < ((0 : Nat) : Int)) = false := by decide
      go_wp2_with fail
      refine (outside_any _ _ _ _).mono ?_
      rintro e w' ⟨rfl, rfl⟩
      rw [show outsideB 5 1 1000000 = false from rfl]
      go_wp2_with fail
      go_quiet (fail)
      go_wp2_with fail
      go_roundg 0
      case measure => omega
      case rel => exact ⟨1, rfl, rfl, below_drewN (hb.alloc hbz _) _⟩
    · obtain rfl : k = 0 := by omega
      go_wp2_with fail
      go_ret
      exact ⟨rfl, hb⟩

set_option maxRecDepth 100000 in
set_option maxHeartbeats 1000000 in
theorem done_one (g : Nat) (w : World) (c0 : w.cell? ⟨g, 0, none⟩ = some (.int .i64 0)) (c1 : w.cell? ⟨g, 1, none⟩ = some (.int .i64 10)) (c2 : w.cell? ⟨g, 2, none⟩ = some (.int .i64 5)) :
    Calls Tryd.prog 61 #[.slice (some ⟨g, 0, none⟩) 1 1, .int .i64 3, .int .i64 12] w fun e w' => e = .returned (.tuple #[.int .i64 6, .bool true]) ∧ Below w.heap.size w w' := by
  go_enter Tryd.func61, Tryd.ntmps61
  go_wp2_with fail
  refine wp_loop_rounds 1 ?_
  rw [rounds_succ]
  go_wp2_with fail
  go_ret2
  exact ⟨rfl, (Below.refl _ _).alloc (Nat.le_refl _) _⟩

set_option maxRecDepth 100000 in
set_option maxHeartbeats 1000000 in
theorem isMoment_3 (w : World) : Calls Tryd.prog 60 #[.int .i64 3] w fun e w' => e = .returned (.bool true) ∧ w = w' := by
  go_enter Tryd.func60, Tryd.ntmps60
  go_wp2
  go_ret
  exact ⟨rfl, rfl⟩

set_option maxRecDepth 100000 in
set_option maxHeartbeats 1000000 in
theorem Done_one (g : Nat) (w : World) (c0 : w.cell? ⟨g, 0, none⟩ = some (.int .i64 0)) (c1 : w.cell? ⟨g, 1, none⟩ = some (.int .i64 10)) (c2 : w.cell? ⟨g, 2, none⟩ = some (.int .i64 5)) :
    Calls Tryd.prog 36 #[.slice (some ⟨g, 0, none⟩) 1 1, .int .i64 3, .int .i64 12] w fun e w' => e = .returned (.tuple #[.int .i64 6, .bool true, .int .i64 0]) ∧ Below w.heap.size w w' := by
  have hgl := World.block_lt_of_cell? w _ c0
  go_enter Tryd.func36, Tryd.ntmps36
  go_wp2_with fail
  refine (checkLinks_one g _ c0 c1 c2).mono ?_
  rintro e w1 ⟨rfl, hb⟩
  have d0 := (hb.cell (p := ⟨g, 0, none⟩) hgl).trans c0
  have d1 := (hb.cell (p := ⟨g, 1, none⟩) hgl).trans c1
  have d2 := (hb.cell (p := ⟨g, 2, none⟩) hgl).trans c2
  go_wp2_with fail
  refine (isMoment_3 _).mono ?_
  rintro e w' ⟨rfl, rfl⟩
  go_wp2_with fail
  refine (outside_any _ _ _ _).mono ?_
  rintro e w' ⟨rfl, rfl⟩
  rw [show outsideB 12 0 _ = false from rfl]
  go_wp2_with fail
  refine (done_one g _ d0 d1 d2).mono ?_
  rintro e w2 ⟨rfl, hb2⟩
  go_wp2_with fail
  go_ret3
  exact ⟨rfl, hb.trans (hb2.mono hb.size)⟩

set_option maxRecDepth 100000 in
set_option maxHeartbeats 1000000 in
theorem synced_any (w : World) : Calls Tryd.prog 13 #[] w fun e w' => e = .returned (.bool true) ∧ Below w.heap.size w w' := by
  go_enter Tryd.func13, Tryd.ntmps13
  go_wp2_with fail
  refine (Done_one w.heap.size _ (cell_new_list w _ _ 0 _ rfl) (cell_new_list w _ _ 1 _ rfl) (cell_new_list w _ _ 2 _ rfl)).mono ?_
  rintro e w1 ⟨rfl, hb⟩
  go_wp2_with fail
  go_ret
  exact ⟨rfl, ((Below.refl _ _).alloc (Nat.le_refl _) _).trans (hb.mono (by simp))⟩
end Go.Proofs.YtegalkmfoffpfaaDoor
