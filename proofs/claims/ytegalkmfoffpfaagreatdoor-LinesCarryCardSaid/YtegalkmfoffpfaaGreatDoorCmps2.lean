/- sync.plan's first comparing function: what is due first, then the key. -/
import Derived.Test.YtegalkmfoffpfaaGreatDoorCmps
import Derived.Test.YtegalkmfoffpfaaGreatDoorPlanMath
import Derived.Deep.RegionHeld3
import Derived.Deep.DrawnRows
namespace Go.Proofs.YtegalkmfoffpfaaGreatDoor
open Go.RowKit Go.Sort Go.Lib
attribute [local go_sem ↓] Go.wp_at_zero Go.wp_at_succ
theorem orF_two (a b : Int) : orF [a, b] = if a = 0 then b else a := by
  unfold orF orF orF
  split
  · split
    · rename_i h; rw [h]
    · rfl
  · rfl
set_option maxRecDepth 100000 in
set_option maxHeartbeats 2000000 in
theorem plan_both (x y : NeedD) (W : World) : Calls Tryz.prog 170 #[ndV x, ndV y] W fun e w' => e = .returned (.int .i64 (bothC x y)) ∧ ∃ q os', w' = grow (W.drewN q) os' := by
  unfold ndV
  obtain ⟨k1, b1, d1⟩ := x
  obtain ⟨k2, b2, d2⟩ := y
  have HB := Lib.hid (show bothC (k1, b1, d1) (k2, b2, d2) = orF [Lib.compareInt d1 d2, Lib.compareBytes k1.data.toList k2.data.toList] by rw [orF_two]; rfl)
  go_enter Tryz.func170, Tryz.ntmps170
  go_wp2_with fail
  have HW : Hid ((W.alloc (.cells #[.string k1, .int .i64 b1, .int .i64 d1] 155)).alloc (.cells #[.string k2, .int .i64 b2, .int .i64 d2] 155) = grow W #[.cells #[.string k1, .int .i64 b1, .int .i64 d1] 155, .cells #[.string k2, .int .i64 b2, .int .i64 d2] 155]) := by
    show _ = _
    rw [alloc_eq_grow, alloc_eq_grow, grow_grow]; rfl
  have h1 := need_cells ((Below.heap_alloc (W.alloc (.cells #[.string k1, .int .i64 b1, .int .i64 d1] 155)) (.cells #[.string k2, .int .i64 b2, .int .i64 d2] 155) W.heap.size (by simp)).trans (heap_alloc_new W (.cells #[.string k1, .int .i64 b1, .int .i64 d1] 155)))
  have h2 := need_cells (heap_alloc_new (W.alloc (.cells #[.string k1, .int .i64 b1, .int .i64 d1] 155)) (.cells #[.string k2, .int .i64 b2, .int .i64 d2] 155))
  simp only [World.size_alloc] at h1 h2
  obtain ⟨a0, _, a2⟩ := h1
  obtain ⟨c0, _, c2⟩ := h2
  have hz1 : W.heap.size < ((W.alloc (.cells #[.string k1, .int .i64 b1, .int .i64 d1] 155)).alloc (.cells #[.string k2, .int .i64 b2, .int .i64 d2] 155)).heap.size := by simp; omega
  have hz2 : W.heap.size + 1 < ((W.alloc (.cells #[.string k1, .int .i64 b1, .int .i64 d1] 155)).alloc (.cells #[.string k2, .int .i64 b2, .int .i64 d2] 155)).heap.size := by simp
  generalize (W.alloc (.cells #[.string k1, .int .i64 b1, .int .i64 d1] 155)).alloc (.cells #[.string k2, .int .i64 b2, .int .i64 d2] 155) = W2 at *
  generalize hp : W.heap.size = p at *
  clear hp
  go_region_held3 (fun w' => w'.cell? ⟨p, 2, none⟩ = some (.int .i64 d1) ∧ w'.cell? ⟨p + 1, 2, none⟩ = some (.int .i64 d2) ∧ w'.cell? ⟨p, 0, none⟩ = some (.string k1) ∧ w'.cell? ⟨p + 1, 0, none⟩ = some (.string k2)) (go_keep)
    (first
      | (go_at_call 113; refine (Tryz.cmp_Compare_int d1 d2 _).mono ?_; rintro e w1 ⟨rfl, rfl⟩)
      | (go_at_call 116; refine (Tryz.strings_Compare k1 k2 _).mono ?_; rintro e w1 ⟨rfl, rfl⟩)
      | (go_at_call 171; refine (orInt_any W2.heap.size 2 2 [Lib.compareInt d1 d2, Lib.compareBytes k1.data.toList k2.data.toList] 3 _ ?_ ?_ ?_).mono ?_; (rfl); (omega); (exact heap_alloc_new _ _); rintro e w1 ⟨rfl, rfl⟩))
  all_goals
    go_wp2_with fail
    go_ret
    exact ⟨by rw [HB.out]; rfl, 1, _, by rw [HW.out, alloc_eq_grow]; show grow (grow (W.drewN 1) _) _ = _; rw [grow_grow]⟩
end Go.Proofs.YtegalkmfoffpfaaGreatDoor
