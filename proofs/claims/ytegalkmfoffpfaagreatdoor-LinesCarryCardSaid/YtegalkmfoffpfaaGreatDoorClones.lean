/- slices.Clone at needs and links. -/
import Derived.Test.YtegalkmfoffpfaaGreatDoorSorts
namespace Go.Proofs.YtegalkmfoffpfaaGreatDoor
open Go.RowKit
theorem infoNeed : (Tryz.prog.info? 155).map (fun i => (i.zero, i.size, i.bytes)) = some (some (.agg #[.string ⟨#[]⟩, .int .i64 0, .int .i64 0]), 3, 32) := by kernel_rfl
set_option maxRecDepth 100000 in
set_option maxHeartbeats 1000000 in
theorem cloneNeed_any (v : Value) (lo : Nat) (ts : List NeedD) (w : World) (hn : ts.length ≤ 1000000) (h : w.ownsRow lo 155 3 v ts.length (ts.flatMap ndC)) :
    Calls Tryz.prog 110 #[v] w fun e w' => ∃ v', e = .returned v' ∧ w'.ownsRow w.heap.size 155 3 v' ts.length (ts.flatMap ndC) ∧ Below w.heap.size w w' := by
  obtain ⟨i0, hi, hz0, hz1, hz2⟩ := info_parts infoNeed
  have hnil := fun (w : World) (a : Option Addr) (n c : Nat) => Lib.run_eql_slice_nil (P := Tryz.prog) w 64 155 a n c 0 0 Tryz.underlying64
  rcases own_nil_or h with ⟨rfl, hn0, hxs⟩ | ⟨g, c, rfl⟩
  · have HX := Lib.hid hxs
    have HN := Lib.hid hn0
    clear h hxs hn0
    go_enter Tryz.func110, Tryz.ntmps110
    go_wp2_with fail
    go_ret
    exact ⟨_, rfl, by rw [HX.out, HN.out]; exact World.ownsRow_nil _ _ _ _, Below.refl _ _⟩
  · have hc1 := own_cells (h.alloc (.cells #[] 155))
    have h1 : ∀ u ∈ ts.flatMap ndC, u.oneCell' = true := by
      intro u hu
      obtain ⟨t, _, ht⟩ := List.mem_flatMap.1 hu
      exact List.all_eq_true.1 (show (ndC t).all (·.oneCell') = true from rfl) u ht
    have hl : (ts.flatMap ndC).length = ts.length * 3 := flatK_len (enc := ndC) (k := 3) (fun _ => rfl) ts
    have HH := Lib.hid (show (w.alloc (.cells #[] 155)).ownsRow w.heap.size 155 3 (.slice (some ⟨w.heap.size, 0, none⟩) 0 0) 0 [] from ownsRow_empty (Nat.le_refl _))
    have HC := Lib.hid hc1
    have H1 := Lib.hid h1
    have HL := Lib.hid hl
    clear h hc1 h1 hl
    go_enter Tryz.func110, Tryz.ntmps110
    go_wp2_with (at_builtin; refine wpList_append_own _ rfl _ _ 64 rfl w.heap.size 155 i0 _ 3 32 Tryz.underlying64 hi hz0 hz1 hz2 rfl (by decide) _ _ _ rfl HH.out ⟨g, 0, none⟩ ts.length c (ts.flatMap ndC) rfl HL.out HC.out H1.out (by unfold maxLen; omega) (Nat.le_trans (Nat.mul_le_mul_right 32 (show 0 + ts.length ≤ 1000000 by omega)) (by decide)) (by simp) ?_)
    intro v' w1 hown hgrow _
    have hb1 : Below w.heap.size w w1 := (bfirst w _).grown hgrow (by simp) (fun x hx => by cases hx; exact Nat.le_refl _)
    have HO := Lib.hid (show w1.ownsRow w.heap.size 155 3 v' ts.length (ts.flatMap ndC) by simpa using hown)
    clear hown hgrow
    go_wp2_with fail
    go_ret
    exact ⟨_, rfl, HO.out, hb1⟩
theorem infoLink : (Tryz.prog.info? 152).map (fun i => (i.zero, i.size, i.bytes)) = some (some (.agg #[.int .i64 0, .int .i64 0, .int .i64 0]), 3, 24) := by kernel_rfl
set_option maxRecDepth 100000 in
set_option maxHeartbeats 1000000 in
theorem cloneLink_any (v : Value) (lo : Nat) (ts : List LinkD) (w : World) (hn : ts.length ≤ 1000000) (h : w.ownsRow lo 152 3 v ts.length (ts.flatMap lkC)) :
    Calls Tryz.prog 173 #[v] w fun e w' => ∃ v', e = .returned v' ∧ w'.ownsRow w.heap.size 152 3 v' ts.length (ts.flatMap lkC) ∧ Below w.heap.size w w' := by
  obtain ⟨i0, hi, hz0, hz1, hz2⟩ := info_parts infoLink
  have hnil := fun (w : World) (a : Option Addr) (n c : Nat) => Lib.run_eql_slice_nil (P := Tryz.prog) w 62 152 a n c 0 0 Tryz.underlying62
  rcases own_nil_or h with ⟨rfl, hn0, hxs⟩ | ⟨g, c, rfl⟩
  · have HX := Lib.hid hxs
    have HN := Lib.hid hn0
    clear h hxs hn0
    go_enter Tryz.func173, Tryz.ntmps173
    go_wp2_with fail
    go_ret
    exact ⟨_, rfl, by rw [HX.out, HN.out]; exact World.ownsRow_nil _ _ _ _, Below.refl _ _⟩
  · have hc1 := own_cells (h.alloc (.cells #[] 152))
    have h1 : ∀ u ∈ ts.flatMap lkC, u.oneCell' = true := by
      intro u hu
      obtain ⟨t, _, ht⟩ := List.mem_flatMap.1 hu
      exact List.all_eq_true.1 (show (lkC t).all (·.oneCell') = true from rfl) u ht
    have hl : (ts.flatMap lkC).length = ts.length * 3 := flatK_len (enc := lkC) (k := 3) (fun _ => rfl) ts
    have HH := Lib.hid (show (w.alloc (.cells #[] 152)).ownsRow w.heap.size 152 3 (.slice (some ⟨w.heap.size, 0, none⟩) 0 0) 0 [] from ownsRow_empty (Nat.le_refl _))
    have HC := Lib.hid hc1
    have H1 := Lib.hid h1
    have HL := Lib.hid hl
    clear h hc1 h1 hl
    go_enter Tryz.func173, Tryz.ntmps173
    go_wp2_with (at_builtin; refine wpList_append_own _ rfl _ _ 62 rfl w.heap.size 152 i0 _ 3 24 Tryz.underlying62 hi hz0 hz1 hz2 rfl (by decide) _ _ _ rfl HH.out ⟨g, 0, none⟩ ts.length c (ts.flatMap lkC) rfl HL.out HC.out H1.out (by unfold maxLen; omega) (Nat.le_trans (Nat.mul_le_mul_right 24 (show 0 + ts.length ≤ 1000000 by omega)) (by decide)) (by simp) ?_)
    intro v' w1 hown hgrow _
    have hb1 : Below w.heap.size w w1 := (bfirst w _).grown hgrow (by simp) (fun x hx => by cases hx; exact Nat.le_refl _)
    have HO := Lib.hid (show w1.ownsRow w.heap.size 152 3 v' ts.length (ts.flatMap lkC) by simpa using hown)
    clear hown hgrow
    go_wp2_with fail
    go_ret
    exact ⟨_, rfl, HO.out, hb1⟩
end Go.Proofs.YtegalkmfoffpfaaGreatDoor
