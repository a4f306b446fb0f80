/- sync.isSum and the reference's SumRight. -/
import Derived.Test.YtegalkmfoffpfaaGreatDoorKeys
namespace Go.Proofs.YtegalkmfoffpfaaGreatDoor
open Go.RowKit

def hexSet : List UInt8 := [48, 49, 50, 51, 52, 53, 54, 55, 56, 57, 97, 98, 99, 100, 101, 102]
def sumB (s : ByteArray) : Bool := ((s.size : Int) == 16) && s.data.toList.all (hexSet.contains ·)
set_option maxRecDepth 100000 in
set_option maxHeartbeats 1000000 in
theorem isSum_any (s : ByteArray) (hsz : s.size ≤ 1000000000000) (w : World) :
    Calls Tryz.prog 92 #[.string s] w fun e w' => e = .returned (.bool (sumB s)) ∧ Below w.heap.size w w' := by
  rcases Bool.eq_false_or_eq_true ((s.size : Int) == 16) with o | o
  · have HV := Lib.hid (show sumB s = s.data.toList.all (hexSet.contains ·) by rw [sumB, o, Bool.true_and])
    have HT := Lib.hid (trimS_empty s.data.toList hexSet)
    go_enter Tryz.func92, Tryz.ntmps92
    go_wp2_with fail
    refine (Any.strings_Trim_laid Tryz.lays160 (by kernel_rfl) s ⟨hexSet.toArray⟩ w (by omega) (by decide) (ascii_of_all (by decide))).mono ?_
    rintro e w1 ⟨rfl, hb⟩
    have hq : (ByteArray.mk (Lib.trimS s.data.toList hexSet).toArray).toList.isEmpty = s.data.toList.all (hexSet.contains ·) := by rw [mk_toList]; exact HT.out
    show _
    generalize ByteArray.mk (Lib.trimS s.data.toList hexSet).toArray = tr at *
    rcases Bool.eq_false_or_eq_true (s.data.toList.all (hexSet.contains ·)) with c | c
    all_goals
      rw [c] at hq HV
      clear c HT
      go_wp2_with fail
      go_ret
      exact ⟨by rw [HV.out]; rfl, hb⟩
  · have HV := Lib.hid (show sumB s = false by rw [sumB, o, Bool.false_and])
    go_enter Tryz.func92, Tryz.ntmps92
    go_wp2_with fail
    go_ret
    exact ⟨by rw [HV.out]; rfl, Below.refl _ _⟩
set_option maxRecDepth 100000 in
set_option maxHeartbeats 1000000 in
theorem SumRight_any (s : ByteArray) (hsz : s.size ≤ 1000000000000) (w : World) :
    Calls Tryz.prog 95 #[.string s] w fun e w' => e = .returned (.bool (sumB s)) ∧ Below w.heap.size w w' := by
  rcases Bool.eq_false_or_eq_true ((s.size : Int) == 16) with o | o
  · have HV := Lib.hid (show sumB s = s.data.toList.all (hexSet.contains ·) by rw [sumB, o, Bool.true_and])
    have HT := Lib.hid (trimS_empty s.data.toList hexSet)
    go_enter Tryz.func95, Tryz.ntmps95
    go_wp2_with fail
    refine (Any.strings_Trim_laid Tryz.lays160 (by kernel_rfl) s ⟨hexSet.toArray⟩ w (by omega) (by decide) (ascii_of_all (by decide))).mono ?_
    rintro e w1 ⟨rfl, hb⟩
    have hq : (ByteArray.mk (Lib.trimS s.data.toList hexSet).toArray).toList.isEmpty = s.data.toList.all (hexSet.contains ·) := by rw [mk_toList]; exact HT.out
    show _
    generalize ByteArray.mk (Lib.trimS s.data.toList hexSet).toArray = tr at *
    rcases Bool.eq_false_or_eq_true (s.data.toList.all (hexSet.contains ·)) with c | c
    all_goals
      rw [c] at hq HV
      clear c HT
      go_wp2_with fail
      go_ret
      exact ⟨by rw [HV.out]; rfl, hb⟩
  · have HV := Lib.hid (show sumB s = false by rw [sumB, o, Bool.false_and])
    go_enter Tryz.func95, Tryz.ntmps95
    go_wp2_with fail
    go_ret
    exact ⟨by rw [HV.out]; rfl, Below.refl _ _⟩
end Go.Proofs.YtegalkmfoffpfaaGreatDoor
