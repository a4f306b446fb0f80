/- slices.Equal at lists that are the same. -/
import Derived.Test.YtegalkmfoffpfaaGreatDoorShelf
import Derived.Test.YtegalkmfoffpfaaGreatDoorBase
import Derived.Test.YtegalkmfoffpfaaGreatDoorFlat
import Derived.Deep.LoopGhost
import Derived.Laws.StructEq
namespace Go.Proofs.YtegalkmfoffpfaaGreatDoor
open Go.RowKit

set_option maxRecDepth 100000 in
set_option maxHeartbeats 1000000 in
theorem equalChunk_same (A A' : Option Addr) (c c' lo lo' : Nat) (cs : List (ByteArray × Int)) (w : World) (hn : cs.length ≤ 1000000000000)
    (h1 : Lst w lo 2 (.slice A cs.length c) (cs.flatMap fun p => [.string p.1, .int .i64 p.2])) (h2 : Lst w lo' 2 (.slice A' cs.length c') (cs.flatMap fun p => [.string p.1, .int .i64 p.2])) :
    Calls Tryz.prog 50 #[.slice A cs.length c, .slice A' cs.length c'] w fun e w' => e = .returned (.bool true) ∧ ∃ q, w' = w.drewN q := by
  go_enter Tryz.func50, Tryz.ntmps50
  go_wp2_with fail
  go_loopg [13, 5] cs.length (fun g i _ wr => ∃ k : Nat, k + g = cs.length ∧ i = .int .i64 k ∧ ∃ q, wr = w.drewN q)
  case atStart => exact ⟨0, by omega, rfl, 0, rfl⟩
  case round =>
    obtain ⟨k, hk, rfl, q, rfl⟩ := hrel
    by_cases hg : gk = 0
    · obtain rfl : k = cs.length := by omega
      go_wp2_with fail
      go_ret
      exact ⟨rfl, _, rfl⟩
    · have hlt : k < cs.length := by omega
      obtain ⟨g, o, rfl, _, _, hc⟩ := h1.open_ (by omega)
      obtain ⟨g', o', rfl, _, _, hc'⟩ := h2.open_ (by omega)
      have a0 := hc (k * 2 + 0) (.string cs[k].1) (by rw [flat2_at _ _ (fun _ => rfl) k 0 hlt (by omega)]; rfl)
      have a1 := hc (k * 2 + 1) (.int .i64 cs[k].2) (by rw [flat2_at _ _ (fun _ => rfl) k 1 hlt (by omega)]; rfl)
      have b0 := hc' (k * 2 + 0) (.string cs[k].1) (by rw [flat2_at _ _ (fun _ => rfl) k 0 hlt (by omega)]; rfl)
      have b1 := hc' (k * 2 + 1) (.int .i64 cs[k].2) (by rw [flat2_at _ _ (fun _ => rfl) k 1 hlt (by omega)]; rfl)
      rw [Nat.add_zero] at a0 b0
      rw [← Nat.add_assoc] at a1 b1
      clear hc hc' h1 h2
      have HK := Lib.hid hk
      clear hk
      generalize cs[k].1 = s1 at *
      generalize cs[k].2 = n1 at *
      have hlt' : (k : Int) < (cs.length : Int) := by omega
      go_wp2_with fail
      go_quiet (fail)
      go_wp2_with fail
      go_roundg (gk - 1)
      case measure => omega
      case rel => exact ⟨k + 1, by have := HK.out; omega, by go_num, _, rfl⟩
end Go.Proofs.YtegalkmfoffpfaaGreatDoor
