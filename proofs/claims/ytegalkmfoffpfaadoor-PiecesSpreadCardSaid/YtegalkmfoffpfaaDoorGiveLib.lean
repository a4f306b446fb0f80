/- slices.Equal at gifts. -/
import Derived.Test.YtegalkmfoffpfaaDoorFillMem
namespace Go.Proofs.YtegalkmfoffpfaaDoor
open Go.RowKit
def EqGRel (n : Nat) (w : World) (g : Nat) (i : Value) (wr : World) : Prop := ∃ k : Nat, k + g = n ∧ i = .int .i64 k ∧ ∃ q, wr = w.drewN q
set_option maxRecDepth 100000 in
set_option maxHeartbeats 1000000 in
theorem equalG_same (ks : List ByteArray) (A A' : Option Addr) (c c' lo lo' : Nat) (ts : List GiveN) (w : World) (hn : ts.length ≤ 1000000000)
    (h1 : w.ownsRow lo 61 4 (.slice A ts.length c) ts.length (ts.flatMap (giC ks))) (h2 : w.ownsRow lo' 61 4 (.slice A' ts.length c') ts.length (ts.flatMap (giC ks))) :
    Calls Tryd.prog 26 #[.slice A ts.length c, .slice A' ts.length c'] w fun e w' => e = .returned (.bool true) ∧ ∃ q, w' = w.drewN q := by
  have H1 := Lib.hid h1
  have H2 := Lib.hid h2
  clear h1 h2
  go_enter Tryd.func26, Tryd.ntmps26
  go_wp2_with fail
  go_loopg [13, 5] ts.length (fun g i _ wr => EqGRel ts.length w g i wr)
  case atStart => exact ⟨0, by omega, rfl, 0, rfl⟩
  case round =>
    obtain ⟨k, hk, rfl, q, rfl⟩ := hrel
    by_cases hg : gk = 0
    · obtain rfl : k = ts.length := by omega
      clear hk hg
      go_wp2_with fail
      go_ret
      exact ⟨rfl, _, rfl⟩
    · have hlt : k < ts.length := by omega
      have x0 := flatK_at (enc := giC ks) (k := 4) (fun _ => rfl) ts k 0 hlt (by omega)
      have x1 := flatK_at (enc := giC ks) (k := 4) (fun _ => rfl) ts k 1 hlt (by omega)
      have x2 := flatK_at (enc := giC ks) (k := 4) (fun _ => rfl) ts k 2 hlt (by omega)
      have x3 := flatK_at (enc := giC ks) (k := 4) (fun _ => rfl) ts k 3 hlt (by omega)
      generalize ts[k] = x at *
      obtain ⟨z0, z1, z2, z3⟩ := x
      simp only [giC] at x0 x1 x2 x3
      generalize ksAt ks z2 = s2 at *
      generalize ksAt ks z1 = s1 at *
      obtain ⟨g, rfl, c0⟩ := own_atK H1.out x0
      obtain ⟨g', e1, c1⟩ := own_atK H1.out x1
      simp only [Option.some.injEq, Addr.mk.injEq] at e1
      obtain ⟨rfl, _, _⟩ := e1
      obtain ⟨g', e1, c2⟩ := own_atK H1.out x2
      simp only [Option.some.injEq, Addr.mk.injEq] at e1
      obtain ⟨rfl, _, _⟩ := e1
      obtain ⟨g', e1, c3⟩ := own_atK H1.out x3
      simp only [Option.some.injEq, Addr.mk.injEq] at e1
      obtain ⟨rfl, _, _⟩ := e1
      obtain ⟨h, rfl, d0⟩ := own_atK H2.out x0
      obtain ⟨g', e1, d1⟩ := own_atK H2.out x1
      simp only [Option.some.injEq, Addr.mk.injEq] at e1
      obtain ⟨rfl, _, _⟩ := e1
      obtain ⟨g', e1, d2⟩ := own_atK H2.out x2
      simp only [Option.some.injEq, Addr.mk.injEq] at e1
      obtain ⟨rfl, _, _⟩ := e1
      obtain ⟨g', e1, d3⟩ := own_atK H2.out x3
      simp only [Option.some.injEq, Addr.mk.injEq] at e1
      obtain ⟨rfl, _, _⟩ := e1
      rw [Nat.add_zero] at c0 d0
      have HK := Lib.hid hk
      have hgk : gk ≠ 0 := hg
      clear hk hg x0 x1 x2 x3
      have hlt' : (k : Int) < (ts.length : Int) := by omega
      go_wp2_with fail
      go_quiet (fail)
      go_wp2_with fail
      go_roundg (gk - 1)
      case measure => omega
      case rel => exact ⟨k + 1, by have := HK.out; omega, by go_num, _, rfl⟩
end Go.Proofs.YtegalkmfoffpfaaDoor
