/- slices.ContainsFunc and slices.Equal at what came. -/
import Derived.Test.YtegalkmfoffpfaaGreatDoorFuncsL
import Derived.Test.YtegalkmfoffpfaaGreatDoorPlans
namespace Go.Proofs.YtegalkmfoffpfaaGreatDoor
open Go.RowKit
set_option maxRecDepth 100000 in
set_option maxHeartbeats 1000000 in
theorem indexCame (A : Option Addr) (lo c : Nat) (ts : List CameD) (p : CameD → Bool) (g : Nat) (lb : Array Value) (eg : ∀ args w, (callFunc g args).run Tryz.prog w = .ok (.enter g args) w) (w : World)
    (hA : Lst w lo 3 (.slice A ts.length c) (ts.flatMap ndC)) (hp : PredL Tryz.prog g lb ndC ts p w) (hn : ts.length ≤ 1000000000) :
    Calls Tryz.prog 175 #[.slice A ts.length c, .func (.func g) #[] lb] w fun e w' => e = .returned (.int .i64 (idxL p ts)) ∧ Below w.heap.size w w' := by
  have HA := Lib.hid hA
  have HP := Lib.hid hp
  clear hA hp
  go_enter Tryz.func175, Tryz.ntmps175
  go_wp2_with fail
  go_loopg [8, 5] ts.length (fun g i _ wr => IdxLRel p ts w g i wr)
  case atStart => exact ⟨0, by omega, rfl, by simp, Below.refl _ _⟩
  case round =>
    obtain ⟨k, hk, rfl, hno, hb⟩ := hrel
    by_cases hg : gk = 0
    · obtain rfl : k = ts.length := by omega
      have HV := Lib.hid (idxL_miss (by rw [List.take_length] at hno; exact hno))
      clear hno hk hg
      go_wp2_with fail
      go_ret
      exact ⟨ret_int HV.out.symm, hb⟩
    · have hlt : k < ts.length := by omega
      obtain ⟨b, o, rfl, hbl, c0, c1, c2⟩ := (HA.out.below hb).need hlt rfl
      have hcall := HP.out wr ts[k] (List.getElem_mem hlt) hb
      have HV := Lib.hid (fun h : p ts[k] = true => idxL_hit hlt h hno)
      have HW := Lib.hid (fun h : p ts[k] = false => idxL_more hlt h hno)
      have HK := Lib.hid hk
      have hgk : gk ≠ 0 := hg
      clear hk hno hg
      generalize ts[k] = x at *
      obtain ⟨x0, x1, x2⟩ := x
      simp only [ndC] at hcall
      simp only at c0 c1 c2
      rcases Bool.eq_false_or_eq_true (p ⟨x0, x1, x2⟩) with hq | hq
      · have HX := Lib.hid (HV.out hq)
        rw [hq] at hcall
        clear hq HV HW
        go_wp2_with (go_at_fn g; refine hcall.mono ?_; rintro e w1 ⟨rfl, hb1⟩)
        go_ret
        exact ⟨ret_int HX.out.symm, bon hb hb1⟩
      · have HX := Lib.hid (HW.out hq)
        rw [hq] at hcall
        clear hq HV HW
        go_wp2_with (go_at_fn g; refine hcall.mono ?_; rintro e w1 ⟨rfl, hb1⟩)
        go_roundg (gk - 1)
        case measure => omega
        case rel => exact ⟨k + 1, by have := HK.out; omega, by go_num, HX.out, bon hb hb1⟩
set_option maxRecDepth 100000 in
set_option maxHeartbeats 1000000 in
theorem containsCame (A : Option Addr) (lo c : Nat) (ts : List CameD) (p : CameD → Bool) (g : Nat) (lb : Array Value) (eg : ∀ args w, (callFunc g args).run Tryz.prog w = .ok (.enter g args) w) (w : World)
    (hA : Lst w lo 3 (.slice A ts.length c) (ts.flatMap ndC)) (hp : PredL Tryz.prog g lb ndC ts p w) (hn : ts.length ≤ 1000000000) :
    Calls Tryz.prog 107 #[.slice A ts.length c, .func (.func g) #[] lb] w fun e w' => e = .returned (.bool (ts.any p)) ∧ Below w.heap.size w w' := by
  have HC := Lib.hid (indexCame A lo c ts p g lb eg w hA hp hn)
  have HI := Lib.hid (idxL_any p ts)
  clear hA hp
  go_enter Tryz.func107, Tryz.ntmps107
  go_wp2_with fail
  refine HC.out.mono ?_
  rintro e w1 ⟨rfl, hb1⟩
  go_wp2_with fail
  go_ret
  exact ⟨by rw [← HI.out]; rfl, hb1⟩
set_option maxRecDepth 100000 in
set_option maxHeartbeats 1000000 in
theorem equalCame_same (A A' : Option Addr) (c c' lo lo' : Nat) (ts : List CameD) (w : World) (hn : ts.length ≤ 1000000000000)
    (h1 : Lst w lo 3 (.slice A ts.length c) (ts.flatMap ndC)) (h2 : Lst w lo' 3 (.slice A' ts.length c') (ts.flatMap ndC)) :
    Calls Tryz.prog 41 #[.slice A ts.length c, .slice A' ts.length c'] w fun e w' => e = .returned (.bool true) ∧ ∃ q, w' = w.drewN q := by
  have H1 := Lib.hid h1
  have H2 := Lib.hid h2
  clear h1 h2
  go_enter Tryz.func41, Tryz.ntmps41
  go_wp2_with fail
  go_loopg [13, 5] ts.length (fun g i _ wr => EqLRel ts.length w g i wr)
  case atStart => exact ⟨0, by omega, rfl, 0, rfl⟩
  case round =>
    obtain ⟨k, hk, rfl, q, rfl⟩ := hrel
    by_cases hg : gk = 0
    · obtain rfl : k = ts.length := by omega
      clear hk hg
      go_wp2_with fail
      go_ret
      exact ⟨rfl, _, rfl⟩
    · have hlt : k < ts.length := by omega
      obtain ⟨g, o, rfl, _, c0, c1, c2⟩ := H1.out.need hlt rfl
      obtain ⟨g', o', rfl, _, d0, d1, d2⟩ := H2.out.need hlt rfl
      have HK := Lib.hid hk
      have hgk : gk ≠ 0 := hg
      clear hk hg
      generalize ts[k] = x at *
      obtain ⟨x0, x1, x2⟩ := x
      simp only at c0 c1 c2 d0 d1 d2
      have hlt' : (k : Int) < (ts.length : Int) := by omega
      go_wp2_with fail
      go_quiet (fail)
      go_wp2_with fail
      go_roundg (gk - 1)
      case measure => omega
      case rel => exact ⟨k + 1, by have := HK.out; omega, by go_num, _, rfl⟩
end Go.Proofs.YtegalkmfoffpfaaGreatDoor
