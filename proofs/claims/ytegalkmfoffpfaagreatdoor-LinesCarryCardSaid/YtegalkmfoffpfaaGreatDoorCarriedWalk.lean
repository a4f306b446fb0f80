/- sync.Carried. -/
import Derived.Test.YtegalkmfoffpfaaGreatDoorLineFaults
namespace Go.Proofs.YtegalkmfoffpfaaGreatDoor
open Go.RowKit
def carF (ls : List LinkD) (a t : Int) : Int := if linksF ls = 0 then winF a t else linksF ls
set_option maxRecDepth 100000 in
set_option maxHeartbeats 4000000 in
theorem carried_any (A : Option Addr) (lo c : Nat) (ls : List LinkD) (a t : Int) (w : World) (hf : Lst w lo 3 (.slice A ls.length c) (ls.flatMap lkC)) (hn : ls.length ≤ 20) (hbd : LkBd ls) :
    Calls Tryz.prog 31 #[.slice A ls.length c, .agg #[.int .i64 a, .int .i64 t]] w fun e w' => e = .returned (.tuple #[.int .i64 (if carF ls a t == 0 then car ls a t else 0), .int .i64 (carF ls a t)]) ∧ Below w.heap.size w w' := by
  have HF := Lib.hid hf
  have HBD := Lib.hid hbd
  clear hf hbd
  obtain ⟨z1, hz1⟩ : ∃ z, z = if carF ls a t == 0 then car ls a t else 0 := ⟨_, rfl⟩
  rw [← hz1]
  have HZ1 := Lib.hid hz1
  clear hz1
  go_enter Tryz.func31, Tryz.ntmps31
  go_wp2_with fail
  have hb0 := bfirst w (.cells #[.int .i64 a, .int .i64 t] 68)
  have X0 := Lib.hid (heap_alloc_new w (.cells #[.int .i64 a, .int .i64 t] 68))
  obtain ⟨w0, hw0⟩ : ∃ w0, w0 = w.alloc (.cells #[.int .i64 a, .int .i64 t] 68) := ⟨_, rfl⟩
  rw [← hw0] at X0 hb0 ⊢
  clear hw0
  refine (checkLinks_any A lo c ls _ (HF.out.below hb0) (by omega) HBD.out).mono ?_
  rintro e w1 ⟨rfl, b1⟩
  have hbw1 := bon hb0 b1
  by_cases hl : linksF ls = 0
  · have HL := Lib.hid hl
    rw [hl]
    clear hl
    have hM := (b1.block w.heap.size (block_lt X0.out)).trans X0.out
    have m0 := (stream_cells hM).1
    have m1 := (stream_cells hM).2.1
    have ml := block_lt hM
    have X1 := Lib.hid hM
    clear hM
    go_upto_region 4 with fail
    go_cut [24] (fun s wx => s = .bool (winB a t) ∧ w1 = wx)
    case first =>
      go_wp2_with fail
      refine (outside_any a 0 t _).mono ?_
      rintro e w' ⟨rfl, rfl⟩
      rcases Bool.eq_false_or_eq_true (outsideB a 0 t) with ho | ho
      · have HW := Lib.hid (show winB a t = true by rw [winB, ho]; rfl)
        rw [ho]
        clear ho
        go_wp2_with fail
        go_meet
        exact ⟨by rw [HW.out], rfl⟩
      · have HW := Lib.hid (show winB a t = decide (345686400000 < t) by rw [winB, ho]; rfl)
        rw [ho]
        clear ho
        go_wp2_with fail
        go_meet
        exact ⟨by rw [HW.out], rfl⟩
    case rest =>
      obtain ⟨rfl, rfl⟩ := hcut
      rcases Bool.eq_false_or_eq_true (winB a t) with hw | hw
      · have HD := Lib.hid (show carF ls a t = 1 by rw [carF, if_pos HL.out, winF, hw]; rfl)
        rw [hw]
        clear hw
        go_wp2_with fail
        go_ret2
        exact ⟨by rw [HZ1.out, HD.out]; rfl, hbw1⟩
      · have HD := Lib.hid (show carF ls a t = 0 by rw [carF, if_pos HL.out, winF, hw]; rfl)
        have hin : 0 ≤ a ∧ a ≤ t ∧ t ≤ 345686400000 := by simp [winB, outsideB] at hw; omega
        obtain ⟨ha, ha1, ht1⟩ := hin
        have HOK := Lib.hid (links_ok HL.out)
        rw [hw]
        clear hw m0 m1 ml
        go_wp2_with fail
        go_loopg [27, 7, 9] ls.length (fun g i s _ wr => CaRel ls a t w1 g i s wr)
        case atStart => exact ⟨0, by omega, rfl, rfl, Below.refl _ _⟩
        case round =>
          obtain ⟨k, hk, rfl, rfl, hb⟩ := hrel
          have hbw := bon hbw1 hb
          by_cases hg : gk = 0
          · obtain rfl : k = ls.length := by omega
            rw [List.take_length]
            clear hk hg
            go_wp2_with fail
            go_ret2
            exact ⟨by rw [HZ1.out, HD.out]; rfl, hbw⟩
          · have hlt : k < ls.length := by omega
            obtain ⟨g, o, rfl, hgl, c0, c1, c2⟩ := (HF.out.below hbw).link hlt rfl
            have hM := (hb.block w.heap.size (block_lt X1.out)).trans X1.out
            have m0 := (stream_cells hM).1
            have m1 := (stream_cells hM).2.1
            have ml := block_lt hM
            have hbd := car_bd HOK.out a t ha k (by omega)
            have hx := HOK.out.each _ (List.getElem_mem hlt)
            have hln := linC_nonneg hx a t
            have hlb := linC_bd hx a t ha
            have HS := Lib.hid (car_snoc ls a t hlt)
            have HK := Lib.hid hk
            have hgk : gk ≠ 0 := hg
            clear hk hg hM
            generalize ls[k] = x at *
            obtain ⟨xf, xt, xs⟩ := x
            obtain ⟨x0, x1, x2, x3, x4⟩ : 0 ≤ xf ∧ xf < xt ∧ xt ≤ 345686400000 ∧ 1 ≤ xs ∧ xs ≤ 1000000 := hx
            have HLC : Hid (linC (xf, xt, xs) a t = max 0 (min xt t - max xf a) * xs) := Int.mul_comm _ _
            have hp0 : 0 ≤ max 0 (min xt t - max xf a) * xs := by rw [← HLC.out]; exact hln
            have hp1 : max 0 (min xt t - max xf a) * xs ≤ 345686400000000000 := by rw [← HLC.out]; exact hlb
            have hw1 : IntKind.i64.wrap (max 0 (min xt t - max xf a) * xs) = max 0 (min xt t - max xf a) * xs := by
              rw [IntKind.wrap_i64]; omega
            clear hln hlb
            obtain ⟨p0, p1⟩ := hbd
            have hb3 := bbox hb (.cells #[.int .i64 xf, .int .i64 xt, .int .i64 xs] 152)
            generalize car (ls.take k) a t = s0 at *
            have hk20 : s0 ≤ 20 * 345686400000000000 := by omega
            clear p1
            go_wp2_with fail
            go_roundg (gk - 1)
            case measure => omega
            case rel => exact ⟨k + 1, by have := HK.out; omega, by go_num, by rw [HS.out, HLC.out], hb3⟩
  · have HD := Lib.hid (show carF ls a t = linksF ls by rw [carF, if_neg hl])
    have HL := Lib.hid (show (linksF ls == 0) = false from beq_eq_false_iff_ne.2 hl)
    have hl' : (linksF ls != 0) = true := bne_iff_ne.2 hl
    clear hl
    go_wp2_with fail
    go_ret2
    exact ⟨by rw [HZ1.out, HD.out, HL.out]; rfl, hbw1⟩
end Go.Proofs.YtegalkmfoffpfaaGreatDoor
