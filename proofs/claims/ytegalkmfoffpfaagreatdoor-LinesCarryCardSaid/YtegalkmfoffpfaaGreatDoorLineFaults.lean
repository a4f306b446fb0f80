/- The faults of windows and moments; Carried, Done. -/
import Derived.Test.YtegalkmfoffpfaaGreatDoorDoneWalk
namespace Go.Proofs.YtegalkmfoffpfaaGreatDoor
open Go.RowKit

def winB (a t : Int) : Bool := outsideB a 0 t || decide (345686400000 < t)
def winF (a t : Int) : Int := if winB a t then 1 else 0
def momB (a : Int) : Bool := decide (0 ≤ a) && decide (a < 345686400000)
def momF (a : Int) : Int := if momB a then 0 else 1
theorem momB_in (a : Int) : (!outsideB a 0 345686399999) = momB a := by
  rw [Bool.eq_iff_iff]
  simp [momB, outsideB]
  omega
set_option maxRecDepth 100000 in
theorem isMoment_any (a : Int) (w : World) : Calls Tryz.prog 101 #[.int .i64 a] w fun e w' => e = .returned (.bool (momB a)) ∧ w = w' := by
  by_cases h1 : 0 ≤ a
  · by_cases h2 : a < 345686400000
    · have HV := Lib.hid (show momB a = true by simp [momB, h1, h2])
      go_enter Tryz.func101, Tryz.ntmps101
      go_wp2_with fail
      go_ret
      exact ⟨by rw [HV.out]; rfl, rfl⟩
    · have HV := Lib.hid (show momB a = false by simp [momB, h2])
      go_enter Tryz.func101, Tryz.ntmps101
      go_wp2_with fail
      go_ret
      exact ⟨by rw [HV.out]; rfl, rfl⟩
  · have HV := Lib.hid (show momB a = false by simp [momB, h1])
    go_enter Tryz.func101, Tryz.ntmps101
    go_wp2_with fail
    go_ret
    exact ⟨by rw [HV.out]; rfl, rfl⟩
set_option maxRecDepth 100000 in
theorem momentFault_any (a : Int) (w : World) : Calls Tryz.prog 35 #[.int .i64 a] w fun e w' => e = .returned (.int .i64 (momF a)) ∧ w = w' := by
  have HM := Lib.hid (momB_in a)
  go_enter Tryz.func35, Tryz.ntmps35
  go_wp2_with fail
  refine (in_any a 0 345686399999 _).mono ?_
  rintro e w' ⟨rfl, rfl⟩
  rw [HM.out]
  rcases Bool.eq_false_or_eq_true (momB a) with h | h
  all_goals
    have HV := Lib.hid (show momF a = _ by rw [momF, h])
    rw [h]
    clear h
    go_wp2_with fail
    go_ret
    exact ⟨ret_int HV.out.symm, rfl⟩
set_option maxRecDepth 100000 in
set_option maxHeartbeats 1000000 in
theorem windowFault_any (a t : Int) (w : World) : Calls Tryz.prog 32 #[.agg #[.int .i64 a, .int .i64 t]] w fun e w' => e = .returned (.int .i64 (winF a t)) ∧ Below w.heap.size w w' := by
  go_enter Tryz.func32, Tryz.ntmps32
  go_wp2_with fail
  refine (in_any a 0 t _).mono ?_
  rintro e w' ⟨rfl, rfl⟩
  rcases Bool.eq_false_or_eq_true (outsideB a 0 t) with h | h
  · have HV := Lib.hid (show winF a t = 1 by rw [winF, winB, h]; rfl)
    rw [h]
    clear h
    go_wp2_with fail
    go_ret
    exact ⟨ret_int HV.out.symm, bfirst _ _⟩
  · by_cases h2 : 345686400000 < t
    · have HV := Lib.hid (show winF a t = 1 by rw [winF, winB, h]; simp [h2])
      rw [h]
      clear h
      go_wp2_with fail
      go_ret
      exact ⟨ret_int HV.out.symm, bfirst _ _⟩
    · have HV := Lib.hid (show winF a t = 0 by rw [winF, winB, h]; simp [h2])
      rw [h]
      clear h
      go_wp2_with fail
      go_ret
      exact ⟨ret_int HV.out.symm, bfirst _ _⟩
/-! ### Done -/
def doneF (ls : List LinkD) (a b : Int) : Int := if linksF ls = 0 then (if momB a && !outsideB b 0 1000000000000 then 0 else 1) else linksF ls
set_option maxRecDepth 100000 in
set_option maxHeartbeats 2000000 in
theorem Done_any (A : Option Addr) (lo c : Nat) (ls : List LinkD) (a b : Int) (w : World) (hf : Lst w lo 3 (.slice A ls.length c) (ls.flatMap lkC)) (hn : ls.length ≤ 20) (hbd : LkBd ls) :
    Calls Tryz.prog 34 #[.slice A ls.length c, .int .i64 a, .int .i64 b] w fun e w' => e = .returned (.tuple #[.int .i64 (if doneF ls a b == 0 then optZ (tellD ls a b) else 0), .bool (doneF ls a b == 0 && (tellD ls a b).isSome), .int .i64 (doneF ls a b)]) ∧ Below w.heap.size w w' := by
  have HF := Lib.hid hf
  have HBD := Lib.hid hbd
  clear hf hbd
  obtain ⟨z1, hz1⟩ : ∃ z, z = if doneF ls a b == 0 then optZ (tellD ls a b) else 0 := ⟨_, rfl⟩
  obtain ⟨z2, hz2⟩ : ∃ z, z = (doneF ls a b == 0 && (tellD ls a b).isSome) := ⟨_, rfl⟩
  rw [← hz1, ← hz2]
  have HZ1 := Lib.hid hz1
  have HZ2 := Lib.hid hz2
  clear hz1 hz2
  go_enter Tryz.func34, Tryz.ntmps34
  go_wp2_with fail
  refine (checkLinks_any A lo c ls _ HF.out (by omega) HBD.out).mono ?_
  rintro e w1 ⟨rfl, b1⟩
  by_cases hl : linksF ls = 0
  · have HL := Lib.hid hl
    rw [hl]
    clear hl
    go_wp2_with fail
    refine (isMoment_any a _).mono ?_
    rintro e w' ⟨rfl, rfl⟩
    rcases Bool.eq_false_or_eq_true (momB a) with hm | hm
    · have hm2 : 0 ≤ a ∧ a < 345686400000 := by simpa [momB] using hm
      have HM := Lib.hid hm
      rw [hm]
      clear hm
      go_wp2_with fail
      refine (outside_any b 0 1000000000000 _).mono ?_
      rintro e w' ⟨rfl, rfl⟩
      rcases Bool.eq_false_or_eq_true (outsideB b 0 1000000000000) with ho | ho
      · have HD := Lib.hid (show doneF ls a b = 1 by rw [doneF, if_pos HL.out, HM.out, ho]; rfl)
        rw [ho]
        clear ho
        go_wp2_with fail
        go_ret3
        exact ⟨by rw [HZ1.out, HZ2.out, HD.out]; rfl, b1⟩
      · have HD := Lib.hid (show doneF ls a b = 0 by rw [doneF, if_pos HL.out, HM.out, ho]; rfl)
        have hb2 : 0 ≤ b ∧ b ≤ 1000000000000 := by simp [outsideB] at ho; omega
        rw [ho]
        clear ho
        go_wp2_with fail
        refine (done_any A lo c ls a b _ (HF.out.below b1) (by omega) (links_ok HL.out) (by omega) (by omega) (by omega) (by omega)).mono ?_
        rintro e w2 ⟨rfl, b2⟩
        go_wp2_with fail
        go_ret3
        exact ⟨by rw [HZ1.out, HZ2.out, HD.out]; rfl, bon b1 b2⟩
    · have HD := Lib.hid (show doneF ls a b = 1 by rw [doneF, if_pos HL.out, hm]; rfl)
      rw [hm]
      clear hm
      go_wp2_with fail
      go_ret3
      exact ⟨by rw [HZ1.out, HZ2.out, HD.out]; rfl, b1⟩
  · have HD := Lib.hid (show doneF ls a b = linksF ls by rw [doneF, if_neg hl])
    have HL := Lib.hid (show (linksF ls == 0) = false from beq_eq_false_iff_ne.2 hl)
    have hl' : (linksF ls != 0) = true := bne_iff_ne.2 hl
    clear hl
    go_wp2_with fail
    go_ret3
    exact ⟨by rw [HZ1.out, HZ2.out, HD.out, HL.out]; rfl, b1⟩
end Go.Proofs.YtegalkmfoffpfaaGreatDoor
