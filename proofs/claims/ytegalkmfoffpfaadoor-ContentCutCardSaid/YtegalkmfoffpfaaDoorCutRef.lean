/- The reference's CutFault and CutOf; sync.Cut where it is refused. -/
import Derived.Test.YtegalkmfoffpfaaDoorCut
namespace Go.Proofs.YtegalkmfoffpfaaDoor
open Go.RowKit

theorem cutSt_gap (s : ByteArray) (low : Int) (bits : Nat) (high : Int) (h : 1 ≤ high) : ∀ k : Nat, (k : Int) - ((cutSt s low bits high k).1 : Int) < high
  | 0 => by simp [cutSt]; omega
  | k + 1 => by
    have ih := cutSt_gap s low bits high h k
    rw [cutSt]
    split
    · simp; omega
    · rename_i hc
      have : ¬ high ≤ (k : Int) + 1 - ((cutSt s low bits high k).1 : Int) := by
        intro hh
        exact hc (by simp [cutC, hh])
      simp only [Int.natCast_add]; omega

def CutOfRel (s : ByteArray) (low : Int) (bits : Nat) (high : Int) (w : World) (g : Nat) (out fr i : Value) (wr : World) : Prop :=
  ∃ k : Nat, k + g = s.size ∧ i = .int .i64 k ∧ fr = .int .i64 ((cutSt s low bits high k).1 : Int) ∧
    wr.ownsRow w.heap.size 9 1 out (cutSt s low bits high k).2.length ((cutSt s low bits high k).2.map Value.string) ∧ Below w.heap.size w wr

set_option maxRecDepth 100000 in
set_option maxHeartbeats 2000000 in
theorem cutOf_any (s : ByteArray) (low : Int) (bits : Nat) (high : Int) (hsz : s.size ≤ 100000) (h1 : 1 ≤ low) (h2 : low ≤ high) (h3 : high ≤ 100000) (h4 : bits ≤ 16) (w : World) :
    Calls Tryd.prog 15 #[.string s, .int .i64 low, .int .i64 bits, .int .i64 high] w fun e w' => ∃ v, e = .returned v ∧
      w'.ownsRow w.heap.size 9 1 v (cutSt s low bits high s.size).2.length ((cutSt s low bits high s.size).2.map Value.string) ∧ Below w.heap.size w w' := by
  obtain ⟨i0, hi, hz0, hz1, hz2⟩ := info_parts infoString
  obtain ⟨pw, hp, hp1, hp2⟩ := pow_u32 bits h4
  have Hp2 := Lib.hid hp2
  clear hp2
  go_enter Tryd.func15, Tryd.ntmps15
  go_wp2_with fail
  go_loopg [9, 10, 17, 11, 12, 13, 14] s.size (fun g out fr i _ _ _ _ wr => CutOfRel s low bits high w g out fr i wr)
  case atStart => exact ⟨0, by omega, rfl, rfl, World.ownsRow_nil _ _ _ _, Below.refl _ _⟩
  case round =>
    obtain ⟨k, hk, rfl, rfl, hown, hb⟩ := hrel
    have hle := cutSt_le s low bits high k
    have hgap := cutSt_gap s low bits high (by omega) k
    have hst := show cutSt s low bits high k = ((cutSt s low bits high k).1, (cutSt s low bits high k).2) from rfl
    generalize hfr : (cutSt s low bits high k).1 = fr at *
    generalize hol : (cutSt s low bits high k).2 = ol at *
    obtain ⟨hle1, hle2⟩ := hle
    have Hst := Lib.hid hst
    clear hst hfr hol
    by_cases hg : gk = 0
    · obtain rfl : k = s.size := by omega
      go_wp2_with fail
      go_ret
      exact ⟨_, rfl, by rw [Hst.out]; exact hown, hb⟩
    · have hlt : k < s.size := by omega
      have HC := Lib.hid (show cutSt s low bits high (k + 1) = if cutC s low bits high k fr then (k + 1, ol ++ [s.extract fr (k + 1)]) else (fr, ol) by
          rw [cutSt, Hst.out])
      go_wp2_with fail
      go_loop [12, 13] (fun r j => ∃ m : Nat, m ≤ k + 1 ∧ k + 1 - 16 ≤ m ∧ j = .int .i64 m ∧ r = .int .u32 (rollL ((s.data.toList.take m).drop (k + 1 - 16)))) (fun _ j => k + 1 - (intOf j).toNat)
      case atStart =>
        refine ⟨k + 1 - 16, by omega, by omega, ?_, ?_⟩
        · congr 1; omega
        · rw [List.drop_of_length_le (by simp; omega)]; rfl
      case round =>
        obtain ⟨m, hm, hm2, rfl, rfl⟩ := hrel
        by_cases hlt2 : m ≤ k
        · have HS := Lib.hid (rollL_snoc ((s.data.toList.take m).drop (k + 1 - 16)) (s[m]'(by omega)))
          have HT := Lib.hid (take_drop_snoc s (k + 1 - 16) m hm2 (by omega))
          go_wp2_with fail
          refine ⟨⟨m + 1, by omega, by omega, by go_num, ?_⟩, by simp [intOf]; omega⟩
          rw [HT.out, HS.out]; rfl
        · obtain rfl : m = k + 1 := by omega
          have hrr := rollL_range ((s.data.toList.take (k + 1)).drop (k + 1 - 16))
          have HR := Lib.hid (show rollAt s k = rollL ((s.data.toList.take (k + 1)).drop (k + 1 - 16)) from rfl)
          generalize rollL ((s.data.toList.take (k + 1)).drop (k + 1 - 16)) = ra at *
          obtain ⟨hr0, hr1⟩ := hrr
          go_upto_region 12 with fail
          go_cut [61] (fun s61 wx => s61 = .bool (cutC s low bits high k fr) ∧ wr = wx)
          case first =>
            have HC1 := Lib.hid (show cutC s low bits high k fr = ((decide (low ≤ (k : Int) + 1 - fr) && (ra % pw == 0)) || ((k : Int) + 1 - fr == high) || ((k : Int) + 1 == (s.size : Int))) by
              rw [Hp2.out, ← HR.out]
              have e4 : decide (k + 1 = s.size) = ((k : Int) + 1 == (s.size : Int)) := by rw [Bool.eq_iff_iff]; simp; omega
              have e3 : decide (high ≤ (k : Int) + 1 - fr) = ((k : Int) + 1 - fr == high) := by rw [Bool.eq_iff_iff]; simp; omega
              rw [← e4, ← e3]; rfl)
            by_cases c1 : low ≤ (k : Int) + 1 - fr
            · rcases Bool.eq_false_or_eq_true (ra % pw == 0) with c2 | c2
              · go_wp2_with fail
                go_meet
                exact ⟨by rw [HC1.out]; simp [c1, c2], rfl⟩
              · rcases Bool.eq_false_or_eq_true ((k : Int) + 1 - fr == high) with c3 | c3
                · go_wp2_with fail
                  go_meet
                  exact ⟨by rw [HC1.out]; simp [c1, c2, c3], rfl⟩
                · rcases Bool.eq_false_or_eq_true ((k : Int) + 1 == (s.size : Int)) with c4 | c4
                  · go_wp2_with fail
                    go_meet
                    exact ⟨by rw [HC1.out]; simp [c1, c2, c3, c4], rfl⟩
                  · go_wp2_with fail
                    go_meet
                    exact ⟨by rw [HC1.out]; simp [c1, c2, c3, c4], rfl⟩
            · have c1' : decide (low ≤ (k : Int) + 1 - fr) = false := by simpa using c1
              have c3 : ((k : Int) + 1 - fr == high) = false := by rw [beq_eq_false_iff_ne]; omega
              rcases Bool.eq_false_or_eq_true ((k : Int) + 1 == (s.size : Int)) with c4 | c4
              · go_wp2_with fail
                go_meet
                exact ⟨by rw [HC1.out]; simp [c1', c3, c4], rfl⟩
              · go_wp2_with fail
                go_meet
                exact ⟨by rw [HC1.out]; simp [c1', c3, c4], rfl⟩
          case rest =>
            obtain ⟨rfl, rfl⟩ := hcut
            rcases Bool.eq_false_or_eq_true (cutC s low bits high k fr) with c | c
            · rw [c]
              have HC2 := Lib.hid (show cutSt s low bits high (k + 1) = (k + 1, ol ++ [s.extract fr (k + 1)]) by rw [HC.out, if_pos c])
              clear c HC
              go_wp2_with (at_builtin; refine wpList_append_own _ rfl _ _ 32 rfl w.heap.size 9 i0 (.string ⟨#[]⟩) 1 16 Tryd.underlying32 hi hz0 hz1 hz2 rfl (by decide) _ _ _ rfl (hown.alloc _) ⟨wr.heap.size, 0, none⟩ 1 1 [.string (s.extract fr (k + 1))] rfl rfl ?a1 ?c2 ?c3 ?c4 ?c5 ?_)
              try (case a1 => exact cell_one_new _ _ _)
              case c2 => first | rfl | (intro u hu; simp at hu; subst hu; rfl)
              case c3 => unfold maxLen; omega
              case c4 => omega
              case c5 => have := hb.size; simp; omega
              intro v' w1 hown3 hgrow _
              have hb3 : Below w.heap.size w w1 := (hb.alloc hb.size _).grown hgrow (by have := hb.size; simp; omega) (fun x hx => (hown.lt x hx).1)
              go_wp2_with fail
              go_roundg (gk - 1)
              case measure => omega
              case rel => exact ⟨k + 1, by omega, by go_num, by rw [HC2.out]; go_num, by rw [HC2.out]; simpa using hown3, hb3⟩
            · rw [c]
              have HC2 := Lib.hid (show cutSt s low bits high (k + 1) = (fr, ol) by rw [HC.out, if_neg (by simp [c])])
              clear c HC
              go_wp2_with fail
              go_roundg (gk - 1)
              case measure => omega
              case rel => exact ⟨k + 1, by omega, by go_num, by rw [HC2.out], by rw [HC2.out]; exact hown, hb⟩

/-- What is wrong with the arguments of a cut (0: nothing). -/
def cutFault (low bits high : Int) : Int := if outsideB low 1 high || decide (100000 < high) || outsideB bits 0 16 then 1 else 0

set_option maxRecDepth 100000 in
set_option maxHeartbeats 1000000 in
theorem cutFault_any (s : ByteArray) (low bits high : Int) (hsz : s.size ≤ 100000) (w : World) :
    Calls Tryd.prog 12 #[.string s, .int .i64 low, .int .i64 bits, .int .i64 high] w fun e w' => e = .returned (.int .i64 (cutFault low bits high)) ∧ w = w' := by
  rcases Bool.eq_false_or_eq_true (outsideB low 1 high) with o1 | o1
  · go_enter Tryd.func12, Tryd.ntmps12
    go_wp2_with fail
    refine (in_any _ _ _ _).mono ?_
    rintro e w' ⟨rfl, rfl⟩
    rw [o1]
    go_wp2_with fail
    go_ret
    exact ⟨by simp [cutFault, o1], rfl⟩
  · rcases Bool.eq_false_or_eq_true (decide (100000 < high)) with o2 | o2
    · go_enter Tryd.func12, Tryd.ntmps12
      go_wp2_with fail
      refine (in_any _ _ _ _).mono ?_
      rintro e w' ⟨rfl, rfl⟩
      rw [o1]
      go_wp2_with fail
      go_ret
      exact ⟨by simp only [cutFault, o1, o2]; rfl, rfl⟩
    · rcases Bool.eq_false_or_eq_true (outsideB bits 0 16) with o3 | o3
      all_goals
        go_enter Tryd.func12, Tryd.ntmps12
        go_wp2_with fail
        refine (in_any _ _ _ _).mono ?_
        rintro e w' ⟨rfl, rfl⟩
        rw [o1]
        go_wp2_with fail
        refine (in_any _ _ _ _).mono ?_
        rintro e w' ⟨rfl, rfl⟩
        rw [o3]
        go_wp2_with fail
        go_ret
        exact ⟨by simp only [cutFault, o1, o2, o3]; rfl, rfl⟩

set_option maxRecDepth 100000 in
set_option maxHeartbeats 1000000 in
theorem cut_no (s : ByteArray) (low bits high : Int) (hsz : s.size ≤ 100000) (hf : cutFault low bits high ≠ 0) (w : World) :
    Calls Tryd.prog 10 #[.string s, .int .i64 low, .int .i64 bits, .int .i64 high] w fun e w' => e = .returned (.tuple #[.slice none 0 0, .int .i64 (cutFault low bits high)]) ∧ w = w' := by
  rcases Bool.eq_false_or_eq_true (outsideB low 1 high) with o1 | o1
  · have HF := Lib.hid (show cutFault low bits high = 1 by simp [cutFault, o1])
    clear hf
    go_enter Tryd.func10, Tryd.ntmps10
    go_wp2_with fail
    refine (outside_any _ _ _ _).mono ?_
    rintro e w' ⟨rfl, rfl⟩
    rw [o1]
    go_wp2_with fail
    go_ret2
    exact ⟨by rw [HF.out]; rfl, rfl⟩
  · rcases Bool.eq_false_or_eq_true (decide (100000 < high)) with o2 | o2
    · have HF := Lib.hid (show cutFault low bits high = 1 by simp only [cutFault, o1, o2]; rfl)
      clear hf
      go_enter Tryd.func10, Tryd.ntmps10
      go_wp2_with fail
      refine (outside_any _ _ _ _).mono ?_
      rintro e w' ⟨rfl, rfl⟩
      rw [o1]
      go_wp2_with fail
      go_ret2
      exact ⟨by rw [HF.out]; rfl, rfl⟩
    · rcases Bool.eq_false_or_eq_true (outsideB bits 0 16) with o3 | o3
      · have HF := Lib.hid (show cutFault low bits high = 1 by simp only [cutFault, o1, o2, o3]; rfl)
        clear hf
        go_enter Tryd.func10, Tryd.ntmps10
        go_wp2_with fail
        refine (outside_any _ _ _ _).mono ?_
        rintro e w' ⟨rfl, rfl⟩
        rw [o1]
        go_wp2_with fail
        refine (outside_any _ _ _ _).mono ?_
        rintro e w' ⟨rfl, rfl⟩
        rw [o3]
        go_wp2_with fail
        go_ret2
        exact ⟨by rw [HF.out]; rfl, rfl⟩
      · exact absurd (by simp only [cutFault, o1, o2, o3]; rfl) hf
end Go.Proofs.YtegalkmfoffpfaaDoor
