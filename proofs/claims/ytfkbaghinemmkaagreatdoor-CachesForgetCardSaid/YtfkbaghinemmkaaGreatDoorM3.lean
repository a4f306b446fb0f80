/- A cache's and a stock's faults; slices.Equal at strings. -/
import Derived.Test.YtfkbaghinemmkaaGreatDoorM2
import Derived.Test.YtfkbaghinemmkaaGreatDoorAvRun
import Derived.Below
namespace Go.Proofs.YtfkbaghinemmkaaGreatDoor
open Go
set_option linter.unusedVariables false
set_option linter.unusedSimpArgs false
open Nat renaming reduceAdd → nA, reduceSub → nB, reduceMul → nC, reduceLT → nD, reduceLeDiff → nE, reduceEqDiff → nF, reduceMod → nG, reduceDiv → nH, reducePow → nI
abbrev zM30 : Option Tmp → Nat := mdL []
abbrev zM31 : Option Tmp → Nat := mdL [(17, 2)]
abbrev zM32 : Option Tmp → Nat := mdL [(8, 2)]
abbrev zM33 : Option Tmp → Nat := mdL [(8, 2), (77, 2)]
abbrev zM34 : Option Tmp → Nat := mdL [(23, 2)]
attribute [go_sem] zM30 zM31 zM32 zM33 zM34
abbrev zPGE : List Nat := [0, 1, 2, 3, 4, 5, 6, 7, 8]
abbrev zPGP : List (Nat × List Nat × List Nat) := []
abbrev zPHE : List Nat := [0, 1, 2, 3, 4, 5, 6, 7, 8, 9, 10, 11, 12, 13]
abbrev zPHP : List (Nat × List Nat × List Nat) := []
attribute [go_sem] zPGE zPGP zPHE zPHP
set_option maxRecDepth 100000
set_option maxHeartbeats 8000000
theorem bs_eq (x : ByteArray) : (x == x) = true := by rw [ba_beq]; simp
theorem bs_ne (x : ByteArray) : (x != x) = false := by rw [bne, ba_beq]; simp
theorem g_eqSR (xs : List ByteArray) (t1 t2 : Option Nat) (h : Hp) (hl : xs.length ≤ 1000000) : ACalls Tryz.prog 18 [.row 1 (xs.map encS) t1, .row 1 (xs.map encS) t2] h (fun r h' => r = .v (.bool true) ∧ h' = h) := by
 have hlm : (xs.map encS).length = xs.length := List.length_map _
 have nself : ((xs.length : Int) != (xs.length : Int)) = false := by simp
 refine gE Tryz.func18 rfl (by kernel_rfl) 24 rfl fun c => ?_
 (repeat (first | refine gO rfl ?_ | ((first | refine gR ?_ | (with_reducible refine wM ?_ ?_) | ((with_reducible refine xS ?_); refine uD 6 zM30 zPGE zPGP 26 rfl (by kernel_rfl) ?_)) <;> ((try with_reducible intro K1 hK1); simp only [go_sem, ↓reduceIte, reduceCtorEq, nA, nB, nC, nD, nE, nF, hlm, nself] <;> and_intros <;> first | (apply hK1; clear hK1 K1) | (intros; first | omega | decide) | skip))))
 refine awp_cond (t := _) rfl (fun h9 => by cases h9) (fun _ => ?_)
 (repeat (first | refine gO rfl ?_ | ((first | refine gR ?_ | (with_reducible refine wM ?_ ?_) | ((with_reducible refine xS ?_); refine uD 6 zM30 zPGE zPGP 26 rfl (by kernel_rfl) ?_)) <;> ((try with_reducible intro K1 hK1); simp only [go_sem, ↓reduceIte, reduceCtorEq, nA, nB, nC, nD, nE, nF, hlm] <;> and_intros <;> first | (apply hK1; clear hK1 K1) | (intros; first | omega | decide) | skip))))
 refine awp_loopC (rl false [0, 2, 9, 3, 12]) 0 (fun g s => ∃ j : Nat, g + j = xs.length ∧
  s = ⟨((.row 1 (xs.map encS) t1) :: (.row 1 (xs.map encS) t2) :: (jnk 9 ((.row 1 (xs.map encS) t1) :: (.v (.int .i64 xs.length)) :: (.v (.int .i64 j)) :: (jnk 12 [])))), [], h⟩) xs.length ⟨0, by omega, rfl⟩ ?_
 rintro g _ ⟨j, hj, rfl⟩
 (repeat (first | refine gO rfl ?_ | ((first | refine gR ?_ | (with_reducible refine wM ?_ ?_) | ((with_reducible refine xS ?_); refine uD 6 zM30 zPGE zPGP 26 rfl (by kernel_rfl) ?_)) <;> ((try with_reducible intro K1 hK1); simp only [go_sem, ↓reduceIte, reduceCtorEq, nA, nB, nC, nD, nE, nF] <;> and_intros <;> first | (apply hK1; clear hK1 K1) | (intros; first | omega | decide) | skip))))
 refine awp_cond (t := _) rfl (fun h1 => ?_) (fun h1 => ?_)
 ·simp only [decide_eq_true_eq] at h1
  have hjl : j < xs.length := by omega
  have gx : (xs.map encS).getD j [] = encS (xs.getD j default) := getD_enc encS xs j default hjl
  generalize xs.getD j default = x at gx
  (repeat (first | refine gO rfl ?_ | ((first | refine gR ?_ | (with_reducible refine wM ?_ ?_) | ((with_reducible refine xS ?_); refine uD 6 zM30 zPGE zPGP 26 rfl (by kernel_rfl) ?_)) <;> ((try with_reducible intro K1 hK1); simp only [go_sem, ↓reduceIte, reduceCtorEq, nA, nB, nC, nD, nE, nF, Int.toNat_natCast, gx, encS, hlm, hjl, bs_eq, bs_ne] <;> and_intros <;> first | (apply hK1; clear hK1 K1) | (intros; first | omega | decide) | skip))))
  refine awp_cond (t := _) rfl (fun h9 => by cases h9) (fun _ => ?_)
  (repeat (first | refine gO rfl ?_ | ((first | refine gR ?_ | (with_reducible refine wM ?_ ?_) | ((with_reducible refine xS ?_); refine uD 6 zM30 zPGE zPGP 26 rfl (by kernel_rfl) ?_)) <;> ((try with_reducible intro K1 hK1); simp only [go_sem, ↓reduceIte, reduceCtorEq, nA, nB, nC, nD, nE, nF] <;> and_intros <;> first | (apply hK1; clear hK1 K1) | (intros; first | omega | decide) | skip))))
  exact ⟨g - 1, by omega, j + 1, by omega, rfl⟩
 ·(repeat (first | refine gO rfl ?_ | ((first | refine gR ?_ | (with_reducible refine wM ?_ ?_) | ((with_reducible refine xS ?_); refine uD 6 zM30 zPGE zPGP 26 rfl (by kernel_rfl) ?_)) <;> ((try with_reducible intro K1 hK1); simp only [go_sem, ↓reduceIte, reduceCtorEq, nA, nB, nC, nD, nE, nF] <;> and_intros <;> first | (apply hK1; clear hK1 K1) | (intros; first | omega | decide) | skip))))
  simp only [Tryz.results18, go_sem, ↓reduceIte, reduceCtorEq, nA, nB, nC, nD, nE, nF]
  exact ⟨_, _, Weak.refl _, Hp.le.refl _, rfl, rfl⟩
theorem g_eqSA (xs : List ByteArray) (t1 : Option Nat) (q : Nat) (h : Hp) (hT : h.T q = some (.cont 1 (xs.map encS))) (hl : xs.length ≤ 1000000) : ACalls Tryz.prog 18 [.row 1 (xs.map encS) t1, .arr 1 q xs.length] h (fun r h' => r = .v (.bool true) ∧ h' = h) := by
 have hlm : (xs.map encS).length = xs.length := List.length_map _
 have nself : ((xs.length : Int) != (xs.length : Int)) = false := by simp
 refine gE Tryz.func18 rfl (by kernel_rfl) 24 rfl fun c => ?_
 (repeat (first | refine gO rfl ?_ | ((first | refine gR ?_ | (with_reducible refine wM ?_ ?_) | ((with_reducible refine xS ?_); refine uD 6 zM30 zPGE zPGP 26 rfl (by kernel_rfl) ?_)) <;> ((try with_reducible intro K1 hK1); simp only [go_sem, ↓reduceIte, reduceCtorEq, nA, nB, nC, nD, nE, nF, hlm, nself] <;> and_intros <;> first | (apply hK1; clear hK1 K1) | (intros; first | omega | decide) | skip))))
 refine awp_cond (t := _) rfl (fun h9 => by cases h9) (fun _ => ?_)
 (repeat (first | refine gO rfl ?_ | ((first | refine gR ?_ | (with_reducible refine wM ?_ ?_) | ((with_reducible refine xS ?_); refine uD 6 zM30 zPGE zPGP 26 rfl (by kernel_rfl) ?_)) <;> ((try with_reducible intro K1 hK1); simp only [go_sem, ↓reduceIte, reduceCtorEq, nA, nB, nC, nD, nE, nF, hlm] <;> and_intros <;> first | (apply hK1; clear hK1 K1) | (intros; first | omega | decide) | skip))))
 refine awp_loopC (rl false [0, 2, 9, 3, 12]) 0 (fun g s => ∃ j : Nat, g + j = xs.length ∧
  s = ⟨((.row 1 (xs.map encS) t1) :: (.arr 1 q xs.length) :: (jnk 9 ((.row 1 (xs.map encS) t1) :: (.v (.int .i64 xs.length)) :: (.v (.int .i64 j)) :: (jnk 12 [])))), [], h⟩) xs.length ⟨0, by omega, rfl⟩ ?_
 rintro g _ ⟨j, hj, rfl⟩
 (repeat (first | refine gO rfl ?_ | ((first | refine gR ?_ | (with_reducible refine wM ?_ ?_) | ((with_reducible refine xS ?_); refine uD 6 zM30 zPGE zPGP 26 rfl (by kernel_rfl) ?_)) <;> ((try with_reducible intro K1 hK1); simp only [go_sem, ↓reduceIte, reduceCtorEq, nA, nB, nC, nD, nE, nF] <;> and_intros <;> first | (apply hK1; clear hK1 K1) | (intros; first | omega | decide) | skip))))
 refine awp_cond (t := _) rfl (fun h1 => ?_) (fun h1 => ?_)
 ·simp only [decide_eq_true_eq] at h1
  have hjl : j < xs.length := by omega
  have gx : (xs.map encS).getD j [] = encS (xs.getD j default) := getD_enc encS xs j default hjl
  generalize xs.getD j default = x at gx
  (repeat (first | refine gO rfl ?_ | ((first | refine gR ?_ | (with_reducible refine wM ?_ ?_) | ((with_reducible refine xS ?_); refine uD 6 zM30 zPGE zPGP 26 rfl (by kernel_rfl) ?_)) <;> ((try with_reducible intro K1 hK1); simp only [go_sem, ↓reduceIte, reduceCtorEq, nA, nB, nC, nD, nE, nF, Int.toNat_natCast, gx, encS, hlm, hjl, hT, bs_eq, bs_ne] <;> and_intros <;> first | (apply hK1; clear hK1 K1) | (intros; first | omega | decide) | skip))))
  refine awp_cond (t := _) rfl (fun h9 => by cases h9) (fun _ => ?_)
  (repeat (first | refine gO rfl ?_ | ((first | refine gR ?_ | (with_reducible refine wM ?_ ?_) | ((with_reducible refine xS ?_); refine uD 6 zM30 zPGE zPGP 26 rfl (by kernel_rfl) ?_)) <;> ((try with_reducible intro K1 hK1); simp only [go_sem, ↓reduceIte, reduceCtorEq, nA, nB, nC, nD, nE, nF] <;> and_intros <;> first | (apply hK1; clear hK1 K1) | (intros; first | omega | decide) | skip))))
  exact ⟨g - 1, by omega, j + 1, by omega, rfl⟩
 ·(repeat (first | refine gO rfl ?_ | ((first | refine gR ?_ | (with_reducible refine wM ?_ ?_) | ((with_reducible refine xS ?_); refine uD 6 zM30 zPGE zPGP 26 rfl (by kernel_rfl) ?_)) <;> ((try with_reducible intro K1 hK1); simp only [go_sem, ↓reduceIte, reduceCtorEq, nA, nB, nC, nD, nE, nF] <;> and_intros <;> first | (apply hK1; clear hK1 K1) | (intros; first | omega | decide) | skip))))
  simp only [Tryz.results18, go_sem, ↓reduceIte, reduceCtorEq, nA, nB, nC, nD, nE, nF]
  exact ⟨_, _, Weak.refl _, Hp.le.refl _, rfl, rfl⟩
theorem g_eqSN (h : Hp) : ACalls Tryz.prog 18 [.v (.slice none 0 0), .v (.slice none 0 0)] h (fun r h' => r = .v (.bool true) ∧ h' = h) := by
 refine gE Tryz.func18 rfl (by kernel_rfl) 24 rfl fun c => ?_
 (repeat (first | refine gO rfl ?_ | ((first | refine gR ?_ | (with_reducible refine wM ?_ ?_) | ((with_reducible refine xS ?_); refine uD 6 zM30 zPGE zPGP 26 rfl (by kernel_rfl) ?_)) <;> ((try with_reducible intro K1 hK1); simp only [go_sem, ↓reduceIte, reduceCtorEq, nA, nB, nC, nD, nE, nF] <;> and_intros <;> first | (apply hK1; clear hK1 K1) | (intros; first | omega | decide) | skip))))
 refine awp_cond (t := _) rfl (fun h9 => by cases h9) (fun _ => ?_)
 (repeat (first | refine gO rfl ?_ | ((first | refine gR ?_ | (with_reducible refine wM ?_ ?_) | ((with_reducible refine xS ?_); refine uD 6 zM30 zPGE zPGP 26 rfl (by kernel_rfl) ?_)) <;> ((try with_reducible intro K1 hK1); simp only [go_sem, ↓reduceIte, reduceCtorEq, nA, nB, nC, nD, nE, nF] <;> and_intros <;> first | (apply hK1; clear hK1 K1) | (intros; first | omega | decide) | skip))))
 refine awp_loopC (rl false [12, 2, 12]) 0 (fun _ s => s = ⟨((jnk 12 ((.v (.int .i64 0)) :: (.v (.int .i64 0)) :: (jnk 12 [])))), [], h⟩) 0 rfl ?_
 rintro g _ rfl
 (repeat (first | refine gO rfl ?_ | ((first | refine gR ?_ | (with_reducible refine wM ?_ ?_) | ((with_reducible refine xS ?_); refine uD 6 zM30 zPGE zPGP 26 rfl (by kernel_rfl) ?_)) <;> ((try with_reducible intro K1 hK1); simp only [go_sem, ↓reduceIte, reduceCtorEq, nA, nB, nC, nD, nE, nF] <;> and_intros <;> first | (apply hK1; clear hK1 K1) | (intros; first | omega | decide) | skip))))
 refine awp_cond (t := _) rfl (fun h9 => by cases h9) (fun _ => ?_)
 (repeat (first | refine gO rfl ?_ | ((first | refine gR ?_ | (with_reducible refine wM ?_ ?_) | ((with_reducible refine xS ?_); refine uD 6 zM30 zPGE zPGP 26 rfl (by kernel_rfl) ?_)) <;> ((try with_reducible intro K1 hK1); simp only [go_sem, ↓reduceIte, reduceCtorEq, nA, nB, nC, nD, nE, nF] <;> and_intros <;> first | (apply hK1; clear hK1 K1) | (intros; first | omega | decide) | skip))))
 simp only [Tryz.results18, go_sem, ↓reduceIte, reduceCtorEq, nA, nB, nC, nD, nE, nF]
 exact ⟨_, _, Weak.refl _, Hp.le.refl _, rfl, rfl⟩
def stkF (room rule : Int) : Int := if 1 ≤ room ∧ room ≤ 1000000000000 then (if 1 ≤ rule ∧ rule ≤ 4 then 0 else 4) else 1
theorem g_stockFault (room rule : Int) (h : Hp) : ACalls Tryz.prog 10 [.v (.int .i64 room), .v (.int .i64 rule), .v (.int .i64 1000000000000)] h (fun r h' => r = .v (.int .i64 (stkF room rule)) ∧ h' = h) := by
 have hI := fun h => a_inS room 1 1000000000000 h
 have hI2 := fun h => a_inS rule 1 4 h
 have b1 : (decide (1 ≤ room) && decide (room ≤ 1000000000000)) = decide (1 ≤ room ∧ room ≤ 1000000000000) := by simp
 have b2 : (decide (1 ≤ rule) && decide (rule ≤ 4)) = decide (1 ≤ rule ∧ rule ≤ 4) := by simp
 rw [b1] at hI
 rw [b2] at hI2
 unfold stkF
 refine gE Tryz.func10 rfl (by kernel_rfl) 13 rfl fun c => ?_
 (repeat (first | refine gO rfl ?_ | (refine gR fun K1 hK1 => ?_; simp only [go_sem, ↓reduceIte, reduceCtorEq, nA, nB, nC, nD, nE, nF] <;> and_intros <;> first | (apply hK1; clear hK1 K1) | (intros; first | omega | decide) | skip)))
 refine (hI _).mono ?_; rintro _ hz ⟨rfl, hh⟩; apply hK1; clear hK1 K1; rw [hh]; clear hh hz
 by_cases c1 : 1 ≤ room ∧ room ≤ 1000000000000
 ·rw [decide_eq_true c1, if_pos c1]
  (repeat (first | refine gO rfl ?_ | (refine gR fun K1 hK1 => ?_; simp only [go_sem, ↓reduceIte, reduceCtorEq, nA, nB, nC, nD, nE, nF, Bool.not_true] <;> and_intros <;> first | (apply hK1; clear hK1 K1) | (intros; first | omega | decide) | skip)))
  refine awp_cond (t := _) rfl (fun h9 => by cases h9) (fun _ => ?_)
  (repeat (first | refine gO rfl ?_ | (refine gR fun K1 hK1 => ?_; simp only [go_sem, ↓reduceIte, reduceCtorEq, nA, nB, nC, nD, nE, nF] <;> and_intros <;> first | (apply hK1; clear hK1 K1) | (intros; first | omega | decide) | skip)))
  refine (hI2 _).mono ?_; rintro _ hz ⟨rfl, hh⟩; apply hK1; clear hK1 K1; rw [hh]; clear hh hz
  by_cases c2 : 1 ≤ rule ∧ rule ≤ 4
  ·rw [decide_eq_true c2, if_pos c2]
   (repeat (first | refine gO rfl ?_ | (refine gR fun K1 hK1 => ?_; simp only [go_sem, ↓reduceIte, reduceCtorEq, nA, nB, nC, nD, nE, nF, Bool.not_true] <;> and_intros <;> first | (apply hK1; clear hK1 K1) | (intros; first | omega | decide) | skip)))
   refine awp_cond (t := _) rfl (fun h9 => by cases h9) (fun _ => ?_)
   (repeat (first | refine gO rfl ?_ | (refine gR fun K1 hK1 => ?_; simp only [go_sem, ↓reduceIte, reduceCtorEq, nA, nB, nC, nD, nE, nF] <;> and_intros <;> first | (apply hK1; clear hK1 K1) | (intros; first | omega | decide) | skip)))
   simp only [Tryz.results10, go_sem, ↓reduceIte, reduceCtorEq, nA, nB, nC, nD, nE, nF]
   exact ⟨_, _, Weak.refl _, Hp.le.refl _, rfl, rfl⟩
  ·rw [decide_eq_false c2, if_neg c2]
   (repeat (first | refine gO rfl ?_ | (refine gR fun K1 hK1 => ?_; simp only [go_sem, ↓reduceIte, reduceCtorEq, nA, nB, nC, nD, nE, nF, Bool.not_false] <;> and_intros <;> first | (apply hK1; clear hK1 K1) | (intros; first | omega | decide) | skip)))
   refine awp_cond (t := _) rfl (fun _ => ?_) (fun h9 => by cases h9)
   (repeat (first | refine gO rfl ?_ | (refine gR fun K1 hK1 => ?_; simp only [go_sem, ↓reduceIte, reduceCtorEq, nA, nB, nC, nD, nE, nF] <;> and_intros <;> first | (apply hK1; clear hK1 K1) | (intros; first | omega | decide) | skip)))
   simp only [Tryz.results10, go_sem, ↓reduceIte, reduceCtorEq, nA, nB, nC, nD, nE, nF]
   exact ⟨_, _, Weak.refl _, Hp.le.refl _, rfl, rfl⟩
 ·rw [decide_eq_false c1, if_neg c1]
  (repeat (first | refine gO rfl ?_ | (refine gR fun K1 hK1 => ?_; simp only [go_sem, ↓reduceIte, reduceCtorEq, nA, nB, nC, nD, nE, nF, Bool.not_false] <;> and_intros <;> first | (apply hK1; clear hK1 K1) | (intros; first | omega | decide) | skip)))
  refine awp_cond (t := _) rfl (fun _ => ?_) (fun h9 => by cases h9)
  (repeat (first | refine gO rfl ?_ | (refine gR fun K1 hK1 => ?_; simp only [go_sem, ↓reduceIte, reduceCtorEq, nA, nB, nC, nD, nE, nF] <;> and_intros <;> first | (apply hK1; clear hK1 K1) | (intros; first | omega | decide) | skip)))
  simp only [Tryz.results10, go_sem, ↓reduceIte, reduceCtorEq, nA, nB, nC, nD, nE, nF]
  exact ⟨_, _, Weak.refl _, Hp.le.refl _, rfl, rfl⟩
theorem g_ruleFaultN (rule : Int) (h : Hp) (h1 : ¬ (1 ≤ rule ∧ rule ≤ 4)) : ACalls Tryz.prog 53 [.v (.int .i64 rule)] h (fun r h' => r = .v (.int .i64 4) ∧ h' = h) := by
 have hO := fun h => a_outside rule 1 4 h
 have hE : (decide (rule < 1) || decide (4 < rule)) = true := by simp; omega
 rw [hE] at hO
 refine gE Tryz.func53 rfl (by kernel_rfl) 4 rfl fun c => ?_
 (repeat (first | refine gO rfl ?_ | (refine gR fun K1 hK1 => ?_; simp only [go_sem, ↓reduceIte, reduceCtorEq, nA, nB, nC, nD, nE, nF] <;> and_intros <;> first | (apply hK1; clear hK1 K1) | (intros; first | omega | decide) | skip)))
 refine (hO _).mono ?_; rintro _ hz ⟨rfl, hh⟩; apply hK1; clear hK1 K1; rw [hh]; clear hh hz
 (repeat (first | refine gO rfl ?_ | (refine gR fun K1 hK1 => ?_; simp only [go_sem, ↓reduceIte, reduceCtorEq, nA, nB, nC, nD, nE, nF] <;> and_intros <;> first | (apply hK1; clear hK1 K1) | (intros; first | omega | decide) | skip)))
 refine awp_cond (t := _) rfl (fun _ => ?_) (fun h9 => by cases h9)
 (repeat (first | refine gO rfl ?_ | (refine gR fun K1 hK1 => ?_; simp only [go_sem, ↓reduceIte, reduceCtorEq, nA, nB, nC, nD, nE, nF] <;> and_intros <;> first | (apply hK1; clear hK1 K1) | (intros; first | omega | decide) | skip)))
 simp only [Tryz.results53, go_sem, ↓reduceIte, reduceCtorEq, nA, nB, nC, nD, nE, nF]
 exact ⟨_, _, Weak.refl _, Hp.le.refl _, rfl, rfl⟩
theorem g_newCacheN (room rule : Int) (h : Hp) (hn : ¬ stkF room rule = 0) :
  ACalls Tryz.prog 9 [.v (.int .i64 room), .v (.int .i64 rule)] h (fun r h' => r = .tup [nilP, .v (.int .i64 (stkF room rule))] ∧ h' = h) := by
 have hO := fun h => a_outside room 1 1000000000000 h
 unfold stkF at *
 refine gE Tryz.func9 rfl (by kernel_rfl) 16 rfl fun c => ?_
 (repeat (first | refine gO rfl ?_ | (refine gM zM31 fun K1 hK1 => ?_; simp only [go_sem, ↓reduceIte, reduceCtorEq, nA, nB, nC, nD, nE, nF] <;> and_intros <;> first | (apply hK1; clear hK1 K1) | (intros; first | omega | decide) | skip)))
 refine (hO _).mono ?_; rintro _ hz ⟨rfl, hh⟩; apply hK1; clear hK1 K1; rw [hh]; clear hh hz
 by_cases c1 : 1 ≤ room ∧ room ≤ 1000000000000
 ·have hE : (decide (room < 1) || decide (1000000000000 < room)) = false := by simp; omega
  rw [if_pos c1] at hn ⊢
  have c2 : ¬ (1 ≤ rule ∧ rule ≤ 4) := fun e => hn (if_pos e)
  rw [if_neg c2, hE]
  (repeat (first | refine gO rfl ?_ | (refine gM zM31 fun K1 hK1 => ?_; simp only [go_sem, ↓reduceIte, reduceCtorEq, nA, nB, nC, nD, nE, nF] <;> and_intros <;> first | (apply hK1; clear hK1 K1) | (intros; first | omega | decide) | skip)))
  refine awp_cond (t := _) rfl (fun h9 => by cases h9) (fun _ => ?_)
  (repeat (first | refine gO rfl ?_ | (refine gM zM31 fun K1 hK1 => ?_; simp only [go_sem, ↓reduceIte, reduceCtorEq, nA, nB, nC, nD, nE, nF] <;> and_intros <;> first | (apply hK1; clear hK1 K1) | (intros; first | omega | decide) | skip)))
  refine (g_ruleFaultN rule _ c2).mono ?_; rintro _ hz ⟨rfl, hh⟩; apply hK1; clear hK1 K1; rw [hh]; clear hh hz
  (repeat (first | refine gO rfl ?_ | (refine gM zM31 fun K1 hK1 => ?_; simp only [go_sem, ↓reduceIte, reduceCtorEq, nA, nB, nC, nD, nE, nF] <;> and_intros <;> first | (apply hK1; clear hK1 K1) | (intros; first | omega | decide) | skip)))
  refine awp_cond (t := _) rfl (fun _ => ?_) (fun h9 => by cases h9)
  (repeat (first | refine gO rfl ?_ | (refine gM zM31 fun K1 hK1 => ?_; simp only [go_sem, ↓reduceIte, reduceCtorEq, nA, nB, nC, nD, nE, nF] <;> and_intros <;> first | (apply hK1; clear hK1 K1) | (intros; first | omega | decide) | skip)))
  simp only [Tryz.results9, go_sem, ↓reduceIte, reduceCtorEq, nA, nB, nC, nD, nE, nF]
  exact ⟨_, _, Weak.refl _, Hp.le.refl _, rfl, rfl⟩
 ·have hE : (decide (room < 1) || decide (1000000000000 < room)) = true := by simp; omega
  rw [if_neg c1, hE]
  (repeat (first | refine gO rfl ?_ | (refine gM zM31 fun K1 hK1 => ?_; simp only [go_sem, ↓reduceIte, reduceCtorEq, nA, nB, nC, nD, nE, nF] <;> and_intros <;> first | (apply hK1; clear hK1 K1) | (intros; first | omega | decide) | skip)))
  refine awp_cond (t := _) rfl (fun _ => ?_) (fun h9 => by cases h9)
  (repeat (first | refine gO rfl ?_ | (refine gM zM31 fun K1 hK1 => ?_; simp only [go_sem, ↓reduceIte, reduceCtorEq, nA, nB, nC, nD, nE, nF] <;> and_intros <;> first | (apply hK1; clear hK1 K1) | (intros; first | omega | decide) | skip)))
  simp only [Tryz.results9, go_sem, ↓reduceIte, reduceCtorEq, nA, nB, nC, nD, nE, nF]
  exact ⟨_, _, Weak.refl _, Hp.le.refl _, rfl, rfl⟩
theorem g_newStock (room rule : Int) (h : Hp) :
  ACalls Tryz.prog 12 [.v (.int .i64 room), .v (.int .i64 rule)] h (fun r h' => ∃ si k, h.H si = none ∧ h.T k = none ∧ r = .ptr si 0 ∧ h' = ⟨upd h.H si (some (.cells (encSt room rule 0 k 0))), upd h.T k (some (.cont 5 []))⟩) := by
 refine gE Tryz.func12 rfl (by kernel_rfl) 7 rfl fun c => ?_
 (repeat (first | refine gO rfl ?_ | (refine gM zM32 fun K1 hK1 => ?_; simp only [go_sem, ↓reduceIte, reduceCtorEq, nA, nB, nC, nD, nE, nF] <;> and_intros <;> first | (apply hK1; clear hK1 K1) | (intros; first | omega | decide) | skip)))
 intro si hsi
 replace hsi : h.H si = none := hsi
 refine hK1 _ ?_; clear hK1 K1
 refine awp_ownObj si 2 5 (cs := [.v (.int .i64 room), .v (.int .i64 rule), .v (.slice none 0 0), .v (.int .i64 0)]) (upd_same _ _ _) rfl (fun k0 hk0 => ?_)
 (repeat (first | refine gO rfl ?_ | (refine gM zM32 fun K1 hK1 => ?_; simp only [go_sem, ↓reduceIte, reduceCtorEq, nA, nB, nC, nD, nE, nF] <;> and_intros <;> first | (apply hK1; clear hK1 K1) | (intros; first | omega | decide) | skip)))
 simp only [Tryz.results12, go_sem, ↓reduceIte, reduceCtorEq, nA, nB, nC, nD, nE, nF]
 exact ⟨_, _, Weak.refl _, Hp.le.refl _, si, k0, hsi, hk0, rfl, rfl⟩
section
variable {K : Nat → Kp} {ci k : Nat} {room rule now : Int} {item : ByteArray} {ps : List Nat} {h : Hp}
theorem g_askCN (hC : h.H ci = some (.cells (encCa room rule now k ps.length))) (hT : h.T k = some (.cont 1 (ps.map encR))) (hl : ps.length ≤ 1000) (hK : CacheH h K ps) (hs : item.size ≤ 1000) (hn : keyB item = false ∨ hasL item (ps.map K) = false) :
  ACalls Tryz.prog 19 [.ptr ci 0, .v (.string item)] h (fun r h' => r = .tup [.v (.bool false), .v (.int .i64 (if keyB item = true then 0 else 5))] ∧ h' = h) := by
 have hKey := fun h => a_isKey item (by omega) h
 refine gE Tryz.func19 rfl (by kernel_rfl) 16 rfl fun c => ?_
 (repeat (first | refine gO rfl ?_ | (refine gR fun K1 hK1 => ?_; simp only [go_sem, ↓reduceIte, reduceCtorEq, nA, nB, nC, nD, nE, nF] <;> and_intros <;> first | (apply hK1; clear hK1 K1) | (intros; first | omega | decide) | skip)))
 refine (hKey _).mono ?_; rintro _ hz ⟨rfl, hh⟩; apply hK1; clear hK1 K1; rw [hh]; clear hh hz
 cases hk : keyB item with
 | false =>
  (repeat (first | refine gO rfl ?_ | (refine gR fun K1 hK1 => ?_; simp only [go_sem, ↓reduceIte, reduceCtorEq, nA, nB, nC, nD, nE, nF, Bool.not_false] <;> and_intros <;> first | (apply hK1; clear hK1 K1) | (intros; first | omega | decide) | skip)))
  refine awp_cond (t := _) rfl (fun _ => ?_) (fun h9 => by cases h9)
  (repeat (first | refine gO rfl ?_ | (refine gR fun K1 hK1 => ?_; simp only [go_sem, ↓reduceIte, reduceCtorEq, nA, nB, nC, nD, nE, nF] <;> and_intros <;> first | (apply hK1; clear hK1 K1) | (intros; first | omega | decide) | skip)))
  simp only [Tryz.results19, go_sem, ↓reduceIte, reduceCtorEq, nA, nB, nC, nD, nE, nF]
  exact ⟨_, _, Weak.refl _, Hp.le.refl _, rfl, rfl⟩
 | true =>
  have hh : hasL item (ps.map K) = false := hn.resolve_left (by rw [hk]; decide)
  have hfi := g_find (item := item) K ci k room rule now ps h hC hT (by omega) hK
  have hfc : findF item K ps = nilP := by
   rcases findF_cases item K ps with ⟨_, e⟩ | ⟨q, hq, hqk, h2, e⟩
   ·exact e
   ·rw [h2] at hh; cases hh
  rw [hfc] at hfi
  unfold nilP at hfi
  (repeat (first | refine gO rfl ?_ | (refine gR fun K1 hK1 => ?_; simp only [go_sem, ↓reduceIte, reduceCtorEq, nA, nB, nC, nD, nE, nF, Bool.not_true] <;> and_intros <;> first | (apply hK1; clear hK1 K1) | (intros; first | omega | decide) | skip)))
  refine awp_cond (t := _) rfl (fun h9 => by cases h9) (fun _ => ?_)
  (repeat (first | refine gO rfl ?_ | (refine gR fun K1 hK1 => ?_; simp only [go_sem, ↓reduceIte, reduceCtorEq, nA, nB, nC, nD, nE, nF] <;> and_intros <;> first | (apply hK1; clear hK1 K1) | (intros; first | omega | decide) | skip)))
  refine hfi.mono ?_; rintro _ hz ⟨rfl, hh⟩; apply hK1; clear hK1 K1; rw [hh]; clear hh hz
  (repeat (first | refine gO rfl ?_ | (refine gR fun K1 hK1 => ?_; simp only [go_sem, ↓reduceIte, reduceCtorEq, nA, nB, nC, nD, nE, nF] <;> and_intros <;> first | (apply hK1; clear hK1 K1) | (intros; first | omega | decide) | skip)))
  refine awp_cond (t := _) rfl (fun _ => ?_) (fun h9 => by cases h9)
  (repeat (first | refine gO rfl ?_ | (refine gR fun K1 hK1 => ?_; simp only [go_sem, ↓reduceIte, reduceCtorEq, nA, nB, nC, nD, nE, nF] <;> and_intros <;> first | (apply hK1; clear hK1 K1) | (intros; first | omega | decide) | skip)))
  simp only [Tryz.results19, go_sem, ↓reduceIte, reduceCtorEq, nA, nB, nC, nD, nE, nF]
  exact ⟨_, _, Weak.refl _, Hp.le.refl _, rfl, rfl⟩
theorem g_pinCN (on : Bool) (hC : h.H ci = some (.cells (encCa room rule now k ps.length))) (hT : h.T k = some (.cont 1 (ps.map encR))) (hl : ps.length ≤ 1000) (hK : CacheH h K ps) (hs : item.size ≤ 1000) (hn : keyB item = false ∨ hasL item (ps.map K) = false) :
  ACalls Tryz.prog 22 [.ptr ci 0, .v (.string item), .v (.bool on)] h (fun r h' => r = .v (.int .i64 (if keyB item = true then 8 else 5)) ∧ h' = h) := by
 have hKey := fun h => a_isKey item (by omega) h
 refine gE Tryz.func22 rfl (by kernel_rfl) 23 rfl fun c => ?_
 (repeat (first | refine gO rfl ?_ | (refine gR fun K1 hK1 => ?_; simp only [go_sem, ↓reduceIte, reduceCtorEq, nA, nB, nC, nD, nE, nF] <;> and_intros <;> first | (apply hK1; clear hK1 K1) | (intros; first | omega | decide) | skip)))
 refine (hKey _).mono ?_; rintro _ hz ⟨rfl, hh⟩; apply hK1; clear hK1 K1; rw [hh]; clear hh hz
 cases hk : keyB item with
 | false =>
  (repeat (first | refine gO rfl ?_ | (refine gR fun K1 hK1 => ?_; simp only [go_sem, ↓reduceIte, reduceCtorEq, nA, nB, nC, nD, nE, nF, Bool.not_false] <;> and_intros <;> first | (apply hK1; clear hK1 K1) | (intros; first | omega | decide) | skip)))
  refine awp_cond (t := _) rfl (fun _ => ?_) (fun h9 => by cases h9)
  (repeat (first | refine gO rfl ?_ | (refine gR fun K1 hK1 => ?_; simp only [go_sem, ↓reduceIte, reduceCtorEq, nA, nB, nC, nD, nE, nF] <;> and_intros <;> first | (apply hK1; clear hK1 K1) | (intros; first | omega | decide) | skip)))
  simp only [Tryz.results22, go_sem, ↓reduceIte, reduceCtorEq, nA, nB, nC, nD, nE, nF]
  exact ⟨_, _, Weak.refl _, Hp.le.refl _, rfl, rfl⟩
 | true =>
  have hh : hasL item (ps.map K) = false := hn.resolve_left (by rw [hk]; decide)
  have hfi := g_find (item := item) K ci k room rule now ps h hC hT (by omega) hK
  have hfc : findF item K ps = nilP := by
   rcases findF_cases item K ps with ⟨_, e⟩ | ⟨q, hq, hqk, h2, e⟩
   ·exact e
   ·rw [h2] at hh; cases hh
  rw [hfc] at hfi
  unfold nilP at hfi
  (repeat (first | refine gO rfl ?_ | (refine gR fun K1 hK1 => ?_; simp only [go_sem, ↓reduceIte, reduceCtorEq, nA, nB, nC, nD, nE, nF, Bool.not_true] <;> and_intros <;> first | (apply hK1; clear hK1 K1) | (intros; first | omega | decide) | skip)))
  refine awp_cond (t := _) rfl (fun h9 => by cases h9) (fun _ => ?_)
  (repeat (first | refine gO rfl ?_ | (refine gR fun K1 hK1 => ?_; simp only [go_sem, ↓reduceIte, reduceCtorEq, nA, nB, nC, nD, nE, nF] <;> and_intros <;> first | (apply hK1; clear hK1 K1) | (intros; first | omega | decide) | skip)))
  refine hfi.mono ?_; rintro _ hz ⟨rfl, hh⟩; apply hK1; clear hK1 K1; rw [hh]; clear hh hz
  (repeat (first | refine gO rfl ?_ | (refine gR fun K1 hK1 => ?_; simp only [go_sem, ↓reduceIte, reduceCtorEq, nA, nB, nC, nD, nE, nF] <;> and_intros <;> first | (apply hK1; clear hK1 K1) | (intros; first | omega | decide) | skip)))
  refine awp_cond (t := _) rfl (fun _ => ?_) (fun h9 => by cases h9)
  (repeat (first | refine gO rfl ?_ | (refine gR fun K1 hK1 => ?_; simp only [go_sem, ↓reduceIte, reduceCtorEq, nA, nB, nC, nD, nE, nF] <;> and_intros <;> first | (apply hK1; clear hK1 K1) | (intros; first | omega | decide) | skip)))
  simp only [Tryz.results22, go_sem, ↓reduceIte, reduceCtorEq, nA, nB, nC, nD, nE, nF]
  exact ⟨_, _, Weak.refl _, Hp.le.refl _, rfl, rfl⟩
theorem g_pinCY (on : Bool) {p : Nat} (hC : h.H ci = some (.cells (encCa room rule now k ps.length))) (hT : h.T k = some (.cont 1 (ps.map encR))) (hl : ps.length ≤ 1000) (hK : CacheH h K ps) (hone : KeysOne (ps.map K)) (hp : p ∈ ps) (hpk : (K p).1 = item) (hs : item.size ≤ 1000) (hk : keyB item = true) :
  ACalls Tryz.prog 22 [.ptr ci 0, .v (.string item), .v (.bool on)] h (fun r h' => if (K p).2.2.1 = on then r = .v (.int .i64 11) ∧ h' = h else r = .v (.int .i64 0) ∧ h' = ⟨upd h.H p (some (.cells (encKp (pinF on (K p))))), h.T⟩) := by
 have hKey := fun h => a_isKey item (by omega) h
 rw [hk] at hKey
 have hfi := g_find (item := item) K ci k room rule now ps h hC hT (by omega) hK
 have hfc : findF item K ps = .ptr p 0 := by
  rcases findF_cases item K ps with ⟨hn, _⟩ | ⟨q, hq, hqk, _, e⟩
  ·rw [hasL_iff.2 ⟨K p, List.mem_map_of_mem hp, hpk⟩] at hn; cases hn
  ·rw [e, keysOne_map hone hq hp (hqk.trans hpk.symm)]
 rw [hfc] at hfi
 have hhp := hK p hp
 generalize K p = x at *
 obtain ⟨ke, by1, pi, ca, la, ma⟩ := x
 refine gE Tryz.func22 rfl (by kernel_rfl) 23 rfl fun c => ?_
 (repeat (first | refine gO rfl ?_ | (refine gR fun K1 hK1 => ?_; simp only [go_sem, ↓reduceIte, reduceCtorEq, nA, nB, nC, nD, nE, nF] <;> and_intros <;> first | (apply hK1; clear hK1 K1) | (intros; first | omega | decide) | skip)))
 refine (hKey _).mono ?_; rintro _ hz ⟨rfl, hh⟩; apply hK1; clear hK1 K1; rw [hh]; clear hh hz
 (repeat (first | refine gO rfl ?_ | (refine gR fun K1 hK1 => ?_; simp only [go_sem, ↓reduceIte, reduceCtorEq, nA, nB, nC, nD, nE, nF, Bool.not_true] <;> and_intros <;> first | (apply hK1; clear hK1 K1) | (intros; first | omega | decide) | skip)))
 refine awp_cond (t := _) rfl (fun h9 => by cases h9) (fun _ => ?_)
 (repeat (first | refine gO rfl ?_ | (refine gR fun K1 hK1 => ?_; simp only [go_sem, ↓reduceIte, reduceCtorEq, nA, nB, nC, nD, nE, nF] <;> and_intros <;> first | (apply hK1; clear hK1 K1) | (intros; first | omega | decide) | skip)))
 refine hfi.mono ?_; rintro _ hz ⟨rfl, hh⟩; apply hK1; clear hK1 K1; rw [hh]; clear hh hz
 (repeat (first | refine gO rfl ?_ | (refine gR fun K1 hK1 => ?_; simp only [go_sem, ↓reduceIte, reduceCtorEq, nA, nB, nC, nD, nE, nF] <;> and_intros <;> first | (apply hK1; clear hK1 K1) | (intros; first | omega | decide) | skip)))
 refine awp_cond (t := _) rfl (fun h9 => by cases h9) (fun _ => ?_)
 cases pi <;> cases on
 ·(repeat (first | refine gO rfl ?_ | (refine gR fun K1 hK1 => ?_; simp only [go_sem, ↓reduceIte, reduceCtorEq, nA, nB, nC, nD, nE, nF, hhp, encKp] <;> and_intros <;> first | (apply hK1; clear hK1 K1) | (intros; first | omega | decide) | skip)))
  refine awp_cond (t := _) rfl (fun _ => ?_) (fun h9 => by cases h9)
  (repeat (first | refine gO rfl ?_ | (refine gR fun K1 hK1 => ?_; simp only [go_sem, ↓reduceIte, reduceCtorEq, nA, nB, nC, nD, nE, nF, hhp, encKp] <;> and_intros <;> first | (apply hK1; clear hK1 K1) | (intros; first | omega | decide) | skip)))
  simp only [Tryz.results22, go_sem, ↓reduceIte, reduceCtorEq, nA, nB, nC, nD, nE, nF]
  exact ⟨_, _, Weak.refl _, Hp.le.refl _, rfl, rfl⟩
 ·(repeat (first | refine gO rfl ?_ | (refine gR fun K1 hK1 => ?_; simp only [go_sem, ↓reduceIte, reduceCtorEq, nA, nB, nC, nD, nE, nF, hhp, encKp] <;> and_intros <;> first | (apply hK1; clear hK1 K1) | (intros; first | omega | decide) | skip)))
  refine awp_cond (t := _) rfl (fun h9 => by cases h9) (fun _ => ?_)
  (repeat (first | refine gO rfl ?_ | (refine gR fun K1 hK1 => ?_; simp only [go_sem, ↓reduceIte, reduceCtorEq, nA, nB, nC, nD, nE, nF, hhp, encKp] <;> and_intros <;> first | (apply hK1; clear hK1 K1) | (intros; first | omega | decide) | skip)))
  simp only [Tryz.results22, go_sem, ↓reduceIte, reduceCtorEq, nA, nB, nC, nD, nE, nF]
  exact ⟨_, _, Weak.refl _, Hp.le.refl _, rfl, rfl⟩
 ·(repeat (first | refine gO rfl ?_ | (refine gR fun K1 hK1 => ?_; simp only [go_sem, ↓reduceIte, reduceCtorEq, nA, nB, nC, nD, nE, nF, hhp, encKp] <;> and_intros <;> first | (apply hK1; clear hK1 K1) | (intros; first | omega | decide) | skip)))
  refine awp_cond (t := _) rfl (fun h9 => by cases h9) (fun _ => ?_)
  (repeat (first | refine gO rfl ?_ | (refine gR fun K1 hK1 => ?_; simp only [go_sem, ↓reduceIte, reduceCtorEq, nA, nB, nC, nD, nE, nF, hhp, encKp] <;> and_intros <;> first | (apply hK1; clear hK1 K1) | (intros; first | omega | decide) | skip)))
  simp only [Tryz.results22, go_sem, ↓reduceIte, reduceCtorEq, nA, nB, nC, nD, nE, nF]
  exact ⟨_, _, Weak.refl _, Hp.le.refl _, rfl, rfl⟩
 ·(repeat (first | refine gO rfl ?_ | (refine gR fun K1 hK1 => ?_; simp only [go_sem, ↓reduceIte, reduceCtorEq, nA, nB, nC, nD, nE, nF, hhp, encKp] <;> and_intros <;> first | (apply hK1; clear hK1 K1) | (intros; first | omega | decide) | skip)))
  refine awp_cond (t := _) rfl (fun _ => ?_) (fun h9 => by cases h9)
  (repeat (first | refine gO rfl ?_ | (refine gR fun K1 hK1 => ?_; simp only [go_sem, ↓reduceIte, reduceCtorEq, nA, nB, nC, nD, nE, nF, hhp, encKp] <;> and_intros <;> first | (apply hK1; clear hK1 K1) | (intros; first | omega | decide) | skip)))
  simp only [Tryz.results22, go_sem, ↓reduceIte, reduceCtorEq, nA, nB, nC, nD, nE, nF]
  exact ⟨_, _, Weak.refl _, Hp.le.refl _, rfl, rfl⟩
theorem g_putCN (bytes : Int) (hs : item.size ≤ 1000) (hn : keyB item = false ∨ ¬ (1 ≤ bytes ∧ bytes ≤ 1000000000000)) :
  ACalls Tryz.prog 16 [.ptr ci 0, .v (.string item), .v (.int .i64 bytes)] h (fun r h' => r = .tup [.v (.slice none 0 0), .v (.int .i64 (if keyB item = true then 1 else 5))] ∧ h' = h) := by
 have hKey := fun h => a_isKey item (by omega) h
 have hOut := fun h => a_outside bytes 1 1000000000000 h
 refine gE Tryz.func16 rfl (by kernel_rfl) 93 rfl fun c => ?_
 (repeat (first | refine gO rfl ?_ | ((first | refine gM zM33 ?_ | (with_reducible refine wM ?_ ?_) | ((with_reducible refine xS ?_); refine uD 9 zM33 zPHE zPHP 96 rfl (by kernel_rfl) ?_)) <;> ((try with_reducible intro K1 hK1); simp only [go_sem, ↓reduceIte, reduceCtorEq, nA, nB, nC, nD, nE, nF] <;> and_intros <;> first | (apply hK1; clear hK1 K1) | (intros; first | omega | decide) | skip))))
 refine (hKey _).mono ?_; rintro _ hz ⟨rfl, hh⟩; apply hK1; clear hK1 K1; rw [hh]; clear hh hz
 cases hk : keyB item with
 | false =>
  (repeat (first | refine gO rfl ?_ | ((first | refine gM zM33 ?_ | (with_reducible refine wM ?_ ?_) | ((with_reducible refine xS ?_); refine uD 9 zM33 zPHE zPHP 96 rfl (by kernel_rfl) ?_)) <;> ((try with_reducible intro K1 hK1); simp only [go_sem, ↓reduceIte, reduceCtorEq, nA, nB, nC, nD, nE, nF, Bool.not_false] <;> and_intros <;> first | (apply hK1; clear hK1 K1) | (intros; first | omega | decide) | skip))))
  refine awp_cond (t := _) rfl (fun _ => ?_) (fun h9 => by cases h9)
  (repeat (first | refine gO rfl ?_ | ((first | refine gM zM33 ?_ | (with_reducible refine wM ?_ ?_) | ((with_reducible refine xS ?_); refine uD 9 zM33 zPHE zPHP 96 rfl (by kernel_rfl) ?_)) <;> ((try with_reducible intro K1 hK1); simp only [go_sem, ↓reduceIte, reduceCtorEq, nA, nB, nC, nD, nE, nF] <;> and_intros <;> first | (apply hK1; clear hK1 K1) | (intros; first | omega | decide) | skip))))
  simp only [Tryz.results16, go_sem, ↓reduceIte, reduceCtorEq, nA, nB, nC, nD, nE, nF]
  exact ⟨_, _, Weak.refl _, Hp.le.refl _, rfl, rfl⟩
 | true =>
  have hb : ¬ (1 ≤ bytes ∧ bytes ≤ 1000000000000) := hn.resolve_left (by rw [hk]; decide)
  have hbb : (decide (bytes < 1) || decide (1000000000000 < bytes)) = true := by simp; omega
  rw [hbb] at hOut
  (repeat (first | refine gO rfl ?_ | ((first | refine gM zM33 ?_ | (with_reducible refine wM ?_ ?_) | ((with_reducible refine xS ?_); refine uD 9 zM33 zPHE zPHP 96 rfl (by kernel_rfl) ?_)) <;> ((try with_reducible intro K1 hK1); simp only [go_sem, ↓reduceIte, reduceCtorEq, nA, nB, nC, nD, nE, nF, Bool.not_true] <;> and_intros <;> first | (apply hK1; clear hK1 K1) | (intros; first | omega | decide) | skip))))
  refine awp_cond (t := _) rfl (fun h9 => by cases h9) (fun _ => ?_)
  (repeat (first | refine gO rfl ?_ | ((first | refine gM zM33 ?_ | (with_reducible refine wM ?_ ?_) | ((with_reducible refine xS ?_); refine uD 9 zM33 zPHE zPHP 96 rfl (by kernel_rfl) ?_)) <;> ((try with_reducible intro K1 hK1); simp only [go_sem, ↓reduceIte, reduceCtorEq, nA, nB, nC, nD, nE, nF] <;> and_intros <;> first | (apply hK1; clear hK1 K1) | (intros; first | omega | decide) | skip))))
  refine (hOut _).mono ?_; rintro _ hz ⟨rfl, hh⟩; apply hK1; clear hK1 K1; rw [hh]; clear hh hz
  (repeat (first | refine gO rfl ?_ | ((first | refine gM zM33 ?_ | (with_reducible refine wM ?_ ?_) | ((with_reducible refine xS ?_); refine uD 9 zM33 zPHE zPHP 96 rfl (by kernel_rfl) ?_)) <;> ((try with_reducible intro K1 hK1); simp only [go_sem, ↓reduceIte, reduceCtorEq, nA, nB, nC, nD, nE, nF] <;> and_intros <;> first | (apply hK1; clear hK1 K1) | (intros; first | omega | decide) | skip))))
  refine awp_cond (t := _) rfl (fun _ => ?_) (fun h9 => by cases h9)
  (repeat (first | refine gO rfl ?_ | ((first | refine gM zM33 ?_ | (with_reducible refine wM ?_ ?_) | ((with_reducible refine xS ?_); refine uD 9 zM33 zPHE zPHP 96 rfl (by kernel_rfl) ?_)) <;> ((try with_reducible intro K1 hK1); simp only [go_sem, ↓reduceIte, reduceCtorEq, nA, nB, nC, nD, nE, nF] <;> and_intros <;> first | (apply hK1; clear hK1 K1) | (intros; first | omega | decide) | skip))))
  simp only [Tryz.results16, go_sem, ↓reduceIte, reduceCtorEq, nA, nB, nC, nD, nE, nF]
  exact ⟨_, _, Weak.refl _, Hp.le.refl _, rfl, rfl⟩
end
open Go
set_option linter.unusedVariables false
set_option linter.unusedSimpArgs false
open Go Go.RowKit
def ARow (w : World) (a : Option Addr) (len cap : Nat) (zs : List Int) : Prop :=
 (a = none ∧ len = 0 ∧ cap = 0 ∧ zs = []) ∨ ∃ b : Addr, a = some b ∧ len ≤ cap ∧ cap ≤ maxLen ∧ zs.length = cap ∧ (∀ i, i < zs.length → w.cell? (b.add i) = some (.int .i64 (zs.getD i 0)) ∧ w.frozen? (b.add i) = false) ∧ (∀ n ∈ zs, (Lit.int .i64 n).wf = true)
def G0 (w : World) : Gh := ⟨fun g o => cellT w g o, fun _ => none, fun _ => none, 0⟩
def H0 : Hp := ⟨fun _ => none, fun _ => none⟩
theorem hsim_all (w : World) : HSim (G0 w) H0 w where
 val _ _ _ h := h
 obj _ _ h := by cases h
 inj _ _ _ h := absurd rfl h
 tok _ _ h := by cases h
 tinj _ _ _ _ h := absurd rfl h
 tobj _ _ _ h := absurd rfl h
 fat _ _ := rfl
 ftl _ _ := rfl
theorem below_of_fr {G G' : Gh} {h' : Hp} {w w' : World} (f : Fr G H0 w G' h' w') : Below w.heap.size w w' :=
 ⟨f.os, f.tape, f.output, f.size, fun b hb => (f.keep b hb (fun o => by rcases o with ⟨_, h, _⟩ | ⟨_, _, h, _⟩ <;> exact h rfl)).1⟩
theorem rep_v_inv0 {G : Gh} {x y : Value} (h : Rep G (.v x) y) : y = x := by cases h; rfl
theorem flat_encI (l : List Int) : (l.map encI).flatten = l.map fun x => AV.v (.int .i64 x) := by
 induction l with
 | nil => rfl
 | cons x q ih => simp [encI, ih]
theorem arow_rep {w : World} {a : Option Addr} {len cap : Nat} {zs : List Int} (h : ARow w a len cap zs) : ∃ l : List Int, SOk l ∧ Rep (G0 w) (.row 1 (l.map encI) none) (.slice a len cap) := by
 rcases h with ⟨rfl, rfl, rfl, _⟩ | ⟨⟨b, o, sp⟩, rfl, hl, hm, hz, hc, hwz⟩
 ·exact ⟨[], ⟨by simp, by simp⟩, .nil 1 none trivial⟩
 ·by_cases h0 : cap = 0
  ·subst h0
   obtain rfl : len = 0 := by omega
   exact ⟨[], ⟨by simp, by simp⟩, .nilA 1 _⟩
  ·have hsp : sp = none := by
    have h1 := (hc 0 (by omega)).1
    rw [show (⟨b, o, sp⟩ : Addr).add 0 = ⟨b, o, sp⟩ from rfl] at h1
    cases sp with
    | none => rfl
    | some s =>
     simp only [World.cell?] at h1
     split at h1 <;> simp at h1
   subst hsp
   refine ⟨zs.take len, ⟨by have hm2 : maxLen = 9223372036854775807 := rfl; rw [List.length_take]; omega, fun x hx => ?_⟩, ?_⟩
   ·have h1 := hwz x (List.mem_of_mem_take hx)
    simp only [Lit.wf, Bool.and_eq_true, decide_eq_true_eq] at h1
    exact ⟨h1.1, h1.2⟩
   ·have hlen : (zs.take len).length = len := by simp; omega
    have h2 := Rep.row_mk (G := G0 w) (z := 1) (xs := (zs.take len).map encI) (g := b) (o := o) (c := cap) (us := (zs.take len).map fun x => Value.int .i64 x) (by rw [List.length_map, hlen]; exact hl)
     (fun y hy => by obtain ⟨x, _, rfl⟩ := List.mem_map.1 hy; rfl) (by
      rw [flat_encI]
      refine ⟨by simp, fun j a b => ?_⟩
      simp only [List.getElem_map]
      exact ⟨.v _ rfl, rfl⟩) (fun j y hy => by
      rw [List.getElem?_map] at hy
      obtain ⟨x, hx, rfl⟩ := Option.map_eq_some_iff.1 hy
      rw [List.getElem?_take] at hx
      split at hx
      ·have hjl := (List.getElem?_eq_some_iff.1 hx).1
       have h3 := hc j hjl
       rw [List.getD_eq_getElem?_getD, hx, Addr.add_lit] at h3
       exact cellT_mk h3.1 (.inr h3.2)
      ·cases hx)
    rwa [List.length_map, hlen] at h2
theorem law_calls {f : Nat} (hlaw : ∀ (l : List Int) (h : Hp), SOk l → ACalls Tryz.prog f [.row 1 (l.map encI) none] h (fun r _ => r = .v (.bool true))) (a : Option Addr) (len cap : Nat) (zs : List Int) (w : World) (h : ARow w a len cap zs) :
  Calls Tryz.prog f #[.slice a len cap] w fun e w' => e = .returned (.bool true) ∧ Below w.heap.size w w' := by
 obtain ⟨l, hl, hrep⟩ := arow_rep h
 refine ((hlaw l H0 hl).calls _ w #[.slice a len cap] (hsim_all w) rfl (fun j hj => ?_)).mono ?_
 ·simp only [List.length_cons, List.length_nil, Nat.zero_add, Nat.lt_one_iff] at hj
  subst hj
  exact hrep
 ·rintro _ w' ⟨r, h', G', v, rfl, rfl, _, f, _, hv⟩
  exact ⟨by rw [rep_v_inv0 hv], below_of_fr f⟩
open Nat renaming reduceAdd → nA, reduceSub → nB, reduceMul → nC, reduceLT → nD, reduceLeDiff → nE, reduceEqDiff → nF, reduceMod → nG, reduceDiv → nH, reducePow → nI
set_option maxRecDepth 100000
set_option maxHeartbeats 16000000
theorem g_stockedC (h : Hp) : ACalls Tryz.prog 11 [] h (fun r _ => r = .v (.bool true)) := by
 refine gE Tryz.func11 rfl (by kernel_rfl) 14 rfl fun c => ?_
 (repeat (first | refine gO rfl ?_ | (refine gR fun K1 hK1 => ?_; simp only [go_sem, ↓reduceIte, reduceCtorEq, nA, nB, nC, nD, nE, nF] <;> and_intros <;> first | (apply hK1; clear hK1 K1) | (intros; first | omega | decide) | skip)))
 refine (g_miss5 h).mono ?_
 rintro _ h2 rfl; apply hK1; clear hK1 K1
 (repeat (first | refine gO rfl ?_ | (refine gR fun K1 hK1 => ?_; simp only [go_sem, ↓reduceIte, reduceCtorEq, nA, nB, nC, nD, nE, nF] <;> and_intros <;> first | (apply hK1; clear hK1 K1) | (intros; first | omega | decide) | skip)))
 simp only [Tryz.results11, go_sem, ↓reduceIte, reduceCtorEq, nA, nB, nC, nD, nE, nF]
 exact ⟨_, _, Weak.refl _, Hp.le.refl _, rfl⟩
def nm7 : List ByteArray := [⟨#[97]⟩, ⟨#[98]⟩, ⟨#[99]⟩, ⟨#[100]⟩, ⟨#[101]⟩, ⟨#[102]⟩, ⟨#[65]⟩]
theorem nm7_size : ∀ s ∈ nm7, s.size ≤ 1000 := by decide
theorem strm_neK {l : List Int} {a : Int} {x : Kp} : strm l a ≠ .cells (encKp x) := by
 unfold strm encKp; simp
theorem strm_neCa {l : List Int} {a : Int} {room rule now : Int} {k n : Nat} : strm l a ≠ .cells (encCa room rule now k n) := by
 unfold strm encCa; simp
theorem strm_neSt {l : List Int} {a : Int} {room rule came : Int} {k n : Nat} : strm l a ≠ .cells (encSt room rule came k n) := by
 unfold strm encSt; simp
theorem st_neK {x : Kp} {room rule came : Int} {k n : Nat} : AO.cells (encSt room rule came k n) ≠ .cells (encKp x) := by
 unfold encSt encKp; simp
theorem st_neCa {room rule came room2 rule2 now : Int} {k n k2 n2 : Nat} : AO.cells (encSt room rule came k n) ≠ .cells (encCa room2 rule2 now k2 n2) := by
 unfold encSt encCa; simp
structure MemH (h : Hp) (i : Nat) (l : List Int) (a : Int) (ci k si kS : Nat) (room rule now came : Int) (K : Nat → Kp) (ps : List Nat) (S : List Sk) : Prop where
 st : h.H i = some (strm l a)
 c : h.H ci = some (.cells (encCa room rule now k ps.length))
 t : h.T k = some (.cont 1 (ps.map encR))
 ks : CacheH h K ps
 ci : ci ∉ ps
 s : h.H si = some (.cells (encSt room rule came kS S.length))
 tS : h.T kS = some (.cont 5 (S.map encSk))
section
variable {h : Hp} {i : Nat} {l : List Int} {a : Int} {ci k si kS : Nat} {room rule now came : Int} {K : Nat → Kp} {ps : List Nat} {S : List Sk}
theorem MemH.ici (s : MemH h i l a ci k si kS room rule now came K ps S) : ci ≠ i := by
 rintro rfl
 have := s.st; rw [s.c] at this
 exact strm_neCa (Option.some.inj this).symm
theorem MemH.isi (s : MemH h i l a ci k si kS room rule now came K ps S) : si ≠ i := by
 rintro rfl
 have := s.st; rw [s.s] at this
 exact strm_neSt (Option.some.inj this).symm
theorem MemH.sci (s : MemH h i l a ci k si kS room rule now came K ps S) : si ≠ ci := by
 rintro rfl
 have := s.c; rw [s.s] at this
 exact st_neCa (Option.some.inj this)
theorem MemH.ips (s : MemH h i l a ci k si kS room rule now came K ps S) : i ∉ ps := fun hp => by
 have := s.st; rw [s.ks i hp] at this
 exact strm_neK (Option.some.inj this).symm
theorem MemH.sps (s : MemH h i l a ci k si kS room rule now came K ps S) : si ∉ ps := fun hp => by
 have := s.s; rw [s.ks si hp] at this
 exact st_neK (Option.some.inj this).symm
theorem MemH.kk (s : MemH h i l a ci k si kS room rule now came K ps S) : kS ≠ k := by
 rintro rfl
 have := s.t; rw [s.tS] at this
 injection this with this
 injection this with h1 _
 cases h1
theorem MemH.next (s : MemH h i l a ci k si kS room rule now came K ps S) (b : Int) : MemH (h.st i l b) i l b ci k si kS room rule now came K ps S :=
 ⟨st_at _ _ _ _, (upd_other _ _ s.ici).trans s.c, s.t, fun p hp => (upd_other _ _ (by rintro rfl; exact s.ips hp)).trans (s.ks p hp), s.ci, (upd_other _ _ s.isi).trans s.s, s.tS⟩
theorem MemH.cache (s : MemH h i l a ci k si kS room rule now came K ps S) {h' : Hp} {k' : Nat} {now' : Int} {K' : Nat → Kp} {ps' : List Nat}
  (hc : h'.H ci = some (.cells (encCa room rule now' k' ps'.length))) (ht : h'.T k' = some (.cont 1 (ps'.map encR))) (hks : CacheH h' K' ps') (hci : ci ∉ ps')
  (hH : ∀ q, h.H q ≠ none → q ≠ ci → q ∉ ps → h'.H q = h.H q) (hT : ∀ t, h.T t ≠ none → t ≠ k → h'.T t = h.T t) : MemH h' i l a ci k' si kS room rule now' came K' ps' S :=
 ⟨(hH i (by rw [s.st]; simp) (fun e => s.ici e.symm) s.ips).trans s.st, hc, ht, hks, hci, (hH si (by rw [s.s]; simp) s.sci s.sps).trans s.s, (hT kS (by rw [s.tS]; simp) s.kk).trans s.tS⟩
theorem MemH.stock (s : MemH h i l a ci k si kS room rule now came K ps S) {h' : Hp} {kS' : Nat} {came' : Int} {S' : List Sk}
  (hs : h'.H si = some (.cells (encSt room rule came' kS' S'.length))) (hts : h'.T kS' = some (.cont 5 (S'.map encSk)))
  (hH : ∀ q, h.H q ≠ none → q ≠ si → h'.H q = h.H q) (hT : ∀ t, h.T t ≠ none → t ≠ kS → h'.T t = h.T t) : MemH h' i l a ci k si kS' room rule now came' K ps S' :=
 ⟨(hH i (by rw [s.st]; simp) (fun e => s.isi e.symm)).trans s.st, (hH ci (by rw [s.c]; simp) (fun e => s.sci e.symm)).trans s.c, (hT k (by rw [s.t]; simp) (fun e => s.kk e.symm)).trans s.t,
  fun p hp => (hH p (by rw [s.ks p hp]; simp) (by rintro rfl; exact s.sps hp)).trans (s.ks p hp), s.ci, hs, hts⟩
theorem MemH.same (s : MemH h i l a ci k si kS room rule now came K ps S) {h' : Hp} (hH : h'.H = h.H) (ht : ∀ t, h.T t ≠ none → h'.T t = h.T t) : MemH h' i l a ci k si kS room rule now came K ps S :=
 ⟨by rw [hH]; exact s.st, by rw [hH]; exact s.c, (ht k (by rw [s.t]; simp)).trans s.t, fun p hp => by rw [hH]; exact s.ks p hp, s.ci, by rw [hH]; exact s.s, (ht kS (by rw [s.tS]; simp)).trans s.tS⟩
theorem MemH.ask1 (s : MemH h i l a ci k si kS room rule now came K ps S) {p : Nat} (hp : p ∈ ps) (f : Kp → Kp) (now' : Int) : MemH ⟨upd (upd h.H ci (some (.cells (encCa room rule now' k ps.length)))) p (some (.cells (encKp (f (K p))))), h.T⟩ i l a ci k si kS room rule now' came (fun q => if q = p then f (K p) else K q) ps S := by
 have hpc : ci ≠ p := by rintro rfl; exact s.ci hp
 refine s.cache ((upd_other _ _ hpc).trans (upd_same _ _ _)) s.t (fun q hq => ?_) s.ci (fun q _ h1 h2 => ?_) (fun _ _ _ => rfl)
 ·show upd (upd h.H ci _) p _ q = some (AO.cells (encKp (if q = p then f (K p) else K q)))
  by_cases e2 : q = p
  ·rw [e2, upd_same, if_pos rfl]
  ·rw [upd_other _ _ e2, upd_other _ _ (by rintro rfl; exact s.ci hq), if_neg e2]
   exact s.ks q hq
 ·show upd (upd h.H ci _) p _ q = _
  rw [upd_other _ _ (by rintro rfl; exact h2 hp), upd_other _ _ h1]
theorem MemH.pin1 (s : MemH h i l a ci k si kS room rule now came K ps S) {p : Nat} (hp : p ∈ ps) (f : Kp → Kp) : MemH ⟨upd h.H p (some (.cells (encKp (f (K p))))), h.T⟩ i l a ci k si kS room rule now came (fun q => if q = p then f (K p) else K q) ps S := by
 have hpc : ci ≠ p := by rintro rfl; exact s.ci hp
 refine s.cache ((upd_other _ _ hpc).trans s.c) s.t (fun q hq => ?_) s.ci (fun q _ h1 h2 => ?_) (fun _ _ _ => rfl)
 ·show upd h.H p _ q = some (AO.cells (encKp (if q = p then f (K p) else K q)))
  by_cases e2 : q = p
  ·rw [e2, upd_same, if_pos rfl]
  ·rw [upd_other _ _ e2, if_neg e2]
   exact s.ks q hq
 ·show upd h.H p _ q = _
  rw [upd_other _ _ (by rintro rfl; exact h2 hp)]
end
section
variable {names : List ByteArray} {now came : Int} {L : List Kp} {S : List Sk} {P : List Pr}
theorem SimP.posL (h : SimP names now came L S P) : ∀ x ∈ L, (1 ≤ x.2.1 ∧ x.2.1 ≤ 1000) ∧ (0 ≤ x.2.2.2.2.2 ∧ x.2.2.2.2.2 ≤ now) := fun x hx => by
 obtain ⟨p, hp, rfl⟩ := List.mem_map.1 (h.perm.mem_iff.2 hx)
 exact ⟨(h.agr p hp).b, (h.agr p hp).m⟩
theorem SimP.posS (h : SimP names now came L S P) : ∀ x ∈ S, (1 ≤ x.2.1 ∧ x.2.1 ≤ 1000) ∧ (0 ≤ x.2.2.1 ∧ x.2.2.1 ≤ now) := fun x hx => by
 rw [← h.snd] at hx
 obtain ⟨p, hp, rfl⟩ := List.mem_map.1 hx
 have A := h.agr p hp
 exact ⟨by rw [← A.bytes]; exact A.b, by rw [← A.many]; exact A.m⟩
end
theorem g_lawCfg (l : List Int) (h : Hp) (hl : SOk l) : ACalls Tryz.prog 3 [.row 1 (l.map encI) none] h (fun r _ => r = .v (.bool true)) := by
 have hp1 := fun i a h ha => g_pick i l a [1, 5, 10, 20, 50, 0] none h hl ha (by decide)
 have hp2 := fun i a h ha => g_pick i l a [1, 3, 5, 10, 20, 0] none h hl ha (by decide)
 have hs1 := fun i a h ha => g_some i l a nm7 none h hl ha (by decide)
 have hsv : nm7.map encS = [[.v (.string ⟨#[97]⟩)], [.v (.string ⟨#[98]⟩)], [.v (.string ⟨#[99]⟩)], [.v (.string ⟨#[100]⟩)], [.v (.string ⟨#[101]⟩)], [.v (.string ⟨#[102]⟩)], [.v (.string ⟨#[65]⟩)]] := rfl
 rw [hsv] at hs1
 simp only [List.map_cons, List.map_nil, encI] at hp1 hp2
 refine gE Tryz.func3 rfl (by kernel_rfl) 148 rfl fun c => ?_
 (repeat (first | refine gQ rfl ?_ | (refine gM zM34 fun K1 hK1 => ?_; simp only [go_sem, ↓reduceIte, reduceCtorEq, nA, nB, nC, nD, nE, nF] <;> and_intros <;> first | (apply hK1; clear hK1 K1) | (intros; first | omega | decide | (simp_all <;> omega)) | skip)))
 intro i hi
 refine hK1 _ ?_; clear hK1 K1
 have e0 : ({ H := upd h.H i (some (.cells [.row 1 (l.map encI) none, .v (.int .i64 0)])), T := h.T } : Hp) = h.st i l 0 := rfl
 rw [e0]
 (repeat (first | refine gO rfl ?_ | (refine gM zM34 fun K1 hK1 => ?_; simp only [go_sem, ↓reduceIte, reduceCtorEq, nA, nB, nC, nD, nE, nF] <;> and_intros <;> first | (apply hK1; clear hK1 K1) | (intros; first | omega | decide) | skip)))
 refine (hp1 i 0 h (by omega)).mono ?_; rintro _ _ ⟨room, hroom, rfl, rfl⟩; apply hK1; clear hK1 K1
 (repeat (first | refine gO rfl ?_ | (refine gM zM34 fun K1 hK1 => ?_; simp only [go_sem, ↓reduceIte, reduceCtorEq, nA, nB, nC, nD, nE, nF] <;> and_intros <;> first | (apply hK1; clear hK1 K1) | (intros; first | omega | decide) | skip)))
 refine (g_odd i l (0 + 1) 1 4 h hl (by omega) (by omega) (by omega) (by omega)).mono ?_; rintro _ _ ⟨rule, a1, hrule, ha1, rfl, rfl⟩; apply hK1; clear hK1 K1
 (repeat (first | refine gO rfl ?_ | (refine gM zM34 fun K1 hK1 => ?_; simp only [go_sem, ↓reduceIte, reduceCtorEq, nA, nB, nC, nD, nE, nF] <;> and_intros <;> first | (apply hK1; clear hK1 K1) | (intros; first | omega | decide) | skip)))
 by_cases hf : stkF room rule = 0
 case neg =>
  have hnc := fun h => g_newCacheN room rule h hf
  unfold nilP at hnc
  refine (hnc _).mono ?_; rintro _ hz ⟨rfl, hh⟩; apply hK1; clear hK1 K1; rw [hh]; clear hh hz
  (repeat (first | refine gO rfl ?_ | (refine gM zM34 fun K1 hK1 => ?_; simp only [go_sem, ↓reduceIte, reduceCtorEq, nA, nB, nC, nD, nE, nF] <;> and_intros <;> first | (apply hK1; clear hK1 K1) | (intros; first | omega | decide) | skip)))
  refine (g_stockFault room rule _).mono ?_; rintro _ hz ⟨rfl, hh⟩; apply hK1; clear hK1 K1; rw [hh]; clear hh hz
  obtain ⟨f, hfe⟩ : ∃ f, stkF room rule = f := ⟨_, rfl⟩
  rw [hfe] at hf ⊢
  have hf1 : (f != 0) = true := by simpa using hf
  have hf2 : (f == f) = true := by simp
  (repeat (first | refine gO rfl ?_ | (refine gM zM34 fun K1 hK1 => ?_; simp only [go_sem, ↓reduceIte, reduceCtorEq, nA, nB, nC, nD, nE, nF, hf1] <;> and_intros <;> first | (apply hK1; clear hK1 K1) | (intros; first | omega | decide) | skip)))
  all_goals try with_reducible rfl
  (repeat (first | refine gO rfl ?_ | (refine gM zM34 fun K1 hK1 => ?_; simp only [go_sem, ↓reduceIte, reduceCtorEq, nA, nB, nC, nD, nE, nF, hf1] <;> and_intros <;> first | (apply hK1; clear hK1 K1) | (intros; first | omega | decide) | skip)))
  refine awp_cond (t := _) rfl (fun _ => ?_) (fun h9 => by cases h9)
  (repeat (first | refine gO rfl ?_ | (refine gM zM34 fun K1 hK1 => ?_; simp only [go_sem, ↓reduceIte, reduceCtorEq, nA, nB, nC, nD, nE, nF, hf2] <;> and_intros <;> first | (apply hK1; clear hK1 K1) | (intros; first | omega | decide) | skip)))
  rotate_left
  ·exact fun h9 => h9.elim
  refine (g_stockedC _).mono ?_
  rintro _ h9 rfl
  refine ⟨rfl, hK1 _ ?_⟩; clear hK1 K1
  (repeat (first | refine gO rfl ?_ | (refine gM zM34 fun K1 hK1 => ?_; simp only [go_sem, ↓reduceIte, reduceCtorEq, nA, nB, nC, nD, nE, nF] <;> and_intros <;> first | (apply hK1; clear hK1 K1) | (intros; first | omega | decide) | skip)))
  simp only [Tryz.results3, go_sem, ↓reduceIte, reduceCtorEq, nA, nB, nC, nD, nE, nF]
  exact ⟨_, _, Weak.refl _, Hp.le.refl _, rfl⟩
 have hroom2 : 1 ≤ room ∧ room ≤ 50 := by
  unfold stkF at hf
  split at hf
  ·simp at hroom; omega
  ·cases hf
 have hrule2 : 1 ≤ rule ∧ rule ≤ 4 := by
  unfold stkF at hf
  split at hf
  ·split at hf
   ·assumption
   ·cases hf
  ·cases hf
 refine (g_newCache room rule _ (by omega) hrule2).mono ?_
 rintro _ _ ⟨ci, k, hci, hk, rfl, rfl⟩
 refine hK1 _ ?_; clear hK1 K1
 have hgs := fun h => g_stockFault room rule h
 rw [hf] at hgs
 (repeat (first | refine gO rfl ?_ | (refine gM zM34 fun K1 hK1 => ?_; simp only [go_sem, ↓reduceIte, reduceCtorEq, nA, nB, nC, nD, nE, nF] <;> and_intros <;> first | (apply hK1; clear hK1 K1) | (intros; first | omega | decide) | skip)))
 refine (hgs _).mono ?_; rintro _ hz ⟨rfl, hh⟩; apply hK1; clear hK1 K1; rw [hh]; clear hh hz
 (repeat (first | refine gO rfl ?_ | (refine gM zM34 fun K1 hK1 => ?_; simp only [go_sem, ↓reduceIte, reduceCtorEq, nA, nB, nC, nD, nE, nF] <;> and_intros <;> first | (apply hK1; clear hK1 K1) | (intros; first | omega | decide) | skip)))
 refine awp_cond (t := _) rfl (fun h9 => by cases h9) (fun _ => ?_)
 (repeat (first | refine gO rfl ?_ | (refine gM zM34 fun K1 hK1 => ?_; simp only [go_sem, ↓reduceIte, reduceCtorEq, nA, nB, nC, nD, nE, nF] <;> and_intros <;> first | (apply hK1; clear hK1 K1) | (intros; first | omega | decide) | skip)))
 refine (g_newStock room rule _).mono ?_
 rintro _ _ ⟨si, kS, hsi, hkS, rfl, rfl⟩
 refine hK1 _ ?_; clear hK1 K1
 have hic : ci ≠ i := by rintro rfl; rw [st_at] at hci; cases hci
 replace hsi : upd (h.st i l a1).H ci (some (AO.cells (encCa room rule 0 k 0))) si = none := hsi
 replace hkS : upd (h.st i l a1).T k (some (TO.cont 1 [])) kS = none := hkS
 have hsc : si ≠ ci := by rintro rfl; rw [upd_same] at hsi; cases hsi
 have hks : kS ≠ k := by rintro rfl; rw [upd_same] at hkS; cases hkS
 rw [upd_other _ _ hsc] at hsi
 have his : si ≠ i := by rintro rfl; rw [st_at] at hsi; cases hsi
 obtain ⟨h1, eh1⟩ : ∃ h1 : Hp, h1 = ⟨upd (upd (h.st i l a1).H ci (some (.cells (encCa room rule 0 k 0)))) si (some (.cells (encSt room rule 0 kS 0))), upd (upd (h.st i l a1).T k (some (.cont 1 []))) kS (some (.cont 5 []))⟩ := ⟨_, rfl⟩
 have F1 : MemH h1 i l a1 ci k si kS room rule 0 0 (fun _ => default) [] [] := by
  rw [eh1]
  exact ⟨(upd_other _ _ his.symm).trans ((upd_other _ _ hic.symm).trans (st_at _ _ _ _)), (upd_other _ _ hsc.symm).trans (upd_same _ _ _), (upd_other _ _ hks.symm).trans (upd_same _ _ _), (fun p hp => by cases hp), (by simp), upd_same _ _ _, upd_same _ _ _⟩
 have X1 : SimP nm7 0 0 (([] : List Nat).map fun _ => default) [] [] := ⟨⟨(fun p hp => by cases hp), List.Pairwise.nil, (fun p hp => by cases hp), List.Pairwise.nil⟩, List.Perm.refl _, rfl⟩
 rw [← eh1]
 clear eh1 hci hk hi e0 hsi hkS hgs hic hsc hks his
 (repeat (first | refine gO rfl ?_ | (refine gM zM34 fun K1 hK1 => ?_; simp only [go_sem, ↓reduceIte, reduceCtorEq, nA, nB, nC, nD, nE, nF] <;> and_intros <;> first | (apply hK1; clear hK1 K1) | (intros; first | omega | decide) | skip)))
 have e1 := st_of F1.st
 rw [e1]
 clear e1
 refine (g_range i l a1 0 24 _ hl (by omega) (by omega) (by omega) (by omega)).mono ?_; rintro _ _ ⟨m0, hm0, rfl, rfl⟩; apply hK1; clear hK1 K1
 obtain ⟨m, rfl⟩ : ∃ m : Nat, m0 = m := ⟨m0.toNat, by omega⟩
 have F2 := F1.next (a1 + 1)
 generalize h1.st i l (a1 + 1) = h2 at *
 clear F1
 (repeat (first | refine gO rfl ?_ | (refine gM zM34 fun K1 hK1 => ?_; simp only [go_sem, ↓reduceIte, reduceCtorEq, nA, nB, nC, nD, nE, nF] <;> and_intros <;> first | (apply hK1; clear hK1 K1) | (intros; first | omega | decide) | skip)))
 refine awp_loopC (rl false [3, 1, 2, 1, 2, 1, 52, 2, 85]) 0 (fun g s => ∃ (j : Nat) (a now came : Int) (K : Nat → Kp) (ps : List Nat) (S : List Sk) (P : List Pr) (k kS : Nat) (h' : Hp), g + j = m ∧ 0 ≤ a ∧ a ≤ 10 + 3 * j ∧ 0 ≤ now ∧ now ≤ j ∧ 0 ≤ came ∧ came ≤ j ∧ MemH h' i l a ci k si kS room rule now came K ps S ∧ SimP nm7 now came (ps.map K) S P ∧
  s = ⟨((jnk 3 ((.ptr i 0) :: AV.junk :: AV.junk :: ((.ptr ci 0) :: AV.junk :: AV.junk :: ((.ptr si 0) :: (jnk 52 ((.v (.int .i64 m)) :: (.v (.int .i64 j)) :: (jnk 85 [])))))))), [], h'⟩) m ⟨0, a1 + 1, 0, 0, _, _, _, _, _, _, _, by omega, by omega, by omega, by omega, by omega, by omega, by omega, F2, X1, rfl⟩ ?_
 clear F2 X1 h2 ha1
 rintro g _ ⟨j, a, now, came, K, ps, S, P, k, kS, h', hj, ha, ha2, hn, hn2, hcm, hcm2, F, X, rfl⟩
 (repeat (first | refine gO rfl ?_ | (refine gM zM34 fun K1 hK1 => ?_; simp only [go_sem, ↓reduceIte, reduceCtorEq, nA, nB, nC, nD, nE, nF] <;> and_intros <;> first | (apply hK1; clear hK1 K1) | (intros; first | omega | decide) | skip)))
 refine awp_cond (t := _) rfl (fun h5 => ?_) (fun h5 => ?_)
 ·simp only [decide_eq_true_eq] at h5
  have e1 := st_of F.st
  rw [e1]
  clear e1
  (repeat (first | refine gO rfl ?_ | (refine gM zM34 fun K1 hK1 => ?_; simp only [go_sem, ↓reduceIte, reduceCtorEq, nA, nB, nC, nD, nE, nF] <;> and_intros <;> first | (apply hK1; clear hK1 K1) | (intros; first | omega | decide) | skip)))
  refine (hs1 i a _ (by omega)).mono ?_; rintro _ _ ⟨item, hitem, rfl, rfl⟩; apply hK1; clear hK1 K1
  have hsz := nm7_size item hitem
  have F2 := F.next (a + 1)
  generalize h'.st i l (a + 1) = h2 at *
  clear F
  (repeat (first | refine gQ rfl ?_ | (refine gM zM34 fun K1 hK1 => ?_; simp only [go_sem, ↓reduceIte, reduceCtorEq, nA, nB, nC, nD, nE, nF] <;> and_intros <;> first | (apply hK1; clear hK1 K1) | (intros; first | omega | decide | (simp_all <;> omega)) | skip)))
  refine awp_seqJ (rl false [3, 1, 2, 1, 2, 1, 52, 2, 85]) 0 (fun s => ∃ (a' now' came' : Int) (K' : Nat → Kp) (ps' : List Nat) (S' : List Sk) (P' : List Pr) (k' kS' : Nat) (h3 : Hp), (0 ≤ a' ∧ a' ≤ a + 3) ∧ (0 ≤ now' ∧ now' ≤ now + 1) ∧ (0 ≤ came' ∧ came' ≤ came + 1) ∧ MemH h3 i l a' ci k' si kS' room rule now' came' K' ps' S' ∧ SimP nm7 now' came' (ps'.map K') S' P' ∧
   s = ⟨((jnk 3 ((.ptr i 0) :: AV.junk :: AV.junk :: ((.ptr ci 0) :: AV.junk :: AV.junk :: ((.ptr si 0) :: (jnk 52 ((.v (.int .i64 m)) :: (.v (.int .i64 j)) :: (jnk 85 [])))))))), [], h3⟩) ?_ ?_
  ·have e1 := st_of F2.st
   rw [e1]
   clear e1
   (repeat (first | refine gQ rfl ?_ | (refine gM zM34 fun K1 hK1 => ?_; simp only [go_sem, ↓reduceIte, reduceCtorEq, nA, nB, nC, nD, nE, nF] <;> and_intros <;> first | (apply hK1; clear hK1 K1) | (intros; first | omega | decide | (simp_all <;> omega)) | skip)))
   refine (g_next i l (a + 1) 6 _ hl (by omega) (by omega)).mono ?_; rintro _ _ ⟨x, hx, rfl, rfl⟩; apply hK1; clear hK1 K1
   have F3 := F2.next (a + 1 + 1)
   generalize h2.st i l (a + 1 + 1) = h3 at *
   clear F2
   (repeat (first | refine gQ rfl ?_ | (refine gM zM34 fun K1 hK1 => ?_; simp only [go_sem, ↓reduceIte, reduceCtorEq, nA, nB, nC, nD, nE, nF] <;> and_intros <;> first | (apply hK1; clear hK1 K1) | (intros; first | omega | decide | (simp_all <;> omega)) | skip)))
   refine awp_seqJ (rl false [3, 1, 2, 1, 2, 2, 51, 2, 5, 1, 11, 1, 67]) 0 (fun s => ∃ b : Bool, s = ⟨((jnk 3 ((.ptr i 0) :: AV.junk :: AV.junk :: ((.ptr ci 0) :: AV.junk :: AV.junk :: ((.ptr si 0) :: (.v (.string item)) :: (jnk 51 ((.v (.int .i64 m)) :: (.v (.int .i64 j)) :: (jnk 5 ((.v (.int .i64 x)) :: (jnk 11 ((.v (.bool b)) :: (jnk 67 [])))))))))))), [], h3⟩) ?_ ?_
   ·(repeat (first | refine gO rfl ?_ | (refine gM zM34 fun K1 hK1 => ?_; simp only [go_sem, ↓reduceIte, reduceCtorEq, nA, nB, nC, nD, nE, nF] <;> and_intros <;> first | (apply hK1; clear hK1 K1) | (intros; first | omega | decide) | skip)))
    refine awp_cond (t := _) rfl (fun h9 => ?_) (fun h9 => ?_)
    ·(repeat (first | refine gO rfl ?_ | (refine gM zM34 fun K1 hK1 => ?_; simp only [go_sem, ↓reduceIte, reduceCtorEq, nA, nB, nC, nD, nE, nF] <;> and_intros <;> first | (apply hK1; clear hK1 K1) | (intros; first | omega | decide) | skip)))
     exact ⟨_, rfl⟩
    ·(repeat (first | refine gO rfl ?_ | (refine gM zM34 fun K1 hK1 => ?_; simp only [go_sem, ↓reduceIte, reduceCtorEq, nA, nB, nC, nD, nE, nF] <;> and_intros <;> first | (apply hK1; clear hK1 K1) | (intros; first | omega | decide) | skip)))
     refine awp_cond (t := _) rfl (fun h9 => ?_) (fun h9 => ?_)
     ·(repeat (first | refine gO rfl ?_ | (refine gM zM34 fun K1 hK1 => ?_; simp only [go_sem, ↓reduceIte, reduceCtorEq, nA, nB, nC, nD, nE, nF] <;> and_intros <;> first | (apply hK1; clear hK1 K1) | (intros; first | omega | decide) | skip)))
      exact ⟨_, rfl⟩
     ·(repeat (first | refine gO rfl ?_ | (refine gM zM34 fun K1 hK1 => ?_; simp only [go_sem, ↓reduceIte, reduceCtorEq, nA, nB, nC, nD, nE, nF] <;> and_intros <;> first | (apply hK1; clear hK1 K1) | (intros; first | omega | decide) | skip)))
      exact ⟨_, rfl⟩
   rintro _ ⟨b, rfl⟩
   have hlen := X.len
   rw [List.length_map] at hlen
   have hlen7 : S.length ≤ 7 := hlen.2.2
   have hlp : ps.length ≤ 7 := by omega
   refine awp_cond (t := _) rfl (fun _ => ?_) (fun _ => ?_)
   ·have e1 := st_of F3.st
    rw [e1]
    clear e1
    (repeat (first | refine gO rfl ?_ | (refine gM zM34 fun K1 hK1 => ?_; simp only [go_sem, ↓reduceIte, reduceCtorEq, nA, nB, nC, nD, nE, nF] <;> and_intros <;> first | (apply hK1; clear hK1 K1) | (intros; first | omega | decide) | skip)))
    refine (hp2 i (a + 1 + 1) _ (by omega)).mono ?_; rintro _ _ ⟨bytes, hbytes, rfl, rfl⟩; apply hK1; clear hK1 K1
    have hbb : bytes = 0 ∨ (1 ≤ bytes ∧ bytes ≤ 20) := by simp at hbytes; omega
    have F4 := F3.next (a + 1 + 1 + 1)
    generalize h3.st i l (a + 1 + 1 + 1) = h4 at *
    clear F3 hbytes
    by_cases hok : keyB item = true ∧ 1 ≤ bytes
    ·have hb2 : 1 ≤ bytes ∧ bytes ≤ 20 := by omega
     have hkk := fun h => a_isKey item (by omega) h
     rw [hok.1] at hkk
     have hpu := g_put (room := room) (rule := rule) (now := now) (bytes := bytes) (item := item) F4.c F4.t (by omega) F4.ks F4.ci X.one hkk (fun p hp => by have := X.posL _ (List.mem_map_of_mem hp); omega) (fun p hp => by have := X.posL _ (List.mem_map_of_mem hp); omega) (by omega) (by omega) (by omega)
     have hsim := X.put (room := room) (rule := rule) (bytes := bytes) hn (by omega) hitem
     (repeat (first | refine gO rfl ?_ | (refine gM zM34 fun K1 hK1 => ?_; simp only [go_sem, ↓reduceIte, reduceCtorEq, nA, nB, nC, nD, nE, nF] <;> and_intros <;> first | (apply hK1; clear hK1 K1) | (intros; first | omega | decide) | skip)))
     refine hpu.mono ?_
     intro rp h5 hR
     unfold PutR at hR
     cases hput : putL room rule now (ps.map K) item bytes with
     | none =>
      rw [hput] at hR hsim
      obtain ⟨rfl, hH, hT⟩ := hR
      have F5 := F4.same hH hT
      refine hK1 _ ?_; clear hK1 K1 hpu
      have hst := g_putSY (room := room) (rule := rule) (came := came) (item := item) bytes F5.s F5.tS (by omega) hsz hok.1 (by omega) (fun x hx => by have := X.posS x hx; omega) (fun x hx => by have := X.posS x hx; omega) (by omega) (by omega)
      (repeat (first | refine gO rfl ?_ | (refine gM zM34 fun K1 hK1 => ?_; simp only [go_sem, ↓reduceIte, reduceCtorEq, nA, nB, nC, nD, nE, nF] <;> and_intros <;> first | (apply hK1; clear hK1 K1) | (intros; first | omega | decide) | skip)))
      refine hst.mono ?_
      intro rq h6 hQ
      unfold PutSR at hQ
      simp only at hsim
      rw [hsim] at hQ
      obtain ⟨kS', S', came', hs', ht', hH', hT', rfl, e8, e9⟩ := hQ
      rw [e8, e9] at hs'
      rw [e8] at ht'
      have F6 := F5.stock hs' ht' hH' (fun t h1 h2 => (hT' t h1 h2).2)
      refine hK1 _ ?_; clear hK1 K1 hst
      (repeat (first | refine gO rfl ?_ | (refine gM zM34 fun K1 hK1 => ?_; simp only [go_sem, ↓reduceIte, reduceCtorEq, nA, nB, nC, nD, nE, nF] <;> and_intros <;> first | (apply hK1; clear hK1 K1) | (intros; first | omega | decide) | skip)))
      rotate_left
      ·intro h9; exact absurd h9 (by decide)
      intro h9
      refine ⟨h9, ?_⟩
      refine (g_eqSN _).mono ?_
      rintro _ _ ⟨rfl, rfl⟩
      refine ⟨rfl, hK1 _ ?_⟩; clear hK1 K1 h9
      (repeat (first | refine gO rfl ?_ | (refine gM zM34 fun K1 hK1 => ?_; simp only [go_sem, ↓reduceIte, reduceCtorEq, nA, nB, nC, nD, nE, nF] <;> and_intros <;> first | (apply hK1; clear hK1 K1) | (intros; first | omega | decide) | skip)))
      refine awp_cond (t := _) rfl (fun h9 => by cases h9) (fun _ => ?_)
      (repeat (first | refine gO rfl ?_ | (refine gM zM34 fun K1 hK1 => ?_; simp only [go_sem, ↓reduceIte, reduceCtorEq, nA, nB, nC, nD, nE, nF] <;> and_intros <;> first | (apply hK1; clear hK1 K1) | (intros; first | omega | decide) | skip)))
      exact ⟨a + 1 + 1 + 1, now, came, K, ps, S, P, k, kS', _, by omega, by omega, by omega, F6, X, rfl⟩
     | some y =>
      obtain ⟨L', gn⟩ := y
      rw [hput] at hR hsim
      obtain ⟨K2, ps2, k2, kt, rfl, hL, hK2, hC2, hT2, hcp2, hHk, hTk⟩ := hR
      obtain ⟨S2, P2, hev, X2⟩ := hsim
      have F5 := F4.cache hC2 hT2 hK2 hcp2 hHk hTk
      refine hK1 _ ?_; clear hK1 K1 hpu
      have hst := g_putSY (room := room) (rule := rule) (came := came) (item := item) bytes F5.s F5.tS (by omega) hsz hok.1 (by omega) (fun x hx => by have := X.posS x hx; omega) (fun x hx => by have := X.posS x hx; omega) (by omega) (by omega)
      (repeat (first | refine gO rfl ?_ | (refine gM zM34 fun K1 hK1 => ?_; simp only [go_sem, ↓reduceIte, reduceCtorEq, nA, nB, nC, nD, nE, nF] <;> and_intros <;> first | (apply hK1; clear hK1 K1) | (intros; first | omega | decide) | skip)))
      refine hst.mono ?_
      intro rq h6 hQ
      unfold PutSR at hQ
      rw [hev] at hQ
      obtain ⟨kS', S', came', hs', ht', hH', hT', ⟨kt2, rfl⟩, e8, e9⟩ := hQ
      rw [e8, e9] at hs'
      rw [e8] at ht'
      rw [← hL] at X2
      have hcb : 0 ≤ cameS item came S ∧ cameS item came S ≤ came + 1 := by unfold cameS; split <;> omega
      have F6 := F5.stock hs' ht' hH' (fun t h1 h2 => (hT' t h1 h2).2)
      refine hK1 _ ?_; clear hK1 K1 hst
      have hrow : gn.map encNm = (gn.map fun x : Kp => x.1).map encS := by rw [List.map_map]; rfl
      have hgl : (gn.map fun x : Kp => x.1).length ≤ 1000000 := by have := putL_gone hput; rw [List.length_map] at *; omega
      have heq := fun h => g_eqSR (gn.map fun x : Kp => x.1) (some kt) (some kt2) h hgl
      rw [hrow]
      (repeat (first | refine gO rfl ?_ | (refine gM zM34 fun K1 hK1 => ?_; simp only [go_sem, ↓reduceIte, reduceCtorEq, nA, nB, nC, nD, nE, nF] <;> and_intros <;> first | (apply hK1; clear hK1 K1) | (intros; first | omega | decide) | skip)))
      rotate_left
      ·intro h9; exact absurd h9 (by decide)
      intro h9
      refine ⟨h9, ?_⟩
      refine (heq _).mono ?_
      rintro _ _ ⟨rfl, rfl⟩
      refine ⟨rfl, hK1 _ ?_⟩; clear hK1 K1 h9
      (repeat (first | refine gO rfl ?_ | (refine gM zM34 fun K1 hK1 => ?_; simp only [go_sem, ↓reduceIte, reduceCtorEq, nA, nB, nC, nD, nE, nF] <;> and_intros <;> first | (apply hK1; clear hK1 K1) | (intros; first | omega | decide) | skip)))
      refine awp_cond (t := _) rfl (fun h9 => by cases h9) (fun _ => ?_)
      (repeat (first | refine gO rfl ?_ | (refine gM zM34 fun K1 hK1 => ?_; simp only [go_sem, ↓reduceIte, reduceCtorEq, nA, nB, nC, nD, nE, nF] <;> and_intros <;> first | (apply hK1; clear hK1 K1) | (intros; first | omega | decide) | skip)))
      exact ⟨a + 1 + 1 + 1, now + 1, cameS item came S, K2, ps2, S2, P2, k2, kS', _, by omega, by omega, by omega, F6, X2, rfl⟩
    ·have hn1 : keyB item = false ∨ ¬ (1 ≤ bytes ∧ bytes ≤ 1000000000000) := by
      cases hkb : keyB item with
      | false => exact .inl rfl
      | true => exact .inr fun e => hok ⟨hkb, e.1⟩
     have hA := fun h => g_putCN (ci := ci) (h := h) (item := item) bytes hsz hn1
     have hB := g_putSE (room := room) (rule := rule) (came := came) (k := kS) (S := S) (si := si) (h := h4) (item := item) bytes F4.s hsz hn1
     obtain ⟨cd, hcd⟩ : ∃ cd, (if keyB item = true then (1 : Int) else 5) = cd := ⟨_, rfl⟩
     rw [hcd] at hA hB
     have hcc : (cd != cd) = false := by simp
     (repeat (first | refine gO rfl ?_ | (refine gM zM34 fun K1 hK1 => ?_; simp only [go_sem, ↓reduceIte, reduceCtorEq, nA, nB, nC, nD, nE, nF] <;> and_intros <;> first | (apply hK1; clear hK1 K1) | (intros; first | omega | decide) | skip)))
     refine (hA _).mono ?_; rintro _ hz ⟨rfl, hh⟩; apply hK1; clear hK1 K1; rw [hh]; clear hh hz
     (repeat (first | refine gO rfl ?_ | (refine gM zM34 fun K1 hK1 => ?_; simp only [go_sem, ↓reduceIte, reduceCtorEq, nA, nB, nC, nD, nE, nF] <;> and_intros <;> first | (apply hK1; clear hK1 K1) | (intros; first | omega | decide) | skip)))
     refine hB.mono ?_; rintro _ hz ⟨rfl, hh⟩; apply hK1; clear hK1 K1; rw [hh]; clear hh hz
     (repeat (first | refine gO rfl ?_ | (refine gM zM34 fun K1 hK1 => ?_; simp only [go_sem, ↓reduceIte, reduceCtorEq, nA, nB, nC, nD, nE, nF, hcc] <;> and_intros <;> first | (apply hK1; clear hK1 K1) | (intros; first | omega | decide) | skip)))
     rotate_left
     ·exact fun h9 => h9.elim
     refine (g_eqSN _).mono ?_
     rintro _ _ ⟨rfl, rfl⟩
     refine ⟨rfl, hK1 _ ?_⟩; clear hK1 K1
     (repeat (first | refine gO rfl ?_ | (refine gM zM34 fun K1 hK1 => ?_; simp only [go_sem, ↓reduceIte, reduceCtorEq, nA, nB, nC, nD, nE, nF] <;> and_intros <;> first | (apply hK1; clear hK1 K1) | (intros; first | omega | decide) | skip)))
     refine awp_cond (t := _) rfl (fun h9 => by cases h9) (fun _ => ?_)
     (repeat (first | refine gO rfl ?_ | (refine gM zM34 fun K1 hK1 => ?_; simp only [go_sem, ↓reduceIte, reduceCtorEq, nA, nB, nC, nD, nE, nF] <;> and_intros <;> first | (apply hK1; clear hK1 K1) | (intros; first | omega | decide) | skip)))
     exact ⟨a + 1 + 1 + 1, now, came, K, ps, S, P, k, kS, _, by omega, by omega, by omega, F4, X, rfl⟩
   ·(repeat (first | refine gQ rfl ?_ | (refine gM zM34 fun K1 hK1 => ?_; simp only [go_sem, ↓reduceIte, reduceCtorEq, nA, nB, nC, nD, nE, nF] <;> and_intros <;> first | (apply hK1; clear hK1 K1) | (intros; first | omega | decide | (simp_all <;> omega)) | skip)))
    refine awp_seqJ (rl false [3, 1, 2, 1, 2, 2, 51, 2, 5, 1, 41, 1, 37]) 0 (fun s => ∃ b : Bool, s = ⟨((jnk 3 ((.ptr i 0) :: AV.junk :: AV.junk :: ((.ptr ci 0) :: AV.junk :: AV.junk :: ((.ptr si 0) :: (.v (.string item)) :: (jnk 51 ((.v (.int .i64 m)) :: (.v (.int .i64 j)) :: (jnk 5 ((.v (.int .i64 x)) :: (jnk 41 ((.v (.bool b)) :: (jnk 37 [])))))))))))), [], h3⟩) ?_ ?_
    ·(repeat (first | refine gO rfl ?_ | (refine gM zM34 fun K1 hK1 => ?_; simp only [go_sem, ↓reduceIte, reduceCtorEq, nA, nB, nC, nD, nE, nF] <;> and_intros <;> first | (apply hK1; clear hK1 K1) | (intros; first | omega | decide) | skip)))
     refine awp_cond (t := _) rfl (fun h9 => ?_) (fun h9 => ?_)
     ·(repeat (first | refine gO rfl ?_ | (refine gM zM34 fun K1 hK1 => ?_; simp only [go_sem, ↓reduceIte, reduceCtorEq, nA, nB, nC, nD, nE, nF] <;> and_intros <;> first | (apply hK1; clear hK1 K1) | (intros; first | omega | decide) | skip)))
      exact ⟨_, rfl⟩
     ·(repeat (first | refine gO rfl ?_ | (refine gM zM34 fun K1 hK1 => ?_; simp only [go_sem, ↓reduceIte, reduceCtorEq, nA, nB, nC, nD, nE, nF] <;> and_intros <;> first | (apply hK1; clear hK1 K1) | (intros; first | omega | decide) | skip)))
      exact ⟨_, rfl⟩
    rintro _ ⟨b2, rfl⟩
    refine awp_cond (t := _) rfl (fun _ => ?_) (fun _ => ?_)
    ·rcases X.find item with ⟨_, hfn, hix, hh, _⟩ | ⟨p, hp, iS, hk, hfn, hix, hxx, hpL, hpk, hcut, hpe⟩
     ·have hA := g_askCN (item := item) F3.c F3.t (by omega) F3.ks hsz (.inr hh)
      have hB := g_askN (item := item) F3.s F3.tS (by omega) hsz (.inr hix)
      obtain ⟨cd, hcd⟩ : ∃ cd, (if keyB item = true then (0 : Int) else 5) = cd := ⟨_, rfl⟩
      rw [hcd] at hA hB
      have hcc : (cd != cd) = false := by simp
      (repeat (first | refine gO rfl ?_ | (refine gM zM34 fun K1 hK1 => ?_; simp only [go_sem, ↓reduceIte, reduceCtorEq, nA, nB, nC, nD, nE, nF] <;> and_intros <;> first | (apply hK1; clear hK1 K1) | (intros; first | omega | decide) | skip)))
      refine hA.mono ?_; rintro _ hz ⟨rfl, hh⟩; apply hK1; clear hK1 K1; rw [hh]; clear hh hz
      (repeat (first | refine gO rfl ?_ | (refine gM zM34 fun K1 hK1 => ?_; simp only [go_sem, ↓reduceIte, reduceCtorEq, nA, nB, nC, nD, nE, nF] <;> and_intros <;> first | (apply hK1; clear hK1 K1) | (intros; first | omega | decide) | skip)))
      refine hB.mono ?_; rintro _ hz ⟨rfl, hh⟩; apply hK1; clear hK1 K1; rw [hh]; clear hh hz
      (repeat (first | refine gO rfl ?_ | (refine gM zM34 fun K1 hK1 => ?_; simp only [go_sem, ↓reduceIte, reduceCtorEq, nA, nB, nC, nD, nE, nF, hcc] <;> and_intros <;> first | (apply hK1; clear hK1 K1) | (intros; first | omega | decide) | skip)))
      refine awp_cond (t := _) rfl (fun h9 => by cases h9) (fun _ => ?_)
      (repeat (first | refine gO rfl ?_ | (refine gM zM34 fun K1 hK1 => ?_; simp only [go_sem, ↓reduceIte, reduceCtorEq, nA, nB, nC, nD, nE, nF] <;> and_intros <;> first | (apply hK1; clear hK1 K1) | (intros; first | omega | decide) | skip)))
      exact ⟨a + 1 + 1, now, came, K, ps, S, P, k, kS, _, by omega, by omega, by omega, F3, X, rfl⟩
     ·cases hkb : keyB item with
      | false =>
       have hA := g_askCN (item := item) F3.c F3.t (by omega) F3.ks hsz (.inl hkb)
       have hB := g_askN (item := item) F3.s F3.tS (by omega) hsz (.inl hkb)
       rw [if_neg (by rw [hkb]; decide)] at hA hB
       (repeat (first | refine gO rfl ?_ | (refine gM zM34 fun K1 hK1 => ?_; simp only [go_sem, ↓reduceIte, reduceCtorEq, nA, nB, nC, nD, nE, nF] <;> and_intros <;> first | (apply hK1; clear hK1 K1) | (intros; first | omega | decide) | skip)))
       refine hA.mono ?_; rintro _ hz ⟨rfl, hh⟩; apply hK1; clear hK1 K1; rw [hh]; clear hh hz
       (repeat (first | refine gO rfl ?_ | (refine gM zM34 fun K1 hK1 => ?_; simp only [go_sem, ↓reduceIte, reduceCtorEq, nA, nB, nC, nD, nE, nF] <;> and_intros <;> first | (apply hK1; clear hK1 K1) | (intros; first | omega | decide) | skip)))
       refine hB.mono ?_; rintro _ hz ⟨rfl, hh⟩; apply hK1; clear hK1 K1; rw [hh]; clear hh hz
       (repeat (first | refine gO rfl ?_ | (refine gM zM34 fun K1 hK1 => ?_; simp only [go_sem, ↓reduceIte, reduceCtorEq, nA, nB, nC, nD, nE, nF] <;> and_intros <;> first | (apply hK1; clear hK1 K1) | (intros; first | omega | decide) | skip)))
       refine awp_cond (t := _) rfl (fun h9 => by cases h9) (fun _ => ?_)
       (repeat (first | refine gO rfl ?_ | (refine gM zM34 fun K1 hK1 => ?_; simp only [go_sem, ↓reduceIte, reduceCtorEq, nA, nB, nC, nD, nE, nF] <;> and_intros <;> first | (apply hK1; clear hK1 K1) | (intros; first | omega | decide) | skip)))
       exact ⟨a + 1 + 1, now, came, K, ps, S, P, k, kS, _, by omega, by omega, by omega, F3, X, rfl⟩
      | true =>
       obtain ⟨pp, hpp, hppk⟩ := List.mem_map.1 hpL
       have hkk := fun h => a_isKey item (by omega) h
       rw [hkb] at hkk
       have hpos := X.posL p.1 hpL
       have hposS := X.posS p.2 (List.mem_of_getElem? hxx)
       have hA := g_askC (item := item) F3.c F3.t (by omega) F3.ks F3.ci X.one hpp (by rw [hppk]; exact hpk) hkk (by omega) (by rw [hppk]; omega)
       have F5 := F3.ask1 hpp (askF (now + 1)) (now + 1)
       (repeat (first | refine gO rfl ?_ | (refine gM zM34 fun K1 hK1 => ?_; simp only [go_sem, ↓reduceIte, reduceCtorEq, nA, nB, nC, nD, nE, nF] <;> and_intros <;> first | (apply hK1; clear hK1 K1) | (intros; first | omega | decide) | skip)))
       refine hA.mono ?_; rintro _ hz ⟨rfl, hh⟩; apply hK1; clear hK1 K1; rw [hh]; clear hh hz
       have hL2 : ps.map (fun q => if q = pp then askF (now + 1) (K pp) else K q) = atK item (askF (now + 1)) (ps.map K) := atK_map (item := item) (askF (now + 1)) X.one hpp (by rw [hppk]; exact hpk)
       have X2 := X.ask hp hk hcut hpe
       rw [← hL2] at X2
       clear hL2 hA
       generalize (⟨upd (upd h3.H ci (some (.cells (encCa room rule (now + 1) k ps.length)))) pp (some (.cells (encKp (askF (now + 1) (K pp))))), h3.T⟩ : Hp) = h5 at *
       generalize (fun q => if q = pp then askF (now + 1) (K pp) else K q) = K2 at *
       have hB := g_askY (item := item) F5.s F5.tS (by omega) hsz hkb hix hxx (by omega)
       (repeat (first | refine gO rfl ?_ | (refine gM zM34 fun K1 hK1 => ?_; simp only [go_sem, ↓reduceIte, reduceCtorEq, nA, nB, nC, nD, nE, nF] <;> and_intros <;> first | (apply hK1; clear hK1 K1) | (intros; first | omega | decide) | skip)))
       refine hB.mono ?_
       rintro _ _ ⟨k2, hk2, rfl, rfl⟩
       refine hK1 _ ?_; clear hK1 K1 hB
       have F6 := F5.stock (h' := ⟨upd h5.H si (some (.cells (encSt room rule came k2 (askS iS p.2 S).length))), upd (upd h5.T kS none) k2 (some (.cont 5 ((askS iS p.2 S).map encSk)))⟩) (upd_same _ _ _) (upd_same _ _ _) (fun q _ h1 => upd_other _ _ h1) (fun t h1 h2 => by
        have e : t ≠ k2 := by rintro rfl; exact h1 hk2
        show upd (upd h5.T kS none) k2 _ t = _
        rw [upd_other _ _ e, upd_other _ _ h2])
       generalize (⟨upd h5.H si (some (.cells (encSt room rule came k2 (askS iS p.2 S).length))), upd (upd h5.T kS none) k2 (some (.cont 5 ((askS iS p.2 S).map encSk)))⟩ : Hp) = h6 at *
       (repeat (first | refine gO rfl ?_ | (refine gM zM34 fun K1 hK1 => ?_; simp only [go_sem, ↓reduceIte, reduceCtorEq, nA, nB, nC, nD, nE, nF] <;> and_intros <;> first | (apply hK1; clear hK1 K1) | (intros; first | omega | decide) | skip)))
       refine awp_cond (t := _) rfl (fun h9 => by cases h9) (fun _ => ?_)
       (repeat (first | refine gO rfl ?_ | (refine gM zM34 fun K1 hK1 => ?_; simp only [go_sem, ↓reduceIte, reduceCtorEq, nA, nB, nC, nD, nE, nF] <;> and_intros <;> first | (apply hK1; clear hK1 K1) | (intros; first | omega | decide) | skip)))
       exact ⟨a + 1 + 1, now + 1, came, K2, ps, _, _, k, k2, _, by omega, by omega, by omega, F6, X2, rfl⟩
    ·have e1 := st_of F3.st
     rw [e1]
     clear e1
     (repeat (first | refine gO rfl ?_ | (refine gM zM34 fun K1 hK1 => ?_; simp only [go_sem, ↓reduceIte, reduceCtorEq, nA, nB, nC, nD, nE, nF] <;> and_intros <;> first | (apply hK1; clear hK1 K1) | (intros; first | omega | decide) | skip)))
     refine (g_flip i l (a + 1 + 1) 2 _ hl (by omega) (by omega)).mono ?_; rintro _ _ ⟨on, rfl, rfl⟩; apply hK1; clear hK1 K1
     have F4 := F3.next (a + 1 + 1 + 1)
     generalize h3.st i l (a + 1 + 1 + 1) = h4 at *
     clear F3
     rcases X.find item with ⟨_, hfn, hix, hh, _⟩ | ⟨p, hp, iS, hk, hfn, hix, hxx, hpL, hpk, hcut, hpe⟩
     ·have hA := g_pinCN (item := item) on F4.c F4.t (by omega) F4.ks hsz (.inr hh)
      have hpe2 : pinE item on S = if keyB item = true then 8 else 5 := by
       unfold pinE; rw [hfn]
       cases keyB item <;> rfl
      have hB := g_pinE (item := item) on F4.s F4.tS (by omega) hsz (by rw [hpe2]; split <;> decide)
      rw [hpe2] at hB
      obtain ⟨cd, hcd⟩ : ∃ cd, (if keyB item = true then (8 : Int) else 5) = cd := ⟨_, rfl⟩
      rw [hcd] at hA hB
      have hcc : (cd != cd) = false := by simp
      (repeat (first | refine gO rfl ?_ | (refine gM zM34 fun K1 hK1 => ?_; simp only [go_sem, ↓reduceIte, reduceCtorEq, nA, nB, nC, nD, nE, nF] <;> and_intros <;> first | (apply hK1; clear hK1 K1) | (intros; first | omega | decide) | skip)))
      refine hA.mono ?_; rintro _ hz ⟨rfl, hh⟩; apply hK1; clear hK1 K1; rw [hh]; clear hh hz
      (repeat (first | refine gO rfl ?_ | (refine gM zM34 fun K1 hK1 => ?_; simp only [go_sem, ↓reduceIte, reduceCtorEq, nA, nB, nC, nD, nE, nF] <;> and_intros <;> first | (apply hK1; clear hK1 K1) | (intros; first | omega | decide) | skip)))
      refine hB.mono ?_; rintro _ hz ⟨rfl, hh⟩; apply hK1; clear hK1 K1; rw [hh]; clear hh hz
      (repeat (first | refine gO rfl ?_ | (refine gM zM34 fun K1 hK1 => ?_; simp only [go_sem, ↓reduceIte, reduceCtorEq, nA, nB, nC, nD, nE, nF, hcc] <;> and_intros <;> first | (apply hK1; clear hK1 K1) | (intros; first | omega | decide) | skip)))
      refine awp_cond (t := _) rfl (fun h9 => by cases h9) (fun _ => ?_)
      (repeat (first | refine gO rfl ?_ | (refine gM zM34 fun K1 hK1 => ?_; simp only [go_sem, ↓reduceIte, reduceCtorEq, nA, nB, nC, nD, nE, nF] <;> and_intros <;> first | (apply hK1; clear hK1 K1) | (intros; first | omega | decide) | skip)))
      exact ⟨a + 1 + 1 + 1, now, came, K, ps, S, P, k, kS, _, by omega, by omega, by omega, F4, X, rfl⟩
     ·cases hkb : keyB item with
      | false =>
       have hA := g_pinCN (item := item) on F4.c F4.t (by omega) F4.ks hsz (.inl hkb)
       have hpe2 : pinE item on S = 5 := by unfold pinE; rw [hkb]; rfl
       have hB := g_pinE (item := item) on F4.s F4.tS (by omega) hsz (by rw [hpe2]; decide)
       rw [hpe2] at hB
       rw [if_neg (by rw [hkb]; decide)] at hA
       (repeat (first | refine gO rfl ?_ | (refine gM zM34 fun K1 hK1 => ?_; simp only [go_sem, ↓reduceIte, reduceCtorEq, nA, nB, nC, nD, nE, nF] <;> and_intros <;> first | (apply hK1; clear hK1 K1) | (intros; first | omega | decide) | skip)))
       refine hA.mono ?_; rintro _ hz ⟨rfl, hh⟩; apply hK1; clear hK1 K1; rw [hh]; clear hh hz
       (repeat (first | refine gO rfl ?_ | (refine gM zM34 fun K1 hK1 => ?_; simp only [go_sem, ↓reduceIte, reduceCtorEq, nA, nB, nC, nD, nE, nF] <;> and_intros <;> first | (apply hK1; clear hK1 K1) | (intros; first | omega | decide) | skip)))
       refine hB.mono ?_; rintro _ hz ⟨rfl, hh⟩; apply hK1; clear hK1 K1; rw [hh]; clear hh hz
       (repeat (first | refine gO rfl ?_ | (refine gM zM34 fun K1 hK1 => ?_; simp only [go_sem, ↓reduceIte, reduceCtorEq, nA, nB, nC, nD, nE, nF] <;> and_intros <;> first | (apply hK1; clear hK1 K1) | (intros; first | omega | decide) | skip)))
       refine awp_cond (t := _) rfl (fun h9 => by cases h9) (fun _ => ?_)
       (repeat (first | refine gO rfl ?_ | (refine gM zM34 fun K1 hK1 => ?_; simp only [go_sem, ↓reduceIte, reduceCtorEq, nA, nB, nC, nD, nE, nF] <;> and_intros <;> first | (apply hK1; clear hK1 K1) | (intros; first | omega | decide) | skip)))
       exact ⟨a + 1 + 1 + 1, now, came, K, ps, S, P, k, kS, _, by omega, by omega, by omega, F4, X, rfl⟩
      | true =>
       obtain ⟨pp, hpp, hppk⟩ := List.mem_map.1 hpL
       have hA := g_pinCY (item := item) on F4.c F4.t (by omega) F4.ks X.one hpp (by rw [hppk]; exact hpk) hsz hkb
       have hpin : (K pp).2.2.1 = p.2.2.2.2.2 := by rw [hppk]; exact (X.agr p hp).pin
       by_cases hon : p.2.2.2.2.2 = on
       ·simp only [hpin, if_pos hon] at hA
        have hpe2 : pinE item on S = 11 := by unfold pinE; rw [hkb, hfn]; simp [hon]
        have hB := g_pinE (item := item) on F4.s F4.tS (by omega) hsz (by rw [hpe2]; decide)
        rw [hpe2] at hB
        (repeat (first | refine gO rfl ?_ | (refine gM zM34 fun K1 hK1 => ?_; simp only [go_sem, ↓reduceIte, reduceCtorEq, nA, nB, nC, nD, nE, nF] <;> and_intros <;> first | (apply hK1; clear hK1 K1) | (intros; first | omega | decide) | skip)))
        refine hA.mono ?_; rintro _ hz ⟨rfl, hh⟩; apply hK1; clear hK1 K1; rw [hh]; clear hh hz
        (repeat (first | refine gO rfl ?_ | (refine gM zM34 fun K1 hK1 => ?_; simp only [go_sem, ↓reduceIte, reduceCtorEq, nA, nB, nC, nD, nE, nF] <;> and_intros <;> first | (apply hK1; clear hK1 K1) | (intros; first | omega | decide) | skip)))
        refine hB.mono ?_; rintro _ hz ⟨rfl, hh⟩; apply hK1; clear hK1 K1; rw [hh]; clear hh hz
        (repeat (first | refine gO rfl ?_ | (refine gM zM34 fun K1 hK1 => ?_; simp only [go_sem, ↓reduceIte, reduceCtorEq, nA, nB, nC, nD, nE, nF] <;> and_intros <;> first | (apply hK1; clear hK1 K1) | (intros; first | omega | decide) | skip)))
        refine awp_cond (t := _) rfl (fun h9 => by cases h9) (fun _ => ?_)
        (repeat (first | refine gO rfl ?_ | (refine gM zM34 fun K1 hK1 => ?_; simp only [go_sem, ↓reduceIte, reduceCtorEq, nA, nB, nC, nD, nE, nF] <;> and_intros <;> first | (apply hK1; clear hK1 K1) | (intros; first | omega | decide) | skip)))
        exact ⟨a + 1 + 1 + 1, now, came, K, ps, S, P, k, kS, _, by omega, by omega, by omega, F4, X, rfl⟩
       ·simp only [hpin, if_neg hon] at hA
        have F5 := F4.pin1 hpp (pinF on)
        (repeat (first | refine gO rfl ?_ | (refine gM zM34 fun K1 hK1 => ?_; simp only [go_sem, ↓reduceIte, reduceCtorEq, nA, nB, nC, nD, nE, nF] <;> and_intros <;> first | (apply hK1; clear hK1 K1) | (intros; first | omega | decide) | skip)))
        refine hA.mono ?_; rintro _ hz ⟨rfl, hh⟩; apply hK1; clear hK1 K1; rw [hh]; clear hh hz
        have hL2 : ps.map (fun q => if q = pp then pinF on (K pp) else K q) = atK item (pinF on) (ps.map K) := atK_map (item := item) (pinF on) X.one hpp (by rw [hppk]; exact hpk)
        have X2 := X.pin on hk hxx
        rw [← hL2] at X2
        clear hL2 hA hpin
        generalize (⟨upd h4.H pp (some (.cells (encKp (pinF on (K pp))))), h4.T⟩ : Hp) = h5 at *
        generalize (fun q => if q = pp then pinF on (K pp) else K q) = K2 at *
        have hB := g_pinY (item := item) on F5.s F5.tS (by omega) hsz hkb hix hxx hon
        (repeat (first | refine gO rfl ?_ | (refine gM zM34 fun K1 hK1 => ?_; simp only [go_sem, ↓reduceIte, reduceCtorEq, nA, nB, nC, nD, nE, nF] <;> and_intros <;> first | (apply hK1; clear hK1 K1) | (intros; first | omega | decide) | skip)))
        refine hB.mono ?_; rintro _ hz ⟨rfl, hh⟩; apply hK1; clear hK1 K1; rw [hh]; clear hh hz
        have F6 := F5.stock (h' := ⟨h5.H, upd h5.T kS (some (.cont 5 ((S.set iS (pinS on p.2)).map encSk)))⟩) (S' := S.set iS (pinS on p.2)) (by rw [List.length_set]; exact F5.s) (upd_same _ _ _) (fun _ _ _ => rfl) (fun t _ h2 => upd_other _ _ h2)
        generalize (⟨h5.H, upd h5.T kS (some (.cont 5 ((S.set iS (pinS on p.2)).map encSk)))⟩ : Hp) = h6 at *
        (repeat (first | refine gO rfl ?_ | (refine gM zM34 fun K1 hK1 => ?_; simp only [go_sem, ↓reduceIte, reduceCtorEq, nA, nB, nC, nD, nE, nF] <;> and_intros <;> first | (apply hK1; clear hK1 K1) | (intros; first | omega | decide) | skip)))
        refine awp_cond (t := _) rfl (fun h9 => by cases h9) (fun _ => ?_)
        (repeat (first | refine gO rfl ?_ | (refine gM zM34 fun K1 hK1 => ?_; simp only [go_sem, ↓reduceIte, reduceCtorEq, nA, nB, nC, nD, nE, nF] <;> and_intros <;> first | (apply hK1; clear hK1 K1) | (intros; first | omega | decide) | skip)))
        exact ⟨a + 1 + 1 + 1, now, came, K2, ps, _, _, k, kS, _, by omega, by omega, by omega, F6, X2, rfl⟩
  rintro _ ⟨a', now', came', K', ps', S', P', k', kS', h3, hb1, hb2, hb3, F3, X3, rfl⟩
  clear F2 X
  have hlen := X3.len
  rw [List.length_map] at hlen
  have hlen7 : S'.length ≤ 7 := hlen.2.2
  have hlp : ps'.length ≤ 7 := by omega
  have hor := g_orderC F3.c F3.t (by omega) F3.ks
  (repeat (first | refine gO rfl ?_ | (refine gM zM34 fun K1 hK1 => ?_; simp only [go_sem, ↓reduceIte, reduceCtorEq, nA, nB, nC, nD, nE, nF] <;> and_intros <;> first | (apply hK1; clear hK1 K1) | (intros; first | omega | decide) | skip)))
  refine hor.mono ?_
  rintro _ h4 ⟨kt, rfl, hH4, hT4⟩
  refine hK1 _ ?_; clear hK1 K1 hor
  have F4 := F3.same hH4 hT4
  clear F3 hH4 hT4
  have hos := g_orderS F4.s F4.tS (by omega)
  rw [← X3.order rule] at hos
  have hol := orderL_len rule (ps'.map K')
  rw [List.length_map] at hol
  obtain ⟨O, hO⟩ : ∃ O, (orderL rule (ps'.map K')).map (fun x : Kp => x.1) = O := ⟨_, rfl⟩
  have hOl : O.length ≤ 7 := by rw [← hO, List.length_map]; omega
  rw [hO] at hos ⊢
  (repeat (first | refine gO rfl ?_ | (refine gM zM34 fun K1 hK1 => ?_; simp only [go_sem, ↓reduceIte, reduceCtorEq, nA, nB, nC, nD, nE, nF] <;> and_intros <;> first | (apply hK1; clear hK1 K1) | (intros; first | omega | decide) | skip)))
  refine hos.mono ?_
  rintro _ _ ⟨q, hq, rfl, rfl⟩
  refine hK1 _ ?_; clear hK1 K1 hos
  have F5 := F4.same (h' := ⟨h4.H, upd h4.T q (some (.cont 1 (O.map encS)))⟩) rfl (fun t ht => upd_other _ _ (by rintro rfl; exact ht hq))
  have heq := g_eqSA O (some kt) q ⟨h4.H, upd h4.T q (some (.cont 1 (O.map encS)))⟩ (upd_same _ _ _) (by omega)
  generalize (⟨h4.H, upd h4.T q (some (.cont 1 (O.map encS)))⟩ : Hp) = h5 at *
  have hfC := g_freeC F5.c F5.t (by omega) F5.ks (fun p hp => by have := X3.posL _ (List.mem_map_of_mem hp); omega) (show 0 ≤ room ∧ room ≤ 1000000000000 by omega)
  have hfS := g_freeS F5.s F5.tS (by omega) (fun x hx => by have := X3.posS x hx; omega) (show 0 ≤ room ∧ room ≤ 1000000000000 by omega)
  rw [← X3.free] at hfS
  obtain ⟨fr, hfe⟩ : ∃ fr, room - sumB (ps'.map K') = fr := ⟨_, rfl⟩
  rw [hfe] at hfC hfS
  have hcc : (fr != fr) = false := by simp
  (repeat (first | refine gO rfl ?_ | (refine gM zM34 fun K1 hK1 => ?_; simp only [go_sem, ↓reduceIte, reduceCtorEq, nA, nB, nC, nD, nE, nF] <;> and_intros <;> first | (apply hK1; clear hK1 K1) | (intros; first | omega | decide) | skip)))
  refine heq.mono ?_; rintro _ hz ⟨rfl, hh⟩; apply hK1; clear hK1 K1; rw [hh]; clear hh hz
  (repeat (first | refine gO rfl ?_ | (refine gM zM34 fun K1 hK1 => ?_; simp only [go_sem, ↓reduceIte, reduceCtorEq, nA, nB, nC, nD, nE, nF] <;> and_intros <;> first | (apply hK1; clear hK1 K1) | (intros; first | omega | decide) | skip)))
  rotate_left
  ·exact fun h9 => h9.elim
  refine hfC.mono ?_
  rintro _ _ ⟨rfl, rfl⟩
  refine ⟨rfl, hK1 _ ?_⟩; clear hK1 K1
  (repeat (first | refine gO rfl ?_ | (refine gM zM34 fun K1 hK1 => ?_; simp only [go_sem, ↓reduceIte, reduceCtorEq, nA, nB, nC, nD, nE, nF, hcc] <;> and_intros <;> first | (apply hK1; clear hK1 K1) | (intros; first | omega | decide) | skip)))
  rotate_left
  ·exact fun h9 => h9.elim
  refine hfS.mono ?_
  rintro _ _ ⟨rfl, rfl⟩
  refine ⟨rfl, hK1 _ ?_⟩; clear hK1 K1
  (repeat (first | refine gO rfl ?_ | (refine gM zM34 fun K1 hK1 => ?_; simp only [go_sem, ↓reduceIte, reduceCtorEq, nA, nB, nC, nD, nE, nF, hcc] <;> and_intros <;> first | (apply hK1; clear hK1 K1) | (intros; first | omega | decide) | skip)))
  refine awp_cond (t := _) rfl (fun h9 => by cases h9) (fun _ => ?_)
  (repeat (first | refine gO rfl ?_ | (refine gM zM34 fun K1 hK1 => ?_; simp only [go_sem, ↓reduceIte, reduceCtorEq, nA, nB, nC, nD, nE, nF] <;> and_intros <;> first | (apply hK1; clear hK1 K1) | (intros; first | omega | decide) | skip)))
  exact ⟨g - 1, by omega, j + 1, a', now', came', K', ps', S', P', k', kS', _, by omega, by omega, by omega, by omega, by omega, by omega, by omega, F5, X3, rfl⟩
 ·simp only [decide_eq_false_iff_not] at h5
  (repeat (first | refine gO rfl ?_ | (refine gM zM34 fun K1 hK1 => ?_; simp only [go_sem, ↓reduceIte, reduceCtorEq, nA, nB, nC, nD, nE, nF] <;> and_intros <;> first | (apply hK1; clear hK1 K1) | (intros; first | omega | decide) | skip)))
  refine (g_stockedC _).mono ?_
  rintro _ h9 rfl
  refine hK1 _ ?_; clear hK1 K1
  (repeat (first | refine gO rfl ?_ | (refine gM zM34 fun K1 hK1 => ?_; simp only [go_sem, ↓reduceIte, reduceCtorEq, nA, nB, nC, nD, nE, nF] <;> and_intros <;> first | (apply hK1; clear hK1 K1) | (intros; first | omega | decide) | skip)))
  simp only [Tryz.results3, go_sem, ↓reduceIte, reduceCtorEq, nA, nB, nC, nD, nE, nF]
  exact ⟨_, _, Weak.refl _, Hp.le.refl _, rfl⟩
end Go.Proofs.YtfkbaghinemmkaaGreatDoor
