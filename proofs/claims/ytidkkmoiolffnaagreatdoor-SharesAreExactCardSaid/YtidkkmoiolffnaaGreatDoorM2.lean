/- (*asset.Cache).compare: which item goes first. -/
import Derived.Test.YtidkkmoiolffnaaGreatDoorM1
import Derived.Test.YtidkkmoiolffnaaGreatDoorShelf
import Derived.Test.YtidkkmoiolffnaaGreatDoorAvOld
import Derived.Test.YtidkkmoiolffnaaGreatDoorAvUn
namespace Go.Proofs.YtidkkmoiolffnaaGreatDoor
open Go
set_option linter.unusedVariables false
set_option linter.unusedSimpArgs false
open Nat renaming reduceAdd → nA, reduceSub → nB, reduceMul → nC, reduceLT → nD, reduceLeDiff → nE, reduceEqDiff → nF, reduceMod → nG, reduceDiv → nH, reducePow → nI
abbrev zM20 : Option Tmp → Nat := mdL []
abbrev zM21 : Option Tmp → Nat := mdL [(8, 2), (77, 2)]
abbrev zM22 : Option Tmp → Nat := mdL [(32, 2)]
abbrev zM23 : Option Tmp → Nat := mdL [(6, 1)]
abbrev zM24 : Option Tmp → Nat := mdL [(3, 2)]
abbrev zM25 : Option Tmp → Nat := mdL [(5, 1), (14, 2)]
abbrev zM26 : Option Tmp → Nat := mdL [(2, 1), (6, 1), (8, 1), (12, 2)]
abbrev zM27 : Option Tmp → Nat := mdL [(2, 1)]
abbrev zM28 : Option Tmp → Nat := mdL [(4, 1)]
abbrev zM29 : Option Tmp → Nat := mdL [(9, 1)]
abbrev zK20 : Nat := 274877939775
attribute [go_sem] zM20 zM21 zM22 zM23 zM24 zM25 zM26 zM27 zM28 zM29 zK20
abbrev zPOE : List Nat := [0, 1, 2, 3, 4, 5, 6, 7]
abbrev zPOP : List (Nat × List Nat × List Nat) := [(8, [], [9])]
abbrev zPPE : List Nat := [0, 1, 2, 3, 4, 5, 6, 7]
abbrev zPPP : List (Nat × List Nat × List Nat) := [(8, [], [9])]
abbrev zPQE : List Nat := [0, 1, 2, 3, 4, 5, 6, 7]
abbrev zPQP : List (Nat × List Nat × List Nat) := [(8, [], [9])]
abbrev zPRE : List Nat := [0, 1, 2, 3, 4, 5, 6, 7, 8]
abbrev zPRP : List (Nat × List Nat × List Nat) := [(9, [], [10]), (11, [], [12])]
attribute [go_sem] zPOE zPOP zPPE zPPP zPQE zPQP zPRE zPRP
set_option maxRecDepth 100000
set_option maxHeartbeats 8000000
def encJ (x : Int) : List AV := [.v (.int .i64 x)]
def orJ : List Int → Int
 | [] => 0
 | x :: l => if x = 0 then orJ l else x
theorem orJ_at (l : List Int) (j : Nat) (h : j < l.length) (h0 : ∀ i, i < j → l.getD i 0 = 0) (hn : l.getD j 0 ≠ 0) : orJ l = l.getD j 0 := by
 induction l generalizing j with
 | nil => simp at h
 | cons x l ih =>
  cases j with
  | zero => rw [orJ, if_neg (by simpa using hn)]; rfl
  | succ j =>
   have hx := h0 0 (by omega)
   simp only [List.getD_cons_zero] at hx
   rw [orJ, if_pos hx, List.getD_cons_succ]
   exact ih j (by simpa using h) (fun i hi => by simpa using h0 (i + 1) (by omega)) (by simpa using hn)
theorem orJ_zero (l : List Int) (h : ∀ i, i < l.length → l.getD i 0 = 0) : orJ l = 0 := by
 induction l with
 | nil => rfl
 | cons x l ih =>
  have hx := h 0 (by simp)
  simp only [List.getD_cons_zero] at hx
  rw [orJ, if_pos hx]
  exact ih fun i hi => by simpa using h (i + 1) (by simpa using hi)
theorem g_orK (l : List Int) (h : Hp) (hl : l.length ≤ 1000) : ACalls Tryz.prog 165 [.row 1 (l.map encJ) none] h (fun r h' => r = .v (.int .i64 (orJ l)) ∧ h' = h) := by
 refine gE Tryz.func165 rfl (by kernel_rfl) 17 rfl fun c => ?_
 (repeat (first | refine gO rfl ?_ | (refine gR fun K1 hK1 => ?_; simp only [go_sem, ↓reduceIte, reduceCtorEq, nA, nB, nC, nD, nE, nF] <;> and_intros <;> first | (apply hK1; clear hK1 K1) | (intros; first | omega | decide | (simp_all <;> omega)) | skip)))
 refine awp_loopC (rl false [3, 1, 2, 3, 9]) 0 (fun g s => ∃ j : Nat, g + j = l.length ∧ (∀ i, i < j → l.getD i 0 = 0) ∧
  s = ⟨((jnk 3 ((.v (.int .i64 0)) :: AV.junk :: AV.junk :: ((.row 1 (l.map encJ) none) :: (.v (.int .i64 l.length)) :: (.v (.int .i64 j)) :: (jnk 9 []))))), [], h⟩) l.length ⟨0, by omega, by omega, rfl⟩ ?_
 rintro g _ ⟨j, hj, h0, rfl⟩
 (repeat (first | refine gO rfl ?_ | (refine gR fun K1 hK1 => ?_; simp only [go_sem, ↓reduceIte, reduceCtorEq, nA, nB, nC, nD, nE, nF] <;> and_intros <;> first | (apply hK1; clear hK1 K1) | (intros; first | omega | decide | (simp_all <;> omega)) | skip)))
 refine awp_cond (t := _) rfl (fun h3 => ?_) (fun h3 => ?_)
 ·simp only [decide_eq_true_eq] at h3
  have hjl : j < l.length := by omega
  have hgx : (l.map encJ).getD j [] = [.v (.int .i64 (l.getD j 0))] := getD_enc encJ l j 0 hjl
  have hat := orJ_at l j hjl h0
  obtain ⟨x, hx⟩ : ∃ x, x = l.getD j 0 := ⟨_, rfl⟩
  rw [← hx] at hgx hat
  (repeat (first | refine gO rfl ?_ | (refine gR fun K1 hK1 => ?_; simp only [go_sem, ↓reduceIte, reduceCtorEq, nA, nB, nC, nD, nE, nF, Int.toNat_natCast, hgx] <;> and_intros <;> first | (apply hK1; clear hK1 K1) | (intros; first | omega | decide | (simp_all <;> omega)) | skip)))
  refine awp_cond (t := _) rfl (fun h4 => ?_) (fun h4 => ?_)
  ·have h4' : x ≠ 0 := by simpa using h4
   (repeat (first | refine gO rfl ?_ | (refine gR fun K1 hK1 => ?_; simp only [go_sem, ↓reduceIte, reduceCtorEq, nA, nB, nC, nD, nE, nF] <;> and_intros <;> first | (apply hK1; clear hK1 K1) | (intros; first | omega | decide | (simp_all <;> omega)) | skip)))
   simp only [Tryz.results165, go_sem, ↓reduceIte, reduceCtorEq, nA, nB, nC, nD, nE, nF]
   exact ⟨_, _, Weak.refl _, Hp.le.refl _, by rw [hat h4'], rfl⟩
  ·have h4' : x = 0 := by simpa using h4
   (repeat (first | refine gO rfl ?_ | (refine gR fun K1 hK1 => ?_; simp only [go_sem, ↓reduceIte, reduceCtorEq, nA, nB, nC, nD, nE, nF] <;> and_intros <;> first | (apply hK1; clear hK1 K1) | (intros; first | omega | decide | (simp_all <;> omega)) | skip)))
   exact ⟨g - 1, by omega, j + 1, by omega, fun i hi => by
    by_cases e : i = j
    ·rw [e, ← hx]; exact h4'
    ·exact h0 i (by omega), rfl⟩
 ·simp only [decide_eq_false_iff_not] at h3
  have hjl : j = l.length := by omega
  subst hjl
  (repeat (first | refine gO rfl ?_ | (refine gR fun K1 hK1 => ?_; simp only [go_sem, ↓reduceIte, reduceCtorEq, nA, nB, nC, nD, nE, nF] <;> and_intros <;> first | (apply hK1; clear hK1 K1) | (intros; first | omega | decide | (simp_all <;> omega)) | skip)))
  simp only [Tryz.results165, go_sem, ↓reduceIte, reduceCtorEq, nA, nB, nC, nD, nE, nF]
  exact ⟨_, _, Weak.refl _, Hp.le.refl _, by rw [orJ_zero l h0], rfl⟩
theorem g_or2 (x y : Int) (h : Hp) : ACalls Tryz.prog 165 [.row 1 [[.v (.int .i64 x)], [.v (.int .i64 y)]] none] h (fun r h' => r = .v (.int .i64 (if x = 0 then y else x)) ∧ h' = h) := by
 refine (g_orK [x, y] h (by simp)).mono ?_
 rintro _ _ ⟨rfl, rfl⟩
 refine ⟨?_, rfl⟩
 by_cases e : x = 0
 ·rw [orJ, if_pos e, if_pos e, orJ]
  by_cases e2 : y = 0
  ·rw [if_pos e2, orJ, e2]
  ·rw [if_neg e2]
 ·rw [orJ, if_neg e, if_neg e]
theorem g_compK {ci k n a b : Nat} {room rule now : Int} {x y : Kp} {h : Hp} (hC : h.H ci = some (.cells (encCa room rule now k n))) (ha : h.H a = some (.cells (encKp x))) (hb : h.H b = some (.cells (encKp y))) :
  ACalls Tryz.prog 307 ([.ptr ci 0] ++ [.ptr a 0, .ptr b 0]) h (fun r h' => r = .v (.int .i64 (cmpK rule x y)) ∧ h' = h) := by
 obtain ⟨ke, by1, pi, ca, la, ma⟩ := x
 obtain ⟨ke', by2, pi', ca', la', ma'⟩ := y
 have c1 := fun x y => g_cmpI x y h
 have c2 := fun x y => g_or2 x y h
 refine gE Tryz.func307 rfl (by kernel_rfl) 54 rfl fun c => ?_
 (repeat (first | refine gO rfl ?_ | ((first | refine gR ?_ | (with_reducible refine wM ?_ ?_) | ((with_reducible refine xR ?_); refine uE 4 zM20 zPOE zPOP 57 rfl (by kernel_rfl) ?_) | ((with_reducible refine xR ?_); refine uE 6 zM20 zPPE zPPP 57 rfl (by kernel_rfl) ?_) | ((with_reducible refine xR ?_); refine uE 8 zM20 zPQE zPQP 57 rfl (by kernel_rfl) ?_) | ((with_reducible refine xS ?_); refine uD 9 zM20 zPRE zPRP 57 rfl (by kernel_rfl) ?_)) <;> ((try with_reducible intro K1 hK1); simp only [go_sem, ↓reduceIte, reduceCtorEq, nA, nB, nC, nD, nE, nF, hC, encCa] <;> and_intros <;> first | (apply hK1; clear hK1 K1) | (intros; first | omega | decide | (simp_all <;> omega)) | skip))))
 by_cases r2 : rule = 2
 ·subst r2
  refine awp_cond (t := _) rfl (fun _ => ?_) (fun h9 => by simp at h9)
  (repeat (first | refine gO rfl ?_ | ((first | refine gR ?_ | (with_reducible refine wM ?_ ?_) | ((with_reducible refine xR ?_); refine uE 4 zM20 zPOE zPOP 57 rfl (by kernel_rfl) ?_) | ((with_reducible refine xR ?_); refine uE 6 zM20 zPPE zPPP 57 rfl (by kernel_rfl) ?_) | ((with_reducible refine xR ?_); refine uE 8 zM20 zPQE zPQP 57 rfl (by kernel_rfl) ?_) | ((with_reducible refine xS ?_); refine uD 9 zM20 zPRE zPRP 57 rfl (by kernel_rfl) ?_)) <;> ((try with_reducible intro K1 hK1); simp only [go_sem, ↓reduceIte, reduceCtorEq, nA, nB, nC, nD, nE, nF, ha, hb, encKp] <;> and_intros <;> first | (apply hK1; clear hK1 K1) | (intros; first | omega | decide) | skip))))
  refine (c1 _ _).mono ?_; rintro _ hz ⟨rfl, hh⟩; apply hK1; clear hK1 K1; rw [hh]; clear hh hz
  (repeat (first | refine gO rfl ?_ | ((first | refine gR ?_ | (with_reducible refine wM ?_ ?_) | ((with_reducible refine xR ?_); refine uE 4 zM20 zPOE zPOP 57 rfl (by kernel_rfl) ?_) | ((with_reducible refine xR ?_); refine uE 6 zM20 zPPE zPPP 57 rfl (by kernel_rfl) ?_) | ((with_reducible refine xR ?_); refine uE 8 zM20 zPQE zPQP 57 rfl (by kernel_rfl) ?_) | ((with_reducible refine xS ?_); refine uD 9 zM20 zPRE zPRP 57 rfl (by kernel_rfl) ?_)) <;> ((try with_reducible intro K1 hK1); simp only [go_sem, ↓reduceIte, reduceCtorEq, nA, nB, nC, nD, nE, nF, ha, hb, encKp] <;> and_intros <;> first | (apply hK1; clear hK1 K1) | (intros; first | omega | decide) | skip))))
  refine (c1 _ _).mono ?_; rintro _ hz ⟨rfl, hh⟩; apply hK1; clear hK1 K1; rw [hh]; clear hh hz
  (repeat (first | refine gO rfl ?_ | ((first | refine gR ?_ | (with_reducible refine wM ?_ ?_) | ((with_reducible refine xR ?_); refine uE 4 zM20 zPOE zPOP 57 rfl (by kernel_rfl) ?_) | ((with_reducible refine xR ?_); refine uE 6 zM20 zPPE zPPP 57 rfl (by kernel_rfl) ?_) | ((with_reducible refine xR ?_); refine uE 8 zM20 zPQE zPQP 57 rfl (by kernel_rfl) ?_) | ((with_reducible refine xS ?_); refine uD 9 zM20 zPRE zPRP 57 rfl (by kernel_rfl) ?_)) <;> ((try with_reducible intro K1 hK1); simp only [go_sem, ↓reduceIte, reduceCtorEq, nA, nB, nC, nD, nE, nF] <;> and_intros <;> first | (apply hK1; clear hK1 K1) | (intros; first | omega | decide) | skip))))
  refine (c2 _ _).mono ?_; rintro _ hz ⟨rfl, hh⟩; apply hK1; clear hK1 K1; rw [hh]; clear hh hz
  (repeat (first | refine gO rfl ?_ | ((first | refine gR ?_ | (with_reducible refine wM ?_ ?_) | ((with_reducible refine xR ?_); refine uE 4 zM20 zPOE zPOP 57 rfl (by kernel_rfl) ?_) | ((with_reducible refine xR ?_); refine uE 6 zM20 zPPE zPPP 57 rfl (by kernel_rfl) ?_) | ((with_reducible refine xR ?_); refine uE 8 zM20 zPQE zPQP 57 rfl (by kernel_rfl) ?_) | ((with_reducible refine xS ?_); refine uD 9 zM20 zPRE zPRP 57 rfl (by kernel_rfl) ?_)) <;> ((try with_reducible intro K1 hK1); simp only [go_sem, ↓reduceIte, reduceCtorEq, nA, nB, nC, nD, nE, nF] <;> and_intros <;> first | (apply hK1; clear hK1 K1) | (intros; first | omega | decide) | skip))))
  simp only [Tryz.results307, go_sem, ↓reduceIte, reduceCtorEq, nA, nB, nC, nD, nE, nF]
  exact ⟨_, _, Weak.refl _, Hp.le.refl _, by rw [cmpK, if_pos rfl], rfl⟩
 ·refine awp_cond (t := _) rfl (fun h9 => absurd (by simpa using h9) r2) (fun _ => ?_)
  (repeat (first | refine gO rfl ?_ | ((first | refine gR ?_ | (with_reducible refine wM ?_ ?_) | ((with_reducible refine xR ?_); refine uE 4 zM20 zPOE zPOP 57 rfl (by kernel_rfl) ?_) | ((with_reducible refine xR ?_); refine uE 6 zM20 zPPE zPPP 57 rfl (by kernel_rfl) ?_) | ((with_reducible refine xR ?_); refine uE 8 zM20 zPQE zPQP 57 rfl (by kernel_rfl) ?_) | ((with_reducible refine xS ?_); refine uD 9 zM20 zPRE zPRP 57 rfl (by kernel_rfl) ?_)) <;> ((try with_reducible intro K1 hK1); simp only [go_sem, ↓reduceIte, reduceCtorEq, nA, nB, nC, nD, nE, nF] <;> and_intros <;> first | (apply hK1; clear hK1 K1) | (intros; first | omega | decide) | skip))))
  by_cases r3 : rule = 3
  ·subst r3
   refine awp_cond (t := _) rfl (fun _ => ?_) (fun h9 => by simp at h9)
   (repeat (first | refine gO rfl ?_ | ((first | refine gR ?_ | (with_reducible refine wM ?_ ?_) | ((with_reducible refine xR ?_); refine uE 4 zM20 zPOE zPOP 57 rfl (by kernel_rfl) ?_) | ((with_reducible refine xR ?_); refine uE 6 zM20 zPPE zPPP 57 rfl (by kernel_rfl) ?_) | ((with_reducible refine xR ?_); refine uE 8 zM20 zPQE zPQP 57 rfl (by kernel_rfl) ?_) | ((with_reducible refine xS ?_); refine uD 9 zM20 zPRE zPRP 57 rfl (by kernel_rfl) ?_)) <;> ((try with_reducible intro K1 hK1); simp only [go_sem, ↓reduceIte, reduceCtorEq, nA, nB, nC, nD, nE, nF, ha, hb, encKp] <;> and_intros <;> first | (apply hK1; clear hK1 K1) | (intros; first | omega | decide) | skip))))
   refine (c1 _ _).mono ?_; rintro _ hz ⟨rfl, hh⟩; apply hK1; clear hK1 K1; rw [hh]; clear hh hz
   (repeat (first | refine gO rfl ?_ | ((first | refine gR ?_ | (with_reducible refine wM ?_ ?_) | ((with_reducible refine xR ?_); refine uE 4 zM20 zPOE zPOP 57 rfl (by kernel_rfl) ?_) | ((with_reducible refine xR ?_); refine uE 6 zM20 zPPE zPPP 57 rfl (by kernel_rfl) ?_) | ((with_reducible refine xR ?_); refine uE 8 zM20 zPQE zPQP 57 rfl (by kernel_rfl) ?_) | ((with_reducible refine xS ?_); refine uD 9 zM20 zPRE zPRP 57 rfl (by kernel_rfl) ?_)) <;> ((try with_reducible intro K1 hK1); simp only [go_sem, ↓reduceIte, reduceCtorEq, nA, nB, nC, nD, nE, nF, ha, hb, encKp] <;> and_intros <;> first | (apply hK1; clear hK1 K1) | (intros; first | omega | decide) | skip))))
   refine (c1 _ _).mono ?_; rintro _ hz ⟨rfl, hh⟩; apply hK1; clear hK1 K1; rw [hh]; clear hh hz
   (repeat (first | refine gO rfl ?_ | ((first | refine gR ?_ | (with_reducible refine wM ?_ ?_) | ((with_reducible refine xR ?_); refine uE 4 zM20 zPOE zPOP 57 rfl (by kernel_rfl) ?_) | ((with_reducible refine xR ?_); refine uE 6 zM20 zPPE zPPP 57 rfl (by kernel_rfl) ?_) | ((with_reducible refine xR ?_); refine uE 8 zM20 zPQE zPQP 57 rfl (by kernel_rfl) ?_) | ((with_reducible refine xS ?_); refine uD 9 zM20 zPRE zPRP 57 rfl (by kernel_rfl) ?_)) <;> ((try with_reducible intro K1 hK1); simp only [go_sem, ↓reduceIte, reduceCtorEq, nA, nB, nC, nD, nE, nF] <;> and_intros <;> first | (apply hK1; clear hK1 K1) | (intros; first | omega | decide) | skip))))
   refine (c2 _ _).mono ?_; rintro _ hz ⟨rfl, hh⟩; apply hK1; clear hK1 K1; rw [hh]; clear hh hz
   (repeat (first | refine gO rfl ?_ | ((first | refine gR ?_ | (with_reducible refine wM ?_ ?_) | ((with_reducible refine xR ?_); refine uE 4 zM20 zPOE zPOP 57 rfl (by kernel_rfl) ?_) | ((with_reducible refine xR ?_); refine uE 6 zM20 zPPE zPPP 57 rfl (by kernel_rfl) ?_) | ((with_reducible refine xR ?_); refine uE 8 zM20 zPQE zPQP 57 rfl (by kernel_rfl) ?_) | ((with_reducible refine xS ?_); refine uD 9 zM20 zPRE zPRP 57 rfl (by kernel_rfl) ?_)) <;> ((try with_reducible intro K1 hK1); simp only [go_sem, ↓reduceIte, reduceCtorEq, nA, nB, nC, nD, nE, nF] <;> and_intros <;> first | (apply hK1; clear hK1 K1) | (intros; first | omega | decide) | skip))))
   simp only [Tryz.results307, go_sem, ↓reduceIte, reduceCtorEq, nA, nB, nC, nD, nE, nF]
   exact ⟨_, _, Weak.refl _, Hp.le.refl _, by rw [cmpK, if_neg r2, if_pos rfl], rfl⟩
  ·refine awp_cond (t := _) rfl (fun h9 => absurd (by simpa using h9) r3) (fun _ => ?_)
   (repeat (first | refine gO rfl ?_ | ((first | refine gR ?_ | (with_reducible refine wM ?_ ?_) | ((with_reducible refine xR ?_); refine uE 4 zM20 zPOE zPOP 57 rfl (by kernel_rfl) ?_) | ((with_reducible refine xR ?_); refine uE 6 zM20 zPPE zPPP 57 rfl (by kernel_rfl) ?_) | ((with_reducible refine xR ?_); refine uE 8 zM20 zPQE zPQP 57 rfl (by kernel_rfl) ?_) | ((with_reducible refine xS ?_); refine uD 9 zM20 zPRE zPRP 57 rfl (by kernel_rfl) ?_)) <;> ((try with_reducible intro K1 hK1); simp only [go_sem, ↓reduceIte, reduceCtorEq, nA, nB, nC, nD, nE, nF] <;> and_intros <;> first | (apply hK1; clear hK1 K1) | (intros; first | omega | decide) | skip))))
   by_cases r4 : rule = 4
   ·subst r4
    refine awp_cond (t := _) rfl (fun _ => ?_) (fun h9 => by simp at h9)
    (repeat (first | refine gO rfl ?_ | ((first | refine gR ?_ | (with_reducible refine wM ?_ ?_) | ((with_reducible refine xR ?_); refine uE 4 zM20 zPOE zPOP 57 rfl (by kernel_rfl) ?_) | ((with_reducible refine xR ?_); refine uE 6 zM20 zPPE zPPP 57 rfl (by kernel_rfl) ?_) | ((with_reducible refine xR ?_); refine uE 8 zM20 zPQE zPQP 57 rfl (by kernel_rfl) ?_) | ((with_reducible refine xS ?_); refine uD 9 zM20 zPRE zPRP 57 rfl (by kernel_rfl) ?_)) <;> ((try with_reducible intro K1 hK1); simp only [go_sem, ↓reduceIte, reduceCtorEq, nA, nB, nC, nD, nE, nF, ha, hb, encKp] <;> and_intros <;> first | (apply hK1; clear hK1 K1) | (intros; first | omega | decide) | skip))))
    refine (c1 _ _).mono ?_; rintro _ hz ⟨rfl, hh⟩; apply hK1; clear hK1 K1; rw [hh]; clear hh hz
    (repeat (first | refine gO rfl ?_ | ((first | refine gR ?_ | (with_reducible refine wM ?_ ?_) | ((with_reducible refine xR ?_); refine uE 4 zM20 zPOE zPOP 57 rfl (by kernel_rfl) ?_) | ((with_reducible refine xR ?_); refine uE 6 zM20 zPPE zPPP 57 rfl (by kernel_rfl) ?_) | ((with_reducible refine xR ?_); refine uE 8 zM20 zPQE zPQP 57 rfl (by kernel_rfl) ?_) | ((with_reducible refine xS ?_); refine uD 9 zM20 zPRE zPRP 57 rfl (by kernel_rfl) ?_)) <;> ((try with_reducible intro K1 hK1); simp only [go_sem, ↓reduceIte, reduceCtorEq, nA, nB, nC, nD, nE, nF, ha, hb, encKp] <;> and_intros <;> first | (apply hK1; clear hK1 K1) | (intros; first | omega | decide) | skip))))
    refine (c1 _ _).mono ?_; rintro _ hz ⟨rfl, hh⟩; apply hK1; clear hK1 K1; rw [hh]; clear hh hz
    (repeat (first | refine gO rfl ?_ | ((first | refine gR ?_ | (with_reducible refine wM ?_ ?_) | ((with_reducible refine xR ?_); refine uE 4 zM20 zPOE zPOP 57 rfl (by kernel_rfl) ?_) | ((with_reducible refine xR ?_); refine uE 6 zM20 zPPE zPPP 57 rfl (by kernel_rfl) ?_) | ((with_reducible refine xR ?_); refine uE 8 zM20 zPQE zPQP 57 rfl (by kernel_rfl) ?_) | ((with_reducible refine xS ?_); refine uD 9 zM20 zPRE zPRP 57 rfl (by kernel_rfl) ?_)) <;> ((try with_reducible intro K1 hK1); simp only [go_sem, ↓reduceIte, reduceCtorEq, nA, nB, nC, nD, nE, nF] <;> and_intros <;> first | (apply hK1; clear hK1 K1) | (intros; first | omega | decide) | skip))))
    refine (c2 _ _).mono ?_; rintro _ hz ⟨rfl, hh⟩; apply hK1; clear hK1 K1; rw [hh]; clear hh hz
    (repeat (first | refine gO rfl ?_ | ((first | refine gR ?_ | (with_reducible refine wM ?_ ?_) | ((with_reducible refine xR ?_); refine uE 4 zM20 zPOE zPOP 57 rfl (by kernel_rfl) ?_) | ((with_reducible refine xR ?_); refine uE 6 zM20 zPPE zPPP 57 rfl (by kernel_rfl) ?_) | ((with_reducible refine xR ?_); refine uE 8 zM20 zPQE zPQP 57 rfl (by kernel_rfl) ?_) | ((with_reducible refine xS ?_); refine uD 9 zM20 zPRE zPRP 57 rfl (by kernel_rfl) ?_)) <;> ((try with_reducible intro K1 hK1); simp only [go_sem, ↓reduceIte, reduceCtorEq, nA, nB, nC, nD, nE, nF] <;> and_intros <;> first | (apply hK1; clear hK1 K1) | (intros; first | omega | decide) | skip))))
    simp only [Tryz.results307, go_sem, ↓reduceIte, reduceCtorEq, nA, nB, nC, nD, nE, nF]
    exact ⟨_, _, Weak.refl _, Hp.le.refl _, by rw [cmpK, if_neg r2, if_neg r3, if_pos rfl], rfl⟩
   ·refine awp_cond (t := _) rfl (fun h9 => absurd (by simpa using h9) r4) (fun _ => ?_)
    (repeat (first | refine gO rfl ?_ | ((first | refine gR ?_ | (with_reducible refine wM ?_ ?_) | ((with_reducible refine xR ?_); refine uE 4 zM20 zPOE zPOP 57 rfl (by kernel_rfl) ?_) | ((with_reducible refine xR ?_); refine uE 6 zM20 zPPE zPPP 57 rfl (by kernel_rfl) ?_) | ((with_reducible refine xR ?_); refine uE 8 zM20 zPQE zPQP 57 rfl (by kernel_rfl) ?_) | ((with_reducible refine xS ?_); refine uD 9 zM20 zPRE zPRP 57 rfl (by kernel_rfl) ?_)) <;> ((try with_reducible intro K1 hK1); simp only [go_sem, ↓reduceIte, reduceCtorEq, nA, nB, nC, nD, nE, nF, ha, hb, encKp] <;> and_intros <;> first | (apply hK1; clear hK1 K1) | (intros; first | omega | decide) | skip))))
    refine (c1 _ _).mono ?_; rintro _ hz ⟨rfl, hh⟩; apply hK1; clear hK1 K1; rw [hh]; clear hh hz
    (repeat (first | refine gO rfl ?_ | ((first | refine gR ?_ | (with_reducible refine wM ?_ ?_) | ((with_reducible refine xR ?_); refine uE 4 zM20 zPOE zPOP 57 rfl (by kernel_rfl) ?_) | ((with_reducible refine xR ?_); refine uE 6 zM20 zPPE zPPP 57 rfl (by kernel_rfl) ?_) | ((with_reducible refine xR ?_); refine uE 8 zM20 zPQE zPQP 57 rfl (by kernel_rfl) ?_) | ((with_reducible refine xS ?_); refine uD 9 zM20 zPRE zPRP 57 rfl (by kernel_rfl) ?_)) <;> ((try with_reducible intro K1 hK1); simp only [go_sem, ↓reduceIte, reduceCtorEq, nA, nB, nC, nD, nE, nF] <;> and_intros <;> first | (apply hK1; clear hK1 K1) | (intros; first | omega | decide) | skip))))
    refine (c2 _ _).mono ?_; rintro _ hz ⟨rfl, hh⟩; apply hK1; clear hK1 K1; rw [hh]; clear hh hz
    (repeat (first | refine gO rfl ?_ | ((first | refine gR ?_ | (with_reducible refine wM ?_ ?_) | ((with_reducible refine xR ?_); refine uE 4 zM20 zPOE zPOP 57 rfl (by kernel_rfl) ?_) | ((with_reducible refine xR ?_); refine uE 6 zM20 zPPE zPPP 57 rfl (by kernel_rfl) ?_) | ((with_reducible refine xR ?_); refine uE 8 zM20 zPQE zPQP 57 rfl (by kernel_rfl) ?_) | ((with_reducible refine xS ?_); refine uD 9 zM20 zPRE zPRP 57 rfl (by kernel_rfl) ?_)) <;> ((try with_reducible intro K1 hK1); simp only [go_sem, ↓reduceIte, reduceCtorEq, nA, nB, nC, nD, nE, nF] <;> and_intros <;> first | (apply hK1; clear hK1 K1) | (intros; first | omega | decide) | skip))))
    simp only [Tryz.results307, go_sem, ↓reduceIte, reduceCtorEq, nA, nB, nC, nD, nE, nF]
    exact ⟨_, _, Weak.refl _, Hp.le.refl _, by rw [cmpK, if_neg r2, if_neg r3, if_neg r4, if_pos rfl], rfl⟩
abbrev zPSE : List Nat := [0, 1, 2, 3, 4, 5, 6, 7, 8, 9, 10, 11, 12, 13]
abbrev zPSP : List (Nat × List Nat × List Nat) := [(14, [], [15, 16])]
abbrev zPTE : List Nat := [0, 1, 2, 3, 4, 5, 6, 7, 8, 9, 10, 11, 12, 13, 14]
abbrev zPTP : List (Nat × List Nat × List Nat) := [(15, [], [16]), (17, [], [])]
abbrev zPUE : List Nat := [0, 1, 2, 3, 4, 5, 6, 7, 8, 9, 10, 11, 12]
abbrev zPUP : List (Nat × List Nat × List Nat) := [(13, [], [14, 15, 16])]
attribute [go_sem] zPSE zPSP zPTE zPTP zPUE zPUP
theorem getD_mid {α : Type} (A : List α) (x : α) (B : List α) (d : α) : (A ++ x :: B).getD A.length d = x := by
 rw [List.getD_eq_getElem?_getD, List.getElem?_append_right (Nat.le_refl _), Nat.sub_self]; rfl
theorem set_mid {α : Type} (A : List α) (x y : α) (B : List α) : (A ++ x :: B).set A.length y = A ++ y :: B := by
 rw [List.set_append_right _ _ (Nat.le_refl _), Nat.sub_self]; rfl
theorem g_insK {f : Nat} {caps : List AV} (cf : Nat → Nat → Int) (k : Nat) (xs : List Nat) (h : Hp) (hT : h.T k = some (.cont 1 (xs.map encR))) (hl : xs.length ≤ 1000)
  (hc : ∀ x ∈ xs, ∀ y ∈ xs, ∀ T', ACalls Tryz.prog f (caps ++ [encRV x, encRV y]) ⟨h.H, T'⟩ (fun r h' => r = .v (.int .i64 (cf x y)) ∧ h' = ⟨h.H, T'⟩)) :
  ACalls Tryz.prog 372 [.arr 1 k xs.length, .v (.int .i64 0), .v (.int .i64 xs.length), .bfn f caps] h (fun r h' => r = .tup [] ∧ h' = ⟨h.H, upd h.T k (some (.cont 1 ((sortI cf xs).map encR)))⟩) := by
 refine gE Tryz.func372 rfl (by kernel_rfl) 49 rfl fun c => ?_
 (repeat (first | refine gO rfl ?_ | ((first | refine gR ?_ | (with_reducible refine wM ?_ ?_) | ((with_reducible refine xS ?_); refine uD 4 zM20 zPSE zPSP 53 rfl (by kernel_rfl) ?_) | ((with_reducible refine xR ?_); refine uE 6 zM20 zPTE zPTP 53 rfl (by kernel_rfl) ?_)) <;> ((try with_reducible intro K1 hK1); simp only [go_sem, ↓reduceIte, reduceCtorEq, nA, nB, nC, nD, nE, nF] <;> and_intros <;> first | (apply hK1; clear hK1 K1) | (intros; first | omega | decide | (simp_all <;> omega)) | skip))))
 refine awp_loopC (rl false [0, 4, 4, 1, 44]) 0 (fun g s => ∃ i : Nat, 1 ≤ i ∧ g + i = xs.length + 1 ∧
  s = ⟨((.arr 1 k xs.length) :: (.v (.int .i64 0)) :: (.v (.int .i64 xs.length)) :: (.bfn f caps) :: (jnk 4 ((.v (.int .i64 i)) :: (jnk 44 [])))), [], ⟨h.H, upd h.T k (some (.cont 1 (((insS cf (xs.take i)).reverse ++ xs.drop i).map encR)))⟩⟩) xs.length
  ⟨1, by omega, by omega, ?_⟩ ?_
 ·have e1 : (insS cf (xs.take 1)).reverse ++ xs.drop 1 = xs := by cases xs <;> simp [insS, insR]
  have e2 : upd h.T k (some (TO.cont 1 (xs.map encR))) = h.T := by
   funext q
   by_cases e : q = k
   ·rw [e, upd_same, hT]
   ·rw [upd_other _ _ e]
  rw [e1, e2]; rfl
 rintro g _ ⟨i, hi1, hi, rfl⟩
 (repeat (first | refine gO rfl ?_ | ((first | refine gR ?_ | (with_reducible refine wM ?_ ?_) | ((with_reducible refine xS ?_); refine uD 4 zM20 zPSE zPSP 53 rfl (by kernel_rfl) ?_) | ((with_reducible refine xR ?_); refine uE 6 zM20 zPTE zPTP 53 rfl (by kernel_rfl) ?_)) <;> ((try with_reducible intro K1 hK1); simp only [go_sem, ↓reduceIte, reduceCtorEq, nA, nB, nC, nD, nE, nF] <;> and_intros <;> first | (apply hK1; clear hK1 K1) | (intros; first | omega | decide | (simp_all <;> omega)) | skip))))
 refine awp_cond (t := _) rfl (fun h1 => ?_) (fun h1 => ?_)
 ·simp only [decide_eq_true_eq] at h1
  have hil : i < xs.length := by omega
  have hdr : xs.drop i = xs.getD i default :: xs.drop (i + 1) := drop_at' xs i default hil
  have htk : xs.take (i + 1) = xs.take i ++ [xs.getD i default] := take_at' xs i default hil
  have hxm : xs.getD i default ∈ xs := by
   rw [List.getD_eq_getElem?_getD, List.getElem?_eq_getElem hil]; exact List.getElem_mem _
  have hpl : (insS cf (xs.take i)).length = i := by rw [insS_len, List.length_take]; omega
  have hpm : ∀ z ∈ (insS cf (xs.take i)).reverse, z ∈ xs := fun z hz => List.mem_of_mem_take ((insS_perm cf (xs.take i)).mem_iff.1 (List.mem_reverse.1 hz))
  have hin : insS cf (xs.take (i + 1)) = insR cf (insS cf (xs.take i)) (xs.getD i default) := by rw [htk, insS_snoc]
  rw [hdr]
  generalize xs.getD i default = x at hxm hin ⊢
  generalize insS cf (xs.take i) = R at hpl hpm hin ⊢
  generalize hrs : xs.drop (i + 1) = rest
  clear hdr htk
  (repeat (first | refine gO rfl ?_ | ((first | refine gR ?_ | (with_reducible refine wM ?_ ?_) | ((with_reducible refine xS ?_); refine uD 4 zM20 zPSE zPSP 53 rfl (by kernel_rfl) ?_) | ((with_reducible refine xR ?_); refine uE 6 zM20 zPTE zPTP 53 rfl (by kernel_rfl) ?_)) <;> ((try with_reducible intro K1 hK1); simp only [go_sem, ↓reduceIte, reduceCtorEq, nA, nB, nC, nD, nE, nF] <;> and_intros <;> first | (apply hK1; clear hK1 K1) | (intros; first | omega | decide | (simp_all <;> omega)) | skip))))
  refine awp_loopC (rl false [0, 4, 4, 2, 43]) 0 (fun g2 s => ∃ (A B : List Nat), g2 = A.length ∧ insR cf R x = B.reverse ++ insR cf A.reverse x ∧ A.length + B.length = i ∧ (∀ z ∈ A, z ∈ xs) ∧
   s = ⟨((.arr 1 k xs.length) :: (.v (.int .i64 0)) :: (.v (.int .i64 xs.length)) :: (.bfn f caps) :: (jnk 4 ((.v (.int .i64 i)) :: (.v (.int .i64 A.length)) :: (jnk 43 [])))), [], ⟨h.H, upd h.T k (some (.cont 1 ((A ++ x :: (B ++ rest)).map encR)))⟩⟩) i
   ⟨R.reverse, [], by rw [List.length_reverse, hpl], by rw [List.reverse_reverse]; rfl, by rw [List.length_reverse, hpl]; rfl, hpm, by rw [List.length_reverse, hpl]; rfl⟩ ?_
  rintro g2 _ ⟨A, B, rfl, hR, hAB, hA, rfl⟩
  have hTq : ∀ X, upd h.T k (some (TO.cont 1 X)) k = some (.cont 1 X) := fun X => upd_same _ _ _
  have hcl : ((A ++ x :: (B ++ rest)).map encR).length = xs.length := by
   have h9 := congrArg List.length hrs
   rw [List.length_drop] at h9
   simp; omega
  by_cases h0 : A.length = 0
  ·have hd0 : decide (0 < (A.length : Int)) = false := by simp [h0]
   have hA0 : A = [] := List.eq_nil_of_length_eq_zero h0
   clear hc
   have gz : ((A ++ x :: (B ++ rest)).map encR).getD 0 [] = encR x := by rw [hA0]; rfl
   have i0 : ((A.length : Int)).toNat = 0 := by rw [Int.toNat_natCast]; exact h0
   have i1 : ((A.length : Int) - 1).toNat = 0 := by omega
   (repeat (first | refine gO rfl ?_ | ((first | refine gR ?_ | (with_reducible refine wM ?_ ?_) | ((with_reducible refine xS ?_); refine uD 4 zM20 zPSE zPSP 53 rfl (by kernel_rfl) ?_) | ((with_reducible refine xR ?_); refine uE 6 zM20 zPTE zPTP 53 rfl (by kernel_rfl) ?_)) <;> ((try with_reducible intro K1 hK1); simp only [go_sem, ↓reduceIte, reduceCtorEq, nA, nB, nC, nD, nE, nF, hd0, hTq, hcl, i0, i1, gz, encR] <;> and_intros <;> first | (apply hK1; clear hK1 K1) | (intros; first | omega | decide | (simp_all <;> omega)) | skip))))
   refine ⟨.v (.bool false), rfl, hK1 _ ?_⟩; clear hK1 K1
   (repeat (first | refine gO rfl ?_ | ((first | refine gR ?_ | (with_reducible refine wM ?_ ?_) | ((with_reducible refine xS ?_); refine uD 4 zM20 zPSE zPSP 53 rfl (by kernel_rfl) ?_) | ((with_reducible refine xR ?_); refine uE 6 zM20 zPTE zPTP 53 rfl (by kernel_rfl) ?_)) <;> ((try with_reducible intro K1 hK1); simp only [go_sem, ↓reduceIte, reduceCtorEq, nA, nB, nC, nD, nE, nF, hd0] <;> and_intros <;> first | (apply hK1; clear hK1 K1) | (intros; first | omega | decide | (simp_all <;> omega)) | skip))))
   refine awp_cond (t := _) rfl (fun h9 => by cases h9) (fun _ => ?_)
   (repeat (first | refine gO rfl ?_ | ((first | refine gR ?_ | (with_reducible refine wM ?_ ?_) | ((with_reducible refine xS ?_); refine uD 4 zM20 zPSE zPSP 53 rfl (by kernel_rfl) ?_) | ((with_reducible refine xR ?_); refine uE 6 zM20 zPTE zPTP 53 rfl (by kernel_rfl) ?_)) <;> ((try with_reducible intro K1 hK1); simp only [go_sem, ↓reduceIte, reduceCtorEq, nA, nB, nC, nD, nE, nF] <;> and_intros <;> first | (apply hK1; clear hK1 K1) | (intros; first | omega | decide | (simp_all <;> omega)) | skip))))
   refine ⟨g - 1, by omega, i + 1, by omega, by omega, ?_⟩
   subst hA0
   have e3 : (insS cf (xs.take (i + 1))).reverse ++ xs.drop (i + 1) = x :: (B ++ rest) := by rw [hin, hR, hrs]; simp [insR]
   rw [e3]; rfl
  ·obtain ⟨A', y, rfl⟩ : ∃ A' y, A = A' ++ [y] := by
    rcases List.eq_nil_or_concat A with rfl | ⟨A', y, e⟩
    ·exact absurd rfl h0
    ·exact ⟨A', y, by rw [e, List.concat_eq_append]⟩
   have hd0 : decide (0 < ((A' ++ [y]).length : Int)) = true := by simp
   have hti : (((A' ++ [y]).length : Int) - 1).toNat = A'.length := by simp
   have hy : y ∈ xs := hA y (by simp)
   have gx : (((A' ++ [y]) ++ x :: (B ++ rest)).map encR).getD (A' ++ [y]).length [] = encR x := by
    rw [List.map_append, List.map_cons]
    have := getD_mid ((A' ++ [y]).map encR) (encR x) ((B ++ rest).map encR) []
    rwa [List.length_map] at this
   have gy : (((A' ++ [y]) ++ x :: (B ++ rest)).map encR).getD A'.length [] = encR y := by
    rw [List.append_assoc, List.map_append, List.singleton_append, List.map_cons]
    have := getD_mid (A'.map encR) (encR y) ((x :: (B ++ rest)).map encR) []
    rwa [List.length_map] at this
   have hcc := fun T' => hc x hxm y hy T'
   have hlt : (A' ++ [y]).length < xs.length := by omega
   have hlt2 : A'.length < xs.length := by simp at hlt; omega
   generalize hct : ((A' ++ [y]) ++ x :: (B ++ rest)).map encR = ct at *
   (repeat (first | refine gO rfl ?_ | ((first | refine gR ?_ | (with_reducible refine wM ?_ ?_) | ((with_reducible refine xS ?_); refine uD 4 zM20 zPSE zPSP 53 rfl (by kernel_rfl) ?_) | ((with_reducible refine xR ?_); refine uE 6 zM20 zPTE zPTP 53 rfl (by kernel_rfl) ?_)) <;> ((try with_reducible intro K1 hK1); simp only [go_sem, ↓reduceIte, reduceCtorEq, nA, nB, nC, nD, nE, nF, hd0, hTq, hcl, Int.toNat_natCast, hti, gx, gy, encR] <;> and_intros <;> first | (apply hK1; clear hK1 K1) | (intros; first | omega | decide) | skip))))
   rotate_left 1
   ·rintro ⟨⟩
   refine (hcc _).mono ?_; rintro _ hz ⟨rfl, hh⟩; refine ⟨rfl, hK1 _ ?_⟩; clear hK1 K1; rw [hh]; clear hh hz
   (repeat (first | refine gO rfl ?_ | ((first | refine gR ?_ | (with_reducible refine wM ?_ ?_) | ((with_reducible refine xS ?_); refine uD 4 zM20 zPSE zPSP 53 rfl (by kernel_rfl) ?_) | ((with_reducible refine xR ?_); refine uE 6 zM20 zPTE zPTP 53 rfl (by kernel_rfl) ?_)) <;> ((try with_reducible intro K1 hK1); simp only [go_sem, ↓reduceIte, reduceCtorEq, nA, nB, nC, nD, nE, nF, hd0] <;> and_intros <;> first | (apply hK1; clear hK1 K1) | (intros; first | omega | decide) | skip))))
   refine awp_cond (t := _) rfl (fun h9 => ?_) (fun h9 => ?_)
   ·have h8 : cf x y < 0 := by simpa using h9
    have hs9 : ((A' ++ [y]).length : Int) - 1 = A'.length := by simp
    have e4 : (ct.set (A' ++ [y]).length (encR y)).set A'.length (encR x) = (A' ++ x :: (y :: B ++ rest)).map encR := by
     have h5 := set_mid ((A' ++ [y]).map encR) (encR x) (encR y) ((B ++ rest).map encR)
     have h6 := set_mid (A'.map encR) (encR y) (encR x) ((encR y) :: (B ++ rest).map encR)
     rw [List.length_map] at h5 h6
     rw [← hct, List.map_append, List.map_cons, h5, List.map_append, List.append_assoc]
     rw [show [y].map encR ++ encR y :: (B ++ rest).map encR = encR y :: (encR y :: (B ++ rest).map encR) from rfl, h6]
     simp
    have g3 : (ct.set (A' ++ [y]).length (encR y)).getD A'.length [] = encR y := by
     have h5 := set_mid ((A' ++ [y]).map encR) (encR x) (encR y) ((B ++ rest).map encR)
     have h6 := getD_mid (A'.map encR) (encR y) ((encR y) :: (B ++ rest).map encR) []
     rw [List.length_map] at h5 h6
     rw [← hct, List.map_append, List.map_cons, h5, List.map_append, List.append_assoc]
     exact h6
    have hcl2 : (ct.set (A' ++ [y]).length (encR y)).length = xs.length := by rw [List.length_set, hcl]
    simp only [encR] at e4 g3 hcl2
    (repeat (first | refine gO rfl ?_ | ((first | refine gR ?_ | (with_reducible refine wM ?_ ?_) | ((with_reducible refine xS ?_); refine uD 4 zM20 zPSE zPSP 53 rfl (by kernel_rfl) ?_) | ((with_reducible refine xR ?_); refine uE 6 zM20 zPTE zPTP 53 rfl (by kernel_rfl) ?_)) <;> ((try with_reducible intro K1 hK1); simp only [go_sem, ↓reduceIte, reduceCtorEq, nA, nB, nC, nD, nE, nF, hTq, hcl, hcl2, Int.toNat_natCast, hti, gx, gy, encR, upd_upd] <;> and_intros <;> first | (apply hK1; clear hK1 K1) | (intros; first | omega | decide) | skip))))
    refine ⟨A'.length, by simp, A', y :: B, rfl, ?_, ?_, fun z hz => hA z (List.mem_append_left _ hz), ?_⟩
    ·rw [hR, List.reverse_append, List.reverse_singleton, List.singleton_append, insR, if_pos h8]; simp
    ·simp at hAB ⊢; omega
    ·simp only [g3, List.drop_succ_cons, List.drop_zero, e4, hs9]
     rfl
   ·have h8 : ¬ cf x y < 0 := by simpa using h9
    (repeat (first | refine gO rfl ?_ | ((first | refine gR ?_ | (with_reducible refine wM ?_ ?_) | ((with_reducible refine xS ?_); refine uD 4 zM20 zPSE zPSP 53 rfl (by kernel_rfl) ?_) | ((with_reducible refine xR ?_); refine uE 6 zM20 zPTE zPTP 53 rfl (by kernel_rfl) ?_)) <;> ((try with_reducible intro K1 hK1); simp only [go_sem, ↓reduceIte, reduceCtorEq, nA, nB, nC, nD, nE, nF] <;> and_intros <;> first | (apply hK1; clear hK1 K1) | (intros; first | omega | decide) | skip))))
    refine ⟨g - 1, by omega, i + 1, by omega, by omega, ?_⟩
    have e3 : (insS cf (xs.take (i + 1))).reverse ++ xs.drop (i + 1) = (A' ++ [y]) ++ x :: (B ++ rest) := by rw [hin, hR, hrs]; simp [insR, h8]
    rw [e3, hct]; rfl
 ·simp only [decide_eq_false_iff_not] at h1
  have e1 : (insS cf (xs.take i)).reverse ++ xs.drop i = sortI cf xs := by
   rw [List.drop_eq_nil_of_le (by omega), List.take_of_length_le (by omega), List.append_nil]; rfl
  rw [e1]
  (repeat (first | refine gO rfl ?_ | ((first | refine gR ?_ | (with_reducible refine wM ?_ ?_) | ((with_reducible refine xS ?_); refine uD 4 zM20 zPSE zPSP 53 rfl (by kernel_rfl) ?_) | ((with_reducible refine xR ?_); refine uE 6 zM20 zPTE zPTP 53 rfl (by kernel_rfl) ?_)) <;> ((try with_reducible intro K1 hK1); simp only [go_sem, ↓reduceIte, reduceCtorEq, nA, nB, nC, nD, nE, nF] <;> and_intros <;> first | (apply hK1; clear hK1 K1) | (intros; first | omega | decide | (simp_all <;> omega)) | skip))))
  simp only [Tryz.results372, go_sem, ↓reduceIte, reduceCtorEq, nA, nB, nC, nD, nE, nF]
  exact ⟨_, _, Weak.refl _, Hp.le.refl _, rfl, rfl⟩
theorem g_pdqK {f : Nat} {caps : List AV} (cf : Nat → Nat → Int) (k : Nat) (xs : List Nat) (lim : Int) (h : Hp) (hT : h.T k = some (.cont 1 (xs.map encR))) (hl : xs.length ≤ 12)
  (hc : ∀ x ∈ xs, ∀ y ∈ xs, ∀ T', ACalls Tryz.prog f (caps ++ [encRV x, encRV y]) ⟨h.H, T'⟩ (fun r h' => r = .v (.int .i64 (cf x y)) ∧ h' = ⟨h.H, T'⟩)) :
  ACalls Tryz.prog 344 [.arr 1 k xs.length, .v (.int .i64 0), .v (.int .i64 xs.length), .v (.int .i64 lim), .bfn f caps] h (fun r h' => r = .tup [] ∧ h' = ⟨h.H, upd h.T k (some (.cont 1 ((sortI cf xs).map encR)))⟩) := by
 have hd0 : decide (((xs.length : Int) - 0) ≤ 12) = true := by simp; omega
 have hi := g_insK cf k xs h hT (by omega) hc
 clear hc
 refine gE Tryz.func344 rfl (by kernel_rfl) 143 rfl fun c => ?_
 (repeat (first | refine gO rfl ?_ | ((first | refine gR ?_ | (with_reducible refine wM ?_ ?_) | ((with_reducible refine xS ?_); refine uD 17 zM20 zPUE zPUP 148 rfl (by kernel_rfl) ?_)) <;> ((try with_reducible intro K1 hK1); simp only [go_sem, ↓reduceIte, reduceCtorEq, nA, nB, nC, nD, nE, nF] <;> and_intros <;> first | (apply hK1; clear hK1 K1) | (intros; first | omega | decide | (simp_all <;> omega)) | skip))))
 refine awp_loopC (rl false [0, 5, 5, 2, 136]) 0 (fun g s => s = ⟨((.arr 1 k xs.length) :: (.v (.int .i64 0)) :: (.v (.int .i64 xs.length)) :: (.v (.int .i64 lim)) :: (.bfn f caps) :: (jnk 5 ((.v (.bool true)) :: (.v (.bool true)) :: (jnk 136 [])))), [], h⟩) 1 rfl ?_
 rintro g _ rfl
 (repeat (first | refine gO rfl ?_ | ((first | refine gR ?_ | (with_reducible refine wM ?_ ?_) | ((with_reducible refine xS ?_); refine uD 17 zM20 zPUE zPUP 148 rfl (by kernel_rfl) ?_)) <;> ((try with_reducible intro K1 hK1); simp only [go_sem, ↓reduceIte, reduceCtorEq, nA, nB, nC, nD, nE, nF] <;> and_intros <;> first | (apply hK1; clear hK1 K1) | (intros; first | omega | decide) | skip))))
 refine awp_cond (t := _) rfl (fun _ => ?_) (fun h9 => by rw [hd0] at h9; cases h9)
 (repeat (first | refine gO rfl ?_ | ((first | refine gR ?_ | (with_reducible refine wM ?_ ?_) | ((with_reducible refine xS ?_); refine uD 17 zM20 zPUE zPUP 148 rfl (by kernel_rfl) ?_)) <;> ((try with_reducible intro K1 hK1); simp only [go_sem, ↓reduceIte, reduceCtorEq, nA, nB, nC, nD, nE, nF] <;> and_intros <;> first | (apply hK1; clear hK1 K1) | (intros; first | omega | decide) | skip))))
 refine hi.mono ?_
 rintro _ h2 ⟨rfl, rfl⟩
 refine hK1 _ ?_; clear hK1 K1
 (repeat (first | refine gO rfl ?_ | ((first | refine gR ?_ | (with_reducible refine wM ?_ ?_) | ((with_reducible refine xS ?_); refine uD 17 zM20 zPUE zPUP 148 rfl (by kernel_rfl) ?_)) <;> ((try with_reducible intro K1 hK1); simp only [go_sem, ↓reduceIte, reduceCtorEq, nA, nB, nC, nD, nE, nF] <;> and_intros <;> first | (apply hK1; clear hK1 K1) | (intros; first | omega | decide) | skip))))
 simp only [Tryz.results344, go_sem, ↓reduceIte, reduceCtorEq, nA, nB, nC, nD, nE, nF]
 exact ⟨_, _, Weak.refl _, Hp.le.refl _, rfl, rfl⟩
theorem g_bitsLen (n : Nat) (h : Hp) (hn : n ≤ 1000000) : ACalls Tryz.prog 158 [.v (.int .u64 n)] h (fun r h' => ∃ m : Int, r = .v (.int .i64 m) ∧ h' = h) := by
 refine acalls_mk (by kernel_rfl) fun G w vs hs hv ha => ?_
 have r0 := ha 0 (by simp)
 have hvs : vs = #[vs.getD 0 undef] := by
  have hv1 : vs.size = 1 := hv
  apply Array.ext (by simpa using hv1)
  intro j hj hj'
  simp only [List.size_toArray, List.length_cons, List.length_nil] at hj'
  obtain rfl : j = 0 := by omega
  simp [Array.getD, hv1]
 rw [hvs]
 generalize vs.getD 0 undef = v at r0
 simp only [List.getElem_cons_zero] at r0
 cases r0
 refine (Tryz.bits_Len n w (by omega) (by omega)).mono ?_
 rintro e w' ⟨rfl, rfl⟩
 exact ⟨_, rfl, _, h, G, ⟨_, rfl, rfl⟩, GLe.refl _, Fr.refl _ _ _, hs, .v _ rfl⟩
theorem g_srtK {f : Nat} {caps : List AV} (cf : Nat → Nat → Int) (k : Nat) (xs : List Nat) (h : Hp) (hT : h.T k = some (.cont 1 (xs.map encR))) (hl : xs.length ≤ 12)
  (hc : ∀ x ∈ xs, ∀ y ∈ xs, ∀ T', ACalls Tryz.prog f (caps ++ [encRV x, encRV y]) ⟨h.H, T'⟩ (fun r h' => r = .v (.int .i64 (cf x y)) ∧ h' = ⟨h.H, T'⟩)) :
  ACalls Tryz.prog 306 [.arr 1 k xs.length, .bfn f caps] h (fun r h' => r = .tup [] ∧ h' = ⟨h.H, upd h.T k (some (.cont 1 ((sortI cf xs).map encR)))⟩) := by
 have hwr : IntKind.u64.wrap (xs.length : Int) = xs.length := by simp [IntKind.wrap, IntKind.bits, IntKind.signed]; omega
 have hp := fun lim => g_pdqK cf k xs lim h hT hl hc
 have hbl := g_bitsLen xs.length h (by omega)
 clear hc
 refine gE Tryz.func306 rfl (by kernel_rfl) 12 rfl fun c => ?_
 (repeat (first | refine gO rfl ?_ | (refine gR fun K1 hK1 => ?_; simp only [go_sem, ↓reduceIte, reduceCtorEq, nA, nB, nC, nD, nE, nF, hwr] <;> and_intros <;> first | (apply hK1; clear hK1 K1) | (intros; first | omega | decide) | skip)))
 refine hbl.mono ?_
 rintro _ h2 ⟨n, rfl, rfl⟩
 refine hK1 _ ?_; clear hK1 K1
 (repeat (first | refine gO rfl ?_ | (refine gR fun K1 hK1 => ?_; simp only [go_sem, ↓reduceIte, reduceCtorEq, nA, nB, nC, nD, nE, nF] <;> and_intros <;> first | (apply hK1; clear hK1 K1) | (intros; first | omega | decide) | skip)))
 refine (hp _).mono ?_
 rintro _ h3 ⟨rfl, rfl⟩
 refine hK1 _ ?_; clear hK1 K1
 (repeat (first | refine gO rfl ?_ | (refine gR fun K1 hK1 => ?_; simp only [go_sem, ↓reduceIte, reduceCtorEq, nA, nB, nC, nD, nE, nF] <;> and_intros <;> first | (apply hK1; clear hK1 K1) | (intros; first | omega | decide) | skip)))
 simp only [Tryz.results306, go_sem, ↓reduceIte, reduceCtorEq, nA, nB, nC, nD, nE, nF]
 exact ⟨_, _, Weak.refl _, Hp.le.refl _, rfl, rfl⟩
theorem g_order {K : Nat → Kp} {ci k : Nat} {room rule now : Int} {ps : List Nat} {h : Hp} (hC : h.H ci = some (.cells (encCa room rule now k ps.length))) (hT : h.T k = some (.cont 1 (ps.map encR))) (hl : ps.length ≤ 12) (hK : CacheH h K ps) :
  ACalls Tryz.prog 243 [.ptr ci 0] h (fun r h' => ∃ q, r = .arr 1 q (orderF rule K ps).length ∧ h'.H = h.H ∧ h'.T q = some (.cont 1 ((orderF rule K ps).map encR)) ∧ h.T q = none ∧ ∀ t, h.T t ≠ none → h'.T t = h.T t) := by
 have hcl := g_cloneK k ps h hT (by omega)
 refine gE Tryz.func243 rfl (by kernel_rfl) 14 rfl fun c => ?_
 (repeat (first | refine gO rfl ?_ | (refine gR fun K1 hK1 => ?_; simp only [go_sem, ↓reduceIte, reduceCtorEq, nA, nB, nC, nD, nE, nF, hC, encCa] <;> and_intros <;> first | (apply hK1; clear hK1 K1) | (intros; first | omega | decide | (simp_all <;> omega)) | skip)))
 refine hcl.mono ?_
 rintro _ _ ⟨q, rfl, hq, rfl⟩
 refine hK1 _ ?_; clear hK1 K1
 have hqk : k ≠ q := by rintro rfl; rw [hT] at hq; cases hq
 have hde := g_delK (caps := []) (fun p => (K p).2.2.1) q ps ⟨h.H, upd h.T q (some (.cont 1 (ps.map encR)))⟩ (upd_same _ _ _) (by omega) (fun p hp T' => g_order1 (h := ⟨h.H, T'⟩) (hK p hp))
 (repeat (first | refine gO rfl ?_ | (refine gR fun K1 hK1 => ?_; simp only [go_sem, ↓reduceIte, reduceCtorEq, nA, nB, nC, nD, nE, nF] <;> and_intros <;> first | (apply hK1; clear hK1 K1) | (intros; first | omega | decide) | skip)))
 refine hde.mono ?_
 rintro _ ⟨H2, T2⟩ ⟨q1, rfl, hH, hT1, hoth⟩
 simp only at hH hT1
 subst hH
 refine hK1 _ ?_; clear hK1 K1
 have hf1 : (ps.filter fun p => !(K p).2.2.1).length ≤ 12 := Nat.le_trans (List.length_filter_le _ _) hl
 have hsr := g_srtK (caps := [.ptr ci 0]) (fun p q => cmpK rule (K p) (K q)) q1 (ps.filter fun p => !(K p).2.2.1) ⟨h.H, T2⟩ hT1 hf1 (fun a ha b hb T' => g_compK (h := ⟨h.H, T'⟩) hC (hK a (List.mem_filter.1 ha).1) (hK b (List.mem_filter.1 hb).1))
 (repeat (first | refine gO rfl ?_ | (refine gR fun K1 hK1 => ?_; simp only [go_sem, ↓reduceIte, reduceCtorEq, nA, nB, nC, nD, nE, nF] <;> and_intros <;> first | (apply hK1; clear hK1 K1) | (intros; first | omega | decide) | skip)))
 refine hsr.mono ?_
 rintro _ _ ⟨rfl, rfl⟩
 refine hK1 _ ?_; clear hK1 K1
 (repeat (first | refine gO rfl ?_ | (refine gR fun K1 hK1 => ?_; simp only [go_sem, ↓reduceIte, reduceCtorEq, nA, nB, nC, nD, nE, nF] <;> and_intros <;> first | (apply hK1; clear hK1 K1) | (intros; first | omega | decide) | skip)))
 simp only [Tryz.results243, go_sem, ↓reduceIte, reduceCtorEq, nA, nB, nC, nD, nE, nF]
 refine ⟨_, _, Weak.refl _, Hp.le.refl _, q1, ?_, rfl, upd_same _ _ _, ?_, ?_⟩
 ·rw [orderF, sortI_len]
 ·by_cases e : q1 = q
  ·rw [e]; exact hq
  ·cases e9 : h.T q1 with
   | none => rfl
   | some o =>
    have := (hoth q1 e (by simp only [upd_other _ _ e, e9]; simp)).1
    exact absurd rfl this
 ·intro t ht
  have htq : t ≠ q := by rintro rfl; exact ht hq
  have h9 := hoth t htq (by simp only [upd_other _ _ htq]; exact ht)
  show upd T2 q1 _ t = _
  rw [upd_other _ _ h9.1]
  refine h9.2.trans ?_
  exact upd_other _ _ htq
theorem g_going {K : Nat → Kp} {ci k : Nat} {room rule now bytes : Int} {item : ByteArray} {ps : List Nat} {h : Hp} (hC : h.H ci = some (.cells (encCa room rule now k ps.length))) (hT : h.T k = some (.cont 1 (ps.map encR))) (hl : ps.length ≤ 12) (hK : CacheH h K ps)
  (hB : ∀ p ∈ ps, 0 ≤ (K p).2.1 ∧ (K p).2.1 ≤ 1000000000000) (hr : 0 ≤ room ∧ room ≤ 1000000000000) (hb : 0 ≤ bytes ∧ bytes ≤ 1000000000000) :
  ACalls Tryz.prog 190 [.ptr ci 0, .v (.string item), .v (.int .i64 bytes)] h (fun r h' => ∃ kt, r = .tup [.row 1 ((goingF item bytes room rule K ps).1.map encR) (some kt), .v (.bool (decide ((goingF item bytes room rule K ps).2 ≤ 0)))] ∧ h'.H = h.H ∧ ∀ t, h.T t ≠ none → h'.T t = h.T t) := by
 have hml : (ps.map encR).length = ps.length := List.length_map _
 refine gE Tryz.func190 rfl (by kernel_rfl) 68 rfl fun c => ?_
 (repeat (first | refine gO rfl ?_ | (refine gR fun K1 hK1 => ?_; simp only [go_sem, ↓reduceIte, reduceCtorEq, nA, nB, nC, nD, nE, nF, hC, encCa] <;> and_intros <;> first | (apply hK1; clear hK1 K1) | (intros; first | omega | decide | (simp_all <;> omega)) | skip)))
 refine awp_loopC (rl false [0, 3, 5, 1, 14, 3, 45]) 0 (fun g s => ∃ (j : Nat) (o : Int), g + j = ps.length ∧ overF item K (ps.drop j) o = overF item K ps (bytes - room) ∧ -1000000000000 ≤ o ∧ o ≤ 1000000000000 + j * 1000000000000 ∧
  s = ⟨((.ptr ci 0) :: (.v (.string item)) :: (.v (.int .i64 bytes)) :: (jnk 5 ((.v (.int .i64 o)) :: (jnk 14 ((.arr 1 k ps.length) :: (.v (.int .i64 ps.length)) :: (.v (.int .i64 j)) :: (jnk 45 [])))))), [], h⟩) ps.length ⟨0, bytes - room, by omega, by rw [List.drop_zero], by omega, by omega, rfl⟩ ?_
 rintro g _ ⟨j, o, hj, ho, ho1, ho2, rfl⟩
 (repeat (first | refine gO rfl ?_ | (refine gR fun K1 hK1 => ?_; simp only [go_sem, ↓reduceIte, reduceCtorEq, nA, nB, nC, nD, nE, nF] <;> and_intros <;> first | (apply hK1; clear hK1 K1) | (intros; first | omega | decide) | skip)))
 refine awp_cond (t := _) rfl (fun h1 => ?_) (fun h1 => ?_)
 ·simp only [decide_eq_true_eq] at h1
  have hjl : j < ps.length := by omega
  have gx : (ps.map encR).getD j [] = encR (ps.getD j default) := getD_enc encR ps j default hjl
  have hdj := drop_at' ps j default hjl
  have hpm : ps.getD j default ∈ ps := by rw [List.getD_eq_getElem?_getD, List.getElem?_eq_getElem hjl]; exact List.getElem_mem _
  obtain ⟨p, hp⟩ : ∃ p, ps.getD j default = p := ⟨_, rfl⟩
  rw [hp] at gx hdj hpm
  have hhp := hK p hpm
  have hbp := hB p hpm
  obtain ⟨o9, ho9⟩ : ∃ o9, overF item K ps (bytes - room) = o9 := ⟨_, rfl⟩
  rw [ho9] at ho ⊢
  rw [hdj, overF] at ho
  generalize K p = x at *
  obtain ⟨ke, by1, pi, ca, la, ma⟩ := x
  simp only at ho hbp
  (repeat (first | refine gO rfl ?_ | (refine gR fun K1 hK1 => ?_; simp only [go_sem, ↓reduceIte, reduceCtorEq, nA, nB, nC, nD, nE, nF, hT, hml, Int.toNat_natCast, gx, encR, hhp, encKp] <;> and_intros <;> first | (apply hK1; clear hK1 K1) | (intros; first | omega | decide) | skip)))
  by_cases e : ke = item
  ·refine awp_cond (t := _) rfl (fun h9 => absurd h9 (by rw [e]; simp [ba_beq])) (fun _ => ?_)
   rw [if_pos e] at ho
   (repeat (first | refine gO rfl ?_ | (refine gR fun K1 hK1 => ?_; simp only [go_sem, ↓reduceIte, reduceCtorEq, nA, nB, nC, nD, nE, nF] <;> and_intros <;> first | (apply hK1; clear hK1 K1) | (intros; first | omega | decide) | skip)))
   exact ⟨g - 1, by omega, j + 1, o, by omega, ho, ho1, by omega, rfl⟩
  ·refine awp_cond (t := _) rfl (fun _ => ?_) (fun h9 => absurd (by simpa [ba_beq] using h9) e)
   rw [if_neg e] at ho
   (repeat (first | refine gO rfl ?_ | (refine gR fun K1 hK1 => ?_; simp only [go_sem, ↓reduceIte, reduceCtorEq, nA, nB, nC, nD, nE, nF, hhp, encKp] <;> and_intros <;> first | (apply hK1; clear hK1 K1) | (intros; first | omega | decide) | skip)))
   exact ⟨g - 1, by omega, j + 1, o + by1, by omega, ho, by omega, by omega, rfl⟩
 ·simp only [decide_eq_false_iff_not] at h1
  have hjl : j = ps.length := by omega
  subst hjl
  rw [List.drop_length] at ho
  simp only [overF] at ho
  (repeat refine gO rfl ?_)
  refine awp_seq ?_
  refine awp_AL ?_
  refine AL.cons rfl (Quiet.aop (q_move (.inr rfl)) ?_)
  refine AL.nil ?_
  refine awp_own 11 1 rfl ⟨rfl, rfl⟩ (fun kt hkt => ?_)
  refine awp_cut (rl false [0, 3, 5, 1, 2, 1, 59]) 0 (?_ : Awp _ _ _ _ ⟨((.ptr ci 0) :: (.v (.string item)) :: (.v (.int .i64 bytes)) :: (jnk 5 ((.v (.int .i64 o)) :: AV.junk :: AV.junk :: ((.row 1 [] (some kt)) :: (jnk 59 []))))), [], ⟨h.H, upd h.T kt (some (.tail 0))⟩⟩)
  have hkt' : h.T kt = none := hkt
  have hkk : k ≠ kt := by rintro rfl; rw [hT] at hkt'; cases hkt'
  have hor := g_order (K := K) (rule := rule) (h := ⟨h.H, upd h.T kt (some (.tail 0))⟩) hC ((upd_other _ _ hkk).trans hT) hl hK
  (repeat (first | refine gO rfl ?_ | (refine gR fun K1 hK1 => ?_; simp only [go_sem, ↓reduceIte, reduceCtorEq, nA, nB, nC, nD, nE, nF] <;> and_intros <;> first | (apply hK1; clear hK1 K1) | (intros; first | omega | decide) | skip)))
  refine hor.mono ?_
  rintro _ ⟨H2, T2⟩ ⟨q, rfl, hH, hT2, hq, hoth⟩
  simp only at hH hT2
  subst hH
  refine hK1 _ ?_; clear hK1 K1 hor
  have hqkt : q ≠ kt := by
   intro e
   have hq' : upd h.T kt (some (.tail 0)) q = none := hq
   rw [e, upd_same] at hq'; cases hq'
  have hT2k : T2 kt = some (.tail 0) := by
   have := hoth kt (by show upd h.T kt _ kt ≠ none; rw [upd_same]; simp)
   exact this.trans (upd_same _ _ _)
  have hold : ∀ t, h.T t ≠ none → T2 t = h.T t ∧ t ≠ kt := fun t ht => by
   have htk : t ≠ kt := by rintro rfl; exact ht hkt'
   have := hoth t (by show upd h.T kt _ t ≠ none; rw [upd_other _ _ htk]; exact ht)
   exact ⟨this.trans (upd_other _ _ htk), htk⟩
  have hom : ∀ p ∈ orderF rule K ps, p ∈ ps := fun p hp => orderF_mem hp
  have hol := orderF_len rule K ps
  unfold goingF
  rw [← ho]
  generalize orderF rule K ps = ord at *
  generalize hG : goF item K ord o = G
  have hol2 : (ord.map encR).length = ord.length := List.length_map _
  clear hoth
  (repeat (first | refine gO rfl ?_ | (refine gR fun K1 hK1 => ?_; simp only [go_sem, ↓reduceIte, reduceCtorEq, nA, nB, nC, nD, nE, nF] <;> and_intros <;> first | (apply hK1; clear hK1 K1) | (intros; first | omega | decide) | skip)))
  refine awp_loopC (rl false [0, 3, 5, 1, 2, 1, 31, 3, 25]) 0 (fun g s => ∃ (j : Nat) (o : Int) (acc : List Nat), g + j = ord.length ∧ acc ++ (goF item K (ord.drop j) o).1 = G.1 ∧ (goF item K (ord.drop j) o).2 = G.2 ∧ acc.length ≤ j ∧ -1000000000000 ≤ o ∧ o ≤ 100000000000000 ∧
   s = ⟨((.ptr ci 0) :: (.v (.string item)) :: (.v (.int .i64 bytes)) :: (jnk 5 ((.v (.int .i64 o)) :: AV.junk :: AV.junk :: ((.row 1 (acc.map encR) (some kt)) :: (jnk 31 ((.arr 1 q ord.length) :: (.v (.int .i64 ord.length)) :: (.v (.int .i64 j)) :: (jnk 25 []))))))), [], ⟨h.H, upd T2 kt (some (.tail acc.length))⟩⟩) ord.length ⟨0, o, [], by omega, by rw [List.drop_zero, hG]; rfl, by rw [List.drop_zero, hG], Nat.le_refl _, ho1, by omega, ?_⟩ ?_
  ·have e2 : upd T2 kt (some (TO.tail ([] : List Nat).length)) = T2 := by
    funext t
    by_cases e : t = kt
    ·rw [e, upd_same, hT2k]; rfl
    ·rw [upd_other _ _ e]
   rw [e2]; rfl
  rintro g _ ⟨j, o2, acc, hj, hg1, hg2, hac, hb1, hb2, rfl⟩
  (repeat (first | refine gO rfl ?_ | (refine gR fun K1 hK1 => ?_; simp only [go_sem, ↓reduceIte, reduceCtorEq, nA, nB, nC, nD, nE, nF] <;> and_intros <;> first | (apply hK1; clear hK1 K1) | (intros; first | omega | decide) | skip)))
  refine awp_cond (t := _) rfl (fun h1 => ?_) (fun h1 => ?_)
  ·simp only [decide_eq_true_eq] at h1
   have hjl : j < ord.length := by omega
   have gx : (ord.map encR).getD j [] = encR (ord.getD j default) := getD_enc encR ord j default hjl
   have hdj := drop_at' ord j default hjl
   have hpm : ord.getD j default ∈ ord := by rw [List.getD_eq_getElem?_getD, List.getElem?_eq_getElem hjl]; exact List.getElem_mem _
   obtain ⟨p, hp⟩ : ∃ p, ord.getD j default = p := ⟨_, rfl⟩
   rw [hp] at gx hdj hpm
   have hhp := hK p (hom p hpm)
   have hbp := hB p (hom p hpm)
   have htq : upd T2 kt (some (TO.tail acc.length)) q = some (.cont 1 (ord.map encR)) := (upd_other _ _ hqkt).trans hT2
   have htk2 : upd T2 kt (some (TO.tail acc.length)) kt = some (.tail acc.length) := upd_same _ _ _
   rw [hdj, goF] at hg1 hg2
   generalize K p = x at *
   obtain ⟨ke, by1, pi, ca, la, ma⟩ := x
   simp only at hg1 hg2 hbp
   (repeat (first | refine gO rfl ?_ | (refine gR fun K1 hK1 => ?_; simp only [go_sem, ↓reduceIte, reduceCtorEq, nA, nB, nC, nD, nE, nF, htq, hol2, Int.toNat_natCast, gx, encR] <;> and_intros <;> first | (apply hK1; clear hK1 K1) | (intros; first | omega | decide) | skip)))
   refine awp_cond (t := _) rfl (fun h2 => ?_) (fun h2 => ?_)
   ·simp only [decide_eq_true_eq] at h2
    rw [if_pos h2] at hg1 hg2
    simp only at hg1 hg2
    (repeat (first | refine gO rfl ?_ | (refine gR fun K1 hK1 => ?_; simp only [go_sem, ↓reduceIte, reduceCtorEq, nA, nB, nC, nD, nE, nF] <;> and_intros <;> first | (apply hK1; clear hK1 K1) | (intros; first | omega | decide) | skip)))
    simp only [Tryz.results190, go_sem, ↓reduceIte, reduceCtorEq, nA, nB, nC, nD, nE, nF]
    refine ⟨_, _, Weak.refl _, Hp.le.refl _, kt, by rw [← hg1, ← hg2, List.append_nil], rfl, fun t ht => ?_⟩
    exact (upd_other _ _ (hold t ht).2).trans (hold t ht).1
   ·simp only [decide_eq_false_iff_not] at h2
    rw [if_neg h2] at hg1 hg2
    (repeat (first | refine gO rfl ?_ | (refine gR fun K1 hK1 => ?_; simp only [go_sem, ↓reduceIte, reduceCtorEq, nA, nB, nC, nD, nE, nF, hhp, encKp] <;> and_intros <;> first | (apply hK1; clear hK1 K1) | (intros; first | omega | decide) | skip)))
    by_cases e : ke = item
    ·refine awp_cond (t := _) rfl (fun h9 => absurd h9 (by rw [e]; simp [ba_beq])) (fun _ => ?_)
     rw [if_pos e] at hg1 hg2
     (repeat (first | refine gO rfl ?_ | (refine gR fun K1 hK1 => ?_; simp only [go_sem, ↓reduceIte, reduceCtorEq, nA, nB, nC, nD, nE, nF] <;> and_intros <;> first | (apply hK1; clear hK1 K1) | (intros; first | omega | decide) | skip)))
     exact ⟨g - 1, by omega, j + 1, o2, acc, by omega, hg1, hg2, by omega, hb1, hb2, rfl⟩
    ·refine awp_cond (t := _) rfl (fun _ => ?_) (fun h9 => absurd (by simpa [ba_beq] using h9) e)
     rw [if_neg e] at hg1 hg2
     (repeat (first | refine gO rfl ?_ | (refine gR fun K1 hK1 => ?_; simp only [go_sem, ↓reduceIte, reduceCtorEq, nA, nB, nC, nD, nE, nF, hhp, encKp, htk2, List.length_map] <;> and_intros <;> first | (apply hK1; clear hK1 K1) | (intros; first | omega | decide) | skip)))
     refine ⟨g - 1, by omega, j + 1, o2 - by1, acc ++ [p], by omega, by rw [List.append_assoc]; exact hg1, hg2, by rw [List.length_append, List.length_singleton]; omega, by omega, by omega, ?_⟩
     rw [List.map_append, List.length_append]
     rfl
  ·simp only [decide_eq_false_iff_not] at h1
   have hjl : j = ord.length := by omega
   subst hjl
   rw [List.drop_length, goF] at hg1 hg2
   simp only at hg1 hg2
   (repeat (first | refine gO rfl ?_ | (refine gR fun K1 hK1 => ?_; simp only [go_sem, ↓reduceIte, reduceCtorEq, nA, nB, nC, nD, nE, nF] <;> and_intros <;> first | (apply hK1; clear hK1 K1) | (intros; first | omega | decide) | skip)))
   simp only [Tryz.results190, go_sem, ↓reduceIte, reduceCtorEq, nA, nB, nC, nD, nE, nF]
   refine ⟨_, _, Weak.refl _, Hp.le.refl _, kt, by rw [← hg1, ← hg2, List.append_nil], rfl, fun t ht => ?_⟩
   exact (upd_other _ _ (hold t ht).2).trans (hold t ht).1
abbrev zPVE : List Nat := [0, 1, 2, 3, 4, 5, 6, 7, 8, 9, 10, 11, 12, 13]
abbrev zPVP : List (Nat × List Nat × List Nat) := []
attribute [go_sem] zPVE zPVP
def encNm (x : Kp) : List AV := [.v (.string x.1)]
def PutR (room rule now bytes : Int) (item : ByteArray) (K : Nat → Kp) (ps : List Nat) (ci k : Nat) (h : Hp) (r : AV) (h' : Hp) : Prop :=
 match putL room rule now (ps.map K) item bytes with
 | none => r = .tup [.v (.slice none 0 0), .v (.int .i64 12)] ∧ h'.H = h.H ∧ ∀ t, h.T t ≠ none → h'.T t = h.T t
 | some (L', g) => ∃ (K' : Nat → Kp) (ps' : List Nat) (k' kt : Nat), r = .tup [.row 1 (g.map encNm) (some kt), .v (.int .i64 0)] ∧ ps'.map K' = L' ∧ CacheH h' K' ps' ∧ h'.H ci = some (.cells (encCa room rule (now + 1) k' ps'.length)) ∧
   h'.T k' = some (.cont 1 (ps'.map encR)) ∧ ci ∉ ps' ∧ (∀ q, h.H q ≠ none → q ≠ ci → q ∉ ps → h'.H q = h.H q) ∧ ∀ t, h.T t ≠ none → t ≠ k → h'.T t = h.T t
theorem goingF_mem {item : ByteArray} {bytes room rule : Int} {K : Nat → Kp} {ps : List Nat} {p : Nat} (h : p ∈ (goingF item bytes room rule K ps).1) : p ∈ ps := orderF_mem (goF_mem h)
theorem goF_not {item : ByteArray} {K : Nat → Kp} : ∀ {ps : List Nat} {o : Int} {p : Nat}, p ∈ (goF item K ps o).1 → (K p).1 ≠ item
 | [], _, _, h => by simp [goF] at h
 | q :: ps, o, p, h => by
  unfold goF at h
  split at h
  ·simp at h
  ·split at h
   ·exact goF_not h
   ·rename_i e
    rcases List.mem_cons.1 h with rfl | h
    ·exact e
    ·exact goF_not h
theorem findF_cases (item : ByteArray) (K : Nat → Kp) (ps : List Nat) : (hasL item (ps.map K) = false ∧ findF item K ps = nilP) ∨ ∃ p ∈ ps, (K p).1 = item ∧ hasL item (ps.map K) = true ∧ findF item K ps = .ptr p 0 := by
 unfold findF
 cases e : ps.find? (fun p => (K p).1 == item) with
 | none =>
  refine .inl ⟨?_, rfl⟩
  cases hh : hasL item (ps.map K) with
  | false => rfl
  | true =>
   obtain ⟨x, hx, e2⟩ := hasL_iff.1 hh
   obtain ⟨p, hp, rfl⟩ := List.mem_map.1 hx
   have := List.find?_eq_none.1 e p hp
   rw [ba_beq] at this
   simp [e2] at this
 | some p =>
  have h1 := List.find?_some e
  have h2 := List.mem_of_find?_eq_some e
  rw [ba_beq] at h1
  have h3 : (K p).1 = item := by simpa using h1
  exact .inr ⟨p, h2, h3, hasL_iff.2 ⟨K p, List.mem_map_of_mem h2, h3⟩, rfl⟩
theorem g_put {K : Nat → Kp} {ci k : Nat} {room rule now bytes : Int} {item : ByteArray} {ps : List Nat} {h : Hp} (hC : h.H ci = some (.cells (encCa room rule now k ps.length))) (hT : h.T k = some (.cont 1 (ps.map encR))) (hl : ps.length ≤ 11) (hK : CacheH h K ps)
  (hci : ci ∉ ps) (hone : KeysOne (ps.map K)) (hKey : ∀ h, ACalls Tryz.prog 151 [.v (.string item)] h (fun r h' => r = .v (.bool true) ∧ h' = h))
  (hB : ∀ p ∈ ps, 0 ≤ (K p).2.1 ∧ (K p).2.1 ≤ 1000000000000) (hM : ∀ p ∈ ps, 0 ≤ (K p).2.2.2.2.2 ∧ (K p).2.2.2.2.2 ≤ 1000000000) (hr : 0 ≤ room ∧ room ≤ 1000000000000) (hb : 1 ≤ bytes ∧ bytes ≤ 1000000000000) (hnow : 0 ≤ now ∧ now ≤ 1000000000) :
  ACalls Tryz.prog 135 [.ptr ci 0, .v (.string item), .v (.int .i64 bytes)] h (PutR room rule now bytes item K ps ci k h) := by
 have hgo := g_going (item := item) (bytes := bytes) hC hT (by omega) hK hB hr (by omega)
 have hgm := goingF_map item bytes room rule K ps
 have hgmem : ∀ p ∈ (goingF item bytes room rule K ps).1, p ∈ ps := fun p hp => goingF_mem hp
 have hgnot : ∀ p ∈ (goingF item bytes room rule K ps).1, (K p).1 ≠ item := fun p hp => goF_not hp
 have hglen : (goingF item bytes room rule K ps).1.length ≤ ps.length := Nat.le_trans (goF_len item K _ _) (orderF_len rule K ps)
 have hP : putL room rule now (ps.map K) item bytes = putL room rule now (ps.map K) item bytes := rfl
 conv at hP => rhs; unfold putL; rw [← hgm]
 simp only at hP
 generalize goingF item bytes room rule K ps = go at *
 obtain ⟨gone, over⟩ := go
 simp only at hP hgmem hgnot hglen hgo
 clear hgm
 have hOut := a_outside bytes 1 1000000000000
 have hOutE : (decide (bytes < 1) || decide (1000000000000 < bytes)) = false := by simp; omega
 refine gE Tryz.func135 rfl (by kernel_rfl) 93 rfl fun c => ?_
 (repeat (first | refine gO rfl ?_ | ((first | refine gM zM21 ?_ | (with_reducible refine wM ?_ ?_) | ((with_reducible refine xS ?_); refine uD 9 zM21 zPVE zPVP 96 rfl (by kernel_rfl) ?_)) <;> ((try with_reducible intro K1 hK1); simp only [go_sem, ↓reduceIte, reduceCtorEq, nA, nB, nC, nD, nE, nF] <;> and_intros <;> first | (apply hK1; clear hK1 K1) | (intros; first | omega | decide | (simp_all <;> omega)) | skip))))
 refine (hKey _).mono ?_; rintro _ hz ⟨rfl, hh⟩; apply hK1; clear hK1 K1; rw [hh]; clear hh hz
 (repeat (first | refine gO rfl ?_ | ((first | refine gM zM21 ?_ | (with_reducible refine wM ?_ ?_) | ((with_reducible refine xS ?_); refine uD 9 zM21 zPVE zPVP 96 rfl (by kernel_rfl) ?_)) <;> ((try with_reducible intro K1 hK1); simp only [go_sem, ↓reduceIte, reduceCtorEq, nA, nB, nC, nD, nE, nF] <;> and_intros <;> first | (apply hK1; clear hK1 K1) | (intros; first | omega | decide) | skip))))
 refine awp_cond (t := _) rfl (fun h9 => by cases h9) (fun _ => ?_)
 (repeat (first | refine gO rfl ?_ | ((first | refine gM zM21 ?_ | (with_reducible refine wM ?_ ?_) | ((with_reducible refine xS ?_); refine uD 9 zM21 zPVE zPVP 96 rfl (by kernel_rfl) ?_)) <;> ((try with_reducible intro K1 hK1); simp only [go_sem, ↓reduceIte, reduceCtorEq, nA, nB, nC, nD, nE, nF] <;> and_intros <;> first | (apply hK1; clear hK1 K1) | (intros; first | omega | decide) | skip))))
 refine (hOut _).mono ?_; rintro _ hz ⟨rfl, hh⟩; apply hK1; clear hK1 K1; rw [hh]; clear hh hz
 rw [hOutE]
 clear hKey hOut hOutE
 (repeat (first | refine gO rfl ?_ | ((first | refine gM zM21 ?_ | (with_reducible refine wM ?_ ?_) | ((with_reducible refine xS ?_); refine uD 9 zM21 zPVE zPVP 96 rfl (by kernel_rfl) ?_)) <;> ((try with_reducible intro K1 hK1); simp only [go_sem, ↓reduceIte, reduceCtorEq, nA, nB, nC, nD, nE, nF] <;> and_intros <;> first | (apply hK1; clear hK1 K1) | (intros; first | omega | decide) | skip))))
 refine awp_cond (t := _) rfl (fun h9 => by cases h9) (fun _ => ?_)
 (repeat (first | refine gO rfl ?_ | ((first | refine gM zM21 ?_ | (with_reducible refine wM ?_ ?_) | ((with_reducible refine xS ?_); refine uD 9 zM21 zPVE zPVP 96 rfl (by kernel_rfl) ?_)) <;> ((try with_reducible intro K1 hK1); simp only [go_sem, ↓reduceIte, reduceCtorEq, nA, nB, nC, nD, nE, nF] <;> and_intros <;> first | (apply hK1; clear hK1 K1) | (intros; first | omega | decide) | skip))))
 refine hgo.mono ?_
 rintro _ ⟨H2, T2⟩ ⟨kg, rfl, hH, hold⟩
 simp only at hH hold
 subst hH
 refine hK1 _ ?_; clear hK1 K1 hgo
 (repeat (first | refine gO rfl ?_ | ((first | refine gM zM21 ?_ | (with_reducible refine wM ?_ ?_) | ((with_reducible refine xS ?_); refine uD 9 zM21 zPVE zPVP 96 rfl (by kernel_rfl) ?_)) <;> ((try with_reducible intro K1 hK1); simp only [go_sem, ↓reduceIte, reduceCtorEq, nA, nB, nC, nD, nE, nF] <;> and_intros <;> first | (apply hK1; clear hK1 K1) | (intros; first | omega | decide) | skip))))
 intro i hi
 replace hi : h.H i = none := hi
 refine hK1 _ ?_; clear hK1 K1
 (repeat (first | refine gO rfl ?_ | ((first | refine gM zM21 ?_ | (with_reducible refine wM ?_ ?_) | ((with_reducible refine xS ?_); refine uD 9 zM21 zPVE zPVP 96 rfl (by kernel_rfl) ?_)) <;> ((try with_reducible intro K1 hK1); simp only [go_sem, ↓reduceIte, reduceCtorEq, nA, nB, nC, nD, nE, nF, upd_same, upd_upd] <;> and_intros <;> first | (apply hK1; clear hK1 K1) | (intros; first | omega | decide) | skip))))
 by_cases ho : over ≤ 0
 case neg =>
  have hof : decide (over ≤ 0) = false := by simpa using ho
  rw [if_neg ho] at hP
  refine awp_cond (t := !decide (over ≤ 0)) rfl (fun _ => ?_) (fun h9 => by rw [hof] at h9; cases h9)
  (repeat (first | refine gO rfl ?_ | ((first | refine gM zM21 ?_ | (with_reducible refine wM ?_ ?_) | ((with_reducible refine xS ?_); refine uD 9 zM21 zPVE zPVP 96 rfl (by kernel_rfl) ?_)) <;> ((try with_reducible intro K1 hK1); simp only [go_sem, ↓reduceIte, reduceCtorEq, nA, nB, nC, nD, nE, nF] <;> and_intros <;> first | (apply hK1; clear hK1 K1) | (intros; first | omega | decide) | skip))))
  simp only [Tryz.results135, go_sem, ↓reduceIte, reduceCtorEq, nA, nB, nC, nD, nE, nF]
  refine ⟨_, ⟨h.H, T2⟩, Weak.refl _, ⟨fun q => ?_, fun _ => .inr rfl⟩, ?_⟩
  ·by_cases e : q = i
   ·rw [e]; exact .inl hi
   ·exact .inr (upd_other _ _ e).symm
  ·unfold PutR
   rw [hP]
   exact ⟨rfl, rfl, hold⟩
 have hot : decide (over ≤ 0) = true := by simpa using ho
 rw [if_pos ho] at hP
 refine awp_cond (t := !decide (over ≤ 0)) rfl (fun h9 => by rw [hot] at h9; cases h9) (fun _ => ?_)
 have hcii : ci ≠ i := by rintro rfl; rw [hC] at hi; cases hi
 have hpi : ∀ p ∈ ps, p ≠ i := fun p hp => by rintro rfl; have := hK p hp; rw [hi] at this; cases this
 have hne : h.T k ≠ none := by rw [hT]; simp
 have hT2 : T2 k = some (.cont 1 (ps.map encR)) := (hold k hne).trans hT
 have hC3 : upd h.H i (some (.cells [.row 1 (gone.map encR) (some kg)])) ci = some (.cells (encCa room rule now k ps.length)) := (upd_other _ _ hcii).trans hC
 have hI3 : upd h.H i (some (.cells [.row 1 (gone.map encR) (some kg)])) i = some (.cells [.row 1 (gone.map encR) (some kg)]) := upd_same _ _ _
 have hK3 : CacheH ⟨upd h.H i (some (.cells [.row 1 (gone.map encR) (some kg)])), T2⟩ K ps := fun p hp => (upd_other _ _ (hpi p hp)).trans (hK p hp)
 have hfi := g_find (item := item) K ci k room rule now ps ⟨upd h.H i (some (.cells [.row 1 (gone.map encR) (some kg)])), T2⟩ hC3 hT2 (by omega) hK3
 have hfc := findF_cases item K ps
 have hus : uside (findF item K ps) := by rcases hfc with ⟨_, e⟩ | ⟨_, _, _, _, e⟩ <;> rw [e] <;> trivial
 have hun : unw (findF item K ps) = findF item K ps := by rcases hfc with ⟨_, e⟩ | ⟨_, _, _, _, e⟩ <;> rw [e] <;> rfl
 have hcl : cutLoc 0 (findF item K ps) = findF item K ps := by rcases hfc with ⟨_, e⟩ | ⟨_, _, _, _, e⟩ <;> rw [e] <;> rfl
 generalize findF item K ps = fk at *
 unfold uside at hus
 unfold unw at hun
 (repeat (first | refine gO rfl ?_ | ((first | refine gM zM21 ?_ | (with_reducible refine wM ?_ ?_) | ((with_reducible refine xS ?_); refine uD 9 zM21 zPVE zPVP 96 rfl (by kernel_rfl) ?_)) <;> ((try with_reducible intro K1 hK1); simp only [go_sem, ↓reduceIte, reduceCtorEq, nA, nB, nC, nD, nE, nF] <;> and_intros <;> first | (apply hK1; clear hK1 K1) | (intros; first | omega | decide) | skip))))
 refine hfi.mono ?_
 rintro fk hz ⟨rfl, hh⟩; apply hK1; clear hK1 K1; rw [hh]; clear hh hz
 clear hfi
 (repeat (first | refine gQ rfl ?_ | ((first | refine gM zM21 ?_ | (with_reducible refine wM ?_ ?_) | ((with_reducible refine xS ?_); refine uD 9 zM21 zPVE zPVP 96 rfl (by kernel_rfl) ?_)) <;> ((try with_reducible intro K1 hK1); simp only [go_sem, ↓reduceIte, reduceCtorEq, nA, nB, nC, nD, nE, nF, hus, hun] <;> and_intros <;> first | (apply hK1; clear hK1 K1) | (intros; first | omega | decide | (simp_all <;> omega)) | skip))))
 refine awp_seq ?_
 have hlen2 : -1000000000 ≤ (ps.length : Int) - (gone.length : Int) + 1 ∧ (ps.length : Int) - (gone.length : Int) + 1 ≤ 500 := by omega
 have hbig : decide ((500 : Int) < (ps.length : Int) - (gone.length : Int) + 1) = false := by simp; omega
 have hml : (gone.map encR).length = gone.length := List.length_map _
 refine awp_join (rl false [0, 3, 5, 1, 1, 1, 85]) 0 (fun s => s = ⟨((.ptr ci 0) :: (.v (.string item)) :: (.v (.int .i64 bytes)) :: (jnk 5 ((.ptr i 0) :: AV.junk :: ((fk) :: (jnk 85 []))))), [], ⟨upd h.H i (some (.cells [.row 1 (gone.map encR) (some kg)])), T2⟩⟩) ?_ ?_
 ·rcases hfc with ⟨_, rfl⟩ | ⟨p, hp, hpk, hhas, rfl⟩
  ·unfold nilP
   (repeat (first | refine gO rfl ?_ | ((first | refine gM zM21 ?_ | (with_reducible refine wM ?_ ?_) | ((with_reducible refine xS ?_); refine uD 9 zM21 zPVE zPVP 96 rfl (by kernel_rfl) ?_)) <;> ((try with_reducible intro K1 hK1); simp only [go_sem, ↓reduceIte, reduceCtorEq, nA, nB, nC, nD, nE, nF, hC3, hI3, encCa, hml] <;> and_intros <;> first | (apply hK1; clear hK1 K1) | (intros; first | omega | decide) | skip))))
   refine awp_cond (t := _) rfl (fun h9 => by rw [hbig] at h9; cases h9) (fun _ => ?_)
   (repeat (first | refine gO rfl ?_ | ((first | refine gM zM21 ?_ | (with_reducible refine wM ?_ ?_) | ((with_reducible refine xS ?_); refine uD 9 zM21 zPVE zPVP 96 rfl (by kernel_rfl) ?_)) <;> ((try with_reducible intro K1 hK1); simp only [go_sem, ↓reduceIte, reduceCtorEq, nA, nB, nC, nD, nE, nF] <;> and_intros <;> first | (apply hK1; clear hK1 K1) | (intros; first | omega | decide) | skip))))
   rfl
  ·(repeat (first | refine gO rfl ?_ | ((first | refine gM zM21 ?_ | (with_reducible refine wM ?_ ?_) | ((with_reducible refine xS ?_); refine uD 9 zM21 zPVE zPVP 96 rfl (by kernel_rfl) ?_)) <;> ((try with_reducible intro K1 hK1); simp only [go_sem, ↓reduceIte, reduceCtorEq, nA, nB, nC, nD, nE, nF, hC3, hI3, encCa, hml] <;> and_intros <;> first | (apply hK1; clear hK1 K1) | (intros; first | omega | decide) | skip))))
   refine awp_cond (t := _) rfl (fun h9 => by cases h9) (fun _ => ?_)
   (repeat (first | refine gO rfl ?_ | ((first | refine gM zM21 ?_ | (with_reducible refine wM ?_ ?_) | ((with_reducible refine xS ?_); refine uD 9 zM21 zPVE zPVP 96 rfl (by kernel_rfl) ?_)) <;> ((try with_reducible intro K1 hK1); simp only [go_sem, ↓reduceIte, reduceCtorEq, nA, nB, nC, nD, nE, nF] <;> and_intros <;> first | (apply hK1; clear hK1 K1) | (intros; first | omega | decide) | skip))))
   rfl
 rintro _ rfl
 clear hbig hlen2
 (repeat (first | refine gQ rfl ?_ | ((first | refine gM zM21 ?_ | (with_reducible refine wM ?_ ?_) | ((with_reducible refine xS ?_); refine uD 9 zM21 zPVE zPVP 96 rfl (by kernel_rfl) ?_)) <;> ((try with_reducible intro K1 hK1); simp only [go_sem, ↓reduceIte, reduceCtorEq, nA, nB, nC, nD, nE, nF] <;> and_intros <;> first | (apply hK1; clear hK1 K1) | (intros; first | omega | decide | (simp_all <;> omega)) | skip))))
 refine awp_own 11 1 rfl ⟨rfl, rfl⟩ (fun kt hkt => ?_)
 replace hkt : T2 kt = none := hkt
 refine awp_cut (rl false [0, 3, 5, 1, 1, 2, 84]) 0 (?_ : Awp _ _ _ _ ⟨((.ptr ci 0) :: (.v (.string item)) :: (.v (.int .i64 bytes)) :: (jnk 5 ((.ptr i 0) :: AV.junk :: ((cutLoc 0 fk) :: (.row 1 [] (some kt)) :: (jnk 84 []))))), [], ⟨upd h.H i (some (.cells [.row 1 (gone.map encR) (some kg)])), upd T2 kt (some (.tail 0))⟩⟩)
 rw [hcl]
 have hkk : k ≠ kt := by rintro rfl; rw [hT2] at hkt; cases hkt
 have hl2 := hglen
 (repeat (first | refine gQ rfl ?_ | ((first | refine gM zM21 ?_ | (with_reducible refine wM ?_ ?_) | ((with_reducible refine xS ?_); refine uD 9 zM21 zPVE zPVP 96 rfl (by kernel_rfl) ?_)) <;> ((try with_reducible intro K1 hK1); simp only [go_sem, ↓reduceIte, reduceCtorEq, nA, nB, nC, nD, nE, nF, hI3, hml] <;> and_intros <;> first | (apply hK1; clear hK1 K1) | (intros; first | omega | decide | (simp_all <;> omega)) | skip))))
 refine awp_seq ?_
 (repeat (first | refine gQ rfl ?_ | ((first | refine gM zM21 ?_ | (with_reducible refine wM ?_ ?_) | ((with_reducible refine xS ?_); refine uD 9 zM21 zPVE zPVP 96 rfl (by kernel_rfl) ?_)) <;> ((try with_reducible intro K1 hK1); simp only [go_sem, ↓reduceIte, reduceCtorEq, nA, nB, nC, nD, nE, nF, hI3, hml] <;> and_intros <;> first | (apply hK1; clear hK1 K1) | (intros; first | omega | decide | (simp_all <;> omega)) | skip))))
 refine awp_loopC (rl false [0, 3, 5, 1, 1, 2, 33, 3, 48]) 0 (fun g s => ∃ j : Nat, g + j = gone.length ∧
  s = ⟨((.ptr ci 0) :: (.v (.string item)) :: (.v (.int .i64 bytes)) :: (jnk 5 ((.ptr i 0) :: AV.junk :: ((fk) :: (.row 1 ((gone.take j).map fun p => encNm (K p)) (some kt)) :: (jnk 33 ((.row 1 (gone.map encR) (some kg)) :: (.v (.int .i64 gone.length)) :: (.v (.int .i64 j)) :: (jnk 48 []))))))), [], ⟨upd h.H i (some (.cells [.row 1 (gone.map encR) (some kg)])), upd T2 kt (some (.tail j))⟩⟩) gone.length ⟨0, by omega, congrArg (fun z => (⟨((.ptr ci 0) :: (.v (.string item)) :: (.v (.int .i64 bytes)) :: (jnk 5 ((.ptr i 0) :: AV.junk :: ((z) :: (.row 1 ((gone.take 0).map fun p => encNm (K p)) (some kt)) :: (jnk 33 ((.row 1 (gone.map encR) (some kg)) :: (.v (.int .i64 gone.length)) :: (.v (.int .i64 ((0 : Nat) : Int))) :: (jnk 48 []))))))), [], ⟨upd h.H i (some (.cells [.row 1 (gone.map encR) (some kg)])), upd T2 kt (some (.tail 0))⟩⟩ : St)) hcl⟩ ?_
 rintro g _ ⟨j, hj, rfl⟩
 (repeat (first | refine gO rfl ?_ | ((first | refine gM zM21 ?_ | (with_reducible refine wM ?_ ?_) | ((with_reducible refine xS ?_); refine uD 9 zM21 zPVE zPVP 96 rfl (by kernel_rfl) ?_)) <;> ((try with_reducible intro K1 hK1); simp only [go_sem, ↓reduceIte, reduceCtorEq, nA, nB, nC, nD, nE, nF] <;> and_intros <;> first | (apply hK1; clear hK1 K1) | (intros; first | omega | decide) | skip))))
 refine awp_cond (t := _) rfl (fun h1 => ?_) (fun h1 => ?_)
 ·simp only [decide_eq_true_eq] at h1
  have hjl : j < gone.length := by omega
  have gx : (gone.map encR).getD j [] = encR (gone.getD j default) := getD_enc encR gone j default hjl
  have htj := take_at' gone j default hjl
  have hpm : gone.getD j default ∈ ps := hgmem _ (by rw [List.getD_eq_getElem?_getD, List.getElem?_eq_getElem hjl]; exact List.getElem_mem _)
  obtain ⟨p, hp⟩ : ∃ p, gone.getD j default = p := ⟨_, rfl⟩
  rw [hp] at gx htj hpm
  have hhp := hK3 p hpm
  have hen : encNm (K p) = [.v (.string (K p).1)] := rfl
  have htl : (gone.take j).length = j := by rw [List.length_take]; omega
  have htk : upd T2 kt (some (TO.tail j)) kt = some (.tail j) := upd_same _ _ _
  generalize hx : K p = x at *
  obtain ⟨ke, by1, pi, ca, la, ma⟩ := x
  (repeat (first | refine gO rfl ?_ | ((first | refine gM zM21 ?_ | (with_reducible refine wM ?_ ?_) | ((with_reducible refine xS ?_); refine uD 9 zM21 zPVE zPVP 96 rfl (by kernel_rfl) ?_)) <;> ((try with_reducible intro K1 hK1); simp only [go_sem, ↓reduceIte, reduceCtorEq, nA, nB, nC, nD, nE, nF, hml, Int.toNat_natCast, gx, encR, hhp, encKp, List.length_map, htl, htk] <;> and_intros <;> first | (apply hK1; clear hK1 K1) | (intros; first | omega | decide) | skip))))
  refine ⟨g - 1, by omega, j + 1, by omega, ?_⟩
  rw [htj, List.map_append, List.map_cons, hx, hen]
  exact congrArg (fun z => (⟨((.ptr ci 0) :: (.v (.string item)) :: (.v (.int .i64 bytes)) :: (jnk 5 ((.ptr i 0) :: AV.junk :: ((z) :: (.row 1 (((gone.take j).map fun p => encNm (K p)) ++ [[.v (.string ke)]]) (some kt)) :: (jnk 33 ((.row 1 (gone.map encR) (some kg)) :: (.v (.int .i64 gone.length)) :: (.v (.int .i64 ((j : Int) + 1))) :: (jnk 48 []))))))), [], ⟨upd h.H i (some (.cells [.row 1 (gone.map encR) (some kg)])), upd T2 kt (some (.tail (j + 1)))⟩⟩ : St)) hcl
 simp only [decide_eq_false_iff_not] at h1
 have hjl : j = gone.length := by omega
 subst hjl
 rw [List.take_length]
 have hT4 : upd T2 kt (some (TO.tail gone.length)) k = some (.cont 1 (ps.map encR)) := (upd_other _ _ hkk).trans hT2
 have hde := g_delK (caps := [.ptr i 0]) (fun p => gone.contains p) k ps ⟨upd h.H i (some (.cells [.row 1 (gone.map encR) (some kg)])), upd T2 kt (some (.tail gone.length))⟩ hT4 (by omega) (fun p hp T' => g_put1 (K := K) p kg i gone ⟨_, T'⟩ hI3 (hK3 p hp) (fun q hq => hK3 q (hgmem q hq)) (by omega))
 (repeat (first | refine gO rfl ?_ | ((first | refine gM zM21 ?_ | (with_reducible refine wM ?_ ?_) | ((with_reducible refine xS ?_); refine uD 9 zM21 zPVE zPVP 96 rfl (by kernel_rfl) ?_)) <;> ((try with_reducible intro K1 hK1); simp only [go_sem, ↓reduceIte, reduceCtorEq, nA, nB, nC, nD, nE, nF, hC3, encCa] <;> and_intros <;> first | (apply hK1; clear hK1 K1) | (intros; first | omega | decide) | skip))))
 refine hde.mono ?_
 rintro _ ⟨H5, T5⟩ ⟨q, rfl, hH5, hT5, hoth⟩
 simp only at hH5 hT5 hoth
 subst hH5
 refine hK1 _ ?_; clear hK1 K1 hde
 have hst : ps.filter (fun p => !gone.contains p) = stayF gone ps := rfl
 rw [hst] at hT5 ⊢
 have hsm : ∀ p ∈ stayF gone ps, p ∈ ps := fun p hp => (List.mem_filter.1 hp).1
 have hsl : (stayF gone ps).length ≤ ps.length := List.length_filter_le _ _
 have hsmap := stayF_map (K := K) hone hgmem
 have hone2 : KeysOne ((stayF gone ps).map K) := by rw [hsmap]; exact keysOne_filter hone _
 have hrow : gone.map (fun p => encNm (K p)) = (gone.map K).map encNm := by rw [List.map_map]; rfl
 have hTfr : ∀ t, h.T t ≠ none → t ≠ k → T5 t = h.T t ∧ t ≠ q := fun t ht htk => by
  have h1 := hold t ht
  have h2 : t ≠ kt := by rintro rfl; rw [h1] at hkt; exact ht hkt
  have h3 := hoth t htk (by rw [upd_other _ _ h2, h1]; exact ht)
  exact ⟨h3.2.trans ((upd_other _ _ h2).trans h1), h3.1⟩
 have hpci : ∀ p ∈ ps, p ≠ ci := fun p hp => by rintro rfl; exact hci hp
 generalize hSt : stayF gone ps = st at *
 rcases hfc with ⟨hhas, rfl⟩ | ⟨p, hp, hpk, hhas, rfl⟩
 ·unfold nilP
  (repeat (first | refine gO rfl ?_ | ((first | refine gM zM21 ?_ | (with_reducible refine wM ?_ ?_) | ((with_reducible refine xS ?_); refine uD 9 zM21 zPVE zPVP 96 rfl (by kernel_rfl) ?_)) <;> ((try with_reducible intro K1 hK1); simp only [go_sem, ↓reduceIte, reduceCtorEq, nA, nB, nC, nD, nE, nF, hC3, encCa] <;> and_intros <;> first | (apply hK1; clear hK1 K1) | (intros; first | omega | decide) | skip))))
  obtain ⟨H6, hH6⟩ : ∃ H6, H6 = upd (upd h.H i (some (AO.cells [AV.row 1 (List.map encR gone) (some kg)]))) ci (some (AO.cells [.v (.int .i64 room), .v (.int .i64 rule), .v (.int .i64 now), AV.arr 1 q st.length])) := ⟨_, rfl⟩
  rw [← hH6]
  have c6 : H6 ci = some (.cells (encCa room rule now q st.length)) := by rw [hH6]; exact upd_same _ _ _
  have k6 : ∀ r, r ≠ ci → r ≠ i → H6 r = h.H r := fun r h1 h2 => by rw [hH6, upd_other _ _ h1, upd_other _ _ h2]
  clear hH6
  refine awp_cond (t := _) rfl (fun _ => ?_) (fun h9 => by cases h9)
  (repeat (first | refine gO rfl ?_ | ((first | refine gM zM21 ?_ | (with_reducible refine wM ?_ ?_) | ((with_reducible refine xS ?_); refine uD 9 zM21 zPVE zPVP 96 rfl (by kernel_rfl) ?_)) <;> ((try with_reducible intro K1 hK1); simp only [go_sem, ↓reduceIte, reduceCtorEq, nA, nB, nC, nD, nE, nF, c6, encCa] <;> and_intros <;> first | (apply hK1; clear hK1 K1) | (intros; first | omega | decide) | skip))))
  intro pn hpn
  replace hpn : H6 pn = none := hpn
  refine hK1 _ ?_; clear hK1 K1
  have hcn : ci ≠ pn := by rintro rfl; rw [c6] at hpn; cases hpn
  have hnc : pn ≠ ci := fun e => hcn e.symm
  have hrn : ∀ r, h.H r ≠ none → r ≠ ci → r ≠ pn := fun r hr h1 => by
   rintro rfl
   rw [k6 r h1 (by rintro rfl; exact hr hi)] at hpn
   exact hr hpn
  have hstl : (st.map encR).length = st.length := List.length_map _
  have hTq : ∀ X, upd T5 q (some (TO.cont 1 X)) q = some (.cont 1 X) := fun X => upd_same _ _ _
  have hask := fun H T n (hc : H ci = some (.cells (encCa room rule now q n))) (hpp : H pn = some (.cells (encKp (item, bytes, false, now + 1, 0, 0)))) => g_ask (x := (item, bytes, false, now + 1, 0, 0)) (h := ⟨H, T⟩) hc hpp hcn (by omega) (by show (0 : Int) ≤ 0 ∧ (0 : Int) ≤ 1000000000; omega)
  (repeat (first | refine gO rfl ?_ | ((first | refine gM zM21 ?_ | (with_reducible refine wM ?_ ?_) | ((with_reducible refine xS ?_); refine uD 9 zM21 zPVE zPVP 96 rfl (by kernel_rfl) ?_)) <;> ((try with_reducible intro K1 hK1); simp only [go_sem, ↓reduceIte, reduceCtorEq, nA, nB, nC, nD, nE, nF, c6, encCa, upd_other _ _ hcn, upd_other _ _ hnc, upd_same, hT5, hstl] <;> and_intros <;> first | (apply hK1; clear hK1 K1) | (intros; first | omega | decide) | skip))))
  refine (hask _ _ (st.length + 1) ((upd_other _ _ hcn).trans (upd_same _ _ _)) (upd_same _ _ _)).mono ?_; rintro _ hz ⟨rfl, hh⟩; apply hK1; clear hK1 K1; rw [hh]; clear hh hz
  (repeat (first | refine gO rfl ?_ | ((first | refine gM zM21 ?_ | (with_reducible refine wM ?_ ?_) | ((with_reducible refine xS ?_); refine uD 9 zM21 zPVE zPVP 96 rfl (by kernel_rfl) ?_)) <;> ((try with_reducible intro K1 hK1); simp only [go_sem, ↓reduceIte, reduceCtorEq, nA, nB, nC, nD, nE, nF] <;> and_intros <;> first | (apply hK1; clear hK1 K1) | (intros; first | omega | decide) | skip))))
  simp only [Tryz.results135, go_sem, ↓reduceIte, reduceCtorEq, nA, nB, nC, nD, nE, nF]
  refine ⟨_, _, Weak.refl _, Hp.le.refl _, ?_⟩
  unfold PutR
  rw [hP, hhas, if_neg (by decide)]
  have hnst : pn ∉ st := fun hm => hrn pn (by rw [hK pn (hsm pn hm)]; simp) (hpci pn (hsm pn hm)) rfl
  have hKK : st.map (fun r => if r = pn then newK item bytes now else K r) = st.map K := List.map_congr_left fun r hr => if_neg (fun (e : r = pn) => hnst (e ▸ hr))
  refine ⟨fun r => if r = pn then newK item bytes now else K r, st ++ [pn], q, kt, by rw [hrow], ?_, fun r hr => ?_, ?_, ?_, fun hm => ?_, fun r hr h1 h2 => ?_, fun t ht htk => ?_⟩
  ·rw [List.map_append, hKK, hsmap, List.map_cons, List.map_nil, if_pos rfl]
  ·show upd (upd _ ci _) pn _ r = some (AO.cells (encKp (if r = pn then newK item bytes now else K r)))
   by_cases e : r = pn
   ·rw [e, upd_same, if_pos rfl]; rfl
   ·have hrs : r ∈ st := by
     rcases List.mem_append.1 hr with h1 | h1
     ·exact h1
     ·exact absurd (List.mem_singleton.1 h1) e
    rw [upd_other _ _ e, upd_other _ _ (hpci r (hsm r hrs)), upd_other _ _ e, upd_other _ _ (hpci r (hsm r hrs)), upd_other _ _ e, k6 r (hpci r (hsm r hrs)) (hpi r (hsm r hrs)), if_neg e]
    exact hK r (hsm r hrs)
  ·show upd (upd _ ci _) pn _ ci = _
   rw [upd_other _ _ hcn, upd_same, List.length_append, List.length_singleton]
  ·show upd T5 q _ q = _
   rw [upd_same, List.map_append]; rfl
  ·rcases List.mem_append.1 hm with h1 | h1
   ·exact hci (hsm ci h1)
   ·exact hcn (List.mem_singleton.1 h1)
  ·show upd (upd _ ci _) pn _ r = _
   have e : r ≠ pn := hrn r hr h1
   have ei : r ≠ i := by rintro rfl; exact hr hi
   rw [upd_other _ _ e, upd_other _ _ h1, upd_other _ _ e, upd_other _ _ h1, upd_other _ _ e, k6 r h1 ei]
  ·show upd T5 q _ t = _
   rw [upd_other _ _ (hTfr t ht htk).2]; exact (hTfr t ht htk).1
 ·(repeat (first | refine gO rfl ?_ | ((first | refine gM zM21 ?_ | (with_reducible refine wM ?_ ?_) | ((with_reducible refine xS ?_); refine uD 9 zM21 zPVE zPVP 96 rfl (by kernel_rfl) ?_)) <;> ((try with_reducible intro K1 hK1); simp only [go_sem, ↓reduceIte, reduceCtorEq, nA, nB, nC, nD, nE, nF, hC3, encCa] <;> and_intros <;> first | (apply hK1; clear hK1 K1) | (intros; first | omega | decide) | skip))))
  obtain ⟨H6, hH6⟩ : ∃ H6, H6 = upd (upd h.H i (some (AO.cells [AV.row 1 (List.map encR gone) (some kg)]))) ci (some (AO.cells [.v (.int .i64 room), .v (.int .i64 rule), .v (.int .i64 now), AV.arr 1 q st.length])) := ⟨_, rfl⟩
  rw [← hH6]
  have c6 : H6 ci = some (.cells (encCa room rule now q st.length)) := by rw [hH6]; exact upd_same _ _ _
  have k6 : ∀ r, r ≠ ci → r ≠ i → H6 r = h.H r := fun r h1 h2 => by rw [hH6, upd_other _ _ h1, upd_other _ _ h2]
  clear hH6
  refine awp_cond (t := _) rfl (fun h9 => by cases h9) (fun _ => ?_)
  have p6 : H6 p = some (.cells (encKp (K p))) := (k6 p (hpci p hp) (hpi p hp)).trans (hK p hp)
  have hMp := hM p hp
  have hask := fun H (hc : H ci = some (.cells (encCa room rule now q st.length))) (hpp : H p = some (.cells (encKp (setB bytes (K p))))) => g_ask (x := setB bytes (K p)) (h := ⟨H, T5⟩) hc hpp (hpci p hp).symm (by omega) hMp
  have hcp : ci ≠ p := (hpci p hp).symm
  have hKe : encKp (setB bytes (K p)) = [.v (.string (K p).1), .v (.int .i64 bytes), .v (.bool (K p).2.2.1), .v (.int .i64 (K p).2.2.2.1), .v (.int .i64 (K p).2.2.2.2.1), .v (.int .i64 (K p).2.2.2.2.2)] := rfl
  have hKe2 : encKp (K p) = [.v (.string (K p).1), .v (.int .i64 (K p).2.1), .v (.bool (K p).2.2.1), .v (.int .i64 (K p).2.2.2.1), .v (.int .i64 (K p).2.2.2.2.1), .v (.int .i64 (K p).2.2.2.2.2)] := rfl
  rw [hKe2] at p6
  (repeat (first | refine gO rfl ?_ | ((first | refine gM zM21 ?_ | (with_reducible refine wM ?_ ?_) | ((with_reducible refine xS ?_); refine uD 9 zM21 zPVE zPVP 96 rfl (by kernel_rfl) ?_)) <;> ((try with_reducible intro K1 hK1); simp only [go_sem, ↓reduceIte, reduceCtorEq, nA, nB, nC, nD, nE, nF, p6] <;> and_intros <;> first | (apply hK1; clear hK1 K1) | (intros; first | omega | decide) | skip))))
  refine (hask _ ((upd_other _ _ hcp).trans c6) (by rw [hKe]; exact upd_same _ _ _)).mono ?_; rintro _ hz ⟨rfl, hh⟩; apply hK1; clear hK1 K1; rw [hh]; clear hh hz
  (repeat (first | refine gO rfl ?_ | ((first | refine gM zM21 ?_ | (with_reducible refine wM ?_ ?_) | ((with_reducible refine xS ?_); refine uD 9 zM21 zPVE zPVP 96 rfl (by kernel_rfl) ?_)) <;> ((try with_reducible intro K1 hK1); simp only [go_sem, ↓reduceIte, reduceCtorEq, nA, nB, nC, nD, nE, nF] <;> and_intros <;> first | (apply hK1; clear hK1 K1) | (intros; first | omega | decide) | skip))))
  simp only [Tryz.results135, go_sem, ↓reduceIte, reduceCtorEq, nA, nB, nC, nD, nE, nF]
  refine ⟨_, _, Weak.refl _, Hp.le.refl _, ?_⟩
  unfold PutR
  rw [hP, hhas, if_pos rfl]
  have hps : p ∈ st := by
   rw [← hSt]
   refine List.mem_filter.2 ⟨hp, ?_⟩
   cases hc : gone.contains p with
   | false => rfl
   | true => exact absurd hpk (hgnot p (List.contains_iff_mem.1 hc))
  refine ⟨fun r => if r = p then askF (now + 1) (setB bytes (K p)) else K r, st, q, kt, by rw [hrow], ?_, fun r hr => ?_, ?_, hT5, fun hm => hci (hsm ci hm), fun r hr h1 h2 => ?_, fun t ht htk => (hTfr t ht htk).1⟩
  ·rw [← hsmap]
   exact atK_map (fun x => askF (now + 1) (setB bytes x)) hone2 hps hpk
  ·show upd (upd _ ci _) p _ r = some (AO.cells (encKp (if r = p then askF (now + 1) (setB bytes (K p)) else K r)))
   by_cases e : r = p
   ·subst e; rw [upd_same, if_pos rfl]
   ·rw [upd_other _ _ e, upd_other _ _ (hpci r (hsm r hr)), upd_other _ _ e, k6 r (hpci r (hsm r hr)) (hpi r (hsm r hr)), if_neg e]
    exact hK r (hsm r hr)
  ·show upd (upd _ ci _) p _ ci = _
   rw [upd_other _ _ hcp, upd_same]
  ·show upd (upd _ ci _) p _ r = _
   have e : r ≠ p := fun e => h2 (e ▸ hp)
   have ei : r ≠ i := by rintro rfl; exact hr hi
   rw [upd_other _ _ e, upd_other _ _ h1, upd_other _ _ e, k6 r h1 ei]
def missB (room rule : Int) : List ByteArray → Int → List Kp → Bool
  | [], _, _ => true
  | s :: l, now, L => decide (L.length ≤ 11) && (if hasL s L then missB room rule l (now + 1) (atK s (askF (now + 1)) L) else
    match putL room rule now L s 1 with
    | some (L', _) => missB room rule l (now + 1) L'
    | none => false)
def OkL (now : Int) (L : List Kp) : Prop := ∀ x ∈ L, x.2.1 = 1 ∧ 0 ≤ x.2.2.2.2.2 ∧ x.2.2.2.2.2 ≤ now
theorem OkL.ask {now : Int} {L : List Kp} (h : OkL now L) (s : ByteArray) : OkL (now + 1) (atK s (askF (now + 1)) L) := fun x hx => by
  obtain ⟨y, hy, rfl⟩ := List.mem_map.1 hx
  have := h y hy
  split
  · exact ⟨this.1, by show 0 ≤ y.2.2.2.2.2 + 1 ∧ y.2.2.2.2.2 + 1 ≤ now + 1; omega⟩
  · exact ⟨this.1, by omega⟩
theorem OkL.put {now : Int} {L L' g : List Kp} (h : OkL now L) (h0 : 0 ≤ now) {room rule : Int} {s : ByteArray} (hp : putL room rule now L s 1 = some (L', g)) : OkL (now + 1) L' := by
  unfold putL at hp
  split at hp
  · simp only [Option.some.injEq, Prod.mk.injEq] at hp
    obtain ⟨rfl, _⟩ := hp
    split
    · intro x hx
      obtain ⟨y, hy, rfl⟩ := List.mem_map.1 hx
      have := h y (leftL_sub hy)
      split
      · exact ⟨rfl, by show 0 ≤ y.2.2.2.2.2 + 1 ∧ y.2.2.2.2.2 + 1 ≤ now + 1; omega⟩
      · exact ⟨this.1, by omega⟩
    · intro x hx
      rcases List.mem_append.1 hx with hx | hx
      · have := h x (leftL_sub hx)
        exact ⟨this.1, by omega⟩
      · rw [List.mem_singleton] at hx
        subst hx
        exact ⟨rfl, by show (0 : Int) ≤ 1 ∧ (1 : Int) ≤ now + 1; omega⟩
  · cases hp
theorem missL_cons (room rule : Int) (s : ByteArray) (l : List ByteArray) (now : Int) (L : List Kp) (n : Int) : missL room rule (s :: l) now L n = if hasL s L then missL room rule l (now + 1) (atK s (askF (now + 1)) L) n else
    match putL room rule now L s 1 with
    | some (L', _) => missL room rule l (now + 1) L' (n + 1)
    | none => none := rfl
theorem missB_cons (room rule : Int) (s : ByteArray) (l : List ByteArray) (now : Int) (L : List Kp) : missB room rule (s :: l) now L = (decide (L.length ≤ 11) && (if hasL s L then missB room rule l (now + 1) (atK s (askF (now + 1)) L) else
    match putL room rule now L s 1 with
    | some (L', _) => missB room rule l (now + 1) L'
    | none => false)) := rfl
def encT (x : ByteArray) : List AV := [.v (.string x)]
theorem g_ruleFault (rule : Int) (h : Hp) (h1 : 1 ≤ rule ∧ rule ≤ 4) : ACalls Tryz.prog 131 [.v (.int .i64 rule)] h (fun r h' => r = .v (.int .i64 0) ∧ h' = h) := by
 have hO := a_outside rule 1 4
 have hE : (decide (rule < 1) || decide (4 < rule)) = false := by simp; omega
 refine gE Tryz.func131 rfl (by kernel_rfl) 4 rfl fun c => ?_
 (repeat (first | refine gO rfl ?_ | (refine gR fun K1 hK1 => ?_; simp only [go_sem, ↓reduceIte, reduceCtorEq, nA, nB, nC, nD, nE, nF] <;> and_intros <;> first | (apply hK1; clear hK1 K1) | (intros; first | omega | decide | (simp_all <;> omega)) | skip)))
 refine (hO _).mono ?_; rintro _ hz ⟨rfl, hh⟩; apply hK1; clear hK1 K1; rw [hh]; clear hh hz
 rw [hE]
 (repeat (first | refine gO rfl ?_ | (refine gR fun K1 hK1 => ?_; simp only [go_sem, ↓reduceIte, reduceCtorEq, nA, nB, nC, nD, nE, nF] <;> and_intros <;> first | (apply hK1; clear hK1 K1) | (intros; first | omega | decide) | skip)))
 refine awp_cond (t := _) rfl (fun h9 => by cases h9) (fun _ => ?_)
 (repeat (first | refine gO rfl ?_ | (refine gR fun K1 hK1 => ?_; simp only [go_sem, ↓reduceIte, reduceCtorEq, nA, nB, nC, nD, nE, nF] <;> and_intros <;> first | (apply hK1; clear hK1 K1) | (intros; first | omega | decide) | skip)))
 simp only [Tryz.results131, go_sem, ↓reduceIte, reduceCtorEq, nA, nB, nC, nD, nE, nF]
 exact ⟨_, _, Weak.refl _, Hp.le.refl _, rfl, rfl⟩
theorem g_usesFault (l : List ByteArray) (h : Hp) (hl : l.length ≤ 2000) (hk : ∀ s ∈ l, keyB s = true ∧ s.size ≤ 1000) : ACalls Tryz.prog 132 [.row 1 (l.map encT) none] h (fun r h' => r = .v (.int .i64 0) ∧ h' = h) := by
 have hml : (l.map encT).length = l.length := List.length_map _
 have hb : decide ((2000 : Int) < (l.length : Int)) = false := by simp; omega
 refine gE Tryz.func132 rfl (by kernel_rfl) 17 rfl fun c => ?_
 (repeat (first | refine gO rfl ?_ | (refine gR fun K1 hK1 => ?_; simp only [go_sem, ↓reduceIte, reduceCtorEq, nA, nB, nC, nD, nE, nF, hml] <;> and_intros <;> first | (apply hK1; clear hK1 K1) | (intros; first | omega | decide | (simp_all <;> omega)) | skip)))
 refine awp_cond (t := _) rfl (fun h9 => by rw [hb] at h9; cases h9) (fun _ => ?_)
 (repeat (first | refine gO rfl ?_ | (refine gR fun K1 hK1 => ?_; simp only [go_sem, ↓reduceIte, reduceCtorEq, nA, nB, nC, nD, nE, nF, hml] <;> and_intros <;> first | (apply hK1; clear hK1 K1) | (intros; first | omega | decide) | skip)))
 refine awp_loopC (rl false [8, 3, 7]) 0 (fun g s => ∃ j : Nat, g + j = l.length ∧
  s = ⟨((jnk 8 ((.row 1 (l.map encT) none) :: (.v (.int .i64 l.length)) :: (.v (.int .i64 j)) :: (jnk 7 [])))), [], h⟩) l.length ⟨0, by omega, rfl⟩ ?_
 rintro g _ ⟨j, hj, rfl⟩
 (repeat (first | refine gO rfl ?_ | (refine gR fun K1 hK1 => ?_; simp only [go_sem, ↓reduceIte, reduceCtorEq, nA, nB, nC, nD, nE, nF] <;> and_intros <;> first | (apply hK1; clear hK1 K1) | (intros; first | omega | decide) | skip)))
 refine awp_cond (t := _) rfl (fun h1 => ?_) (fun h1 => ?_)
 ·simp only [decide_eq_true_eq] at h1
  have hjl : j < l.length := by omega
  have gx : (l.map encT).getD j [] = encT (l.getD j default) := getD_enc encT l j default hjl
  obtain ⟨hk1, hk2⟩ := hk (l.getD j default) (by rw [List.getD_eq_getElem?_getD, List.getElem?_eq_getElem hjl]; exact List.getElem_mem _)
  generalize l.getD j default = s at *
  have hkk := a_isKey s (by omega) h
  rw [hk1] at hkk
  (repeat (first | refine gO rfl ?_ | (refine gR fun K1 hK1 => ?_; simp only [go_sem, ↓reduceIte, reduceCtorEq, nA, nB, nC, nD, nE, nF, hml, Int.toNat_natCast, gx, encT] <;> and_intros <;> first | (apply hK1; clear hK1 K1) | (intros; first | omega | decide) | skip)))
  refine hkk.mono ?_; rintro _ hz ⟨rfl, hh⟩; apply hK1; clear hK1 K1; rw [hh]; clear hh hz
  (repeat (first | refine gO rfl ?_ | (refine gR fun K1 hK1 => ?_; simp only [go_sem, ↓reduceIte, reduceCtorEq, nA, nB, nC, nD, nE, nF] <;> and_intros <;> first | (apply hK1; clear hK1 K1) | (intros; first | omega | decide) | skip)))
  refine awp_cond (t := _) rfl (fun h9 => by cases h9) (fun _ => ?_)
  (repeat (first | refine gO rfl ?_ | (refine gR fun K1 hK1 => ?_; simp only [go_sem, ↓reduceIte, reduceCtorEq, nA, nB, nC, nD, nE, nF] <;> and_intros <;> first | (apply hK1; clear hK1 K1) | (intros; first | omega | decide) | skip)))
  exact ⟨g - 1, by omega, j + 1, by omega, rfl⟩
 ·(repeat (first | refine gO rfl ?_ | (refine gR fun K1 hK1 => ?_; simp only [go_sem, ↓reduceIte, reduceCtorEq, nA, nB, nC, nD, nE, nF] <;> and_intros <;> first | (apply hK1; clear hK1 K1) | (intros; first | omega | decide) | skip)))
  simp only [Tryz.results132, go_sem, ↓reduceIte, reduceCtorEq, nA, nB, nC, nD, nE, nF]
  exact ⟨_, _, Weak.refl _, Hp.le.refl _, rfl, rfl⟩
theorem g_misses (room rule N : Int) (l : List ByteArray) (h : Hp) (hr : 1 ≤ room ∧ room ≤ 500) (hru : 1 ≤ rule ∧ rule ≤ 4) (hl : l.length ≤ 2000) (hk : ∀ s ∈ l, keyB s = true ∧ s.size ≤ 1000) (hm : missL room rule l 0 [] 0 = some N) (hmb : missB room rule l 0 [] = true) :
  ACalls Tryz.prog 71 [.v (.int .i64 room), .v (.int .i64 rule), .row 1 (l.map encT) none] h (fun r h' => r = .tup [.v (.int .i64 N), .v (.int .i64 0)]) := by
 have hml : (l.map encT).length = l.length := List.length_map _
 have hO := a_outside room 1 500
 have hE : (decide (room < 1) || decide (500 < room)) = false := by simp; omega
 refine gE Tryz.func71 rfl (by kernel_rfl) 57 rfl fun c => ?_
 (repeat (first | refine gO rfl ?_ | (refine gM zM22 fun K1 hK1 => ?_; simp only [go_sem, ↓reduceIte, reduceCtorEq, nA, nB, nC, nD, nE, nF] <;> and_intros <;> first | (apply hK1; clear hK1 K1) | (intros; first | omega | decide | (simp_all <;> omega)) | skip)))
 refine (hO _).mono ?_; rintro _ hz ⟨rfl, hh⟩; apply hK1; clear hK1 K1; rw [hh]; clear hh hz
 rw [hE]
 (repeat (first | refine gO rfl ?_ | (refine gM zM22 fun K1 hK1 => ?_; simp only [go_sem, ↓reduceIte, reduceCtorEq, nA, nB, nC, nD, nE, nF] <;> and_intros <;> first | (apply hK1; clear hK1 K1) | (intros; first | omega | decide) | skip)))
 refine awp_cond (t := _) rfl (fun h9 => by cases h9) (fun _ => ?_)
 (repeat (first | refine gO rfl ?_ | (refine gM zM22 fun K1 hK1 => ?_; simp only [go_sem, ↓reduceIte, reduceCtorEq, nA, nB, nC, nD, nE, nF] <;> and_intros <;> first | (apply hK1; clear hK1 K1) | (intros; first | omega | decide) | skip)))
 refine (g_ruleFault rule _ hru).mono ?_; rintro _ hz ⟨rfl, hh⟩; apply hK1; clear hK1 K1; rw [hh]; clear hh hz
 (repeat (first | refine gO rfl ?_ | (refine gM zM22 fun K1 hK1 => ?_; simp only [go_sem, ↓reduceIte, reduceCtorEq, nA, nB, nC, nD, nE, nF] <;> and_intros <;> first | (apply hK1; clear hK1 K1) | (intros; first | omega | decide) | skip)))
 refine awp_cond (t := _) rfl (fun h9 => by cases h9) (fun _ => ?_)
 (repeat (first | refine gO rfl ?_ | (refine gM zM22 fun K1 hK1 => ?_; simp only [go_sem, ↓reduceIte, reduceCtorEq, nA, nB, nC, nD, nE, nF] <;> and_intros <;> first | (apply hK1; clear hK1 K1) | (intros; first | omega | decide) | skip)))
 refine (g_usesFault l _ hl hk).mono ?_; rintro _ hz ⟨rfl, hh⟩; apply hK1; clear hK1 K1; rw [hh]; clear hh hz
 (repeat (first | refine gO rfl ?_ | (refine gM zM22 fun K1 hK1 => ?_; simp only [go_sem, ↓reduceIte, reduceCtorEq, nA, nB, nC, nD, nE, nF] <;> and_intros <;> first | (apply hK1; clear hK1 K1) | (intros; first | omega | decide) | skip)))
 refine awp_cond (t := _) rfl (fun h9 => by cases h9) (fun _ => ?_)
 (repeat (first | refine gO rfl ?_ | (refine gM zM22 fun K1 hK1 => ?_; simp only [go_sem, ↓reduceIte, reduceCtorEq, nA, nB, nC, nD, nE, nF] <;> and_intros <;> first | (apply hK1; clear hK1 K1) | (intros; first | omega | decide) | skip)))
 intro ci hci
 refine hK1 _ ?_; clear hK1 K1
 (repeat (first | refine gO rfl ?_ | (refine gM zM22 fun K1 hK1 => ?_; simp only [go_sem, ↓reduceIte, reduceCtorEq, nA, nB, nC, nD, nE, nF, hml] <;> and_intros <;> first | (apply hK1; clear hK1 K1) | (intros; first | omega | decide) | skip)))
 refine awp_ownObj ci 3 1 (cs := [.v (.int .i64 room), .v (.int .i64 rule), .v (.int .i64 0), .v (.slice none 0 0)]) (upd_same _ _ _) rfl (fun k0 hk0 => ?_)
 refine awp_loopC (rl false [10, 2, 21, 3, 24]) 0 (fun g s => ∃ (j : Nat) (n : Int) (K : Nat → Kp) (ps : List Nat) (k : Nat) (h' : Hp), g + j = l.length ∧ missL room rule (l.drop j) j (ps.map K) n = some N ∧ missB room rule (l.drop j) j (ps.map K) = true ∧ 0 ≤ n ∧ n ≤ j ∧
   h'.H ci = some (.cells (encCa room rule j k ps.length)) ∧ h'.T k = some (.cont 1 (ps.map encR)) ∧ CacheH h' K ps ∧ ci ∉ ps ∧ KeysOne (ps.map K) ∧ OkL j (ps.map K) ∧
  s = ⟨((jnk 10 ((.ptr ci 0) :: (.v (.int .i64 n)) :: (jnk 21 ((.row 1 (l.map encT) none) :: (.v (.int .i64 l.length)) :: (.v (.int .i64 j)) :: (jnk 24 [])))))), [], h'⟩) l.length
  ⟨0, 0, fun _ => default, [], k0, ⟨upd (upd h.H ci (some (.cells [.v (.int .i64 room), .v (.int .i64 rule), .v (.int .i64 0), .v (.slice none 0 0)]))) ci (some (.cells (encCa room rule ((0 : Nat) : Int) k0 0))), upd h.T k0 (some (.cont 1 []))⟩, by omega, by rw [List.drop_zero]; exact hm, by rw [List.drop_zero]; exact hmb, by omega, by omega, upd_same _ _ _, upd_same _ _ _, (fun p hp => by cases hp), (by simp), List.Pairwise.nil, (fun x hx => by cases hx), rfl⟩ ?_
 rintro g _ ⟨j, n, K, ps, k, h', hj, hmj, hbj, hn0, hnj, hC, hT, hK, hcp, hone, hok, rfl⟩
 (repeat (first | refine gO rfl ?_ | (refine gM zM22 fun K1 hK1 => ?_; simp only [go_sem, ↓reduceIte, reduceCtorEq, nA, nB, nC, nD, nE, nF] <;> and_intros <;> first | (apply hK1; clear hK1 K1) | (intros; first | omega | decide) | skip)))
 refine awp_cond (t := _) rfl (fun h1 => ?_) (fun h1 => ?_)
 ·simp only [decide_eq_true_eq] at h1
  have hjl : j < l.length := by omega
  have gx : (l.map encT).getD j [] = encT (l.getD j default) := getD_enc encT l j default hjl
  have hdj := drop_at' l j default hjl
  obtain ⟨hk1, hk2⟩ := hk (l.getD j default) (by rw [List.getD_eq_getElem?_getD, List.getElem?_eq_getElem hjl]; exact List.getElem_mem _)
  generalize l.getD j default = s at *
  rw [hdj, missL_cons] at hmj
  rw [hdj, missB_cons, Bool.and_eq_true, decide_eq_true_eq, List.length_map] at hbj
  obtain ⟨hp11, hbj⟩ := hbj
  have hkk := fun h => a_isKey s (by omega) h
  rw [hk1] at hkk
  have hokp : ∀ p ∈ ps, (K p).2.1 = 1 ∧ 0 ≤ (K p).2.2.2.2.2 ∧ (K p).2.2.2.2.2 ≤ j := fun p hp => hok (K p) (List.mem_map_of_mem hp)
  have hfi := g_find (item := s) K ci k room rule j ps h' hC hT (by omega) hK
  have hfc := findF_cases s K ps
  (repeat (first | refine gO rfl ?_ | (refine gM zM22 fun K1 hK1 => ?_; simp only [go_sem, ↓reduceIte, reduceCtorEq, nA, nB, nC, nD, nE, nF, hml, Int.toNat_natCast, gx, encT] <;> and_intros <;> first | (apply hK1; clear hK1 K1) | (intros; first | omega | decide) | skip)))
  refine hfi.mono ?_
  rintro fk hz ⟨rfl, hh⟩; apply hK1; clear hK1 K1; rw [hh]; clear hh hz hfi
  rcases hfc with ⟨hhas, e⟩ | ⟨p, hp, hpk, hhas, e⟩
  ·rw [e]
   unfold nilP
   rw [hhas, if_neg (by decide)] at hmj hbj
   have hpu := g_put (room := room) (rule := rule) (now := j) (bytes := 1) (item := s) hC hT hp11 hK hcp hone hkk (fun p hp => by have := hokp p hp; omega) (fun p hp => by have := hokp p hp; omega) (by omega) (by omega) (by omega)
   unfold PutR at hpu
   cases hput : putL room rule j (ps.map K) s 1 with
   | none => rw [hput] at hmj; cases hmj
   | some y =>
    obtain ⟨L', gn⟩ := y
    rw [hput] at hmj hbj hpu
    simp only at hmj hbj hpu
    (repeat (first | refine gO rfl ?_ | (refine gM zM22 fun K1 hK1 => ?_; simp only [go_sem, ↓reduceIte, reduceCtorEq, nA, nB, nC, nD, nE, nF] <;> and_intros <;> first | (apply hK1; clear hK1 K1) | (intros; first | omega | decide) | skip)))
    refine awp_cond (t := _) rfl (fun h9 => by cases h9) (fun _ => ?_)
    (repeat (first | refine gO rfl ?_ | (refine gM zM22 fun K1 hK1 => ?_; simp only [go_sem, ↓reduceIte, reduceCtorEq, nA, nB, nC, nD, nE, nF] <;> and_intros <;> first | (apply hK1; clear hK1 K1) | (intros; first | omega | decide) | skip)))
    refine hpu.mono ?_
    rintro _ h2 ⟨K2, ps2, k2, kt, rfl, hL, hK2, hC2, hT2, hcp2, _, _⟩
    refine hK1 _ ?_; clear hK1 K1 hpu
    (repeat (first | refine gO rfl ?_ | (refine gM zM22 fun K1 hK1 => ?_; simp only [go_sem, ↓reduceIte, reduceCtorEq, nA, nB, nC, nD, nE, nF] <;> and_intros <;> first | (apply hK1; clear hK1 K1) | (intros; first | omega | decide) | skip)))
    refine awp_cond (t := _) rfl (fun h9 => by cases h9) (fun _ => ?_)
    (repeat (first | refine gO rfl ?_ | (refine gM zM22 fun K1 hK1 => ?_; simp only [go_sem, ↓reduceIte, reduceCtorEq, nA, nB, nC, nD, nE, nF] <;> and_intros <;> first | (apply hK1; clear hK1 K1) | (intros; first | omega | decide) | skip)))
    have hone2 := putL_one hput hone
    have hok2 := hok.put (by omega) hput
    rw [← hL] at hmj hbj hone2 hok2
    refine ⟨g - 1, by omega, j + 1, n + 1, K2, ps2, k2, h2, by omega, hmj, hbj, by omega, by omega, hC2, hT2, hK2, hcp2, hone2, hok2, rfl⟩
  ·rw [e]
   rw [hhas, if_pos rfl] at hmj hbj
   have hokk := hokp p hp
   have hpc : ci ≠ p := by rintro rfl; exact hcp hp
   have has := g_ask (now := j) hC (hK p hp) hpc (by omega) (by omega)
   (repeat (first | refine gO rfl ?_ | (refine gM zM22 fun K1 hK1 => ?_; simp only [go_sem, ↓reduceIte, reduceCtorEq, nA, nB, nC, nD, nE, nF] <;> and_intros <;> first | (apply hK1; clear hK1 K1) | (intros; first | omega | decide) | skip)))
   refine awp_cond (t := _) rfl (fun _ => ?_) (fun h9 => by cases h9)
   (repeat (first | refine gO rfl ?_ | (refine gM zM22 fun K1 hK1 => ?_; simp only [go_sem, ↓reduceIte, reduceCtorEq, nA, nB, nC, nD, nE, nF] <;> and_intros <;> first | (apply hK1; clear hK1 K1) | (intros; first | omega | decide) | skip)))
   refine has.mono ?_; rintro _ hz ⟨rfl, hh⟩; apply hK1; clear hK1 K1; rw [hh]; clear hh hz
   (repeat (first | refine gO rfl ?_ | (refine gM zM22 fun K1 hK1 => ?_; simp only [go_sem, ↓reduceIte, reduceCtorEq, nA, nB, nC, nD, nE, nF] <;> and_intros <;> first | (apply hK1; clear hK1 K1) | (intros; first | omega | decide) | skip)))
   have hat := atK_map (item := s) (fun x => askF ((j : Int) + 1) x) hone hp hpk
   have hone2 := atK_one (item := s) (f := askF ((j : Int) + 1)) (fun _ => rfl) hone
   have hok2 := hok.ask s
   rw [← hat] at hmj hbj hone2 hok2
   refine ⟨g - 1, by omega, j + 1, n, fun q => if q = p then askF ((j : Int) + 1) (K p) else K q, ps, k, ⟨upd (upd h'.H ci (some (.cells (encCa room rule ((j : Int) + 1) k ps.length)))) p (some (.cells (encKp (askF ((j : Int) + 1) (K p))))), h'.T⟩, by omega, hmj, hbj, by omega, by omega, (upd_other _ _ hpc).trans (upd_same _ _ _), hT, fun q hq => ?_, hcp, hone2, hok2, rfl⟩
   show upd (upd _ ci _) p _ q = some (AO.cells (encKp (if q = p then askF ((j : Int) + 1) (K p) else K q)))
   by_cases e2 : q = p
   ·rw [e2, upd_same, if_pos rfl]
   ·rw [upd_other _ _ e2, upd_other _ _ (by rintro rfl; exact hcp hq), if_neg e2]
    exact hK q hq
 ·simp only [decide_eq_false_iff_not] at h1
  have hjl : j = l.length := by omega
  subst hjl
  rw [List.drop_length] at hmj
  obtain rfl : n = N := by simpa [missL] using hmj
  (repeat (first | refine gO rfl ?_ | (refine gM zM22 fun K1 hK1 => ?_; simp only [go_sem, ↓reduceIte, reduceCtorEq, nA, nB, nC, nD, nE, nF] <;> and_intros <;> first | (apply hK1; clear hK1 K1) | (intros; first | omega | decide) | skip)))
  simp only [Tryz.results71, go_sem, ↓reduceIte, reduceCtorEq, nA, nB, nC, nD, nE, nF]
  exact ⟨_, _, Weak.refl _, Hp.le.refl _, rfl⟩
theorem g_miss5 (h : Hp) : ACalls Tryz.prog 71 [.v (.int .i64 2), .v (.int .i64 1), .row 1 [[.v (.string ⟨#[97]⟩)], [.v (.string ⟨#[98]⟩)], [.v (.string ⟨#[97]⟩)], [.v (.string ⟨#[99]⟩)], [.v (.string ⟨#[98]⟩)]] none] h (fun r h' => r = .tup [.v (.int .i64 4), .v (.int .i64 0)]) :=
 g_misses 2 1 4 [⟨#[97]⟩, ⟨#[98]⟩, ⟨#[97]⟩, ⟨#[99]⟩, ⟨#[98]⟩] h (by omega) (by omega) (by decide) (by decide) (by decide) (by decide)
abbrev zPWE : List Nat := [0, 1, 2, 3, 4, 5, 6, 7, 8, 9, 10, 11]
abbrev zPWP : List (Nat × List Nat × List Nat) := []
abbrev zPXE : List Nat := [0, 1, 2, 3]
abbrev zPXP : List (Nat × List Nat × List Nat) := [(4, [0], [5]), (6, [], [7])]
abbrev zPYE : List Nat := [0, 1, 2, 3, 4, 5]
abbrev zPYP : List (Nat × List Nat × List Nat) := [(6, [4], [7]), (8, [], [9, 10]), (11, [], [])]
abbrev zPZE : List Nat := [0, 1, 2, 3, 4, 5, 6, 7, 8, 9, 10]
abbrev zPZP : List (Nat × List Nat × List Nat) := []
abbrev zP10E : List Nat := [0, 1, 2, 3, 4, 5, 6, 7, 8, 9, 10, 11, 12, 13, 14, 15, 16]
abbrev zP10P : List (Nat × List Nat × List Nat) := [(17, [], [18, 19]), (20, [], [])]
abbrev zP11E : List Nat := [0, 1, 2, 3, 4, 5, 6, 7, 8, 9, 10, 11, 12, 13, 14, 15, 16]
abbrev zP11P : List (Nat × List Nat × List Nat) := [(17, [], [])]
abbrev zP12E : List Nat := [0, 1, 2, 3, 4, 5, 6, 7, 8]
abbrev zP12P : List (Nat × List Nat × List Nat) := [(9, [3], [10, 11])]
abbrev zP13E : List Nat := [0, 1, 2, 3, 4, 5, 6, 7, 8, 9, 10]
abbrev zP13P : List (Nat × List Nat × List Nat) := []
attribute [go_sem] zPWE zPWP zPXE zPXP zPYE zPYP zPZE zPZP zP10E zP10P zP11E zP11P zP12E zP12P zP13E zP13P
def nlS : AV := .v (.slice none 0 0)
def lA : List AV := [.v (.int .i64 1), .v (.string ⟨#[97]⟩), .v (.int .i64 5), .v (.int .i64 0), nlS, nlS]
theorem ba1 : ((⟨#[97]⟩ : ByteArray) == ⟨#[]⟩) = false := by decide
theorem c_ixL (f : Nat) (caps : List AV) (h : Hp) : ACalls Tryz.prog 255 [nlS, .fn f caps] h (fun r h' => r = .v (.int .i64 (-1)) ∧ h' = h) := by
 unfold nlS
 refine gE Tryz.func255 rfl (by kernel_rfl) 17 rfl fun c => ?_
 (repeat (first | refine gO rfl ?_ | (refine gR fun K1 hK1 => ?_; simp only [go_sem, ↓reduceIte, reduceCtorEq, nA, nB, nC, nD, nE, nF, Int.reduceBEq, Int.reduceTMod, Int.reduceTDiv, Int.reduceMul, Int.reduceBNe, Int.reduceLT, Int.reduceLE, Int.reduceAdd, Int.reduceSub, Int.reduceNeg, decide_true, decide_false, Bool.true_and, Bool.false_and, Bool.and_true, Bool.and_false, Bool.or_false, Bool.or_true, Bool.true_or, Bool.false_or, Bool.not_true, Bool.not_false, true_implies, false_implies, true_and, and_true, Int.reduceToNat] <;> and_intros <;> first | (apply hK1; clear hK1 K1) | (intros; first | omega | decide) | skip) | (refine awp_cond (t := _) rfl (fun hq => ?_) (fun hq => ?_) <;> first | (exact absurd hq (by decide)) | (cases hq; done) | (clear hq)) | (refine awp_un 8 ?_) | (with_reducible exact rfl) | (with_reducible exact trivial) | ((with_reducible show uside _); first | exact True.intro | exact rfl) | ((with_reducible show opS _ _); exact True.intro) | (refine ⟨AV.v (.bool true), rfl, hK1 _ ?_⟩; clear hK1 K1)))
 simp only [Tryz.results255, go_sem, ↓reduceIte, reduceCtorEq, nA, nB, nC, nD, nE, nF]
 exact ⟨_, _, Weak.refl _, Hp.le.refl _, rfl, rfl⟩
theorem c_coL (f : Nat) (caps : List AV) (h : Hp) : ACalls Tryz.prog 197 [nlS, .fn f caps] h (fun r h' => r = .v (.bool false) ∧ h' = h) := by
 have h1 := c_ixL f caps h
 unfold nlS at *
 refine gE Tryz.func197 rfl (by kernel_rfl) 7 rfl fun c => ?_
 (repeat (first | refine gO rfl ?_ | (refine gR fun K1 hK1 => ?_; simp only [go_sem, ↓reduceIte, reduceCtorEq, nA, nB, nC, nD, nE, nF, Int.reduceBEq, Int.reduceTMod, Int.reduceTDiv, Int.reduceMul, Int.reduceBNe, Int.reduceLT, Int.reduceLE, Int.reduceAdd, Int.reduceSub, Int.reduceNeg, decide_true, decide_false, Bool.true_and, Bool.false_and, Bool.and_true, Bool.and_false, Bool.or_false, Bool.or_true, Bool.true_or, Bool.false_or, Bool.not_true, Bool.not_false, true_implies, false_implies, true_and, and_true, Int.reduceToNat] <;> and_intros <;> first | (apply hK1; clear hK1 K1) | (intros; first | omega | decide) | skip) | (refine awp_cond (t := _) rfl (fun hq => ?_) (fun hq => ?_) <;> first | (exact absurd hq (by decide)) | (cases hq; done) | (clear hq)) | (refine awp_un 8 ?_) | (with_reducible exact rfl) | (with_reducible exact trivial) | ((with_reducible show uside _); first | exact True.intro | exact rfl) | ((with_reducible show opS _ _); exact True.intro) | (refine ⟨AV.v (.bool true), rfl, hK1 _ ?_⟩; clear hK1 K1) | (refine (h1).mono ?_; rintro _ hz ⟨rfl, hh⟩; (first | (refine hK1 _ ?_) | (refine ⟨rfl, hK1 _ ?_⟩)); clear hK1 K1; rw [hh]; clear hh hz)))
 simp only [Tryz.results197, go_sem, ↓reduceIte, reduceCtorEq, nA, nB, nC, nD, nE, nF]
 exact ⟨_, _, Weak.refl _, Hp.le.refl _, rfl, rfl⟩
theorem c_large (i : Nat) (h : Hp) (hi : h.H i = some (.cells [.v (.int .i64 0)])) : ACalls Tryz.prog 139 [.ptr i 0, .agg lA, .v (.int .i64 1)] h (fun r h' => r = .v (.bool false) ∧ h' = ⟨upd h.H i (some (.cells [.v (.int .i64 1)])), h.T⟩) := by
 have h1 := fun f caps h => c_coL f caps h
 unfold lA
 unfold nlS at *
 refine gE Tryz.func139 rfl (by kernel_rfl) 24 rfl fun c => ?_
 (repeat (first | refine gO rfl ?_ | (refine gR fun K1 hK1 => ?_; simp only [go_sem, ↓reduceIte, reduceCtorEq, nA, nB, nC, nD, nE, nF, Int.reduceBEq, Int.reduceTMod, Int.reduceTDiv, Int.reduceMul, Int.reduceBNe, Int.reduceLT, Int.reduceLE, Int.reduceAdd, Int.reduceSub, Int.reduceNeg, decide_true, decide_false, Bool.true_and, Bool.false_and, Bool.and_true, Bool.and_false, Bool.or_false, Bool.or_true, Bool.true_or, Bool.false_or, Bool.not_true, Bool.not_false, true_implies, false_implies, true_and, and_true, Int.reduceToNat, hi, upd_same] <;> and_intros <;> first | (apply hK1; clear hK1 K1) | (intros; first | omega | decide) | skip) | (refine awp_cond (t := _) rfl (fun hq => ?_) (fun hq => ?_) <;> first | (exact absurd hq (by decide)) | (cases hq; done) | (clear hq)) | (refine awp_un 8 ?_) | (with_reducible exact rfl) | (with_reducible exact trivial) | ((with_reducible show uside _); first | exact True.intro | exact rfl) | ((with_reducible show opS _ _); exact True.intro) | (refine ⟨AV.v (.bool true), rfl, hK1 _ ?_⟩; clear hK1 K1) | (refine (h1 _ _ _).mono ?_; rintro _ hz ⟨rfl, hh⟩; (first | (refine hK1 _ ?_) | (refine ⟨rfl, hK1 _ ?_⟩)); clear hK1 K1; rw [hh]; clear hh hz)))
 simp only [Tryz.results139, go_sem, ↓reduceIte, reduceCtorEq, nA, nB, nC, nD, nE, nF]
 exact ⟨_, _, Weak.refl _, Hp.le.refl _, rfl, rfl⟩
theorem c_form (h : Hp) : ACalls Tryz.prog 199 [.agg lA] h (fun r h' => r = .v (.bool false) ∧ h' = h) := by
 unfold lA
 unfold nlS at *
 refine gE Tryz.func199 rfl (by kernel_rfl) 77 rfl fun c => ?_
 (repeat (first | refine gO rfl ?_ | ((first | refine gR ?_ | (with_reducible refine wM ?_ ?_) | ((with_reducible refine xS ?_); refine uD 1 zM20 zPWE zPWP 78 rfl (by kernel_rfl) ?_)) <;> ((try with_reducible intro K1 hK1); simp only [go_sem, ↓reduceIte, reduceCtorEq, nA, nB, nC, nD, nE, nF, Int.reduceBEq, Int.reduceTMod, Int.reduceTDiv, Int.reduceMul, Int.reduceBNe, Int.reduceLT, Int.reduceLE, Int.reduceAdd, Int.reduceSub, Int.reduceNeg, decide_true, decide_false, Bool.true_and, Bool.false_and, Bool.and_true, Bool.and_false, Bool.or_false, Bool.or_true, Bool.true_or, Bool.false_or, Bool.not_true, Bool.not_false, true_implies, false_implies, true_and, and_true, Int.reduceToNat, ba1] <;> and_intros <;> first | (apply hK1; clear hK1 K1) | (intros; first | omega | decide) | skip)) | (refine awp_cond (t := _) rfl (fun hq => ?_) (fun hq => ?_) <;> first | (exact absurd hq (by decide)) | (cases hq; done) | (clear hq)) | (refine awp_un 8 ?_) | (with_reducible exact rfl) | (with_reducible exact trivial) | ((with_reducible show uside _); first | exact True.intro | exact rfl) | ((with_reducible show opS _ _); exact True.intro) | (refine ⟨AV.v (.bool true), rfl, hK1 _ ?_⟩; clear hK1 K1)))
 simp only [Tryz.results199, go_sem, ↓reduceIte, reduceCtorEq, nA, nB, nC, nD, nE, nF]
 exact ⟨_, _, Weak.refl _, Hp.le.refl _, rfl, rfl⟩
theorem c_partFault (h : Hp) : ACalls Tryz.prog 140 [.agg lA] h (fun r h' => r = .v (.int .i64 0) ∧ h' = h) := by
 have h1 := fun h => a_outside 1 1 5 h
 have h2 := fun h => c_form h
 have h3 := fun h => a_isKey ⟨#[97]⟩ (by decide) h
 have h4 := fun h => a_outside 5 1 3600000 h
 rw [show keyB ⟨#[97]⟩ = true by decide] at h3
 unfold lA at *
 unfold nlS at *
 refine gE Tryz.func140 rfl (by kernel_rfl) 63 rfl fun c => ?_
 (repeat (first | refine gO rfl ?_ | (refine gM zM23 fun K1 hK1 => ?_; simp only [go_sem, ↓reduceIte, reduceCtorEq, nA, nB, nC, nD, nE, nF, Int.reduceBEq, Int.reduceTMod, Int.reduceTDiv, Int.reduceMul, Int.reduceBNe, Int.reduceLT, Int.reduceLE, Int.reduceAdd, Int.reduceSub, Int.reduceNeg, decide_true, decide_false, Bool.true_and, Bool.false_and, Bool.and_true, Bool.and_false, Bool.or_false, Bool.or_true, Bool.true_or, Bool.false_or, Bool.not_true, Bool.not_false, true_implies, false_implies, true_and, and_true, Int.reduceToNat] <;> and_intros <;> first | (apply hK1; clear hK1 K1) | (intros; first | omega | decide) | skip) | (refine awp_cond (t := _) rfl (fun hq => ?_) (fun hq => ?_) <;> first | (exact absurd hq (by decide)) | (cases hq; done) | (clear hq)) | (refine awp_un 8 ?_) | (with_reducible exact rfl) | (with_reducible exact trivial) | ((with_reducible show uside _); first | exact True.intro | exact rfl) | ((with_reducible show opS _ _); exact True.intro) | (refine ⟨AV.v (.bool true), rfl, hK1 _ ?_⟩; clear hK1 K1) | (refine (h1 _).mono ?_; rintro _ hz ⟨rfl, hh⟩; (first | (refine hK1 _ ?_) | (refine ⟨rfl, hK1 _ ?_⟩)); clear hK1 K1; rw [hh]; clear hh hz) | (refine (h2 _).mono ?_; rintro _ hz ⟨rfl, hh⟩; (first | (refine hK1 _ ?_) | (refine ⟨rfl, hK1 _ ?_⟩)); clear hK1 K1; rw [hh]; clear hh hz) | (refine (h3 _).mono ?_; rintro _ hz ⟨rfl, hh⟩; (first | (refine hK1 _ ?_) | (refine ⟨rfl, hK1 _ ?_⟩)); clear hK1 K1; rw [hh]; clear hh hz) | (refine (h4 _).mono ?_; rintro _ hz ⟨rfl, hh⟩; (first | (refine hK1 _ ?_) | (refine ⟨rfl, hK1 _ ?_⟩)); clear hK1 K1; rw [hh]; clear hh hz)))
 simp only [Tryz.results140, go_sem, ↓reduceIte, reduceCtorEq, nA, nB, nC, nD, nE, nF]
 exact ⟨_, _, Weak.refl _, Hp.le.refl _, rfl, rfl⟩
theorem c_check (h : Hp) : ACalls Tryz.prog 73 [.agg lA] h (fun r h' => r = .v (.int .i64 0)) := by
 have h1 := fun i h (hi : h.H i = some (.cells [.v (.int .i64 0)])) => c_large i h hi
 have h2 := fun h => c_partFault h
 unfold lA at *
 unfold nlS at *
 refine gE Tryz.func73 rfl (by kernel_rfl) 8 rfl fun c => ?_
 (repeat (first | refine gO rfl ?_ | (refine gM zM24 fun K1 hK1 => ?_; simp only [go_sem, ↓reduceIte, reduceCtorEq, nA, nB, nC, nD, nE, nF, Int.reduceBEq, Int.reduceTMod, Int.reduceTDiv, Int.reduceMul, Int.reduceBNe, Int.reduceLT, Int.reduceLE, Int.reduceAdd, Int.reduceSub, Int.reduceNeg, decide_true, decide_false, Bool.true_and, Bool.false_and, Bool.and_true, Bool.and_false, Bool.or_false, Bool.or_true, Bool.true_or, Bool.false_or, Bool.not_true, Bool.not_false, true_implies, false_implies, true_and, and_true, Int.reduceToNat] <;> and_intros <;> first | (apply hK1; clear hK1 K1) | (intros; first | omega | decide) | skip) | (refine awp_cond (t := _) rfl (fun hq => ?_) (fun hq => ?_) <;> first | (exact absurd hq (by decide)) | (cases hq; done) | (clear hq)) | (refine awp_un 8 ?_) | (with_reducible exact rfl) | (with_reducible exact trivial) | ((with_reducible show uside _); first | exact True.intro | exact rfl) | ((with_reducible show opS _ _); exact True.intro) | (refine ⟨AV.v (.bool true), rfl, hK1 _ ?_⟩; clear hK1 K1)))
 intro i hi
 refine hK1 _ ?_; clear hK1 K1
 have h3 := h1 i ⟨upd h.H i (some (.cells [.v (.int .i64 0)])), h.T⟩ (upd_same _ _ _)
 (repeat (first | refine gO rfl ?_ | (refine gM zM24 fun K1 hK1 => ?_; simp only [go_sem, ↓reduceIte, reduceCtorEq, nA, nB, nC, nD, nE, nF, Int.reduceBEq, Int.reduceTMod, Int.reduceTDiv, Int.reduceMul, Int.reduceBNe, Int.reduceLT, Int.reduceLE, Int.reduceAdd, Int.reduceSub, Int.reduceNeg, decide_true, decide_false, Bool.true_and, Bool.false_and, Bool.and_true, Bool.and_false, Bool.or_false, Bool.or_true, Bool.true_or, Bool.false_or, Bool.not_true, Bool.not_false, true_implies, false_implies, true_and, and_true, Int.reduceToNat] <;> and_intros <;> first | (apply hK1; clear hK1 K1) | (intros; first | omega | decide) | skip) | (refine awp_cond (t := _) rfl (fun hq => ?_) (fun hq => ?_) <;> first | (exact absurd hq (by decide)) | (cases hq; done) | (clear hq)) | (refine awp_un 8 ?_) | (with_reducible exact rfl) | (with_reducible exact trivial) | ((with_reducible show uside _); first | exact True.intro | exact rfl) | ((with_reducible show opS _ _); exact True.intro) | (refine ⟨AV.v (.bool true), rfl, hK1 _ ?_⟩; clear hK1 K1) | (refine (h3).mono ?_; rintro _ hz ⟨rfl, hh⟩; (first | (refine hK1 _ ?_) | (refine ⟨rfl, hK1 _ ?_⟩)); clear hK1 K1; rw [hh]; clear hh hz) | (refine (h2 _).mono ?_; rintro _ hz ⟨rfl, hh⟩; (first | (refine hK1 _ ?_) | (refine ⟨rfl, hK1 _ ?_⟩)); clear hK1 K1; rw [hh]; clear hh hz)))
 simp only [Tryz.results73, go_sem, ↓reduceIte, reduceCtorEq, nA, nB, nC, nD, nE, nF]
 exact ⟨_, _, Weak.refl _, Hp.le.refl _, rfl⟩
def pA (had : Int) (k : Nat) : List AV := lA ++ [nlS, .v (.int .i64 had), .arr 1 k 0, .v (.int .i64 0)]
theorem c_newPart (h : Hp) : ACalls Tryz.prog 75 [.agg lA] h (fun r h' => ∃ p k, r = .ptr p 0 ∧ h'.H p = some (.cells (pA 0 k))) := by
 unfold lA
 unfold nlS at *
 refine gE Tryz.func75 rfl (by kernel_rfl) 50 rfl fun c => ?_
 (repeat (first | refine gO rfl ?_ | ((first | refine gM zM25 ?_ | (with_reducible refine wM ?_ ?_) | ((with_reducible refine xS ?_); refine uD 1 zM25 zPXE zPXP 51 rfl (by kernel_rfl) ?_) | ((with_reducible refine xR ?_); refine uE 5 zM25 zPYE zPYP 51 rfl (by kernel_rfl) ?_)) <;> ((try with_reducible intro K1 hK1); simp only [go_sem, ↓reduceIte, reduceCtorEq, nA, nB, nC, nD, nE, nF, Int.reduceBEq, Int.reduceTMod, Int.reduceTDiv, Int.reduceMul, Int.reduceBNe, Int.reduceLT, Int.reduceLE, Int.reduceAdd, Int.reduceSub, Int.reduceNeg, decide_true, decide_false, Bool.true_and, Bool.false_and, Bool.and_true, Bool.and_false, Bool.or_false, Bool.or_true, Bool.true_or, Bool.false_or, Bool.not_true, Bool.not_false, true_implies, false_implies, true_and, and_true, Int.reduceToNat] <;> and_intros <;> first | (apply hK1; clear hK1 K1) | (intros; first | omega | decide) | skip)) | (refine awp_cond (t := _) rfl (fun hq => ?_) (fun hq => ?_) <;> first | (exact absurd hq (by decide)) | (cases hq; done) | (clear hq)) | (refine awp_un 8 ?_) | (with_reducible exact rfl) | (with_reducible exact trivial) | ((with_reducible show uside _); first | exact True.intro | exact rfl) | ((with_reducible show opS _ _); exact True.intro) | (refine ⟨AV.v (.bool true), rfl, hK1 _ ?_⟩; clear hK1 K1)))
 intro k hk
 refine hK1 _ ?_; clear hK1 K1
 (repeat (first | refine gO rfl ?_ | ((first | refine gM zM25 ?_ | (with_reducible refine wM ?_ ?_) | ((with_reducible refine xS ?_); refine uD 1 zM25 zPXE zPXP 51 rfl (by kernel_rfl) ?_) | ((with_reducible refine xR ?_); refine uE 5 zM25 zPYE zPYP 51 rfl (by kernel_rfl) ?_)) <;> ((try with_reducible intro K1 hK1); simp only [go_sem, ↓reduceIte, reduceCtorEq, nA, nB, nC, nD, nE, nF, Int.reduceBEq, Int.reduceTMod, Int.reduceTDiv, Int.reduceMul, Int.reduceBNe, Int.reduceLT, Int.reduceLE, Int.reduceAdd, Int.reduceSub, Int.reduceNeg, decide_true, decide_false, Bool.true_and, Bool.false_and, Bool.and_true, Bool.and_false, Bool.or_false, Bool.or_true, Bool.true_or, Bool.false_or, Bool.not_true, Bool.not_false, true_implies, false_implies, true_and, and_true, Int.reduceToNat] <;> and_intros <;> first | (apply hK1; clear hK1 K1) | (intros; first | omega | decide) | skip)) | (refine awp_cond (t := _) rfl (fun hq => ?_) (fun hq => ?_) <;> first | (exact absurd hq (by decide)) | (cases hq; done) | (clear hq)) | (refine awp_un 8 ?_) | (with_reducible exact rfl) | (with_reducible exact trivial) | ((with_reducible show uside _); first | exact True.intro | exact rfl) | ((with_reducible show opS _ _); exact True.intro) | (refine ⟨AV.v (.bool true), rfl, hK1 _ ?_⟩; clear hK1 K1)))
 intro p hp
 refine hK1 _ ?_; clear hK1 K1
 (repeat (first | refine gO rfl ?_ | ((first | refine gM zM25 ?_ | (with_reducible refine wM ?_ ?_) | ((with_reducible refine xS ?_); refine uD 1 zM25 zPXE zPXP 51 rfl (by kernel_rfl) ?_) | ((with_reducible refine xR ?_); refine uE 5 zM25 zPYE zPYP 51 rfl (by kernel_rfl) ?_)) <;> ((try with_reducible intro K1 hK1); simp only [go_sem, ↓reduceIte, reduceCtorEq, nA, nB, nC, nD, nE, nF, Int.reduceBEq, Int.reduceTMod, Int.reduceTDiv, Int.reduceMul, Int.reduceBNe, Int.reduceLT, Int.reduceLE, Int.reduceAdd, Int.reduceSub, Int.reduceNeg, decide_true, decide_false, Bool.true_and, Bool.false_and, Bool.and_true, Bool.and_false, Bool.or_false, Bool.or_true, Bool.true_or, Bool.false_or, Bool.not_true, Bool.not_false, true_implies, false_implies, true_and, and_true, Int.reduceToNat] <;> and_intros <;> first | (apply hK1; clear hK1 K1) | (intros; first | omega | decide) | skip)) | (refine awp_cond (t := _) rfl (fun hq => ?_) (fun hq => ?_) <;> first | (exact absurd hq (by decide)) | (cases hq; done) | (clear hq)) | (refine awp_un 8 ?_) | (with_reducible exact rfl) | (with_reducible exact trivial) | ((with_reducible show uside _); first | exact True.intro | exact rfl) | ((with_reducible show opS _ _); exact True.intro) | (refine ⟨AV.v (.bool true), rfl, hK1 _ ?_⟩; clear hK1 K1)))
 simp only [Tryz.results75, go_sem, ↓reduceIte, reduceCtorEq, nA, nB, nC, nD, nE, nF]
 exact ⟨_, _, Weak.refl _, Hp.le.refl _, p, k, rfl, upd_same _ _ _⟩
theorem c_full (o : Nat) (h : Hp) (ho : h.H o = some (.cells [nlS, .v (.int .i64 5000)])) : ACalls Tryz.prog 77 [.ptr o 0] h (fun r h' => r = .v (.bool false) ∧ h' = h) := by
 unfold nlS at *
 refine gE Tryz.func77 rfl (by kernel_rfl) 12 rfl fun c => ?_
 (repeat (first | refine gO rfl ?_ | ((first | refine gR ?_ | (with_reducible refine wM ?_ ?_) | ((with_reducible refine xS ?_); refine uD 1 zM20 zPZE zPZP 13 rfl (by kernel_rfl) ?_)) <;> ((try with_reducible intro K1 hK1); simp only [go_sem, ↓reduceIte, reduceCtorEq, nA, nB, nC, nD, nE, nF, Int.reduceBEq, Int.reduceTMod, Int.reduceTDiv, Int.reduceMul, Int.reduceBNe, Int.reduceLT, Int.reduceLE, Int.reduceAdd, Int.reduceSub, Int.reduceNeg, decide_true, decide_false, Bool.true_and, Bool.false_and, Bool.and_true, Bool.and_false, Bool.or_false, Bool.or_true, Bool.true_or, Bool.false_or, Bool.not_true, Bool.not_false, true_implies, false_implies, true_and, and_true, Int.reduceToNat, ho] <;> and_intros <;> first | (apply hK1; clear hK1 K1) | (intros; first | omega | decide) | skip)) | (refine awp_cond (t := _) rfl (fun hq => ?_) (fun hq => ?_) <;> first | (exact absurd hq (by decide)) | (cases hq; done) | (clear hq)) | (refine awp_un 8 ?_) | (with_reducible exact rfl) | (with_reducible exact trivial) | ((with_reducible show uside _); first | exact True.intro | exact rfl) | ((with_reducible show opS _ _); exact True.intro) | (refine ⟨AV.v (.bool true), rfl, hK1 _ ?_⟩; clear hK1 K1)))
 simp only [Tryz.results77, go_sem, ↓reduceIte, reduceCtorEq, nA, nB, nC, nD, nE, nF]
 exact ⟨_, _, Weak.refl _, Hp.le.refl _, rfl, rfl⟩
def rA (k : Nat) : AV := .row 2 [[.v (.string ⟨#[97]⟩), .v (.int .i64 5)]] (some k)
theorem c_full1 (o k : Nat) (h : Hp) (ho : h.H o = some (.cells [rA k, .v (.int .i64 5000)])) : ACalls Tryz.prog 77 [.ptr o 0] h (fun r h' => r = .v (.bool false) ∧ h' = h) := by
 unfold rA at *
 refine gE Tryz.func77 rfl (by kernel_rfl) 12 rfl fun c => ?_
 (repeat (first | refine gO rfl ?_ | ((first | refine gR ?_ | (with_reducible refine wM ?_ ?_) | ((with_reducible refine xS ?_); refine uD 1 zM20 zPZE zPZP 13 rfl (by kernel_rfl) ?_)) <;> ((try with_reducible intro K1 hK1); simp only [go_sem, ↓reduceIte, reduceCtorEq, nA, nB, nC, nD, nE, nF, Int.reduceBEq, Int.reduceTMod, Int.reduceTDiv, Int.reduceMul, Int.reduceBNe, Int.reduceLT, Int.reduceLE, Int.reduceAdd, Int.reduceSub, Int.reduceNeg, decide_true, decide_false, Bool.true_and, Bool.false_and, Bool.and_true, Bool.and_false, Bool.or_false, Bool.or_true, Bool.true_or, Bool.false_or, Bool.not_true, Bool.not_false, true_implies, false_implies, true_and, and_true, Int.reduceToNat, ho] <;> and_intros <;> first | (apply hK1; clear hK1 K1) | (intros; first | omega | decide) | skip)) | (refine awp_cond (t := _) rfl (fun hq => ?_) (fun hq => ?_) <;> first | (exact absurd hq (by decide)) | (cases hq; done) | (clear hq)) | (refine awp_un 8 ?_) | (with_reducible exact rfl) | (with_reducible exact trivial) | ((with_reducible show uside _); first | exact True.intro | exact rfl) | ((with_reducible show opS _ _); exact True.intro) | (refine ⟨AV.v (.bool true), rfl, hK1 _ ?_⟩; clear hK1 K1)))
 simp only [Tryz.results77, go_sem, ↓reduceIte, reduceCtorEq, nA, nB, nC, nD, nE, nF]
 exact ⟨_, _, Weak.refl _, Hp.le.refl _, rfl, rfl⟩
theorem c_pass (p o k : Nat) (h : Hp) (hp : h.H p = some (.cells (pA 0 k))) (ho : h.H o = some (.cells [nlS, .v (.int .i64 5000)])) (hpo : p ≠ o) : ACalls Tryz.prog 76 [.ptr p 0, .ptr o 0] h (fun r h' => r = .tup [] ∧ ∃ q, h'.H p = some (.cells (pA 1 k)) ∧ h'.H o = some (.cells [rA q, .v (.int .i64 5000)])) := by
 have h1 := c_full o h ho
 have hop : o ≠ p := fun e => hpo e.symm
 unfold pA lA nlS at *
 simp only [List.cons_append, List.nil_append] at *
 refine gE Tryz.func76 rfl (by kernel_rfl) 114 rfl fun c => ?_
 (repeat (first | refine gO rfl ?_ | ((first | refine gR ?_ | (with_reducible refine wM ?_ ?_) | ((with_reducible refine xR ?_); refine uE 7 zM20 zP10E zP10P 116 rfl (by kernel_rfl) ?_) | ((with_reducible refine xR ?_); refine uE 15 zM20 zP11E zP11P 116 rfl (by kernel_rfl) ?_)) <;> ((try with_reducible intro K1 hK1); simp only [go_sem, ↓reduceIte, reduceCtorEq, nA, nB, nC, nD, nE, nF, Int.reduceBEq, Int.reduceTMod, Int.reduceTDiv, Int.reduceMul, Int.reduceBNe, Int.reduceLT, Int.reduceLE, Int.reduceAdd, Int.reduceSub, Int.reduceNeg, decide_true, decide_false, Bool.true_and, Bool.false_and, Bool.and_true, Bool.and_false, Bool.or_false, Bool.or_true, Bool.true_or, Bool.false_or, Bool.not_true, Bool.not_false, true_implies, false_implies, true_and, and_true, Int.reduceToNat, hp, ho] <;> and_intros <;> first | (apply hK1; clear hK1 K1) | (intros; first | omega | decide) | skip)) | (refine awp_cond (t := _) rfl (fun hq => ?_) (fun hq => ?_) <;> first | (exact absurd hq (by decide)) | (cases hq; done) | (clear hq)) | (refine awp_un 8 ?_) | (with_reducible exact rfl) | (with_reducible exact trivial) | ((with_reducible show uside _); first | exact True.intro | exact rfl) | ((with_reducible show opS _ _); exact True.intro) | (refine ⟨AV.v (.bool true), rfl, hK1 _ ?_⟩; clear hK1 K1) | (refine (h1).mono ?_; rintro _ hz ⟨rfl, hh⟩; (first | (refine hK1 _ ?_) | (refine ⟨rfl, hK1 _ ?_⟩)); clear hK1 K1; rw [hh]; clear hh hz)))
 intro q hq
 refine hK1 _ ?_; clear hK1 K1
 (repeat (first | refine gO rfl ?_ | ((first | refine gR ?_ | (with_reducible refine wM ?_ ?_) | ((with_reducible refine xR ?_); refine uE 7 zM20 zP10E zP10P 116 rfl (by kernel_rfl) ?_) | ((with_reducible refine xR ?_); refine uE 15 zM20 zP11E zP11P 116 rfl (by kernel_rfl) ?_)) <;> ((try with_reducible intro K1 hK1); simp only [go_sem, ↓reduceIte, reduceCtorEq, nA, nB, nC, nD, nE, nF, Int.reduceBEq, Int.reduceTMod, Int.reduceTDiv, Int.reduceMul, Int.reduceBNe, Int.reduceLT, Int.reduceLE, Int.reduceAdd, Int.reduceSub, Int.reduceNeg, decide_true, decide_false, Bool.true_and, Bool.false_and, Bool.and_true, Bool.and_false, Bool.or_false, Bool.or_true, Bool.true_or, Bool.false_or, Bool.not_true, Bool.not_false, true_implies, false_implies, true_and, and_true, Int.reduceToNat, hp, ho, upd_other _ _ hpo, upd_other _ _ hop] <;> and_intros <;> first | (apply hK1; clear hK1 K1) | (intros; first | omega | decide) | skip)) | (refine awp_cond (t := _) rfl (fun hq => ?_) (fun hq => ?_) <;> first | (exact absurd hq (by decide)) | (cases hq; done) | (clear hq)) | (refine awp_un 8 ?_) | (with_reducible exact rfl) | (with_reducible exact trivial) | ((with_reducible show uside _); first | exact True.intro | exact rfl) | ((with_reducible show opS _ _); exact True.intro) | (refine ⟨AV.v (.bool true), rfl, hK1 _ ?_⟩; clear hK1 K1)))
 simp only [Tryz.results76, go_sem, ↓reduceIte, reduceCtorEq, nA, nB, nC, nD, nE, nF]
 refine ⟨_, _, Weak.refl _, Hp.le.refl _, rfl, q, upd_same _ _ _, ?_⟩
 exact (upd_other _ _ hop).trans (upd_same _ _ _)
theorem c_ixP (f : Nat) (h : Hp) : ACalls Tryz.prog 256 [nlS, .fn f []] h (fun r h' => r = .v (.int .i64 (-1)) ∧ h' = h) := by
 unfold nlS
 refine gE Tryz.func256 rfl (by kernel_rfl) 17 rfl fun c => ?_
 (repeat (first | refine gO rfl ?_ | (refine gR fun K1 hK1 => ?_; simp only [go_sem, ↓reduceIte, reduceCtorEq, nA, nB, nC, nD, nE, nF, Int.reduceBEq, Int.reduceTMod, Int.reduceTDiv, Int.reduceMul, Int.reduceBNe, Int.reduceLT, Int.reduceLE, Int.reduceAdd, Int.reduceSub, Int.reduceNeg, decide_true, decide_false, Bool.true_and, Bool.false_and, Bool.and_true, Bool.and_false, Bool.or_false, Bool.or_true, Bool.true_or, Bool.false_or, Bool.not_true, Bool.not_false, true_implies, false_implies, true_and, and_true, Int.reduceToNat] <;> and_intros <;> first | (apply hK1; clear hK1 K1) | (intros; first | omega | decide) | skip) | (refine awp_cond (t := _) rfl (fun hq => ?_) (fun hq => ?_) <;> first | (exact absurd hq (by decide)) | (cases hq; done) | (clear hq)) | (refine awp_un 8 ?_) | (with_reducible exact rfl) | (with_reducible exact trivial) | ((with_reducible show uside _); first | exact True.intro | exact rfl) | ((with_reducible show opS _ _); exact True.intro) | (refine ⟨AV.v (.bool true), rfl, hK1 _ ?_⟩; clear hK1 K1)))
 simp only [Tryz.results256, go_sem, ↓reduceIte, reduceCtorEq, nA, nB, nC, nD, nE, nF]
 exact ⟨_, _, Weak.refl _, Hp.le.refl _, rfl, rfl⟩
theorem c_coP (f : Nat) (h : Hp) : ACalls Tryz.prog 201 [nlS, .fn f []] h (fun r h' => r = .v (.bool false) ∧ h' = h) := by
 have h1 := c_ixP f h
 unfold nlS at *
 refine gE Tryz.func201 rfl (by kernel_rfl) 7 rfl fun c => ?_
 (repeat (first | refine gO rfl ?_ | (refine gR fun K1 hK1 => ?_; simp only [go_sem, ↓reduceIte, reduceCtorEq, nA, nB, nC, nD, nE, nF, Int.reduceBEq, Int.reduceTMod, Int.reduceTDiv, Int.reduceMul, Int.reduceBNe, Int.reduceLT, Int.reduceLE, Int.reduceAdd, Int.reduceSub, Int.reduceNeg, decide_true, decide_false, Bool.true_and, Bool.false_and, Bool.and_true, Bool.and_false, Bool.or_false, Bool.or_true, Bool.true_or, Bool.false_or, Bool.not_true, Bool.not_false, true_implies, false_implies, true_and, and_true, Int.reduceToNat] <;> and_intros <;> first | (apply hK1; clear hK1 K1) | (intros; first | omega | decide) | skip) | (refine awp_cond (t := _) rfl (fun hq => ?_) (fun hq => ?_) <;> first | (exact absurd hq (by decide)) | (cases hq; done) | (clear hq)) | (refine awp_un 8 ?_) | (with_reducible exact rfl) | (with_reducible exact trivial) | ((with_reducible show uside _); first | exact True.intro | exact rfl) | ((with_reducible show opS _ _); exact True.intro) | (refine ⟨AV.v (.bool true), rfl, hK1 _ ?_⟩; clear hK1 K1) | (refine (h1).mono ?_; rintro _ hz ⟨rfl, hh⟩; (first | (refine hK1 _ ?_) | (refine ⟨rfl, hK1 _ ?_⟩)); clear hK1 K1; rw [hh]; clear hh hz)))
 simp only [Tryz.results201, go_sem, ↓reduceIte, reduceCtorEq, nA, nB, nC, nD, nE, nF]
 exact ⟨_, _, Weak.refl _, Hp.le.refl _, rfl, rfl⟩
theorem c_begins (p k : Nat) (h : Hp) (hp : h.H p = some (.cells (pA 1 k))) : ACalls Tryz.prog 142 [.ptr p 0] h (fun r h' => r = .v (.bool true) ∧ h' = h) := by
 have h1 := fun f h => c_coP f h
 unfold pA lA nlS at *
 simp only [List.cons_append, List.nil_append] at *
 refine gE Tryz.func142 rfl (by kernel_rfl) 43 rfl fun c => ?_
 (repeat (first | refine gO rfl ?_ | ((first | refine gR ?_ | (with_reducible refine wM ?_ ?_) | ((with_reducible refine xR ?_); refine uE 6 zM20 zP12E zP12P 44 rfl (by kernel_rfl) ?_)) <;> ((try with_reducible intro K1 hK1); simp only [go_sem, ↓reduceIte, reduceCtorEq, nA, nB, nC, nD, nE, nF, Int.reduceBEq, Int.reduceTMod, Int.reduceTDiv, Int.reduceMul, Int.reduceBNe, Int.reduceLT, Int.reduceLE, Int.reduceAdd, Int.reduceSub, Int.reduceNeg, decide_true, decide_false, Bool.true_and, Bool.false_and, Bool.and_true, Bool.and_false, Bool.or_false, Bool.or_true, Bool.true_or, Bool.false_or, Bool.not_true, Bool.not_false, true_implies, false_implies, true_and, and_true, Int.reduceToNat, hp] <;> and_intros <;> first | (apply hK1; clear hK1 K1) | (intros; first | omega | decide) | skip)) | (refine awp_cond (t := _) rfl (fun hq => ?_) (fun hq => ?_) <;> first | (exact absurd hq (by decide)) | (cases hq; done) | (clear hq)) | (refine awp_un 8 ?_) | (with_reducible exact rfl) | (with_reducible exact trivial) | ((with_reducible show uside _); first | exact True.intro | exact rfl) | ((with_reducible show opS _ _); exact True.intro) | (refine ⟨AV.v (.bool true), rfl, hK1 _ ?_⟩; clear hK1 K1) | (refine (h1 _ _).mono ?_; rintro _ hz ⟨rfl, hh⟩; (first | (refine hK1 _ ?_) | (refine ⟨rfl, hK1 _ ?_⟩)); clear hK1 K1; rw [hh]; clear hh hz)))
 simp only [Tryz.results142, go_sem, ↓reduceIte, reduceCtorEq, nA, nB, nC, nD, nE, nF]
 exact ⟨_, _, Weak.refl _, Hp.le.refl _, rfl, rfl⟩
theorem c_roundOf (h : Hp) : ACalls Tryz.prog 79 [.agg lA] h (fun r h' => ∃ q, r = .tup [.agg [.v (.int .i64 1), rA q, .v (.int .i64 5)], .v (.int .i64 0)]) := by
 have h1 := c_newPart h
 have h2 := fun p o k h => c_pass p o k h
 have h3 := fun o k h => c_full1 o k h
 have h4 := fun p k h => c_begins p k h
 have hl : lA = [.v (.int .i64 1), .v (.string ⟨#[97]⟩), .v (.int .i64 5), .v (.int .i64 0), nlS, nlS] := rfl
 unfold lA nlS at h1
 unfold lA nlS
 refine gE Tryz.func79 rfl (by kernel_rfl) 56 rfl fun c => ?_
 (repeat (first | refine gO rfl ?_ | (refine gM zM26 fun K1 hK1 => ?_; simp only [go_sem, ↓reduceIte, reduceCtorEq, nA, nB, nC, nD, nE, nF, Int.reduceBEq, Int.reduceTMod, Int.reduceTDiv, Int.reduceMul, Int.reduceBNe, Int.reduceLT, Int.reduceLE, Int.reduceAdd, Int.reduceSub, Int.reduceNeg, decide_true, decide_false, Bool.true_and, Bool.false_and, Bool.and_true, Bool.and_false, Bool.or_false, Bool.or_true, Bool.true_or, Bool.false_or, Bool.not_true, Bool.not_false, true_implies, false_implies, true_and, and_true, Int.reduceToNat] <;> and_intros <;> first | (apply hK1; clear hK1 K1) | (intros; first | omega | decide) | skip) | (refine awp_cond (t := _) rfl (fun hq => ?_) (fun hq => ?_) <;> first | (exact absurd hq (by decide)) | (cases hq; done) | (clear hq)) | (refine awp_un 8 ?_) | (with_reducible exact rfl) | (with_reducible exact trivial) | ((with_reducible show uside _); first | exact True.intro | exact rfl) | ((with_reducible show opS _ _); exact True.intro) | (refine ⟨AV.v (.bool true), rfl, hK1 _ ?_⟩; clear hK1 K1)))
 refine h1.mono ?_
 rintro _ ha ⟨p, k, rfl, hp⟩
 refine hK1 _ ?_; clear hK1 K1 h1
 (repeat (first | refine gO rfl ?_ | (refine gM zM26 fun K1 hK1 => ?_; simp only [go_sem, ↓reduceIte, reduceCtorEq, nA, nB, nC, nD, nE, nF, Int.reduceBEq, Int.reduceTMod, Int.reduceTDiv, Int.reduceMul, Int.reduceBNe, Int.reduceLT, Int.reduceLE, Int.reduceAdd, Int.reduceSub, Int.reduceNeg, decide_true, decide_false, Bool.true_and, Bool.false_and, Bool.and_true, Bool.and_false, Bool.or_false, Bool.or_true, Bool.true_or, Bool.false_or, Bool.not_true, Bool.not_false, true_implies, false_implies, true_and, and_true, Int.reduceToNat] <;> and_intros <;> first | (apply hK1; clear hK1 K1) | (intros; first | omega | decide) | skip) | (refine awp_cond (t := _) rfl (fun hq => ?_) (fun hq => ?_) <;> first | (exact absurd hq (by decide)) | (cases hq; done) | (clear hq)) | (refine awp_un 8 ?_) | (with_reducible exact rfl) | (with_reducible exact trivial) | ((with_reducible show uside _); first | exact True.intro | exact rfl) | ((with_reducible show opS _ _); exact True.intro) | (refine ⟨AV.v (.bool true), rfl, hK1 _ ?_⟩; clear hK1 K1)))
 intro o ho
 refine hK1 _ ?_; clear hK1 K1
 have hpo : p ≠ o := by rintro rfl; rw [hp] at ho; cases ho
 have h5 := h2 p o k ⟨upd ha.H o (some (.cells [nlS, .v (.int .i64 5000)])), ha.T⟩ ((upd_other _ _ hpo).trans hp) (upd_same _ _ _) hpo
 unfold nlS at h5
 (repeat (first | refine gO rfl ?_ | (refine gM zM26 fun K1 hK1 => ?_; simp only [go_sem, ↓reduceIte, reduceCtorEq, nA, nB, nC, nD, nE, nF, Int.reduceBEq, Int.reduceTMod, Int.reduceTDiv, Int.reduceMul, Int.reduceBNe, Int.reduceLT, Int.reduceLE, Int.reduceAdd, Int.reduceSub, Int.reduceNeg, decide_true, decide_false, Bool.true_and, Bool.false_and, Bool.and_true, Bool.and_false, Bool.or_false, Bool.or_true, Bool.true_or, Bool.false_or, Bool.not_true, Bool.not_false, true_implies, false_implies, true_and, and_true, Int.reduceToNat] <;> and_intros <;> first | (apply hK1; clear hK1 K1) | (intros; first | omega | decide) | skip) | (refine awp_cond (t := _) rfl (fun hq => ?_) (fun hq => ?_) <;> first | (exact absurd hq (by decide)) | (cases hq; done) | (clear hq)) | (refine awp_un 8 ?_) | (with_reducible exact rfl) | (with_reducible exact trivial) | ((with_reducible show uside _); first | exact True.intro | exact rfl) | ((with_reducible show opS _ _); exact True.intro) | (refine ⟨AV.v (.bool true), rfl, hK1 _ ?_⟩; clear hK1 K1)))
 refine h5.mono ?_
 rintro _ hb ⟨rfl, q, hpb, hob⟩
 refine hK1 _ ?_; clear hK1 K1 h5
 have h6 := h3 o q hb hob
 have h7 := h4 p k hb hpb
 unfold nlS rA at *
 (repeat (first | refine gO rfl ?_ | (refine gM zM26 fun K1 hK1 => ?_; simp only [go_sem, ↓reduceIte, reduceCtorEq, nA, nB, nC, nD, nE, nF, Int.reduceBEq, Int.reduceTMod, Int.reduceTDiv, Int.reduceMul, Int.reduceBNe, Int.reduceLT, Int.reduceLE, Int.reduceAdd, Int.reduceSub, Int.reduceNeg, decide_true, decide_false, Bool.true_and, Bool.false_and, Bool.and_true, Bool.and_false, Bool.or_false, Bool.or_true, Bool.true_or, Bool.false_or, Bool.not_true, Bool.not_false, true_implies, false_implies, true_and, and_true, Int.reduceToNat, hob] <;> and_intros <;> first | (apply hK1; clear hK1 K1) | (intros; first | omega | decide) | skip) | (refine awp_cond (t := _) rfl (fun hq => ?_) (fun hq => ?_) <;> first | (exact absurd hq (by decide)) | (cases hq; done) | (clear hq)) | (refine awp_un 8 ?_) | (with_reducible exact rfl) | (with_reducible exact trivial) | ((with_reducible show uside _); first | exact True.intro | exact rfl) | ((with_reducible show opS _ _); exact True.intro) | (refine ⟨AV.v (.bool true), rfl, hK1 _ ?_⟩; clear hK1 K1) | (refine (h6).mono ?_; rintro _ hz ⟨rfl, hh⟩; (first | (refine hK1 _ ?_) | (refine ⟨rfl, hK1 _ ?_⟩)); clear hK1 K1; rw [hh]; clear hh hz) | (refine (h7).mono ?_; rintro _ hz ⟨rfl, hh⟩; (first | (refine hK1 _ ?_) | (refine ⟨rfl, hK1 _ ?_⟩)); clear hK1 K1; rw [hh]; clear hh hz)))
 simp only [Tryz.results79, go_sem, ↓reduceIte, reduceCtorEq, nA, nB, nC, nD, nE, nF]
 exact ⟨_, _, Weak.refl _, Hp.le.refl _, q, rfl⟩
theorem c_checked (h : Hp) : ACalls Tryz.prog 70 [.agg lA] h (fun r h' => ∃ q, r = .tup [.agg [.v (.int .i64 1), rA q, .v (.int .i64 5)], .v (.int .i64 0)]) := by
 have h1 := c_check h
 have h2 := fun h => c_roundOf h
 unfold lA nlS rA at *
 refine gE Tryz.func70 rfl (by kernel_rfl) 14 rfl fun c => ?_
 (repeat (first | refine gO rfl ?_ | (refine gM zM27 fun K1 hK1 => ?_; simp only [go_sem, ↓reduceIte, reduceCtorEq, nA, nB, nC, nD, nE, nF, Int.reduceBEq, Int.reduceTMod, Int.reduceTDiv, Int.reduceMul, Int.reduceBNe, Int.reduceLT, Int.reduceLE, Int.reduceAdd, Int.reduceSub, Int.reduceNeg, decide_true, decide_false, Bool.true_and, Bool.false_and, Bool.and_true, Bool.and_false, Bool.or_false, Bool.or_true, Bool.true_or, Bool.false_or, Bool.not_true, Bool.not_false, true_implies, false_implies, true_and, and_true, Int.reduceToNat] <;> and_intros <;> first | (apply hK1; clear hK1 K1) | (intros; first | omega | decide) | skip) | (refine awp_cond (t := _) rfl (fun hq => ?_) (fun hq => ?_) <;> first | (exact absurd hq (by decide)) | (cases hq; done) | (clear hq)) | (refine awp_un 8 ?_) | (with_reducible exact rfl) | (with_reducible exact trivial) | ((with_reducible show uside _); first | exact True.intro | exact rfl) | ((with_reducible show opS _ _); exact True.intro) | (refine ⟨AV.v (.bool true), rfl, hK1 _ ?_⟩; clear hK1 K1)))
 refine h1.mono ?_
 rintro _ ha rfl
 refine hK1 _ ?_; clear hK1 K1 h1
 (repeat (first | refine gO rfl ?_ | (refine gM zM27 fun K1 hK1 => ?_; simp only [go_sem, ↓reduceIte, reduceCtorEq, nA, nB, nC, nD, nE, nF, Int.reduceBEq, Int.reduceTMod, Int.reduceTDiv, Int.reduceMul, Int.reduceBNe, Int.reduceLT, Int.reduceLE, Int.reduceAdd, Int.reduceSub, Int.reduceNeg, decide_true, decide_false, Bool.true_and, Bool.false_and, Bool.and_true, Bool.and_false, Bool.or_false, Bool.or_true, Bool.true_or, Bool.false_or, Bool.not_true, Bool.not_false, true_implies, false_implies, true_and, and_true, Int.reduceToNat] <;> and_intros <;> first | (apply hK1; clear hK1 K1) | (intros; first | omega | decide) | skip) | (refine awp_cond (t := _) rfl (fun hq => ?_) (fun hq => ?_) <;> first | (exact absurd hq (by decide)) | (cases hq; done) | (clear hq)) | (refine awp_un 8 ?_) | (with_reducible exact rfl) | (with_reducible exact trivial) | ((with_reducible show uside _); first | exact True.intro | exact rfl) | ((with_reducible show opS _ _); exact True.intro) | (refine ⟨AV.v (.bool true), rfl, hK1 _ ?_⟩; clear hK1 K1)))
 refine (h2 _).mono ?_
 rintro _ hb ⟨q, rfl⟩
 refine hK1 _ ?_; clear hK1 K1 h2
 (repeat (first | refine gO rfl ?_ | (refine gM zM27 fun K1 hK1 => ?_; simp only [go_sem, ↓reduceIte, reduceCtorEq, nA, nB, nC, nD, nE, nF, Int.reduceBEq, Int.reduceTMod, Int.reduceTDiv, Int.reduceMul, Int.reduceBNe, Int.reduceLT, Int.reduceLE, Int.reduceAdd, Int.reduceSub, Int.reduceNeg, decide_true, decide_false, Bool.true_and, Bool.false_and, Bool.and_true, Bool.and_false, Bool.or_false, Bool.or_true, Bool.true_or, Bool.false_or, Bool.not_true, Bool.not_false, true_implies, false_implies, true_and, and_true, Int.reduceToNat] <;> and_intros <;> first | (apply hK1; clear hK1 K1) | (intros; first | omega | decide) | skip) | (refine awp_cond (t := _) rfl (fun hq => ?_) (fun hq => ?_) <;> first | (exact absurd hq (by decide)) | (cases hq; done) | (clear hq)) | (refine awp_un 8 ?_) | (with_reducible exact rfl) | (with_reducible exact trivial) | ((with_reducible show uside _); first | exact True.intro | exact rfl) | ((with_reducible show opS _ _); exact True.intro) | (refine ⟨AV.v (.bool true), rfl, hK1 _ ?_⟩; clear hK1 K1)))
 simp only [Tryz.results70, go_sem, ↓reduceIte, reduceCtorEq, nA, nB, nC, nD, nE, nF]
 exact ⟨_, _, Weak.refl _, Hp.le.refl _, q, rfl⟩
theorem g_round1 (h : Hp) : ACalls Tryz.prog 15 [.agg lA] h (fun r h' => r = .tup [.v (.int .i64 1), .v (.int .i64 1), .v (.int .i64 5), .v (.int .i64 0)]) := by
 have h2 := fun h => c_checked h
 unfold lA nlS rA at *
 refine gE Tryz.func15 rfl (by kernel_rfl) 21 rfl fun c => ?_
 (repeat (first | refine gO rfl ?_ | ((first | refine gM zM23 ?_ | (with_reducible refine wM ?_ ?_) | ((with_reducible refine xS ?_); refine uD 4 zM23 zP13E zP13P 22 rfl (by kernel_rfl) ?_)) <;> ((try with_reducible intro K1 hK1); simp only [go_sem, ↓reduceIte, reduceCtorEq, nA, nB, nC, nD, nE, nF, Int.reduceBEq, Int.reduceTMod, Int.reduceTDiv, Int.reduceMul, Int.reduceBNe, Int.reduceLT, Int.reduceLE, Int.reduceAdd, Int.reduceSub, Int.reduceNeg, decide_true, decide_false, Bool.true_and, Bool.false_and, Bool.and_true, Bool.and_false, Bool.or_false, Bool.or_true, Bool.true_or, Bool.false_or, Bool.not_true, Bool.not_false, true_implies, false_implies, true_and, and_true, Int.reduceToNat] <;> and_intros <;> first | (apply hK1; clear hK1 K1) | (intros; first | omega | decide) | skip)) | (refine awp_cond (t := _) rfl (fun hq => ?_) (fun hq => ?_) <;> first | (exact absurd hq (by decide)) | (cases hq; done) | (clear hq)) | (refine awp_un 8 ?_) | (with_reducible exact rfl) | (with_reducible exact trivial) | ((with_reducible show uside _); first | exact True.intro | exact rfl) | ((with_reducible show opS _ _); exact True.intro) | (refine ⟨AV.v (.bool true), rfl, hK1 _ ?_⟩; clear hK1 K1)))
 refine (h2 _).mono ?_
 rintro _ hb ⟨q, rfl⟩
 refine hK1 _ ?_; clear hK1 K1 h2
 (repeat (first | refine gO rfl ?_ | ((first | refine gM zM23 ?_ | (with_reducible refine wM ?_ ?_) | ((with_reducible refine xS ?_); refine uD 4 zM23 zP13E zP13P 22 rfl (by kernel_rfl) ?_)) <;> ((try with_reducible intro K1 hK1); simp only [go_sem, ↓reduceIte, reduceCtorEq, nA, nB, nC, nD, nE, nF, Int.reduceBEq, Int.reduceTMod, Int.reduceTDiv, Int.reduceMul, Int.reduceBNe, Int.reduceLT, Int.reduceLE, Int.reduceAdd, Int.reduceSub, Int.reduceNeg, decide_true, decide_false, Bool.true_and, Bool.false_and, Bool.and_true, Bool.and_false, Bool.or_false, Bool.or_true, Bool.true_or, Bool.false_or, Bool.not_true, Bool.not_false, true_implies, false_implies, true_and, and_true, Int.reduceToNat] <;> and_intros <;> first | (apply hK1; clear hK1 K1) | (intros; first | omega | decide) | skip)) | (refine awp_cond (t := _) rfl (fun hq => ?_) (fun hq => ?_) <;> first | (exact absurd hq (by decide)) | (cases hq; done) | (clear hq)) | (refine awp_un 8 ?_) | (with_reducible exact rfl) | (with_reducible exact trivial) | ((with_reducible show uside _); first | exact True.intro | exact rfl) | ((with_reducible show opS _ _); exact True.intro) | (refine ⟨AV.v (.bool true), rfl, hK1 _ ?_⟩; clear hK1 K1)))
 simp only [Tryz.results15, go_sem, ↓reduceIte, reduceCtorEq, nA, nB, nC, nD, nE, nF]
 exact ⟨_, _, Weak.refl _, Hp.le.refl _, rfl⟩
abbrev zP14E : List Nat := [0, 1, 2, 3, 4, 5, 6, 7, 8, 9, 10, 11, 12, 13, 14]
abbrev zP14P : List (Nat × List Nat × List Nat) := []
attribute [go_sem] zP14E zP14P
def kA : AV := .row 3 [[.v (.int .i64 0), .v (.int .i64 10), .v (.int .i64 5)]] none
theorem c_checkLinks (h : Hp) : ACalls Tryz.prog 101 [kA] h (fun r h' => r = .v (.int .i64 0)) := by
 have h1 := fun h => a_outside 5 1 1000000 h
 unfold kA
 refine gE Tryz.func101 rfl (by kernel_rfl) 54 rfl fun c => ?_
 (repeat (first | refine gO rfl ?_ | ((first | refine gM zM28 ?_ | (with_reducible refine wM ?_ ?_) | ((with_reducible refine xS ?_); refine uD 8 zM28 zP14E zP14P 55 rfl (by kernel_rfl) ?_)) <;> ((try with_reducible intro K1 hK1); simp only [go_sem, ↓reduceIte, reduceCtorEq, nA, nB, nC, nD, nE, nF, Int.reduceBEq, Int.reduceTMod, Int.reduceTDiv, Int.reduceMul, Int.reduceBNe, Int.reduceLT, Int.reduceLE, Int.reduceAdd, Int.reduceSub, Int.reduceNeg, decide_true, decide_false, Bool.true_and, Bool.false_and, Bool.and_true, Bool.and_false, Bool.or_false, Bool.or_true, Bool.true_or, Bool.false_or, Bool.not_true, Bool.not_false, true_implies, false_implies, true_and, and_true, Int.reduceToNat] <;> and_intros <;> first | (apply hK1; clear hK1 K1) | (intros; first | omega | decide) | skip)) | (refine awp_cond (t := _) rfl (fun hq => ?_) (fun hq => ?_) <;> first | (exact absurd hq (by decide)) | (cases hq; done) | (clear hq)) | (refine awp_un 8 ?_) | (with_reducible exact rfl) | (with_reducible exact trivial) | ((with_reducible show uside _); first | exact True.intro | exact rfl) | ((with_reducible show opS _ _); exact True.intro) | (refine ⟨AV.v (.bool true), rfl, hK1 _ ?_⟩; clear hK1 K1) | (refine (h1 _).mono ?_; rintro _ hz ⟨rfl, hh⟩; (first | (refine hK1 _ ?_) | (refine ⟨rfl, hK1 _ ?_⟩)); clear hK1 K1; rw [hh]; clear hh hz)))
 simp only [Tryz.results101, go_sem, ↓reduceIte, reduceCtorEq, nA, nB, nC, nD, nE, nF]
 exact ⟨_, _, Weak.refl _, Hp.le.refl _, rfl⟩
theorem c_isMoment (h : Hp) : ACalls Tryz.prog 102 [.v (.int .i64 3)] h (fun r h' => r = .v (.bool true) ∧ h' = h) := by
 refine gE Tryz.func102 rfl (by kernel_rfl) 8 rfl fun c => ?_
 (repeat (first | refine gO rfl ?_ | (refine gR fun K1 hK1 => ?_; simp only [go_sem, ↓reduceIte, reduceCtorEq, nA, nB, nC, nD, nE, nF, Int.reduceBEq, Int.reduceTMod, Int.reduceTDiv, Int.reduceMul, Int.reduceBNe, Int.reduceLT, Int.reduceLE, Int.reduceAdd, Int.reduceSub, Int.reduceNeg, decide_true, decide_false, Bool.true_and, Bool.false_and, Bool.and_true, Bool.and_false, Bool.or_false, Bool.or_true, Bool.true_or, Bool.false_or, Bool.not_true, Bool.not_false, true_implies, false_implies, true_and, and_true, Int.reduceToNat] <;> and_intros <;> first | (apply hK1; clear hK1 K1) | (intros; first | omega | decide) | skip) | (refine awp_cond (t := _) rfl (fun hq => ?_) (fun hq => ?_) <;> first | (exact absurd hq (by decide)) | (cases hq; done) | (clear hq)) | (refine awp_un 8 ?_) | (with_reducible exact rfl) | (with_reducible exact trivial) | ((with_reducible show uside _); first | exact True.intro | exact rfl) | ((with_reducible show opS _ _); exact True.intro) | (refine ⟨AV.v (.bool true), rfl, hK1 _ ?_⟩; clear hK1 K1)))
 simp only [Tryz.results102, go_sem, ↓reduceIte, reduceCtorEq, nA, nB, nC, nD, nE, nF]
 exact ⟨_, _, Weak.refl _, Hp.le.refl _, rfl, rfl⟩
theorem c_done (h : Hp) : ACalls Tryz.prog 103 [kA, .v (.int .i64 3), .v (.int .i64 12)] h (fun r h' => r = .tup [.v (.int .i64 6), .v (.bool true)]) := by
 unfold kA
 refine gE Tryz.func103 rfl (by kernel_rfl) 49 rfl fun c => ?_
 (repeat (first | refine gO rfl ?_ | (refine gM zM29 fun K1 hK1 => ?_; simp only [go_sem, ↓reduceIte, reduceCtorEq, nA, nB, nC, nD, nE, nF, Int.reduceBEq, Int.reduceTMod, Int.reduceTDiv, Int.reduceMul, Int.reduceBNe, Int.reduceLT, Int.reduceLE, Int.reduceAdd, Int.reduceSub, Int.reduceNeg, decide_true, decide_false, Bool.true_and, Bool.false_and, Bool.and_true, Bool.and_false, Bool.or_false, Bool.or_true, Bool.true_or, Bool.false_or, Bool.not_true, Bool.not_false, true_implies, false_implies, true_and, and_true, Int.reduceToNat] <;> and_intros <;> first | (apply hK1; clear hK1 K1) | (intros; first | omega | decide) | skip) | (refine awp_cond (t := _) rfl (fun hq => ?_) (fun hq => ?_) <;> first | (exact absurd hq (by decide)) | (cases hq; done) | (clear hq)) | (refine awp_un 8 ?_) | (with_reducible exact rfl) | (with_reducible exact trivial) | ((with_reducible show uside _); first | exact True.intro | exact rfl) | ((with_reducible show opS _ _); exact True.intro) | (refine ⟨AV.v (.bool true), rfl, hK1 _ ?_⟩; clear hK1 K1)))
 simp only [Tryz.results103, go_sem, ↓reduceIte, reduceCtorEq, nA, nB, nC, nD, nE, nF]
 exact ⟨_, _, Weak.refl _, Hp.le.refl _, rfl⟩
theorem g_done1 (h : Hp) : ACalls Tryz.prog 39 [kA, .v (.int .i64 3), .v (.int .i64 12)] h (fun r h' => r = .tup [.v (.int .i64 6), .v (.bool true), .v (.int .i64 0)]) := by
 have h1 := c_checkLinks h
 have h2 := fun h => c_isMoment h
 have h3 := fun h => a_outside 12 0 1000000000000 h
 have h4 := fun h => c_done h
 unfold kA at *
 refine gE Tryz.func39 rfl (by kernel_rfl) 30 rfl fun c => ?_
 (repeat (first | refine gO rfl ?_ | (refine gR fun K1 hK1 => ?_; simp only [go_sem, ↓reduceIte, reduceCtorEq, nA, nB, nC, nD, nE, nF, Int.reduceBEq, Int.reduceTMod, Int.reduceTDiv, Int.reduceMul, Int.reduceBNe, Int.reduceLT, Int.reduceLE, Int.reduceAdd, Int.reduceSub, Int.reduceNeg, decide_true, decide_false, Bool.true_and, Bool.false_and, Bool.and_true, Bool.and_false, Bool.or_false, Bool.or_true, Bool.true_or, Bool.false_or, Bool.not_true, Bool.not_false, true_implies, false_implies, true_and, and_true, Int.reduceToNat] <;> and_intros <;> first | (apply hK1; clear hK1 K1) | (intros; first | omega | decide) | skip) | (refine awp_cond (t := _) rfl (fun hq => ?_) (fun hq => ?_) <;> first | (exact absurd hq (by decide)) | (cases hq; done) | (clear hq)) | (refine awp_un 8 ?_) | (with_reducible exact rfl) | (with_reducible exact trivial) | ((with_reducible show uside _); first | exact True.intro | exact rfl) | ((with_reducible show opS _ _); exact True.intro) | (refine ⟨AV.v (.bool true), rfl, hK1 _ ?_⟩; clear hK1 K1)))
 refine h1.mono ?_
 rintro _ ha rfl
 refine hK1 _ ?_; clear hK1 K1 h1
 (repeat (first | refine gO rfl ?_ | (refine gR fun K1 hK1 => ?_; simp only [go_sem, ↓reduceIte, reduceCtorEq, nA, nB, nC, nD, nE, nF, Int.reduceBEq, Int.reduceTMod, Int.reduceTDiv, Int.reduceMul, Int.reduceBNe, Int.reduceLT, Int.reduceLE, Int.reduceAdd, Int.reduceSub, Int.reduceNeg, decide_true, decide_false, Bool.true_and, Bool.false_and, Bool.and_true, Bool.and_false, Bool.or_false, Bool.or_true, Bool.true_or, Bool.false_or, Bool.not_true, Bool.not_false, true_implies, false_implies, true_and, and_true, Int.reduceToNat] <;> and_intros <;> first | (apply hK1; clear hK1 K1) | (intros; first | omega | decide) | skip) | (refine awp_cond (t := _) rfl (fun hq => ?_) (fun hq => ?_) <;> first | (exact absurd hq (by decide)) | (cases hq; done) | (clear hq)) | (refine awp_un 8 ?_) | (with_reducible exact rfl) | (with_reducible exact trivial) | ((with_reducible show uside _); first | exact True.intro | exact rfl) | ((with_reducible show opS _ _); exact True.intro) | (refine ⟨AV.v (.bool true), rfl, hK1 _ ?_⟩; clear hK1 K1) | (refine (h2 _).mono ?_; rintro _ hz ⟨rfl, hh⟩; (first | (refine hK1 _ ?_) | (refine ⟨rfl, hK1 _ ?_⟩)); clear hK1 K1; rw [hh]; clear hh hz) | (refine (h3 _).mono ?_; rintro _ hz ⟨rfl, hh⟩; (first | (refine hK1 _ ?_) | (refine ⟨rfl, hK1 _ ?_⟩)); clear hK1 K1; rw [hh]; clear hh hz)))
 refine (h4 _).mono ?_
 rintro _ hb rfl
 refine hK1 _ ?_; clear hK1 K1
 (repeat (first | refine gO rfl ?_ | (refine gR fun K1 hK1 => ?_; simp only [go_sem, ↓reduceIte, reduceCtorEq, nA, nB, nC, nD, nE, nF, Int.reduceBEq, Int.reduceTMod, Int.reduceTDiv, Int.reduceMul, Int.reduceBNe, Int.reduceLT, Int.reduceLE, Int.reduceAdd, Int.reduceSub, Int.reduceNeg, decide_true, decide_false, Bool.true_and, Bool.false_and, Bool.and_true, Bool.and_false, Bool.or_false, Bool.or_true, Bool.true_or, Bool.false_or, Bool.not_true, Bool.not_false, true_implies, false_implies, true_and, and_true, Int.reduceToNat] <;> and_intros <;> first | (apply hK1; clear hK1 K1) | (intros; first | omega | decide) | skip) | (refine awp_cond (t := _) rfl (fun hq => ?_) (fun hq => ?_) <;> first | (exact absurd hq (by decide)) | (cases hq; done) | (clear hq)) | (refine awp_un 8 ?_) | (with_reducible exact rfl) | (with_reducible exact trivial) | ((with_reducible show uside _); first | exact True.intro | exact rfl) | ((with_reducible show opS _ _); exact True.intro) | (refine ⟨AV.v (.bool true), rfl, hK1 _ ?_⟩; clear hK1 K1)))
 simp only [Tryz.results39, go_sem, ↓reduceIte, reduceCtorEq, nA, nB, nC, nD, nE, nF]
 exact ⟨_, _, Weak.refl _, Hp.le.refl _, rfl⟩
theorem g_ready (h : Hp) : ACalls Tryz.prog 16 [] h (fun r _ => r = .v (.bool true)) := by
 have h1 := fun h => g_miss5 h
 have h2 := fun h => g_round1 h
 have h3 := fun h => g_done1 h
 have h4 := fun h => g_bind1 h
 have e5 : (s5 == ⟨#[53]⟩) = true := by decide
 unfold lA nlS at h2
 unfold kA at h3
 rw [fC_eq] at h4
 unfold sT at h4
 refine gE Tryz.func16 rfl (by kernel_rfl) 75 rfl fun c => ?_
 (repeat (first | refine gO rfl ?_ | (refine gR fun K1 hK1 => ?_; simp only [go_sem, ↓reduceIte, reduceCtorEq, nA, nB, nC, nD, nE, nF, Int.reduceBEq, Int.reduceTMod, Int.reduceTDiv, Int.reduceMul, Int.reduceBNe, Int.reduceLT, Int.reduceLE, Int.reduceAdd, Int.reduceSub, Int.reduceNeg, decide_true, decide_false, Bool.true_and, Bool.false_and, Bool.and_true, Bool.and_false, Bool.or_false, Bool.or_true, Bool.true_or, Bool.false_or, Bool.not_true, Bool.not_false, true_implies, false_implies, true_and, and_true, Int.reduceToNat] <;> and_intros <;> first | (apply hK1; clear hK1 K1) | (intros; first | omega | decide) | skip) | (refine awp_cond (t := _) rfl (fun hq => ?_) (fun hq => ?_) <;> first | (exact absurd hq (by decide)) | (cases hq; done) | (clear hq)) | (refine awp_un 8 ?_) | (with_reducible exact rfl) | (with_reducible exact trivial) | ((with_reducible show uside _); first | exact True.intro | exact rfl) | ((with_reducible show opS _ _); exact True.intro) | (refine ⟨AV.v (.bool true), rfl, hK1 _ ?_⟩; clear hK1 K1)))
 refine (h1 _).mono ?_
 rintro _ ha rfl
 refine hK1 _ ?_; clear hK1 K1 h1
 (repeat (first | refine gO rfl ?_ | (refine gR fun K1 hK1 => ?_; simp only [go_sem, ↓reduceIte, reduceCtorEq, nA, nB, nC, nD, nE, nF, Int.reduceBEq, Int.reduceTMod, Int.reduceTDiv, Int.reduceMul, Int.reduceBNe, Int.reduceLT, Int.reduceLE, Int.reduceAdd, Int.reduceSub, Int.reduceNeg, decide_true, decide_false, Bool.true_and, Bool.false_and, Bool.and_true, Bool.and_false, Bool.or_false, Bool.or_true, Bool.true_or, Bool.false_or, Bool.not_true, Bool.not_false, true_implies, false_implies, true_and, and_true, Int.reduceToNat] <;> and_intros <;> first | (apply hK1; clear hK1 K1) | (intros; first | omega | decide) | skip) | (refine awp_cond (t := _) rfl (fun hq => ?_) (fun hq => ?_) <;> first | (exact absurd hq (by decide)) | (cases hq; done) | (clear hq)) | (refine awp_un 8 ?_) | (with_reducible exact rfl) | (with_reducible exact trivial) | ((with_reducible show uside _); first | exact True.intro | exact rfl) | ((with_reducible show opS _ _); exact True.intro) | (refine ⟨AV.v (.bool true), rfl, hK1 _ ?_⟩; clear hK1 K1)))
 refine (h2 _).mono ?_
 rintro _ hb rfl
 refine hK1 _ ?_; clear hK1 K1 h2
 (repeat (first | refine gO rfl ?_ | (refine gR fun K1 hK1 => ?_; simp only [go_sem, ↓reduceIte, reduceCtorEq, nA, nB, nC, nD, nE, nF, Int.reduceBEq, Int.reduceTMod, Int.reduceTDiv, Int.reduceMul, Int.reduceBNe, Int.reduceLT, Int.reduceLE, Int.reduceAdd, Int.reduceSub, Int.reduceNeg, decide_true, decide_false, Bool.true_and, Bool.false_and, Bool.and_true, Bool.and_false, Bool.or_false, Bool.or_true, Bool.true_or, Bool.false_or, Bool.not_true, Bool.not_false, true_implies, false_implies, true_and, and_true, Int.reduceToNat] <;> and_intros <;> first | (apply hK1; clear hK1 K1) | (intros; first | omega | decide) | skip) | (refine awp_cond (t := _) rfl (fun hq => ?_) (fun hq => ?_) <;> first | (exact absurd hq (by decide)) | (cases hq; done) | (clear hq)) | (refine awp_un 8 ?_) | (with_reducible exact rfl) | (with_reducible exact trivial) | ((with_reducible show uside _); first | exact True.intro | exact rfl) | ((with_reducible show opS _ _); exact True.intro) | (refine ⟨AV.v (.bool true), rfl, hK1 _ ?_⟩; clear hK1 K1)))
 refine (h3 _).mono ?_
 rintro _ hd rfl
 refine hK1 _ ?_; clear hK1 K1 h3
 (repeat (first | refine gO rfl ?_ | (refine gR fun K1 hK1 => ?_; simp only [go_sem, ↓reduceIte, reduceCtorEq, nA, nB, nC, nD, nE, nF, Int.reduceBEq, Int.reduceTMod, Int.reduceTDiv, Int.reduceMul, Int.reduceBNe, Int.reduceLT, Int.reduceLE, Int.reduceAdd, Int.reduceSub, Int.reduceNeg, decide_true, decide_false, Bool.true_and, Bool.false_and, Bool.and_true, Bool.and_false, Bool.or_false, Bool.or_true, Bool.true_or, Bool.false_or, Bool.not_true, Bool.not_false, true_implies, false_implies, true_and, and_true, Int.reduceToNat] <;> and_intros <;> first | (apply hK1; clear hK1 K1) | (intros; first | omega | decide) | skip) | (refine awp_cond (t := _) rfl (fun hq => ?_) (fun hq => ?_) <;> first | (exact absurd hq (by decide)) | (cases hq; done) | (clear hq)) | (refine awp_un 8 ?_) | (with_reducible exact rfl) | (with_reducible exact trivial) | ((with_reducible show uside _); first | exact True.intro | exact rfl) | ((with_reducible show opS _ _); exact True.intro) | (refine ⟨AV.v (.bool true), rfl, hK1 _ ?_⟩; clear hK1 K1)))
 refine (h4 _).mono ?_
 rintro _ he rfl
 refine hK1 _ ?_; clear hK1 K1 h4
 (repeat (first | refine gO rfl ?_ | (refine gR fun K1 hK1 => ?_; simp only [go_sem, ↓reduceIte, reduceCtorEq, nA, nB, nC, nD, nE, nF, Int.reduceBEq, Int.reduceTMod, Int.reduceTDiv, Int.reduceMul, Int.reduceBNe, Int.reduceLT, Int.reduceLE, Int.reduceAdd, Int.reduceSub, Int.reduceNeg, decide_true, decide_false, Bool.true_and, Bool.false_and, Bool.and_true, Bool.and_false, Bool.or_false, Bool.or_true, Bool.true_or, Bool.false_or, Bool.not_true, Bool.not_false, true_implies, false_implies, true_and, and_true, Int.reduceToNat, e5] <;> and_intros <;> first | (apply hK1; clear hK1 K1) | (intros; first | omega | decide) | skip) | (refine awp_cond (t := _) rfl (fun hq => ?_) (fun hq => ?_) <;> first | (exact absurd hq (by decide)) | (cases hq; done) | (clear hq)) | (refine awp_un 8 ?_) | (with_reducible exact rfl) | (with_reducible exact trivial) | ((with_reducible show uside _); first | exact True.intro | exact rfl) | ((with_reducible show opS _ _); exact True.intro) | (refine ⟨AV.v (.bool true), rfl, hK1 _ ?_⟩; clear hK1 K1)))
 simp only [Tryz.results16, go_sem, ↓reduceIte, reduceCtorEq, nA, nB, nC, nD, nE, nF]
 exact ⟨_, _, Weak.refl _, Hp.le.refl _, rfl⟩
abbrev zP15E : List Nat := [0, 1, 2, 3, 4, 5, 6, 7, 8, 9, 10, 11]
abbrev zP15P : List (Nat × List Nat × List Nat) := []
attribute [go_sem] zP15E zP15P
def formB (kind : Int) (item : ByteArray) (long many : Int) (nk ns : Int) : Bool :=
 (kind == 1 && nk != 0) || (kind == 5 && nk != 1) || (kind != 1 && nk == 0) || (kind == 4 && ns != nk) || (kind != 4 && ns != 0) || (kind != 1 && (item != ⟨#[]⟩ || long != 0)) || (kind != 5 && many != 0)
theorem g_form (kind : Int) (item : ByteArray) (long many : Int) (kids : List LT) (shares : List Int) (h : Hp) (hk : kids.length ≤ 1000) (hs : shares.length ≤ 1000) :
  ACalls Tryz.prog 199 [.agg (encL (.mk kind item long many kids shares))] h (fun r h' => r = .v (.bool (formB kind item long many kids.length shares.length)) ∧ h' = h) := by
 rw [encL_eq]
 have key : ∀ b1 b4 b5 : Bool, (kind == 1) = b1 → (kind == 4) = b4 → (kind == 5) = b5 → (b1 && b4) = false → (b1 && b5) = false → (b4 && b5) = false →
   ACalls Tryz.prog 199 [.agg [.v (.int .i64 kind), .v (.string item), .v (.int .i64 long), .v (.int .i64 many), .row 6 (kids.map encL) none, .row 1 (shares.map encI) none]] h (fun r h' => r = .v (.bool (formB kind item long many kids.length shares.length)) ∧ h' = h) := by
  intro b1 b4 b5 e1 e4 e5
  cases b1 <;> cases b4 <;> cases b5 <;> intro f1 f2 f3 <;> first | (cases f1; done) | (cases f2; done) | (cases f3; done) | skip
  all_goals
   refine gE Tryz.func199 rfl (by kernel_rfl) 77 rfl fun c => ?_
   (repeat' (first | refine gO rfl ?_ | ((first | ((with_reducible refine yS ?_); refine awp_keep zK20 100 (kS ?_)) | ((with_reducible refine yR ?_); refine awp_keep zK20 100 (kR ?_)) | refine gR ?_ | (with_reducible refine wM ?_ ?_) | ((with_reducible refine xS ?_); refine awp_keep zK20 100 (uD 1 zM20 zP15E zP15P 78 rfl (by kernel_rfl) ?_))) <;> ((try with_reducible intro K1 hK1); simp only [go_sem, ↓reduceIte, reduceCtorEq, nA, nB, nC, nD, nE, nF, e1, e4, e5, nG, nH, nI] <;> and_intros <;> first | (apply hK1; clear hK1 K1) | (intros; first | omega | decide | (simp_all <;> omega)) | skip)) | (refine awp_cond (t := _) rfl (fun hcnd => ?_) (fun hcnd => ?_) <;> first | (cases hcnd; done) | (simp only [hcnd]) | skip)))
  all_goals simp only [Tryz.results199, go_sem, ↓reduceIte, reduceCtorEq, nA, nB, nC, nD, nE, nF]
  all_goals exact ⟨_, _, Weak.refl _, Hp.le.refl _, by clear hs hk c; simp only [formB, bne, Bool.not_eq_true', Bool.not_eq_false'] at *; simp only [*, Bool.not_true, Bool.not_false, Bool.false_and, Bool.true_and, Bool.and_false, Bool.false_or, Bool.true_or, Bool.or_true, Bool.or_false], rfl⟩
 exact key _ _ _ rfl rfl rfl (by simp; omega) (by simp; omega) (by simp; omega)
def manyF : LT → Int
 | .mk _ _ _ _ kids _ => (kids.map manyF).sum + 1
def deepF : LT → Int
 | .mk _ _ _ _ kids _ => (kids.map deepF).foldl max 0 + 1
theorem manyF_eq (kind : Int) (item : ByteArray) (long many : Int) (kids : List LT) (shares : List Int) : manyF (.mk kind item long many kids shares) = (kids.map manyF).sum + 1 := by rw [manyF]
theorem deepF_eq (kind : Int) (item : ByteArray) (long many : Int) (kids : List LT) (shares : List Int) : deepF (.mk kind item long many kids shares) = (kids.map deepF).foldl max 0 + 1 := by rw [deepF]
theorem sum_bd {α : Type} (f : α → Int) (b : Int) (hb : 0 ≤ b) : ∀ (l : List α), (∀ x ∈ l, 0 ≤ f x ∧ f x ≤ b) → 0 ≤ (l.map f).sum ∧ (l.map f).sum ≤ l.length * b
 | [], _ => by simp
 | x :: l, h => by
  have h1 := h x (by simp)
  have h2 := sum_bd f b hb l fun y hy => h y (by simp [hy])
  have e : ((l.length + 1 : Nat) : Int) * b = l.length * b + b := by rw [show ((l.length + 1 : Nat) : Int) = l.length + 1 by omega, Int.add_mul, Int.one_mul]
  simp only [List.map_cons, List.sum_cons, List.length_cons, e]
  omega
theorem max_bd {α : Type} (f : α → Int) (b : Int) : ∀ (l : List α) (a : Int), a ≤ b → (∀ x ∈ l, f x ≤ b) → a ≤ (l.map f).foldl max a ∧ (l.map f).foldl max a ≤ b
 | [], a, ha, _ => by simp; omega
 | x :: l, a, ha, h => by
  have h1 := h x (by simp)
  have h2 := max_bd f b l (max a (f x)) (by omega) fun y hy => h y (by simp [hy])
  simp only [List.map_cons, List.foldl_cons]
  omega
def KC : Nat → LT → Prop
 | 0, _ => False
 | d + 1, .mk kind item long many kids shares => NB kind ∧ item.size ≤ 2 ∧ NB long ∧ NB many ∧ kids.length ≤ 1000 ∧ shares.length ≤ 1000 ∧ (∀ x ∈ shares, NB x) ∧ ∀ k ∈ kids, KC d k
theorem KC.mono : ∀ {d e : Nat} {t : LT}, KC d t → d ≤ e → KC e t
 | 0, _, _, h, _ => h.elim
 | d + 1, 0, _, _, h => by omega
 | d + 1, e + 1, .mk .., h, hd => ⟨h.1, h.2.1, h.2.2.1, h.2.2.2.1, h.2.2.2.2.1, h.2.2.2.2.2.1, h.2.2.2.2.2.2.1, fun k hk => (h.2.2.2.2.2.2.2 k hk).mono (by omega)⟩
theorem LC.kc : ∀ {d : Nat} {t : LT}, LC d t → KC d t
 | 0, _, h => h.elim
 | d + 1, .mk .., h => ⟨h.1, h.2.1, h.2.2.1, h.2.2.2.1, by have := h.2.2.2.2.1; omega, by have := h.2.2.2.2.2.1; omega, h.2.2.2.2.2.2.1, fun k hk => (h.2.2.2.2.2.2.2 k hk).kc⟩
theorem size_bd : ∀ (d : Nat) (t : LT), KC d t → 1 ≤ manyF t ∧ 1 ≤ deepF t ∧ deepF t ≤ d
 | 0, _, h => h.elim
 | d + 1, .mk kind item long many kids shares, h => by
  obtain ⟨_, _, _, _, hk, _, _, hkk⟩ := h
  have h1 : ∀ l : List LT, (∀ x ∈ l, KC d x) → 0 ≤ (l.map manyF).sum := fun l => by
   induction l with
   | nil => simp
   | cons x l ih => intro h; have h1 := size_bd d x (h x (by simp)); have h2 := ih fun y hy => h y (by simp [hy]); simp only [List.map_cons, List.sum_cons]; omega
  have h0 := h1 kids hkk
  have h2 := max_bd deepF d kids 0 (by omega) fun x hx => (size_bd d x (hkk x hx)).2.2
  rw [manyF_eq, deepF_eq]
  omega
theorem many_take {kids : List LT} (hp : ∀ x ∈ kids, 0 ≤ manyF x) (j : Nat) : 0 ≤ ((kids.take j).map manyF).sum ∧ ((kids.take j).map manyF).sum ≤ (kids.map manyF).sum := by
 have e : (kids.map manyF).sum = ((kids.take j).map manyF).sum + ((kids.drop j).map manyF).sum := by rw [← List.sum_append, ← List.map_append, List.take_append_drop]
 have : ∀ l : List LT, (∀ x ∈ l, 0 ≤ manyF x) → 0 ≤ (l.map manyF).sum := fun l => by
  induction l with
  | nil => simp
  | cons x l ih => intro h; have h1 := h x (by simp); have h2 := ih fun y hy => h y (by simp [hy]); simp only [List.map_cons, List.sum_cons]; omega
 have a := this (kids.drop j) fun x hx => hp x (List.mem_of_mem_drop hx)
 have b := this (kids.take j) fun x hx => hp x (List.mem_of_mem_take hx)
 omega
theorem many_kid {kids : List LT} (hp : ∀ x ∈ kids, 0 ≤ manyF x) {k : LT} (hk : k ∈ kids) : manyF k ≤ (kids.map manyF).sum := by
 induction kids with
 | nil => cases hk
 | cons x l ih =>
  have h2 := many_take (kids := l) (fun y hy => hp y (by simp [hy])) 0
  have h1 := hp x (by simp)
  simp only [List.take_zero, List.map_nil, List.sum_nil] at h2
  simp only [List.map_cons, List.sum_cons]
  rcases List.mem_cons.1 hk with rfl | h
  ·omega
  ·have := ih (fun y hy => hp y (by simp [hy])) h; omega
theorem take_succ_map {α : Type} {β : Type} [Inhabited α] (f : α → β) (l : List α) (j : Nat) (h : j < l.length) : (l.take (j + 1)).map f = (l.take j).map f ++ [f (l.getD j default)] := by
 rw [List.take_add_one, List.getD_eq_getElem?_getD, List.getElem?_eq_getElem h]; simp only [List.map_append, Option.toList_some, List.map_cons, List.map_nil, Option.getD_some]
theorem getD_mem' {α : Type} (l : List α) (j : Nat) (d : α) (h : j < l.length) : l.getD j d ∈ l := by
 rw [List.getD_eq_getElem?_getD, List.getElem?_eq_getElem h]; exact List.getElem_mem _
abbrev zP16E : List Nat := [0, 1, 2, 3, 4, 5, 6, 7, 8, 9, 10]
abbrev zP16P : List (Nat × List Nat × List Nat) := []
attribute [go_sem] zP16E zP16P
def aggOf (cs : List AV) : AV := .agg cs
theorem g_index51 (fid : Nat) (caps : List AV) (xs : List (List AV)) (hx : ∀ j, j < xs.length → (xs.getD j []).length = 6) (hl : xs.length ≤ 100000) (I P : Nat → Hp → Prop) (h : Hp) (h0 : I 0 h)
  (step : ∀ j h, j < xs.length → I j h → ACalls Tryz.prog fid (aggOf (xs.getD j []) :: caps) h (fun r h' => ∃ b, r = .v (.bool b) ∧ (b = true → P j h') ∧ (b = false → I (j + 1) h'))) :
  ACalls Tryz.prog 255 [.row 6 xs none, .fn fid caps] h (fun r h' => (∃ j : Nat, j < xs.length ∧ r = .v (.int .i64 j) ∧ P j h') ∨ r = .v (.int .i64 (-1)) ∧ I xs.length h') := by
 refine gE Tryz.func255 rfl (by kernel_rfl) 17 rfl fun c => ?_
 (repeat (first | refine gO rfl ?_ | (refine gR fun K1 hK1 => ?_; simp only [go_sem, ↓reduceIte, reduceCtorEq, nA, nB, nC, nD, nE, nF] <;> and_intros <;> first | (apply hK1; clear hK1 K1) | (intros; first | omega | decide | (simp_all <;> omega)) | skip)))
 refine awp_loopC (rl false [0, 2, 5, 2, 10]) 0 (fun g s => ∃ (j : Nat) (h' : Hp), g + j = xs.length ∧ I j h' ∧ s = ⟨((.row 6 xs none) :: (.fn fid caps) :: (jnk 5 ((.v (.int .i64 xs.length)) :: (.v (.int .i64 j)) :: (jnk 10 [])))), [], h'⟩) xs.length ⟨0, h, by omega, h0, rfl⟩ ?_
 rintro g _ ⟨j, h', hj, hI, rfl⟩
 (repeat (first | refine gO rfl ?_ | (refine gR fun K1 hK1 => ?_; simp only [go_sem, ↓reduceIte, reduceCtorEq, nA, nB, nC, nD, nE, nF] <;> and_intros <;> first | (apply hK1; clear hK1 K1) | (intros; first | omega | decide | (simp_all <;> omega)) | skip)))
 refine awp_cond (t := _) rfl (fun h1 => ?_) (fun h1 => ?_)
 ·simp only [decide_eq_true_eq] at h1
  have hjk : j < xs.length := by omega
  have hlen := hx j hjk
  have st := step j h' hjk hI
  (repeat (first | refine gO rfl ?_ | (refine gR fun K1 hK1 => ?_; simp only [go_sem, ↓reduceIte, reduceCtorEq, nA, nB, nC, nD, nE, nF, Int.toNat_natCast, hlen] <;> and_intros <;> first | (apply hK1; clear hK1 K1) | (intros; first | omega | decide | (simp_all <;> omega)) | skip)))
  rw [show List.take 6 (xs.getD j []) = xs.getD j [] from List.take_of_length_le (Nat.le_of_eq hlen)]
  refine st.mono ?_; rintro _ _ ⟨b, rfl, hb1, hb2⟩; apply hK1; clear hK1 K1
  (repeat (first | refine gO rfl ?_ | (refine gR fun K1 hK1 => ?_; simp only [go_sem, ↓reduceIte, reduceCtorEq, nA, nB, nC, nD, nE, nF] <;> and_intros <;> first | (apply hK1; clear hK1 K1) | (intros; first | omega | decide | (simp_all <;> omega)) | skip)))
  refine awp_cond (t := _) rfl (fun h2 => ?_) (fun h2 => ?_)
  ·(repeat (first | refine gO rfl ?_ | (refine gR fun K1 hK1 => ?_; simp only [go_sem, ↓reduceIte, reduceCtorEq, nA, nB, nC, nD, nE, nF] <;> and_intros <;> first | (apply hK1; clear hK1 K1) | (intros; first | omega | decide | (simp_all <;> omega)) | skip)))
   simp only [Tryz.results255, go_sem, ↓reduceIte, reduceCtorEq, nA, nB, nC, nD, nE, nF]
   exact ⟨_, _, Weak.refl _, Hp.le.refl _, .inl ⟨j, hjk, rfl, hb1 h2⟩⟩
  ·(repeat (first | refine gO rfl ?_ | (refine gR fun K1 hK1 => ?_; simp only [go_sem, ↓reduceIte, reduceCtorEq, nA, nB, nC, nD, nE, nF] <;> and_intros <;> first | (apply hK1; clear hK1 K1) | (intros; first | omega | decide | (simp_all <;> omega)) | skip)))
   exact ⟨g - 1, by omega, j + 1, _, by omega, hb2 h2, rfl⟩
 ·simp only [decide_eq_false_iff_not] at h1
  have hjk : j = xs.length := by omega
  subst hjk
  (repeat (first | refine gO rfl ?_ | (refine gR fun K1 hK1 => ?_; simp only [go_sem, ↓reduceIte, reduceCtorEq, nA, nB, nC, nD, nE, nF] <;> and_intros <;> first | (apply hK1; clear hK1 K1) | (intros; first | omega | decide | (simp_all <;> omega)) | skip)))
  simp only [Tryz.results255, go_sem, ↓reduceIte, reduceCtorEq, nA, nB, nC, nD, nE, nF]
  exact ⟨_, _, Weak.refl _, Hp.le.refl _, .inr ⟨rfl, hI⟩⟩
theorem g_contains41 (fid : Nat) (caps : List AV) (xs : List (List AV)) (hx : ∀ j, j < xs.length → (xs.getD j []).length = 6) (hl : xs.length ≤ 100000) (I P : Nat → Hp → Prop) (h : Hp) (h0 : I 0 h)
  (step : ∀ j h, j < xs.length → I j h → ACalls Tryz.prog fid (aggOf (xs.getD j []) :: caps) h (fun r h' => ∃ b, r = .v (.bool b) ∧ (b = true → P j h') ∧ (b = false → I (j + 1) h'))) :
  ACalls Tryz.prog 197 [.row 6 xs none, .fn fid caps] h (fun r h' => (∃ j : Nat, j < xs.length ∧ r = .v (.bool true) ∧ P j h') ∨ r = .v (.bool false) ∧ I xs.length h') := by
 refine gE Tryz.func197 rfl (by kernel_rfl) 7 rfl fun c => ?_
 (repeat (first | refine gO rfl ?_ | (refine gR fun K1 hK1 => ?_; simp only [go_sem, ↓reduceIte, reduceCtorEq, nA, nB, nC, nD, nE, nF] <;> and_intros <;> first | (apply hK1; clear hK1 K1) | (intros; first | omega | decide | (simp_all <;> omega)) | skip)))
 refine (g_index51 fid caps xs hx hl I P h h0 step).mono ?_
 rintro _ h' (⟨j, hj, rfl, hp⟩ | ⟨rfl, hi⟩)
 ·refine hK1 _ ?_; clear hK1 K1
  (repeat (first | refine gO rfl ?_ | (refine gR fun K1 hK1 => ?_; simp only [go_sem, ↓reduceIte, reduceCtorEq, nA, nB, nC, nD, nE, nF] <;> and_intros <;> first | (apply hK1; clear hK1 K1) | (intros; first | omega | decide | (simp_all <;> omega)) | skip)))
  simp only [Tryz.results197, go_sem, ↓reduceIte, reduceCtorEq, nA, nB, nC, nD, nE, nF]
  exact ⟨_, _, Weak.refl _, Hp.le.refl _, .inl ⟨j, hj, by simp, hp⟩⟩
 ·refine hK1 _ ?_; clear hK1 K1
  (repeat (first | refine gO rfl ?_ | (refine gR fun K1 hK1 => ?_; simp only [go_sem, ↓reduceIte, reduceCtorEq, nA, nB, nC, nD, nE, nF] <;> and_intros <;> first | (apply hK1; clear hK1 K1) | (intros; first | omega | decide | (simp_all <;> omega)) | skip)))
  simp only [Tryz.results197, go_sem, ↓reduceIte, reduceCtorEq, nA, nB, nC, nD, nE, nF]
  exact ⟨_, _, Weak.refl _, Hp.le.refl _, .inr ⟨by simp, hi⟩⟩
def outB (x lo hi : Int) : Bool := decide (x < lo) || decide (hi < x)
def firstNZ : List Int → Int
 | [] => 0
 | x :: xs => if x = 0 then firstNZ xs else x
def partF : LT → Int
 | .mk kind item long many kids shares =>
  if outB kind 1 5 then 4 else if formB kind item long many kids.length shares.length then 3 else if kind == 1 && !keyB item then 5 else if kind == 1 && outB long 1 3600000 then 1
   else if kind == 5 && outB many 1 100 then 1 else if shares.any (fun n => outB n 1 1000) then 1 else firstNZ (kids.map partF)
theorem partF_eq (kind : Int) (item : ByteArray) (long many : Int) (kids : List LT) (shares : List Int) : partF (.mk kind item long many kids shares) =
  if outB kind 1 5 then 4 else if formB kind item long many kids.length shares.length then 3 else if kind == 1 && !keyB item then 5 else if kind == 1 && outB long 1 3600000 then 1
   else if kind == 5 && outB many 1 100 then 1 else if shares.any (fun n => outB n 1 1000) then 1 else firstNZ (kids.map partF) := by rw [partF]
theorem firstNZ_app (l : List Int) (x : Int) : firstNZ (l ++ [x]) = if firstNZ l = 0 then x else firstNZ l := by
 induction l with
 | nil => simp only [List.nil_append, firstNZ]; split <;> simp_all
 | cons y l ih =>
  simp only [List.cons_append, firstNZ]
  split
  ·exact ih
  ·simp_all
theorem firstNZ_pre : ∀ (l : List Int) (j : Nat) (x : Int), l[j]? = some x → x ≠ 0 → firstNZ (l.take j) = 0 → firstNZ l = x
 | [], _, _, h, _, _ => by simp at h
 | y :: l, 0, x, h, hx, _ => by simp at h; subst h; simp [firstNZ, hx]
 | y :: l, j + 1, x, h, hx, h0 => by
  simp only [List.take_succ_cons, firstNZ] at h0 ⊢
  split at h0
  ·rename_i hy; rw [if_pos hy]; exact firstNZ_pre l j x (by simpa using h) hx h0
  ·rename_i hy; exact absurd h0 hy
theorem g_part24 : ∀ (d : Nat) (t : LT) (h : Hp), KC d t → ACalls Tryz.prog 140 [.agg (encL t)] h (fun r h' => r = .v (.int .i64 (partF t)) ∧ h' = h)
 | 0, _, _, hb => hb.elim
 | d + 1, .mk kind item long many kids shares, h0, hb => by
  obtain ⟨b1, b2, b3, b4, b5, b6, b7, b8⟩ := hb
  have hf := fun h => g_form kind item long many kids shares h b5 b6
  simp only [encL_eq] at hf ⊢
  refine gE Tryz.func140 rfl (by kernel_rfl) 63 rfl fun c => ?_
  (repeat (first | refine gO rfl ?_ | (refine gM zM23 fun K1 hK1 => ?_; simp only [go_sem, ↓reduceIte, reduceCtorEq, nA, nB, nC, nD, nE, nF] <;> and_intros <;> first | (apply hK1; clear hK1 K1) | (intros; first | omega | decide | (simp_all <;> omega)) | skip)))
  refine (a_outside kind 1 5 _).mono ?_; rintro _ hz ⟨rfl, hh⟩; apply hK1; clear hK1 K1; rw [hh]; clear hh hz
  (repeat (first | refine gO rfl ?_ | (refine gM zM23 fun K1 hK1 => ?_; simp only [go_sem, ↓reduceIte, reduceCtorEq, nA, nB, nC, nD, nE, nF] <;> and_intros <;> first | (apply hK1; clear hK1 K1) | (intros; first | omega | decide | (simp_all <;> omega)) | skip)))
  refine awp_cond (t := _) rfl (fun h1 => ?_) (fun h1 => ?_)
  ·(repeat (first | refine gO rfl ?_ | (refine gM zM23 fun K1 hK1 => ?_; simp only [go_sem, ↓reduceIte, reduceCtorEq, nA, nB, nC, nD, nE, nF] <;> and_intros <;> first | (apply hK1; clear hK1 K1) | (intros; first | omega | decide | (simp_all <;> omega)) | skip)))
   simp only [Tryz.results140, go_sem, ↓reduceIte, reduceCtorEq, nA, nB, nC, nD, nE, nF]
   exact ⟨_, _, Weak.refl _, Hp.le.refl _, by rw [partF_eq, show outB kind 1 5 = true from h1]; rfl, rfl⟩
  ·(repeat (first | refine gO rfl ?_ | (refine gM zM23 fun K1 hK1 => ?_; simp only [go_sem, ↓reduceIte, reduceCtorEq, nA, nB, nC, nD, nE, nF] <;> and_intros <;> first | (apply hK1; clear hK1 K1) | (intros; first | omega | decide | (simp_all <;> omega)) | skip)))
   refine (hf _).mono ?_; rintro _ hz ⟨rfl, hh⟩; apply hK1; clear hK1 K1; rw [hh]; clear hh hz
   (repeat (first | refine gO rfl ?_ | (refine gM zM23 fun K1 hK1 => ?_; simp only [go_sem, ↓reduceIte, reduceCtorEq, nA, nB, nC, nD, nE, nF] <;> and_intros <;> first | (apply hK1; clear hK1 K1) | (intros; first | omega | decide | (simp_all <;> omega)) | skip)))
   refine awp_cond (t := _) rfl (fun h2 => ?_) (fun h2 => ?_)
   ·(repeat (first | refine gO rfl ?_ | (refine gM zM23 fun K1 hK1 => ?_; simp only [go_sem, ↓reduceIte, reduceCtorEq, nA, nB, nC, nD, nE, nF] <;> and_intros <;> first | (apply hK1; clear hK1 K1) | (intros; first | omega | decide | (simp_all <;> omega)) | skip)))
    simp only [Tryz.results140, go_sem, ↓reduceIte, reduceCtorEq, nA, nB, nC, nD, nE, nF]
    exact ⟨_, _, Weak.refl _, Hp.le.refl _, by rw [partF_eq, show outB kind 1 5 = false from h1, h2]; rfl, rfl⟩
   ·(repeat (first | refine gQ rfl ?_ | (refine gM zM23 fun K1 hK1 => ?_; simp only [go_sem, ↓reduceIte, reduceCtorEq, nA, nB, nC, nD, nE, nF] <;> and_intros <;> first | (apply hK1; clear hK1 K1) | (intros; first | omega | decide | (simp_all <;> omega)) | skip)))
    refine awp_seq ?_
    refine awp_join (rl false [1, 1, 62]) 0 (fun s => ((kind == 1 && !keyB item) = false ∧ (kind == 1 && outB long 1 3600000) = false ∧ (kind == 5 && outB many 1 100) = false) ∧
     s = ⟨(AV.junk :: ((.ref [.v (.int .i64 kind), .v (.string item), .v (.int .i64 long), .v (.int .i64 many), .row 6 (kids.map encL) none, .row 1 (shares.map encI) none] 0) :: (jnk 62 []))), [], h0⟩) ?_ ?_
    ·have key : ∀ q1 q5 : Bool, (kind == 1) = q1 → (kind == 5) = q5 → (q1 && q5) = false → (q1 = true ∧ q5 = false ∨ q1 = false ∧ q5 = true ∨ q1 = false ∧ q5 = false) := by intro q1 q5 _ _; cases q1 <;> cases q5 <;> simp
     rcases key _ _ rfl rfl (by simp; omega) with ⟨e1, e5⟩ | ⟨e1, e5⟩ | ⟨e1, e5⟩
     ·(repeat (first | refine gO rfl ?_ | (refine gM zM23 fun K1 hK1 => ?_; simp only [go_sem, ↓reduceIte, reduceCtorEq, nA, nB, nC, nD, nE, nF, e1, e5] <;> and_intros <;> first | (apply hK1; clear hK1 K1) | (intros; first | omega | decide | (simp_all <;> omega)) | skip)))
      refine (a_isKey item (by omega) _).mono ?_; rintro _ hz ⟨rfl, hh⟩; refine ⟨rfl, hK1 _ ?_⟩; clear hK1 K1; rw [hh]; clear hh hz
      (repeat (first | refine gO rfl ?_ | (refine gM zM23 fun K1 hK1 => ?_; simp only [go_sem, ↓reduceIte, reduceCtorEq, nA, nB, nC, nD, nE, nF, e1, e5] <;> and_intros <;> first | (apply hK1; clear hK1 K1) | (intros; first | omega | decide | (simp_all <;> omega)) | skip)))
      refine awp_cond (t := _) rfl (fun h3 => ?_) (fun h3 => ?_)
      ·(repeat (first | refine gO rfl ?_ | (refine gM zM23 fun K1 hK1 => ?_; simp only [go_sem, ↓reduceIte, reduceCtorEq, nA, nB, nC, nD, nE, nF] <;> and_intros <;> first | (apply hK1; clear hK1 K1) | (intros; first | omega | decide | (simp_all <;> omega)) | skip)))
       simp only [Tryz.results140, go_sem, ↓reduceIte, reduceCtorEq, nA, nB, nC, nD, nE, nF]
       exact ⟨_, _, Weak.refl _, Hp.le.refl _, by rw [partF_eq, show outB kind 1 5 = false from h1, h2, e1, h3]; rfl, rfl⟩
      ·(repeat (first | refine gO rfl ?_ | (refine gM zM23 fun K1 hK1 => ?_; simp only [go_sem, ↓reduceIte, reduceCtorEq, nA, nB, nC, nD, nE, nF, e1, e5] <;> and_intros <;> first | (apply hK1; clear hK1 K1) | (intros; first | omega | decide | (simp_all <;> omega)) | skip)))
       refine (a_outside long 1 3600000 _).mono ?_; rintro _ hz ⟨rfl, hh⟩; refine ⟨rfl, hK1 _ ?_⟩; clear hK1 K1; rw [hh]; clear hh hz
       (repeat (first | refine gO rfl ?_ | (refine gM zM23 fun K1 hK1 => ?_; simp only [go_sem, ↓reduceIte, reduceCtorEq, nA, nB, nC, nD, nE, nF, e1, e5] <;> and_intros <;> first | (apply hK1; clear hK1 K1) | (intros; first | omega | decide | (simp_all <;> omega)) | skip)))
       refine awp_cond (t := _) rfl (fun h4 => ?_) (fun h4 => ?_)
       ·(repeat (first | refine gO rfl ?_ | (refine gM zM23 fun K1 hK1 => ?_; simp only [go_sem, ↓reduceIte, reduceCtorEq, nA, nB, nC, nD, nE, nF] <;> and_intros <;> first | (apply hK1; clear hK1 K1) | (intros; first | omega | decide | (simp_all <;> omega)) | skip)))
        simp only [Tryz.results140, go_sem, ↓reduceIte, reduceCtorEq, nA, nB, nC, nD, nE, nF]
        exact ⟨_, _, Weak.refl _, Hp.le.refl _, by rw [partF_eq, show outB kind 1 5 = false from h1, h2, e1, h3, show outB long 1 3600000 = true from h4]; rfl, rfl⟩
       ·(repeat (first | refine gO rfl ?_ | (refine gM zM23 fun K1 hK1 => ?_; simp only [go_sem, ↓reduceIte, reduceCtorEq, nA, nB, nC, nD, nE, nF, e1, e5] <;> and_intros <;> first | (apply hK1; clear hK1 K1) | (intros; first | omega | decide | (simp_all <;> omega)) | skip)))
        refine awp_cond (t := _) rfl (fun h5 => by cases h5) (fun h5 => ?_)
        (repeat (first | refine gO rfl ?_ | (refine gM zM23 fun K1 hK1 => ?_; simp only [go_sem, ↓reduceIte, reduceCtorEq, nA, nB, nC, nD, nE, nF, e1, e5] <;> and_intros <;> first | (apply hK1; clear hK1 K1) | (intros; first | omega | decide | (simp_all <;> omega)) | skip)))
        exact ⟨⟨by simp only [e1, e5, h3, Bool.true_and, Bool.false_and], by simp only [e1, e5, outB, h4, Bool.true_and, Bool.false_and], by simp only [e1, e5, outB, h4, Bool.true_and, Bool.false_and]⟩, rfl⟩
     ·(repeat (first | refine gO rfl ?_ | (refine gM zM23 fun K1 hK1 => ?_; simp only [go_sem, ↓reduceIte, reduceCtorEq, nA, nB, nC, nD, nE, nF, e1, e5] <;> and_intros <;> first | (apply hK1; clear hK1 K1) | (intros; first | omega | decide | (simp_all <;> omega)) | skip)))
      refine ⟨.v (.bool false), rfl, True.intro, hK1 _ ?_⟩; clear hK1 K1
      (repeat (first | refine gO rfl ?_ | (refine gM zM23 fun K1 hK1 => ?_; simp only [go_sem, ↓reduceIte, reduceCtorEq, nA, nB, nC, nD, nE, nF, e1, e5] <;> and_intros <;> first | (apply hK1; clear hK1 K1) | (intros; first | omega | decide | (simp_all <;> omega)) | skip)))
      refine awp_cond (t := _) rfl (fun h5 => by cases h5) (fun h5 => ?_)
      (repeat (first | refine gO rfl ?_ | (refine gM zM23 fun K1 hK1 => ?_; simp only [go_sem, ↓reduceIte, reduceCtorEq, nA, nB, nC, nD, nE, nF, e1, e5] <;> and_intros <;> first | (apply hK1; clear hK1 K1) | (intros; first | omega | decide | (simp_all <;> omega)) | skip)))
      refine awp_cond (t := _) rfl (fun h5 => by cases h5) (fun h5 => ?_)
      (repeat (first | refine gO rfl ?_ | (refine gM zM23 fun K1 hK1 => ?_; simp only [go_sem, ↓reduceIte, reduceCtorEq, nA, nB, nC, nD, nE, nF, e1, e5] <;> and_intros <;> first | (apply hK1; clear hK1 K1) | (intros; first | omega | decide | (simp_all <;> omega)) | skip)))
      refine (a_outside many 1 100 _).mono ?_; rintro _ hz ⟨rfl, hh⟩; refine ⟨rfl, hK1 _ ?_⟩; clear hK1 K1; rw [hh]; clear hh hz
      (repeat (first | refine gO rfl ?_ | (refine gM zM23 fun K1 hK1 => ?_; simp only [go_sem, ↓reduceIte, reduceCtorEq, nA, nB, nC, nD, nE, nF, e1, e5] <;> and_intros <;> first | (apply hK1; clear hK1 K1) | (intros; first | omega | decide | (simp_all <;> omega)) | skip)))
      refine awp_cond (t := _) rfl (fun h4 => ?_) (fun h4 => ?_)
      ·(repeat (first | refine gO rfl ?_ | (refine gM zM23 fun K1 hK1 => ?_; simp only [go_sem, ↓reduceIte, reduceCtorEq, nA, nB, nC, nD, nE, nF] <;> and_intros <;> first | (apply hK1; clear hK1 K1) | (intros; first | omega | decide | (simp_all <;> omega)) | skip)))
       simp only [Tryz.results140, go_sem, ↓reduceIte, reduceCtorEq, nA, nB, nC, nD, nE, nF]
       exact ⟨_, _, Weak.refl _, Hp.le.refl _, by rw [partF_eq, show outB kind 1 5 = false from h1, h2, e1, e5, show outB many 1 100 = true from h4]; rfl, rfl⟩
      ·(repeat (first | refine gO rfl ?_ | (refine gM zM23 fun K1 hK1 => ?_; simp only [go_sem, ↓reduceIte, reduceCtorEq, nA, nB, nC, nD, nE, nF] <;> and_intros <;> first | (apply hK1; clear hK1 K1) | (intros; first | omega | decide | (simp_all <;> omega)) | skip)))
       exact ⟨⟨by simp only [e1, e5, h4, Bool.true_and, Bool.false_and], by simp only [e1, e5, outB, h4, Bool.true_and, Bool.false_and], by simp only [e1, e5, outB, h4, Bool.true_and, Bool.false_and]⟩, rfl⟩
     ·(repeat (first | refine gO rfl ?_ | (refine gM zM23 fun K1 hK1 => ?_; simp only [go_sem, ↓reduceIte, reduceCtorEq, nA, nB, nC, nD, nE, nF, e1, e5] <;> and_intros <;> first | (apply hK1; clear hK1 K1) | (intros; first | omega | decide | (simp_all <;> omega)) | skip)))
      refine ⟨.v (.bool false), rfl, True.intro, hK1 _ ?_⟩; clear hK1 K1
      (repeat (first | refine gO rfl ?_ | (refine gM zM23 fun K1 hK1 => ?_; simp only [go_sem, ↓reduceIte, reduceCtorEq, nA, nB, nC, nD, nE, nF, e1, e5] <;> and_intros <;> first | (apply hK1; clear hK1 K1) | (intros; first | omega | decide | (simp_all <;> omega)) | skip)))
      refine awp_cond (t := _) rfl (fun h5 => by cases h5) (fun h5 => ?_)
      (repeat (first | refine gO rfl ?_ | (refine gM zM23 fun K1 hK1 => ?_; simp only [go_sem, ↓reduceIte, reduceCtorEq, nA, nB, nC, nD, nE, nF, e1, e5] <;> and_intros <;> first | (apply hK1; clear hK1 K1) | (intros; first | omega | decide | (simp_all <;> omega)) | skip)))
      refine awp_cond (t := _) rfl (fun h5 => by cases h5) (fun h5 => ?_)
      (repeat (first | refine gO rfl ?_ | (refine gM zM23 fun K1 hK1 => ?_; simp only [go_sem, ↓reduceIte, reduceCtorEq, nA, nB, nC, nD, nE, nF, e1, e5] <;> and_intros <;> first | (apply hK1; clear hK1 K1) | (intros; first | omega | decide | (simp_all <;> omega)) | skip)))
      refine awp_cond (t := _) rfl (fun h5 => by cases h5) (fun h5 => ?_)
      (repeat (first | refine gO rfl ?_ | (refine gM zM23 fun K1 hK1 => ?_; simp only [go_sem, ↓reduceIte, reduceCtorEq, nA, nB, nC, nD, nE, nF, e1, e5] <;> and_intros <;> first | (apply hK1; clear hK1 K1) | (intros; first | omega | decide | (simp_all <;> omega)) | skip)))
      exact ⟨⟨by simp only [e1, e5, h1, Bool.true_and, Bool.false_and], by simp only [e1, e5, outB, h1, Bool.true_and, Bool.false_and], by simp only [e1, e5, outB, h1, Bool.true_and, Bool.false_and]⟩, rfl⟩
    ·rintro _ ⟨⟨h3, h4, h5⟩, rfl⟩
     have hpf : partF (.mk kind item long many kids shares) = if shares.any (fun n => outB n 1 1000) then 1 else firstNZ (kids.map partF) := by
      rw [partF_eq, show outB kind 1 5 = false from h1, h2, h3, h4, h5]; rfl
     (repeat (first | refine gQ rfl ?_ | (refine gM zM23 fun K1 hK1 => ?_; simp only [go_sem, ↓reduceIte, reduceCtorEq, nA, nB, nC, nD, nE, nF] <;> and_intros <;> first | (apply hK1; clear hK1 K1) | (intros; first | omega | decide | (simp_all <;> omega)) | skip)))
     refine awp_seq ?_
     refine awp_join (rl false [1, 1, 62]) 0 (fun s => shares.any (fun n => outB n 1 1000) = false ∧
      s = ⟨(AV.junk :: ((.ref [.v (.int .i64 kind), .v (.string item), .v (.int .i64 long), .v (.int .i64 many), .row 6 (kids.map encL) none, .row 1 (shares.map encI) none] 0) :: (jnk 62 []))), [], h0⟩) ?_ ?_
     ·(repeat (first | refine gO rfl ?_ | (refine gM zM23 fun K1 hK1 => ?_; simp only [go_sem, ↓reduceIte, reduceCtorEq, nA, nB, nC, nD, nE, nF] <;> and_intros <;> first | (apply hK1; clear hK1 K1) | (intros; first | omega | decide | (simp_all <;> omega)) | skip)))
      refine awp_loopC (rl false [1, 1, 40, 3, 19]) 0 (fun g s => ∃ j : Nat, g + j = shares.length ∧ (shares.take j).any (fun n => outB n 1 1000) = false ∧
       s = ⟨(AV.junk :: ((.ref [.v (.int .i64 kind), .v (.string item), .v (.int .i64 long), .v (.int .i64 many), .row 6 (kids.map encL) none, .row 1 (shares.map encI) none] 0) :: (jnk 40 ((.row 1 (shares.map encI) none) :: (.v (.int .i64 shares.length)) :: (.v (.int .i64 j)) :: (jnk 19 []))))), [], h0⟩) shares.length ⟨0, by omega, rfl, rfl⟩ ?_
      rintro g _ ⟨j, hj, hany, rfl⟩
      (repeat (first | refine gO rfl ?_ | (refine gM zM23 fun K1 hK1 => ?_; simp only [go_sem, ↓reduceIte, reduceCtorEq, nA, nB, nC, nD, nE, nF] <;> and_intros <;> first | (apply hK1; clear hK1 K1) | (intros; first | omega | decide | (simp_all <;> omega)) | skip)))
      refine awp_cond (t := _) rfl (fun h6 => ?_) (fun h6 => ?_)
      ·simp only [decide_eq_true_eq] at h6
       have hjk : j < shares.length := by omega
       have hg : (shares.map encI).getD j [] = encI (shares.getD j default) := getD_enc encI shares j default hjk
       have e1 := take_succ_map (fun n => outB n 1 1000) shares j hjk
       generalize hsv : shares.getD j default = sv at hg e1
       have hmem := getD_mem' shares j default hjk
       rw [hsv] at hmem
       (repeat (first | refine gO rfl ?_ | (refine gM zM23 fun K1 hK1 => ?_; simp only [go_sem, ↓reduceIte, reduceCtorEq, nA, nB, nC, nD, nE, nF, Int.toNat_natCast, hg, encI] <;> and_intros <;> first | (apply hK1; clear hK1 K1) | (intros; first | omega | decide | (simp_all <;> omega)) | skip)))
       refine (a_outside sv 1 1000 _).mono ?_; rintro _ hz ⟨rfl, hh⟩; apply hK1; clear hK1 K1; rw [hh]; clear hh hz
       (repeat (first | refine gO rfl ?_ | (refine gM zM23 fun K1 hK1 => ?_; simp only [go_sem, ↓reduceIte, reduceCtorEq, nA, nB, nC, nD, nE, nF] <;> and_intros <;> first | (apply hK1; clear hK1 K1) | (intros; first | omega | decide | (simp_all <;> omega)) | skip)))
       refine awp_cond (t := _) rfl (fun h7 => ?_) (fun h7 => ?_)
       ·(repeat (first | refine gO rfl ?_ | (refine gM zM23 fun K1 hK1 => ?_; simp only [go_sem, ↓reduceIte, reduceCtorEq, nA, nB, nC, nD, nE, nF] <;> and_intros <;> first | (apply hK1; clear hK1 K1) | (intros; first | omega | decide | (simp_all <;> omega)) | skip)))
        simp only [Tryz.results140, go_sem, ↓reduceIte, reduceCtorEq, nA, nB, nC, nD, nE, nF]
        exact ⟨_, _, Weak.refl _, Hp.le.refl _, by rw [hpf, if_pos (List.any_eq_true.2 ⟨sv, hmem, h7⟩)], rfl⟩
       ·(repeat (first | refine gO rfl ?_ | (refine gM zM23 fun K1 hK1 => ?_; simp only [go_sem, ↓reduceIte, reduceCtorEq, nA, nB, nC, nD, nE, nF] <;> and_intros <;> first | (apply hK1; clear hK1 K1) | (intros; first | omega | decide | (simp_all <;> omega)) | skip)))
        refine ⟨g - 1, by omega, j + 1, by omega, ?_, rfl⟩
        rw [List.any_eq_false] at hany ⊢
        intro x hx
        rw [List.take_add_one] at hx
        rcases List.mem_append.1 hx with hx | hx
        ·exact hany x hx
        ·rw [List.getElem?_eq_getElem hjk] at hx
         rw [List.getD_eq_getElem?_getD, List.getElem?_eq_getElem hjk] at hsv
         simp at hx hsv
         rw [hx, hsv]
         exact by simpa [outB] using h7
      ·simp only [decide_eq_false_iff_not] at h6
       have hjk : j = shares.length := by omega
       subst hjk
       rw [List.take_length] at hany
       (repeat (first | refine gO rfl ?_ | (refine gM zM23 fun K1 hK1 => ?_; simp only [go_sem, ↓reduceIte, reduceCtorEq, nA, nB, nC, nD, nE, nF] <;> and_intros <;> first | (apply hK1; clear hK1 K1) | (intros; first | omega | decide | (simp_all <;> omega)) | skip)))
       exact ⟨hany, rfl⟩
     ·rintro _ ⟨hany, rfl⟩
      rw [if_neg (by rw [hany]; simp)] at hpf
      (repeat (first | refine gO rfl ?_ | (refine gM zM23 fun K1 hK1 => ?_; simp only [go_sem, ↓reduceIte, reduceCtorEq, nA, nB, nC, nD, nE, nF] <;> and_intros <;> first | (apply hK1; clear hK1 K1) | (intros; first | omega | decide | (simp_all <;> omega)) | skip)))
      refine awp_loopC (rl false [52, 3, 9]) 0 (fun g s => ∃ j : Nat, g + j = kids.length ∧ firstNZ ((kids.map partF).take j) = 0 ∧
       s = ⟨((jnk 52 ((.row 6 (kids.map encL) none) :: (.v (.int .i64 kids.length)) :: (.v (.int .i64 j)) :: (jnk 9 [])))), [], h0⟩) kids.length ⟨0, by omega, rfl, rfl⟩ ?_
      rintro g _ ⟨j, hj, hnz, rfl⟩
      (repeat (first | refine gO rfl ?_ | (refine gM zM23 fun K1 hK1 => ?_; simp only [go_sem, ↓reduceIte, reduceCtorEq, nA, nB, nC, nD, nE, nF] <;> and_intros <;> first | (apply hK1; clear hK1 K1) | (intros; first | omega | decide | (simp_all <;> omega)) | skip)))
      refine awp_cond (t := _) rfl (fun h6 => ?_) (fun h6 => ?_)
      ·simp only [decide_eq_true_eq] at h6
       have hjk : j < kids.length := by omega
       have hg : (kids.map encL).getD j [] = encL (kids.getD j default) := getD_enc encL kids j default hjk
       have hmem := getD_mem' kids j default hjk
       have hbt := b8 _ hmem
       have hgp : (kids.map partF)[j]? = some (partF (kids.getD j default)) := by rw [List.getElem?_map, List.getElem?_eq_getElem hjk, List.getD_eq_getElem?_getD, List.getElem?_eq_getElem hjk]; rfl
       have e1 : (kids.map partF).take (j + 1) = (kids.map partF).take j ++ [partF (kids.getD j default)] := by rw [List.take_add_one, hgp]; rfl
       generalize kids.getD j default = t2 at hg hmem hbt hgp e1
       have hlen := encL_len t2
       have htk : List.take 6 (encL t2) = encL t2 := List.take_of_length_le (Nat.le_of_eq hlen)
       have hdr : List.drop 6 (encL t2) = [] := List.drop_of_length_le (Nat.le_of_eq hlen)
       (repeat (first | refine gO rfl ?_ | (refine gM zM23 fun K1 hK1 => ?_; simp only [go_sem, ↓reduceIte, reduceCtorEq, nA, nB, nC, nD, nE, nF, Int.toNat_natCast, hg, hlen, htk, hdr] <;> and_intros <;> first | (apply hK1; clear hK1 K1) | (intros; first | omega | decide | (simp_all <;> omega)) | skip)))
       refine (g_part24 d t2 h0 hbt).mono ?_; rintro _ hz ⟨rfl, hh⟩; apply hK1; clear hK1 K1; rw [hh]; clear hh hz
       (repeat (first | refine gO rfl ?_ | (refine gM zM23 fun K1 hK1 => ?_; simp only [go_sem, ↓reduceIte, reduceCtorEq, nA, nB, nC, nD, nE, nF] <;> and_intros <;> first | (apply hK1; clear hK1 K1) | (intros; first | omega | decide | (simp_all <;> omega)) | skip)))
       refine awp_cond (t := _) rfl (fun h7 => ?_) (fun h7 => ?_)
       ·(repeat (first | refine gO rfl ?_ | (refine gM zM23 fun K1 hK1 => ?_; simp only [go_sem, ↓reduceIte, reduceCtorEq, nA, nB, nC, nD, nE, nF] <;> and_intros <;> first | (apply hK1; clear hK1 K1) | (intros; first | omega | decide | (simp_all <;> omega)) | skip)))
        simp only [Tryz.results140, go_sem, ↓reduceIte, reduceCtorEq, nA, nB, nC, nD, nE, nF]
        exact ⟨_, _, Weak.refl _, Hp.le.refl _, by rw [hpf, firstNZ_pre _ j _ hgp (by simpa using h7) hnz], rfl⟩
       ·(repeat (first | refine gO rfl ?_ | (refine gM zM23 fun K1 hK1 => ?_; simp only [go_sem, ↓reduceIte, reduceCtorEq, nA, nB, nC, nD, nE, nF] <;> and_intros <;> first | (apply hK1; clear hK1 K1) | (intros; first | omega | decide | (simp_all <;> omega)) | skip)))
        refine ⟨g - 1, by omega, j + 1, by omega, ?_, rfl⟩
        rw [e1, firstNZ_app, if_pos hnz]
        simpa using h7
      ·simp only [decide_eq_false_iff_not] at h6
       have hjk : j = kids.length := by omega
       rw [List.take_of_length_le (by simp; omega)] at hnz
       (repeat (first | refine gO rfl ?_ | (refine gM zM23 fun K1 hK1 => ?_; simp only [go_sem, ↓reduceIte, reduceCtorEq, nA, nB, nC, nD, nE, nF] <;> and_intros <;> first | (apply hK1; clear hK1 K1) | (intros; first | omega | decide | (simp_all <;> omega)) | skip)))
       simp only [Tryz.results140, go_sem, ↓reduceIte, reduceCtorEq, nA, nB, nC, nD, nE, nF]
       exact ⟨_, _, Weak.refl _, Hp.le.refl _, by rw [hpf, hnz], rfl⟩
def oMany (m : Int) : AO := .cells [.v (.int .i64 m)]
theorem sum_take_le (kids : List LT) (f : LT → Int) (hf : ∀ x ∈ kids, 0 ≤ f x) (j : Nat) : ((kids.take j).map f).sum ≤ (kids.map f).sum := by
 have e : (kids.map f).sum = ((kids.take j).map f).sum + ((kids.drop j).map f).sum := by rw [← List.sum_append, ← List.map_append, List.take_append_drop]
 have : ∀ l : List LT, (∀ x ∈ l, 0 ≤ f x) → 0 ≤ (l.map f).sum := fun l => by
  induction l with
  | nil => simp
  | cons x l ih => intro h; have h1 := h x (by simp); have h2 := ih fun y hy => h y (by simp [hy]); simp only [List.map_cons, List.sum_cons]; omega
 have := this (kids.drop j) fun x hx => hf x (List.mem_of_mem_drop hx)
 omega
theorem max_take (kids : List LT) (f : LT → Int) : ∀ (j : Nat) (_ : j < kids.length), f (kids.getD j default) ≤ (kids.map f).foldl max 0 := by
 have key : ∀ (l : List LT) (a : Int) (j : Nat), j < l.length → a ≤ (l.map f).foldl max a ∧ f (l.getD j default) ≤ (l.map f).foldl max a := by
  intro l
  induction l with
  | nil => intro a j h; simp at h
  | cons x l ih =>
   intro a j h
   simp only [List.map_cons, List.foldl_cons]
   have mono : ∀ (l : List Int) (a : Int), a ≤ l.foldl max a := fun l => by
    induction l with
    | nil => intro a; exact Int.le_refl _
    | cons y l ih => intro a; have := ih (max a y); simp only [List.foldl_cons]; omega
   cases j with
   | zero => have := mono (l.map f) (max a (f x)); simp only [List.getD_cons_zero]; omega
   | succ j => have := ih (max a (f x)) j (by simpa using h); simp only [List.getD_cons_succ]; omega
 exact fun j hj => (key kids 0 j hj).2
def LargeR (t : LT) (deep m : Int) (h : Hp) (i : Nat) (r : AV) (h' : Hp) : Prop :=
 ∃ (b : Bool) (m' : Int), r = .v (.bool b) ∧ h' = { h with H := upd h.H i (some (oMany m')) } ∧ (b = true → 200 < m + manyF t ∨ 12 < deep + deepF t - 1) ∧ (b = false → m + manyF t ≤ 200 ∧ deep + deepF t - 1 ≤ 12 ∧ m' = m + manyF t)
theorem g_large : ∀ (d : Nat) (t : LT) (h : Hp) (i : Nat) (m deep : Int), KC d t → manyF t ≤ 1000000000000000 ∧ d ≤ 1000 → (0 ≤ m ∧ m ≤ 200) → (0 ≤ deep ∧ deep ≤ 1000) → h.H i = some (oMany m) →
  ACalls Tryz.prog 139 [.ptr i 0, .agg (encL t), .v (.int .i64 deep)] h (LargeR t deep m h i)
 | 0, _, _, _, _, _, hb, _, _, _, _ => hb.elim
 | d + 1, t, h, i, m, deep, hb, hd, hm, hdp, hi => by
  cases t with
  | mk kind item long many kids shares =>
  obtain ⟨b1, b2, b3, b4, b5, b6, b7, b8⟩ := id hb
  have hi' : h.H i = some (.cells [.v (.int .i64 m)]) := hi
  have hpos : ∀ x ∈ kids, 1 ≤ manyF x ∧ 1 ≤ deepF x := fun x hx => by have := size_bd d x (b8 x hx); omega
  refine gE Tryz.func139 rfl (by kernel_rfl) 24 rfl fun c => ?_
  rw [encL_eq]
  (repeat (first | refine gO rfl ?_ | (refine gR fun K1 hK1 => ?_; simp only [go_sem, ↓reduceIte, reduceCtorEq, nA, nB, nC, nD, nE, nF, hi'] <;> and_intros <;> first | (apply hK1; clear hK1 K1) | (intros; first | omega | decide | (simp_all <;> omega)) | skip)))
  refine awp_cond (t := _) rfl (fun h1 => ?_) (fun h1 => ?_)
  ·(repeat (first | refine gO rfl ?_ | (refine gR fun K1 hK1 => ?_; simp only [go_sem, ↓reduceIte, reduceCtorEq, nA, nB, nC, nD, nE, nF, hi'] <;> and_intros <;> first | (apply hK1; clear hK1 K1) | (intros; first | omega | decide | (simp_all <;> omega)) | skip)))
   simp only [Tryz.results139, go_sem, ↓reduceIte, reduceCtorEq, nA, nB, nC, nD, nE, nF]
   simp only [Bool.or_eq_true, decide_eq_true_eq] at h1
   have hs := sum_bd manyF 0 (Int.le_refl _) ([] : List LT) (by simp)
   have hd1 := size_bd (d + 1) _ hb
   refine ⟨_, _, Weak.refl _, Hp.le.refl _, true, m + 1, rfl, rfl, fun _ => ?_, fun h => by cases h⟩
   rw [manyF_eq, deepF_eq] at *
   have h2 := sum_take_le kids manyF (fun x hx => by have := hpos x hx; omega) 0
   have h3 := max_bd deepF 1000 kids 0 (by omega) fun x hx => by have := size_bd d x (b8 x hx); omega
   simp only [List.take_zero, List.map_nil, List.sum_nil] at h2
   omega
  ·(repeat (first | refine gO rfl ?_ | (refine gR fun K1 hK1 => ?_; simp only [go_sem, ↓reduceIte, reduceCtorEq, nA, nB, nC, nD, nE, nF, hi'] <;> and_intros <;> first | (apply hK1; clear hK1 K1) | (intros; first | omega | decide | (simp_all <;> omega)) | skip)))
   simp only [Bool.or_eq_false_iff, decide_eq_false_iff_not] at h1
   refine (g_contains41 198 [.ref [.ptr i 0] 0, .ref [.v (.int .i64 deep)] 0] (kids.map encL) (fun j hj => ?_) (by simp; omega)
    (fun j h' => h' = { h with H := upd h.H i (some (oMany (m + 1 + ((kids.take j).map manyF).sum))) } ∧ m + 1 + ((kids.take j).map manyF).sum ≤ 200 ∧ (((kids.take j).map deepF).foldl max 0 + deep ≤ 12))
    (fun j h' => ∃ m', h' = { h with H := upd h.H i (some (oMany m')) } ∧ (200 < m + 1 + ((kids.take (j + 1)).map manyF).sum ∨ 12 < deep + deepF (kids.getD j default)))
    _ ⟨by simp; rfl, by simp; omega, by simp; omega⟩ ?_).mono ?_
   ·have hj' : j < kids.length := by simpa using hj
    rw [show (kids.map encL).getD j [] = encL (kids.getD j default) from getD_enc encL kids j default hj']
    exact encL_len _
   ·rintro j h' hj ⟨rfl, hs1, hs2⟩
    have hjk : j < kids.length := by simpa using hj
    rw [show (kids.map encL).getD j [] = encL (kids.getD j default) from getD_enc encL kids j default hjk]
    have hmem := getD_mem' kids j default hjk
    have e1 := take_succ_map manyF kids j hjk
    have e2 := take_succ_map deepF kids j hjk
    have hbt := b8 _ hmem
    have hp2 := hpos _ hmem
    have h0 := many_take (kids := kids) (fun x hx => by have := hpos x hx; omega) j
    have hmk := many_kid (kids := kids) (fun x hx => by have := hpos x hx; omega) hmem
    have hd1 := hd.1
    rw [manyF_eq] at hd1
    rw [e1, List.sum_append]
    have hl42 : ∀ t2, KC d t2 → manyF t2 ≤ 1000000000000000 → ACalls Tryz.prog 198 [aggOf (encL t2), .ref [.ptr i 0] 0, .ref [.v (.int .i64 deep)] 0] { h with H := upd h.H i (some (oMany (m + 1 + ((kids.take j).map manyF).sum))) } (LargeR t2 (deep + 1) (m + 1 + ((kids.take j).map manyF).sum) h i) := fun t2 ht2 hm2 => by
     have hlen := encL_len t2
     have htk : List.take 6 (encL t2) = encL t2 := List.take_of_length_le (Nat.le_of_eq hlen)
     unfold aggOf
     refine gE Tryz.func198 rfl (by kernel_rfl) 7 rfl fun c => ?_
     (repeat (first | refine gO rfl ?_ | (refine gR fun K1 hK1 => ?_; simp only [go_sem, ↓reduceIte, reduceCtorEq, nA, nB, nC, nD, nE, nF, hlen, htk] <;> and_intros <;> first | (apply hK1; clear hK1 K1) | (intros; first | omega | decide | (simp_all <;> omega)) | skip)))
     refine (g_large d t2 _ i _ (deep + 1) ht2 ⟨hm2, by omega⟩ (by omega) (by omega) (upd_same _ _ _)).mono ?_
     rintro _ _ ⟨b, m', rfl, rfl, hb1, hb2⟩
     refine hK1 _ ?_; clear hK1 K1
     (repeat (first | refine gO rfl ?_ | (refine gR fun K1 hK1 => ?_; simp only [go_sem, ↓reduceIte, reduceCtorEq, nA, nB, nC, nD, nE, nF] <;> and_intros <;> first | (apply hK1; clear hK1 K1) | (intros; first | omega | decide | (simp_all <;> omega)) | skip)))
     simp only [Tryz.results198, go_sem, ↓reduceIte, reduceCtorEq, nA, nB, nC, nD, nE, nF]
     exact ⟨_, _, Weak.refl _, Hp.le.refl _, b, m', rfl, by simp only [upd_upd], hb1, hb2⟩
    refine (hl42 _ hbt (by omega)).mono ?_
    rintro _ _ ⟨b, m', rfl, rfl, hb1, hb2⟩
    refine ⟨b, rfl, fun hb => ⟨m', rfl, ?_⟩, fun hb => ?_⟩
    ·have := hb1 hb
     simp only [List.sum_cons, List.sum_nil]
     omega
    ·obtain ⟨h6, h7, rfl⟩ := hb2 hb
     rw [e2, List.foldl_append]
     simp only [List.sum_cons, List.sum_nil, List.foldl_cons, List.foldl_nil, Int.add_zero]
     exact ⟨by rw [Int.add_assoc (m + 1)], by omega, by omega⟩
   ·rintro _ h' (⟨j, hj, rfl, m', rfl, hP⟩ | ⟨rfl, rfl, hs1, hs2⟩)
    ·have hjk : j < kids.length := by simpa using hj
     refine hK1 _ ?_; clear hK1 K1
     (repeat (first | refine gO rfl ?_ | (refine gR fun K1 hK1 => ?_; simp only [go_sem, ↓reduceIte, reduceCtorEq, nA, nB, nC, nD, nE, nF] <;> and_intros <;> first | (apply hK1; clear hK1 K1) | (intros; first | omega | decide | (simp_all <;> omega)) | skip)))
     simp only [Tryz.results139, go_sem, ↓reduceIte, reduceCtorEq, nA, nB, nC, nD, nE, nF]
     refine ⟨_, _, Weak.refl _, Hp.le.refl _, true, m', rfl, rfl, fun _ => ?_, fun h => by cases h⟩
     rw [manyF_eq, deepF_eq]
     have h2 := sum_take_le kids manyF (fun x hx => by have := hpos x hx; omega) (j + 1)
     have h3 := max_take kids deepF j hjk
     omega
    ·refine hK1 _ ?_; clear hK1 K1
     (repeat (first | refine gO rfl ?_ | (refine gR fun K1 hK1 => ?_; simp only [go_sem, ↓reduceIte, reduceCtorEq, nA, nB, nC, nD, nE, nF] <;> and_intros <;> first | (apply hK1; clear hK1 K1) | (intros; first | omega | decide | (simp_all <;> omega)) | skip)))
     simp only [Tryz.results139, go_sem, ↓reduceIte, reduceCtorEq, nA, nB, nC, nD, nE, nF]
     simp only [List.length_map, List.take_length] at hs1 hs2 ⊢
     refine ⟨_, _, Weak.refl _, Hp.le.refl _, false, _, rfl, rfl, fun h => (by cases h), fun _ => ?_⟩
     rw [manyF_eq, deepF_eq]
     omega
def faultF (t : LT) : Int := if 200 < manyF t ∨ 12 < deepF t then 2 else partF t
theorem g_check7 (d : Nat) (t : LT) (h0 : Hp) (hb : KC d t) (hd : manyF t ≤ 1000000000000000 ∧ d ≤ 1000) : ACalls Tryz.prog 73 [.agg (encL t)] h0 (fun r h' => r = .v (.int .i64 (faultF t)) ∧ h' = h0) := by
 have hlen := encL_len t
 have htk : List.take 6 (encL t) = encL t := List.take_of_length_le (Nat.le_of_eq hlen)
 have hz := size_bd d t hb
 refine gE Tryz.func73 rfl (by kernel_rfl) 8 rfl fun c => ?_
 (repeat (first | refine gO rfl ?_ | (refine gM zM24 fun K1 hK1 => ?_; simp only [go_sem, ↓reduceIte, reduceCtorEq, nA, nB, nC, nD, nE, nF, hlen, htk] <;> and_intros <;> first | (apply hK1; clear hK1 K1) | (intros; first | omega | decide | (simp_all <;> omega)) | skip)))
 intro i hi
 and_intros <;> first | (refine hK1 _ ?_; clear hK1 K1) | exact .inl trivial | exact .inr rfl | exact .inr True.intro | exact True.intro | omega
 (repeat (first | refine gO rfl ?_ | (refine gM zM24 fun K1 hK1 => ?_; simp only [go_sem, ↓reduceIte, reduceCtorEq, nA, nB, nC, nD, nE, nF, hlen, htk] <;> and_intros <;> first | (apply hK1; clear hK1 K1) | (intros; first | omega | decide | (simp_all <;> omega)) | skip)))
 refine (g_large d t _ i 0 1 hb hd (by omega) (by omega) (upd_same _ _ _)).mono ?_
 rintro _ _ ⟨b, m', rfl, rfl, hb1, hb2⟩
 refine hK1 _ ?_; clear hK1 K1
 (repeat (first | refine gO rfl ?_ | (refine gM zM24 fun K1 hK1 => ?_; simp only [go_sem, ↓reduceIte, reduceCtorEq, nA, nB, nC, nD, nE, nF, hlen, htk] <;> and_intros <;> first | (apply hK1; clear hK1 K1) | (intros; first | omega | decide | (simp_all <;> omega)) | skip)))
 have hle : Hp.le h0 { H := upd h0.H i (some (oMany m')), T := h0.T } := ⟨fun j => by
  by_cases hj : j = i
  ·rw [hj]; exact .inl hi
  ·exact .inr (upd_other _ _ hj).symm, fun _ => .inr rfl⟩
 refine awp_cond (t := _) rfl (fun h1 => ?_) (fun h1 => ?_)
 ·(repeat (first | refine gO rfl ?_ | (refine gM zM24 fun K1 hK1 => ?_; simp only [go_sem, ↓reduceIte, reduceCtorEq, nA, nB, nC, nD, nE, nF, hlen, htk] <;> and_intros <;> first | (apply hK1; clear hK1 K1) | (intros; first | omega | decide | (simp_all <;> omega)) | skip)))
  simp only [Tryz.results73, go_sem, ↓reduceIte, reduceCtorEq, nA, nB, nC, nD, nE, nF]
  exact ⟨_, h0, Weak.refl _, by simpa using hle, by rw [faultF, if_pos (by have := hb1 h1; omega)], rfl⟩
 ·(repeat (first | refine gO rfl ?_ | (refine gM zM24 fun K1 hK1 => ?_; simp only [go_sem, ↓reduceIte, reduceCtorEq, nA, nB, nC, nD, nE, nF, hlen, htk] <;> and_intros <;> first | (apply hK1; clear hK1 K1) | (intros; first | omega | decide | (simp_all <;> omega)) | skip)))
  refine (g_part24 d t _ hb).mono ?_; rintro _ hz ⟨rfl, hh⟩; apply hK1; clear hK1 K1; rw [hh]; clear hh hz
  (repeat (first | refine gO rfl ?_ | (refine gM zM24 fun K1 hK1 => ?_; simp only [go_sem, ↓reduceIte, reduceCtorEq, nA, nB, nC, nD, nE, nF] <;> and_intros <;> first | (apply hK1; clear hK1 K1) | (intros; first | omega | decide | (simp_all <;> omega)) | skip)))
  simp only [Tryz.results73, go_sem, ↓reduceIte, reduceCtorEq, nA, nB, nC, nD, nE, nF]
  exact ⟨_, h0, Weak.refl _, by simpa using hle, by rw [faultF, if_neg (by have := hb2 h1; omega)], rfl⟩
theorem mem_idsT {i c : Nat} {az : List AT} {x : Nat} (h : x ∈ idsT (.mk i c az)) : x = i ∨ ∃ j, j < az.length ∧ x ∈ idsT (az.getD j default) := by
 rw [idsT_eq] at h
 rcases List.mem_cons.1 h with h | h
 ·exact .inl h
 ·obtain ⟨l, hl, hx⟩ := List.mem_flatten.1 h
  obtain ⟨a, ha, rfl⟩ := List.mem_map.1 hl
  obtain ⟨j, hj, rfl⟩ := List.getElem_of_mem ha
  exact .inr ⟨j, hj, by rw [List.getD_eq_getElem?_getD, List.getElem?_eq_getElem hj]; exact hx⟩
theorem mem_toksT {i c : Nat} {az : List AT} {x : Nat} (h : x ∈ toksT (.mk i c az)) : x = c ∨ ∃ j, j < az.length ∧ x ∈ toksT (az.getD j default) := by
 rw [toksT_eq] at h
 rcases List.mem_cons.1 h with h | h
 ·exact .inl h
 ·obtain ⟨l, hl, hx⟩ := List.mem_flatten.1 h
  obtain ⟨a, ha, rfl⟩ := List.mem_map.1 hl
  obtain ⟨j, hj, rfl⟩ := List.getElem_of_mem ha
  exact .inr ⟨j, hj, by rw [List.getD_eq_getElem?_getD, List.getElem?_eq_getElem hj]; exact hx⟩
theorem RAt.ne {X : RK} {h : Hp} : ∀ {d : Nat} {t : LT} {a : AT} {s : PS}, RAt X h d t a s → (∀ i ∈ idsT a, h.H i ≠ none) ∧ (∀ c ∈ toksT a, h.T c ≠ none)
 | 0, _, _, _, h => h.elim
 | d + 1, .mk kind item long many kids shares, .mk i c az, .mk p cs ks, ⟨⟨K, h1, hK⟩, h2, h3, h4⟩ => by
  refine ⟨fun x hx => ?_, fun x hx => ?_⟩
  ·rcases mem_idsT hx with rfl | ⟨j, hj, hx⟩
   ·rw [h1]; simp
   ·exact (h4 j (by omega)).ne.1 x hx
  ·rcases mem_toksT hx with rfl | ⟨j, hj, hx⟩
   ·rw [h2]; simp
   ·exact (h4 j (by omega)).ne.2 x hx
theorem RAt.cont {X : RK} {h : Hp} : ∀ {d : Nat} {t : LT} {a : AT} {s : PS}, RAt X h d t a s → ∀ c ∈ toksT a, ∃ xs, h.T c = some (.cont 1 xs)
 | 0, _, _, _, h => h.elim
 | d + 1, .mk kind item long many kids shares, .mk i c az, .mk p cs ks, ⟨_, h2, h3, h4⟩ => fun x hx => by
  rcases mem_toksT hx with rfl | ⟨j, hj, hx⟩
  ·exact ⟨_, h2⟩
  ·exact (h4 j (by omega)).cont x hx
def cells9 (kind : Int) (item : ByteArray) (long many : Int) (kids : List LT) (shares : List Int) (K : AV) (p : Int) (c : Nat) : List AV :=
 [.v (.int .i64 kind), .v (.string item), .v (.int .i64 long), .v (.int .i64 many), .row 6 (kids.map encL) none, .row 1 (shares.map encI) none, K, .v (.int .i64 p), .arr 1 c kids.length]
def NewI (X : RK) (d : Nat) (kids : List LT) (h : Hp) (i c : Nat) (az : List AT) (h' : Hp) : Prop :=
 (∀ l, l < az.length → RAt X h' d (kids.getD l default) (az.getD l default) (ps0 (kids.getD l default)) ∧ (i ∉ idsT (az.getD l default) ∧ c ∉ toksT (az.getD l default) ∧ Sep d (az.getD l default)) ∧
  (∀ x ∈ idsT (az.getD l default), h.H x = none) ∧ (∀ x ∈ toksT (az.getD l default), h.T x = none)) ∧
 (∀ j l, j < az.length → l < az.length → l ≠ j → (∀ x ∈ idsT (az.getD j default), x ∉ idsT (az.getD l default)) ∧ (∀ x ∈ toksT (az.getD j default), x ∉ toksT (az.getD l default))) ∧
 (∀ x, h.H x ≠ none → h'.H x = h.H x) ∧ (∀ x, h.T x ≠ none → h'.T x = h.T x)
def kidsK (h : Hp) (az : List AT) (K : AV) (T : Nat → Option TO) : Prop := az = [] ∧ K = .v (.slice none 0 0) ∨ ∃ tk, az ≠ [] ∧ K = .row 1 (az.map fun a => [.ptr a.id 0]) (some tk) ∧ T tk = some (.tail az.length) ∧ h.T tk = none
def NewR (X : RK) (d : Nat) (t : LT) (h : Hp) (r : AV) (h' : Hp) : Prop :=
 ∃ a, r = .ptr a.id 0 ∧ RAt X h' d t a (ps0 t) ∧ Sep d a ∧ (∀ i ∈ idsT a, h.H i = none) ∧ (∀ c ∈ toksT a, h.T c = none) ∧ (∀ i, h.H i ≠ none → h'.H i = h.H i) ∧ (∀ k, h.T k ≠ none → h'.T k = h.T k)
theorem getD_snoc {α : Type} (l : List α) (x d : α) (j : Nat) : (l ++ [x]).getD j d = if j = l.length then x else l.getD j d := by
 simp only [List.getD_eq_getElem?_getD]
 split
 ·rename_i h; subst h; simp
 ·rename_i h
  by_cases hj : j < l.length
  ·rw [List.getElem?_append_left hj]
  ·rw [List.getElem?_eq_none (by simp; omega), List.getElem?_eq_none (by omega)]
theorem NewI.more {X : RK} {d : Nat} {kids : List LT} {h h1 h2 : Hp} {i c : Nat} {az : List AT} (hI : NewI X d kids h i c az h1) (hi0 : h.H i = none) (hi : h1.H i ≠ none) (hc : h1.T c ≠ none) {a : AT}
  (hR : RAt X h2 d (kids.getD az.length default) a (ps0 (kids.getD az.length default))) (hS : Sep d a) (hn1 : ∀ x ∈ idsT a, h1.H x = none) (hn2 : ∀ x ∈ toksT a, h1.T x = none) (hk1 : ∀ x, h1.H x ≠ none → x ≠ i → h2.H x = h1.H x) (hk2 : ∀ x xs, h1.T x = some (.cont 1 xs) → h2.T x = h1.T x) (hk3 : ∀ x, h.T x ≠ none → h2.T x = h.T x) : NewI X d kids h i c (az ++ [a]) h2 := by
 obtain ⟨g1, g2, g3, g4⟩ := hI
 have o1 : ∀ x, h1.H x = none → h.H x = none := fun x hx => by
  cases e : h.H x with
  | none => rfl
  | some y => have := g3 x (by rw [e]; simp); rw [hx, e] at this; cases this
 have o2 : ∀ x, h1.T x = none → h.T x = none := fun x hx => by
  cases e : h.T x with
  | none => rfl
  | some y => have := g4 x (by rw [e]; simp); rw [hx, e] at this; cases this
 refine ⟨fun l hl => ?_, fun j l hj hl hne => ?_, fun x hx => (hk1 x (by rw [g3 x hx]; exact hx) (fun e => by subst e; exact hx hi0)).trans (g3 x hx), hk3⟩
 ·rw [getD_snoc]
  split
  ·rename_i e
   subst e
   exact ⟨hR, ⟨fun hx => hi (hn1 _ hx), fun hx => hc (hn2 _ hx), hS⟩, fun x hx => o1 x (hn1 x hx), fun x hx => o2 x (hn2 x hx)⟩
  ·rename_i e
   obtain ⟨f1, f2, f3, f4⟩ := g1 l (by simp at hl; omega)
   exact ⟨f1.frame (fun x hx => hk1 x (f1.ne.1 x hx) (fun e => by subst e; exact f2.1 hx)) (fun x hx => let ⟨xs, e⟩ := f1.cont x hx; hk2 x xs e), f2, f3, f4⟩
 ·simp only [List.length_append, List.length_cons, List.length_nil] at hj hl
  rw [getD_snoc, getD_snoc]
  split <;> split
  ·omega
  ·have f1 := (g1 l (by omega)).1
   exact ⟨fun x hx hx2 => f1.ne.1 x hx2 (hn1 x hx), fun x hx hx2 => f1.ne.2 x hx2 (hn2 x hx)⟩
  ·have f1 := (g1 j (by omega)).1
   exact ⟨fun x hx hx2 => f1.ne.1 x hx (hn1 x hx2), fun x hx hx2 => f1.ne.2 x hx (hn2 x hx2)⟩
  ·exact g2 j l (by omega) (by omega) hne
end Go.Proofs.YtidkkmoiolffnaaGreatDoor
