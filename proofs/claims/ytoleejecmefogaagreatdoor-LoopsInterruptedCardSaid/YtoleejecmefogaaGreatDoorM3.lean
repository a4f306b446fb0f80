/- loop.CheckBreaks, signref1.BreaksFault, signref1.WindowFault. -/
import Derived.Test.YtoleejecmefogaaGreatDoorM2
import Derived.Lib.Hide
import Derived.Test.YtoleejecmefogaaGreatDoorAvOwn
import Derived.Test.YtoleejecmefogaaGreatDoorShelf
import Derived.Lib.OwnBridge
import Derived.Test.YtoleejecmefogaaGreatDoorAvOld
import Derived.Shelf.SlIter.Nil
import Derived.Shelf.SortM.Plain
import Derived.Shelf.SortM.SortNone
import Derived.Ground.GgzProg
import Derived.Ground.SlgmProg
import Derived.Test.YtoleejecmefogaaGreatDoorProg
import Derived.Test.YtoleejecmefogaaGreatDoorAvFz
import Derived.Lib.AppendZeros
import Derived.Shelf.GgSortFunc.InsertionK
import Derived.Test.YtoleejecmefogaaGreatDoorSortLays
import Derived.Shelf.SlSortCmp.WholeK
namespace Go.Proofs.YtoleejecmefogaaGreatDoor
open Go
set_option linter.unusedVariables false
set_option linter.unusedSimpArgs false
open Nat renaming reduceAdd → nA, reduceSub → nB, reduceMul → nC, reduceLT → nD, reduceLeDiff → nE, reduceEqDiff → nF, reduceMod → nG, reduceDiv → nH, reducePow → nI
abbrev zM30 : Option Tmp → Nat := mdL [(4, 1)]
abbrev zM31 : Option Tmp → Nat := mdL [(5, 1)]
abbrev zM32 : Option Tmp → Nat := mdL [(1, 2)]
abbrev zM33 : Option Tmp → Nat := mdL [(5, 1), (22, 2)]
abbrev zM34 : Option Tmp → Nat := mdL [(8, 1)]
abbrev zM35 : Option Tmp → Nat := mdL [(10, 1), (13, 1)]
abbrev zM36 : Option Tmp → Nat := mdL [(12, 1), (13, 2)]
abbrev zM37 : Option Tmp → Nat := mdL [(14, 1)]
abbrev zM38 : Option Tmp → Nat := mdL []
abbrev zM39 : Option Tmp → Nat := mdL [(6, 1)]
abbrev zM3A : Option Tmp → Nat := mdL [(20, 1), (22, 1)]
abbrev zM3B : Option Tmp → Nat := mdL [(12, 1), (49, 2)]
attribute [go_sem] zM30 zM31 zM32 zM33 zM34 zM35 zM36 zM37 zM38 zM39 zM3A zM3B
abbrev zPWE : List Nat := [0, 1, 2, 3, 4, 5, 6, 7, 8, 9, 10, 11, 12, 13, 14, 15]
abbrev zPWP : List (Nat × List Nat × List Nat) := []
abbrev zPXE : List Nat := [0, 1, 2, 3, 4, 5, 6, 7, 8, 9, 10, 11, 12, 13, 14, 15]
abbrev zPXP : List (Nat × List Nat × List Nat) := []
attribute [go_sem] zPWE zPWP zPXE zPXP
set_option maxRecDepth 100000
set_option maxHeartbeats 8000000
def badW (a b : Int) : Bool := (decide (a < 0) || decide (b ≤ a)) || decide (345686400000 < b)
def brkL : Option Int → List Wn → Int
 | _, [] => 0
 | p, w :: l => if keyB w.1 = true then (if badW w.2.1 w.2.2 = true then 1 else if (match p with | some q => decide (w.2.1 < q) | none => false) = true then 7 else brkL (some w.2.2) l) else 5
theorem brkL_cons (p : Option Int) (w : Wn) (l : List Wn) : brkL p (w :: l) = if keyB w.1 = true then (if badW w.2.1 w.2.2 = true then 1 else if (match p with | some q => decide (w.2.1 < q) | none => false) = true then 7 else brkL (some w.2.2) l) else 5 := by cases p <;> rfl
theorem brkL_nil (p : Option Int) : brkL p [] = 0 := by cases p <;> rfl
def brkE (ws : List Wn) : Int := if 500 < ws.length then 2 else brkL none ws
def prevB (ws : List Wn) (j : Nat) : Option Int := if j = 0 then none else some (ws.getD (j - 1) default).2.2
theorem g_brkP (ws : List Wn) (h : Hp) (hs : ∀ x ∈ ws, WOk x) (hl : ws.length ≤ 1000) : ACalls Tryz.prog 44 [.row 3 (ws.map encW) none] h (fun r h' => r = .v (.int .i64 (brkE ws)) ∧ h' = h) := by
 refine gE Tryz.func44 rfl (by kernel_rfl) 56 rfl fun c => ?_
 (repeat (first | refine gO rfl ?_ | ((refine gM zM30 fun K1 hK1 => ?_; simp only [go_sem, ↓reduceIte, reduceCtorEq, nA, nB, nC, nD, nE, nF, List.length_map] <;> and_intros <;> (apply hK1; clear hK1 K1)))))
 refine awp_cond (t := _) rfl (fun h1 => ?_) (fun h1 => ?_)
 ·simp only [decide_eq_true_eq] at h1
  (repeat (first | refine gO rfl ?_ | ((refine gM zM30 fun K1 hK1 => ?_; simp only [go_sem, ↓reduceIte, reduceCtorEq, nA, nB, nC, nD, nE, nF] <;> and_intros <;> (apply hK1; clear hK1 K1)))))
  simp only [Tryz.results44, go_sem, ↓reduceIte, reduceCtorEq, nA, nB, nC, nD, nE, nF]
  exact ⟨_, _, Weak.refl _, Hp.le.refl _, by rw [brkE, if_pos (by omega)], rfl⟩
 simp only [decide_eq_false_iff_not] at h1
 have hwe : brkE ws = brkL none ws := by rw [brkE, if_neg (by omega)]
 rw [hwe]
 clear hwe
 (repeat (first | refine gO rfl ?_ | ((refine gM zM30 fun K1 hK1 => ?_; simp only [go_sem, ↓reduceIte, reduceCtorEq, nA, nB, nC, nD, nE, nF, List.length_map] <;> and_intros <;> (apply hK1; clear hK1 K1)))))
 refine awp_loopC (rl false [0, 1, 7, 3, 46]) 0 (fun g s => ∃ (j : Nat), g + j = ws.length ∧ Go.RowKit.Hid (brkL none ws = brkL (prevB ws j) (ws.drop j)) ∧
  s = ⟨((.row 3 (ws.map encW) none) :: (jnk 7 ((.row 3 (ws.map encW) none) :: (.v (.int .i64 ws.length)) :: (.v (.int .i64 j)) :: (jnk 46 [])))), [], h⟩) ws.length ⟨0, by omega, Lib.hid rfl, rfl⟩ ?_
 rintro g _ ⟨j, hj, HW, rfl⟩
 (repeat (first | refine gO rfl ?_ | ((refine gM zM30 fun K1 hK1 => ?_; simp only [go_sem, ↓reduceIte, reduceCtorEq, nA, nB, nC, nD, nE, nF] <;> and_intros <;> (apply hK1; clear hK1 K1)))))
 refine awp_cond (t := _) rfl (fun h2 => ?_) (fun h2 => ?_)
 ·simp only [decide_eq_true_eq] at h2
  have hjl : j < ws.length := by omega
  have gx : (ws.map encW).getD j [] = [.v (.string (ws.getD j default).1), .v (.int .i64 (ws.getD j default).2.1), .v (.int .i64 (ws.getD j default).2.2)] := getD_enc encW ws j default hjl
  have hwo := hs _ (show ws.getD j default ∈ ws by rw [List.getD_eq_getElem?_getD, List.getElem?_eq_getElem hjl]; exact List.getElem_mem hjl)
  have hdc := drop_at ws j default hjl
  have hpv : prevB ws (j + 1) = some (ws.getD j default).2.2 := by rw [prevB, if_neg (by omega)]; simp
  rw [hdc, brkL_cons] at HW
  clear hdc
  have hkx := fun h => a_isKey (ws.getD j default).1 (by have := hwo.1; omega) h
  generalize ws.getD j default = x at gx hwo hpv HW hkx
  (repeat (first | refine gO rfl ?_ | ((refine gM zM30 fun K1 hK1 => ?_; simp only [go_sem, ↓reduceIte, reduceCtorEq, nA, nB, nC, nD, nE, nF, Int.toNat_natCast, gx] <;> and_intros <;> first | (apply hK1; clear hK1 K1) | (intros; (omega)) | skip))))
  refine (hkx _).mono ?_; rintro _ hz ⟨rfl, hh⟩; apply hK1; clear hK1 K1; rw [hh]; clear hh hz
  generalize hkb : keyB x.1 = kb at HW
  clear hkx
  cases kb with
  | false =>
   (repeat (first | refine gO rfl ?_ | ((refine gM zM30 fun K1 hK1 => ?_; simp only [go_sem, ↓reduceIte, reduceCtorEq, nA, nB, nC, nD, nE, nF] <;> and_intros <;> (apply hK1; clear hK1 K1)))))
   refine awp_cond (t := _) rfl (fun _ => ?_) (fun h9 => by cases h9)
   (repeat (first | refine gO rfl ?_ | ((refine gM zM30 fun K1 hK1 => ?_; simp only [go_sem, ↓reduceIte, reduceCtorEq, nA, nB, nC, nD, nE, nF] <;> and_intros <;> (apply hK1; clear hK1 K1)))))
   simp only [Tryz.results44, go_sem, ↓reduceIte, reduceCtorEq, nA, nB, nC, nD, nE, nF]
   exact ⟨_, _, Weak.refl _, Hp.le.refl _, by rw [HW.out]; rfl, rfl⟩
  | true =>
   rw [if_pos rfl] at HW
   (repeat (first | refine gO rfl ?_ | ((refine gM zM30 fun K1 hK1 => ?_; simp only [go_sem, ↓reduceIte, reduceCtorEq, nA, nB, nC, nD, nE, nF] <;> and_intros <;> (apply hK1; clear hK1 K1)))))
   refine awp_cond (t := _) rfl (fun h9 => by cases h9) (fun _ => ?_)
   generalize hpb : (match prevB ws j with | some q => decide (x.2.1 < q) | none => false) = pb at HW
   generalize hbw : badW x.2.1 x.2.2 = bw at HW
   unfold badW at hbw
   (repeat (first | refine gO rfl ?_ | ((refine gM zM30 fun K1 hK1 => ?_; simp only [go_sem, ↓reduceIte, reduceCtorEq, nA, nB, nC, nD, nE, nF, hbw] <;> and_intros <;> (apply hK1; clear hK1 K1)))))
   cases bw with
   | true =>
    refine awp_cond (t := _) rfl (fun _ => ?_) (fun h9 => by cases h9)
    (repeat (first | refine gO rfl ?_ | ((refine gM zM30 fun K1 hK1 => ?_; simp only [go_sem, ↓reduceIte, reduceCtorEq, nA, nB, nC, nD, nE, nF] <;> and_intros <;> (apply hK1; clear hK1 K1)))))
    simp only [Tryz.results44, go_sem, ↓reduceIte, reduceCtorEq, nA, nB, nC, nD, nE, nF]
    exact ⟨_, _, Weak.refl _, Hp.le.refl _, by rw [HW.out]; rfl, rfl⟩
   | false =>
    clear hbw
    rw [if_neg (by decide)] at HW
    refine awp_cond (t := _) rfl (fun h9 => by cases h9) (fun _ => ?_)
    by_cases hj0 : j = 0
    ·have hd0 : decide ((0 : Int) < (j : Int)) = false := by simp only [decide_eq_false_iff_not]; omega
     rw [prevB, if_pos hj0] at hpb
     simp only at hpb
     subst hpb
     have ht1 : ((j : Int) - 1).toNat = 0 := by omega
     have gp : (ws.map encW).getD 0 [] = [.v (.string (ws.getD 0 default).1), .v (.int .i64 (ws.getD 0 default).2.1), .v (.int .i64 (ws.getD 0 default).2.2)] := getD_enc encW ws 0 default (by omega)
     generalize ws.getD 0 default = y at gp
     (repeat (first | refine gO rfl ?_ | ((((with_reducible refine xS ?_); refine uD 10 zM30 zPWE zPWP 57 rfl (by kernel_rfl) ?_)) <;> ((try with_reducible intro K1 hK1); simp only [go_sem, ↓reduceIte, reduceCtorEq, nA, nB, nC, nD, nE, nF, hd0, ht1, gp] <;> and_intros <;> (apply hK1; clear hK1 K1)))))
     refine awp_cond (t := _) rfl (fun h9 => by cases h9) (fun _ => ?_)
     (repeat (first | refine gO rfl ?_ | ((refine gM zM30 fun K1 hK1 => ?_; simp only [go_sem, ↓reduceIte, reduceCtorEq, nA, nB, nC, nD, nE, nF] <;> and_intros <;> first | (apply hK1; clear hK1 K1) | (intros; (omega))))))
     exact ⟨g - 1, by omega, j + 1, by omega, Lib.hid (by rw [HW.out, hpv]; rfl), rfl⟩
    ·have hd0 : decide ((0 : Int) < (j : Int)) = true := by simp only [decide_eq_true_eq]; omega
     rw [prevB, if_neg hj0] at hpb
     simp only at hpb
     have ht1 : ((j : Int) - 1).toNat = j - 1 := by omega
     have gp : (ws.map encW).getD (j - 1) [] = [.v (.string (ws.getD (j - 1) default).1), .v (.int .i64 (ws.getD (j - 1) default).2.1), .v (.int .i64 (ws.getD (j - 1) default).2.2)] := getD_enc encW ws (j - 1) default (by omega)
     generalize ws.getD (j - 1) default = y at gp hpb
     (repeat (first | refine gO rfl ?_ | ((((with_reducible refine xS ?_); refine uD 10 zM30 zPWE zPWP 57 rfl (by kernel_rfl) ?_)) <;> ((try with_reducible intro K1 hK1); simp only [go_sem, ↓reduceIte, reduceCtorEq, nA, nB, nC, nD, nE, nF, hd0, ht1, gp, hpb, List.length_map] <;> and_intros <;> first | (apply hK1; clear hK1 K1) | (intros; (omega))))))
     cases pb with
     | true =>
      refine awp_cond (t := _) rfl (fun _ => ?_) (fun h9 => by cases h9)
      (repeat (first | refine gO rfl ?_ | ((refine gM zM30 fun K1 hK1 => ?_; simp only [go_sem, ↓reduceIte, reduceCtorEq, nA, nB, nC, nD, nE, nF] <;> and_intros <;> (apply hK1; clear hK1 K1)))))
      simp only [Tryz.results44, go_sem, ↓reduceIte, reduceCtorEq, nA, nB, nC, nD, nE, nF]
      exact ⟨_, _, Weak.refl _, Hp.le.refl _, by rw [HW.out, if_pos rfl], rfl⟩
     | false =>
      refine awp_cond (t := _) rfl (fun h9 => by cases h9) (fun _ => ?_)
      (repeat (first | refine gO rfl ?_ | ((refine gM zM30 fun K1 hK1 => ?_; simp only [go_sem, ↓reduceIte, reduceCtorEq, nA, nB, nC, nD, nE, nF] <;> and_intros <;> first | (apply hK1; clear hK1 K1) | (intros; (omega))))))
      exact ⟨g - 1, by omega, j + 1, by omega, Lib.hid (by rw [HW.out, hpv]; rfl), rfl⟩
 ·simp only [decide_eq_false_iff_not] at h2
  have hjl : j = ws.length := by omega
  subst hjl
  rw [List.drop_length, brkL_nil] at HW
  (repeat (first | refine gO rfl ?_ | ((refine gM zM30 fun K1 hK1 => ?_; simp only [go_sem, ↓reduceIte, reduceCtorEq, nA, nB, nC, nD, nE, nF] <;> and_intros <;> (apply hK1; clear hK1 K1)))))
  simp only [Tryz.results44, go_sem, ↓reduceIte, reduceCtorEq, nA, nB, nC, nD, nE, nF]
  exact ⟨_, _, Weak.refl _, Hp.le.refl _, by rw [HW.out], rfl⟩
theorem g_brkR (ws : List Wn) (h : Hp) (hs : ∀ x ∈ ws, WOk x) (hl : ws.length ≤ 1000) : ACalls Tryz.prog 45 [.row 3 (ws.map encW) none] h (fun r h' => r = .v (.int .i64 (brkE ws)) ∧ h' = h) := by
 refine gE Tryz.func45 rfl (by kernel_rfl) 56 rfl fun c => ?_
 (repeat (first | refine gO rfl ?_ | ((refine gM zM30 fun K1 hK1 => ?_; simp only [go_sem, ↓reduceIte, reduceCtorEq, nA, nB, nC, nD, nE, nF, List.length_map] <;> and_intros <;> (apply hK1; clear hK1 K1)))))
 refine awp_cond (t := _) rfl (fun h1 => ?_) (fun h1 => ?_)
 ·simp only [decide_eq_true_eq] at h1
  (repeat (first | refine gO rfl ?_ | ((refine gM zM30 fun K1 hK1 => ?_; simp only [go_sem, ↓reduceIte, reduceCtorEq, nA, nB, nC, nD, nE, nF] <;> and_intros <;> (apply hK1; clear hK1 K1)))))
  simp only [Tryz.results45, go_sem, ↓reduceIte, reduceCtorEq, nA, nB, nC, nD, nE, nF]
  exact ⟨_, _, Weak.refl _, Hp.le.refl _, by rw [brkE, if_pos (by omega)], rfl⟩
 simp only [decide_eq_false_iff_not] at h1
 have hwe : brkE ws = brkL none ws := by rw [brkE, if_neg (by omega)]
 rw [hwe]
 clear hwe
 (repeat (first | refine gO rfl ?_ | ((refine gM zM30 fun K1 hK1 => ?_; simp only [go_sem, ↓reduceIte, reduceCtorEq, nA, nB, nC, nD, nE, nF, List.length_map] <;> and_intros <;> (apply hK1; clear hK1 K1)))))
 refine awp_loopC (rl false [0, 1, 7, 3, 46]) 0 (fun g s => ∃ (j : Nat), g + j = ws.length ∧ Go.RowKit.Hid (brkL none ws = brkL (prevB ws j) (ws.drop j)) ∧
  s = ⟨((.row 3 (ws.map encW) none) :: (jnk 7 ((.row 3 (ws.map encW) none) :: (.v (.int .i64 ws.length)) :: (.v (.int .i64 j)) :: (jnk 46 [])))), [], h⟩) ws.length ⟨0, by omega, Lib.hid rfl, rfl⟩ ?_
 rintro g _ ⟨j, hj, HW, rfl⟩
 (repeat (first | refine gO rfl ?_ | ((refine gM zM30 fun K1 hK1 => ?_; simp only [go_sem, ↓reduceIte, reduceCtorEq, nA, nB, nC, nD, nE, nF] <;> and_intros <;> (apply hK1; clear hK1 K1)))))
 refine awp_cond (t := _) rfl (fun h2 => ?_) (fun h2 => ?_)
 ·simp only [decide_eq_true_eq] at h2
  have hjl : j < ws.length := by omega
  have gx : (ws.map encW).getD j [] = [.v (.string (ws.getD j default).1), .v (.int .i64 (ws.getD j default).2.1), .v (.int .i64 (ws.getD j default).2.2)] := getD_enc encW ws j default hjl
  have hwo := hs _ (show ws.getD j default ∈ ws by rw [List.getD_eq_getElem?_getD, List.getElem?_eq_getElem hjl]; exact List.getElem_mem hjl)
  have hdc := drop_at ws j default hjl
  have hpv : prevB ws (j + 1) = some (ws.getD j default).2.2 := by rw [prevB, if_neg (by omega)]; simp
  rw [hdc, brkL_cons] at HW
  clear hdc
  have hkx := fun h => a_key (ws.getD j default).1 (by have := hwo.1; omega) h
  generalize ws.getD j default = x at gx hwo hpv HW hkx
  (repeat (first | refine gO rfl ?_ | ((refine gM zM30 fun K1 hK1 => ?_; simp only [go_sem, ↓reduceIte, reduceCtorEq, nA, nB, nC, nD, nE, nF, Int.toNat_natCast, gx] <;> and_intros <;> first | (apply hK1; clear hK1 K1) | (intros; (omega)) | skip))))
  refine (hkx _).mono ?_; rintro _ hz ⟨rfl, hh⟩; apply hK1; clear hK1 K1; rw [hh]; clear hh hz
  generalize hkb : keyB x.1 = kb at HW
  clear hkx
  cases kb with
  | false =>
   (repeat (first | refine gO rfl ?_ | ((refine gM zM30 fun K1 hK1 => ?_; simp only [go_sem, ↓reduceIte, reduceCtorEq, nA, nB, nC, nD, nE, nF] <;> and_intros <;> (apply hK1; clear hK1 K1)))))
   refine awp_cond (t := _) rfl (fun _ => ?_) (fun h9 => by cases h9)
   (repeat (first | refine gO rfl ?_ | ((refine gM zM30 fun K1 hK1 => ?_; simp only [go_sem, ↓reduceIte, reduceCtorEq, nA, nB, nC, nD, nE, nF] <;> and_intros <;> (apply hK1; clear hK1 K1)))))
   simp only [Tryz.results45, go_sem, ↓reduceIte, reduceCtorEq, nA, nB, nC, nD, nE, nF]
   exact ⟨_, _, Weak.refl _, Hp.le.refl _, by rw [HW.out]; rfl, rfl⟩
  | true =>
   rw [if_pos rfl] at HW
   (repeat (first | refine gO rfl ?_ | ((refine gM zM30 fun K1 hK1 => ?_; simp only [go_sem, ↓reduceIte, reduceCtorEq, nA, nB, nC, nD, nE, nF] <;> and_intros <;> (apply hK1; clear hK1 K1)))))
   refine awp_cond (t := _) rfl (fun h9 => by cases h9) (fun _ => ?_)
   generalize hpb : (match prevB ws j with | some q => decide (x.2.1 < q) | none => false) = pb at HW
   generalize hbw : badW x.2.1 x.2.2 = bw at HW
   unfold badW at hbw
   (repeat (first | refine gO rfl ?_ | ((refine gM zM30 fun K1 hK1 => ?_; simp only [go_sem, ↓reduceIte, reduceCtorEq, nA, nB, nC, nD, nE, nF, hbw] <;> and_intros <;> (apply hK1; clear hK1 K1)))))
   cases bw with
   | true =>
    refine awp_cond (t := _) rfl (fun _ => ?_) (fun h9 => by cases h9)
    (repeat (first | refine gO rfl ?_ | ((refine gM zM30 fun K1 hK1 => ?_; simp only [go_sem, ↓reduceIte, reduceCtorEq, nA, nB, nC, nD, nE, nF] <;> and_intros <;> (apply hK1; clear hK1 K1)))))
    simp only [Tryz.results45, go_sem, ↓reduceIte, reduceCtorEq, nA, nB, nC, nD, nE, nF]
    exact ⟨_, _, Weak.refl _, Hp.le.refl _, by rw [HW.out]; rfl, rfl⟩
   | false =>
    clear hbw
    rw [if_neg (by decide)] at HW
    refine awp_cond (t := _) rfl (fun h9 => by cases h9) (fun _ => ?_)
    by_cases hj0 : j = 0
    ·have hd0 : decide ((0 : Int) < (j : Int)) = false := by simp only [decide_eq_false_iff_not]; omega
     rw [prevB, if_pos hj0] at hpb
     simp only at hpb
     subst hpb
     have ht1 : ((j : Int) - 1).toNat = 0 := by omega
     have gp : (ws.map encW).getD 0 [] = [.v (.string (ws.getD 0 default).1), .v (.int .i64 (ws.getD 0 default).2.1), .v (.int .i64 (ws.getD 0 default).2.2)] := getD_enc encW ws 0 default (by omega)
     generalize ws.getD 0 default = y at gp
     (repeat (first | refine gO rfl ?_ | ((((with_reducible refine xS ?_); refine uD 10 zM30 zPXE zPXP 57 rfl (by kernel_rfl) ?_)) <;> ((try with_reducible intro K1 hK1); simp only [go_sem, ↓reduceIte, reduceCtorEq, nA, nB, nC, nD, nE, nF, hd0, ht1, gp] <;> and_intros <;> (apply hK1; clear hK1 K1)))))
     refine awp_cond (t := _) rfl (fun h9 => by cases h9) (fun _ => ?_)
     (repeat (first | refine gO rfl ?_ | ((refine gM zM30 fun K1 hK1 => ?_; simp only [go_sem, ↓reduceIte, reduceCtorEq, nA, nB, nC, nD, nE, nF] <;> and_intros <;> first | (apply hK1; clear hK1 K1) | (intros; (omega))))))
     exact ⟨g - 1, by omega, j + 1, by omega, Lib.hid (by rw [HW.out, hpv]; rfl), rfl⟩
    ·have hd0 : decide ((0 : Int) < (j : Int)) = true := by simp only [decide_eq_true_eq]; omega
     rw [prevB, if_neg hj0] at hpb
     simp only at hpb
     have ht1 : ((j : Int) - 1).toNat = j - 1 := by omega
     have gp : (ws.map encW).getD (j - 1) [] = [.v (.string (ws.getD (j - 1) default).1), .v (.int .i64 (ws.getD (j - 1) default).2.1), .v (.int .i64 (ws.getD (j - 1) default).2.2)] := getD_enc encW ws (j - 1) default (by omega)
     generalize ws.getD (j - 1) default = y at gp hpb
     (repeat (first | refine gO rfl ?_ | ((((with_reducible refine xS ?_); refine uD 10 zM30 zPXE zPXP 57 rfl (by kernel_rfl) ?_)) <;> ((try with_reducible intro K1 hK1); simp only [go_sem, ↓reduceIte, reduceCtorEq, nA, nB, nC, nD, nE, nF, hd0, ht1, gp, hpb, List.length_map] <;> and_intros <;> first | (apply hK1; clear hK1 K1) | (intros; (omega))))))
     cases pb with
     | true =>
      refine awp_cond (t := _) rfl (fun _ => ?_) (fun h9 => by cases h9)
      (repeat (first | refine gO rfl ?_ | ((refine gM zM30 fun K1 hK1 => ?_; simp only [go_sem, ↓reduceIte, reduceCtorEq, nA, nB, nC, nD, nE, nF] <;> and_intros <;> (apply hK1; clear hK1 K1)))))
      simp only [Tryz.results45, go_sem, ↓reduceIte, reduceCtorEq, nA, nB, nC, nD, nE, nF]
      exact ⟨_, _, Weak.refl _, Hp.le.refl _, by rw [HW.out, if_pos rfl], rfl⟩
     | false =>
      refine awp_cond (t := _) rfl (fun h9 => by cases h9) (fun _ => ?_)
      (repeat (first | refine gO rfl ?_ | ((refine gM zM30 fun K1 hK1 => ?_; simp only [go_sem, ↓reduceIte, reduceCtorEq, nA, nB, nC, nD, nE, nF] <;> and_intros <;> first | (apply hK1; clear hK1 K1) | (intros; (omega))))))
      exact ⟨g - 1, by omega, j + 1, by omega, Lib.hid (by rw [HW.out, hpv]; rfl), rfl⟩
 ·simp only [decide_eq_false_iff_not] at h2
  have hjl : j = ws.length := by omega
  subst hjl
  rw [List.drop_length, brkL_nil] at HW
  (repeat (first | refine gO rfl ?_ | ((refine gM zM30 fun K1 hK1 => ?_; simp only [go_sem, ↓reduceIte, reduceCtorEq, nA, nB, nC, nD, nE, nF] <;> and_intros <;> (apply hK1; clear hK1 K1)))))
  simp only [Tryz.results45, go_sem, ↓reduceIte, reduceCtorEq, nA, nB, nC, nD, nE, nF]
  exact ⟨_, _, Weak.refl _, Hp.le.refl _, by rw [HW.out], rfl⟩
def winE (a b : Int) : Int := if (!(decide (0 ≤ a) && decide (a ≤ b)) || decide (345686400000 < b)) = true then 1 else 0
theorem g_window (a b : Int) (h : Hp) : ACalls Tryz.prog 48 [.agg [.v (.int .i64 a), .v (.int .i64 b)]] h (fun r h' => r = .v (.int .i64 (winE a b)) ∧ h' = h) := by
 have hin := fun h => a_in a 0 b h
 unfold winE
 generalize (decide ((0 : Int) ≤ a) && decide (a ≤ b)) = p at *
 refine gE Tryz.func48 rfl (by kernel_rfl) 13 rfl fun c => ?_
 (repeat (first | refine gO rfl ?_ | (refine gR fun K1 hK1 => ?_; simp only [go_sem, ↓reduceIte, reduceCtorEq, nA, nB, nC, nD, nE, nF] <;> and_intros <;> first | (apply hK1; clear hK1 K1) | skip)))
 refine (hin _).mono ?_; rintro _ hz ⟨rfl, hh⟩; apply hK1; clear hK1 K1; rw [hh]; clear hh hz
 cases p with
 | false =>
  (repeat (first | refine gO rfl ?_ | (refine gR fun K1 hK1 => ?_; simp only [go_sem, ↓reduceIte, reduceCtorEq, nA, nB, nC, nD, nE, nF] <;> and_intros <;> (apply hK1; clear hK1 K1))))
  refine awp_cond (t := _) rfl (fun _ => ?_) (fun h9 => by cases h9)
  (repeat (first | refine gO rfl ?_ | (refine gR fun K1 hK1 => ?_; simp only [go_sem, ↓reduceIte, reduceCtorEq, nA, nB, nC, nD, nE, nF] <;> and_intros <;> (apply hK1; clear hK1 K1))))
  simp only [Tryz.results48, go_sem, ↓reduceIte, reduceCtorEq, nA, nB, nC, nD, nE, nF]
  exact ⟨_, _, Weak.refl _, Hp.le.refl _, rfl, rfl⟩
 | true =>
  (repeat (first | refine gO rfl ?_ | (refine gR fun K1 hK1 => ?_; simp only [go_sem, ↓reduceIte, reduceCtorEq, nA, nB, nC, nD, nE, nF] <;> and_intros <;> (apply hK1; clear hK1 K1))))
  generalize decide (345686400000 < b) = q at *
  cases q with
  | true =>
   refine awp_cond (t := _) rfl (fun _ => ?_) (fun h9 => by cases h9)
   (repeat (first | refine gO rfl ?_ | (refine gR fun K1 hK1 => ?_; simp only [go_sem, ↓reduceIte, reduceCtorEq, nA, nB, nC, nD, nE, nF] <;> and_intros <;> (apply hK1; clear hK1 K1))))
   simp only [Tryz.results48, go_sem, ↓reduceIte, reduceCtorEq, nA, nB, nC, nD, nE, nF]
   exact ⟨_, _, Weak.refl _, Hp.le.refl _, rfl, rfl⟩
  | false =>
   refine awp_cond (t := _) rfl (fun h9 => by cases h9) (fun _ => ?_)
   (repeat (first | refine gO rfl ?_ | (refine gR fun K1 hK1 => ?_; simp only [go_sem, ↓reduceIte, reduceCtorEq, nA, nB, nC, nD, nE, nF] <;> and_intros <;> (apply hK1; clear hK1 K1))))
   simp only [Tryz.results48, go_sem, ↓reduceIte, reduceCtorEq, nA, nB, nC, nD, nE, nF]
   exact ⟨_, _, Weak.refl _, Hp.le.refl _, rfl, rfl⟩
theorem brkL_ok : ∀ {ws : List Wn} {p : Int}, brkL (some p) ws = 0 → Brk ws p
 | [], _, _ => trivial
 | w :: ws, p, h => by
  rw [brkL_cons] at h
  split at h
  ·split at h
   ·cases h
   ·rename_i h1
    have h := h
    simp only at h
    split at h
    ·cases h
    ·rename_i h2
     simp only [badW, Bool.or_eq_true, decide_eq_true_eq, not_or] at h1
     simp only [decide_eq_true_eq] at h2
     exact ⟨by omega, by omega, by omega, brkL_ok h⟩
  ·cases h
theorem brkE_ok {ws : List Wn} (h : brkE ws = 0) : Brk ws 0 ∧ ws.length ≤ 500 := by
 unfold brkE at h
 split at h
 ·cases h
 ·rename_i hl
  refine ⟨?_, by omega⟩
  cases ws with
  | nil => trivial
  | cons w ws =>
   rw [brkL_cons] at h
   split at h
   ·split at h
    ·cases h
    ·rename_i h1
     simp only [Bool.false_eq_true, if_false] at h
     simp only [badW, Bool.or_eq_true, decide_eq_true_eq, not_or] at h1
     exact ⟨by omega, by omega, by omega, brkL_ok h⟩
   ·cases h
section
variable {P : Program} {c : Cx} {Q : Exit → St → Prop} {s : St}
theorem awp_ownRow (i j z : Nat) {x : Code} {cs : List AV} (hi : s.h.H i = some (.cells cs)) (hj : cs[j]? = some (.v (.slice none 0 0)))
  (h : ∀ k, s.h.T k = none → Awp P c x Q { s with h := ⟨upd s.h.H i (some (.cells (cs.set j (.row z [] (some k))))), upd s.h.T k (some (.tail 0))⟩ }) : Awp P c x Q s := by
 rintro a w ⟨G, L, sm, hg, hf, hL⟩
 obtain ⟨hT, s1, g1, f1⟩ := sm.newTok (o := .tail 0) (.inl rfl)
 have hjl : j < cs.length := (List.getElem?_eq_some_iff.1 hj).1
 obtain ⟨b, o, e1, e3, ⟨vs, E, e4, e5⟩, e6⟩ := s1.hs.obj i _ hi
 have hnk : G.newTk.tl G.nx = some none := upd_same _ _ _
 have hw := h G.nx hT
 refine hw a w ?_
 have hre : ∀ (ws : List Value), RepL G.newTk cs ws → RepL G.newTk (cs.set j (.row z [] (some G.nx))) ws := fun ws hr => by
  refine ⟨by rw [List.length_set]; exact hr.1, fun q hq hq' => ?_⟩
  have hq2 : q < cs.length := by simpa using hq
  have h3 := hr.2 q hq2 hq'
  refine ⟨?_, h3.2⟩
  simp only [List.getElem_set]
  split
  ·rename_i ejq
   subst ejq
   have h4 := h3.1
   rw [show cs[j] = AV.v (.slice none 0 0) by rw [List.getElem?_eq_getElem hq2] at hj; simpa using hj] at h4
   have hv := (RepT.of (L := []) h4).v_inv
   rw [hv]
   refine .nil z _ ⟨by simp [Gh.newTk], ?_⟩
   rw [hnk]
   exact ⟨rfl, none, rfl⟩
  ·exact h3.1
 have hne : ∀ q, upd s.h.H i (some (AO.cells (cs.set j (.row z [] (some G.nx))))) q ≠ none → s.h.H q ≠ none := fun q hq => by
  by_cases e : q = i
  ·rw [e, hi]; simp
  ·rwa [upd_other _ _ e] at hq
 have hown : ∀ {G' b}, Own G' ⟨upd s.h.H i (some (.cells (cs.set j (.row z [] (some G.nx))))), upd s.h.T G.nx (some (.tail 0))⟩ b → Own G' { s.h with T := upd s.h.T G.nx (some (.tail 0)) } b := fun o => own_same (h := { s.h with T := upd s.h.T G.nx (some (.tail 0)) }) (h' := ⟨upd s.h.H i (some (.cells (cs.set j (.row z [] (some G.nx))))), upd s.h.T G.nx (some (.tail 0))⟩) hne rfl o
 have f2 := hf.trans f1
 refine ⟨G.newTk, L, ⟨⟨s1.hs.val, fun q ob e => ?_, fun q k b h1 h2 => s1.hs.inj q k b (hne q h1) (hne k h2), s1.hs.tok, s1.hs.tinj, fun k q t h1 h2 => s1.hs.tobj k q t h1 (hne q h2), s1.hs.fat, s1.hs.ftl⟩, s1.sz, s1.sl, s1.df, ⟨s1.ls.len, s1.ls.lo, fun b hb => ⟨fun o => (s1.ls.free b hb).1 (hown o), (s1.ls.free b hb).2⟩, s1.ls.nd⟩⟩, hg.trans g1, ⟨f2.os, f2.tape, f2.output, f2.size, fun b hb hn => let ⟨x, y, z⟩ := f2.keep b hb hn; ⟨x, fun o => y (hown o), z⟩⟩, hL⟩
 by_cases e2 : q = i
 ·subst e2
  replace e : upd s.h.H q (some (AO.cells (cs.set j (.row z [] (some G.nx))))) q = some ob := e
  rw [upd_same] at e
  cases e
  exact ⟨b, o, e1, e3, ⟨vs, E, e4, by rw [List.length_set]; exact hre _ e5⟩, e6⟩
 ·replace e : upd s.h.H i (some (AO.cells (cs.set j (.row z [] (some G.nx))))) q = some ob := e
  rw [upd_other _ _ e2] at e
  exact s1.hs.obj q ob e
end
open Go.RowKit Go.Lib Go.Sort
set_option linter.unusedVariables false
set_option linter.unusedSimpArgs false
theorem onceS_cells (hv : List ByteArray) : (onceL (hv.map (·.data.toList))).map encStr = (onceS hv).map Value.string := by
  rw [onceS, List.map_map]
  rfl
theorem belowGrow (w : World) (os : Array Obj) : Below w.heap.size w (grow w os) :=
  ⟨rfl, rfl, rfl, by simp [grow], fun k hk => by show (w.heap ++ os)[k]? = _; rw [Array.getElem?_append_left hk]⟩
theorem ownsRow_bel {w w' : World} {b size n : Nat} {e : TypeId} {v : Value} {xs : List Value} (h : w.ownsRow b e size v n xs) (hb : Below w.heap.size w w') : w'.ownsRow b e size v n xs := by
  obtain ⟨h1, h2⟩ := h
  refine ⟨h1, ?_⟩
  rcases h2 with h2 | ⟨g, c, cur, e1, e2, e3, e4⟩
  · exact .inl h2
  · exact .inr ⟨g, c, cur, e1, e2, (hb.block g (Array.getElem?_eq_some_iff.1 e3).1).trans e3, e4⟩
set_option maxRecDepth 100000 in
set_option maxHeartbeats 2000000 in
theorem once_walk (g o c : Nat) (hv : List ByteArray) (w : World) (hc : ∀ j, j < hv.length → w.cell? ⟨g, o + j, none⟩ = some (.string (hv.getD j ByteArray.empty))) (h0 : 0 < hv.length) (hl : hv.length ≤ 100000) :
    Calls Tryz.prog 104 #[.slice (some ⟨g, o, none⟩) hv.length c] w fun e w' => ∃ v', e = .returned v' ∧ w'.ownsRow w.heap.size 9 1 v' (onceS hv).length ((onceS hv).map Value.string) ∧ Below w.heap.size w w' := by
  have HCL : Hid (Calls Tryz.prog 155 #[.slice (some ⟨g, o, none⟩) hv.length c] w fun e w' => ∃ v', e = .returned v' ∧ w'.ownsRow w.heap.size 9 1 v' hv.length (hv.map Value.string) ∧ v' ≠ .slice none 0 0 ∧ Below w.heap.size w w') := by
    have := Tryz.slices_Clone_string g o hv.length c hv w (Nat.le_refl _) (by omega) hc
    rw [List.take_length] at this
    exact this
  clear hc
  go_enter Tryz.func104, Tryz.ntmps104
  go_wp2_with fail
  refine HCL.out.mono ?_
  rintro e w1 ⟨v1, rfl, own1, hne, hb1⟩
  have own1' : w1.ownsRow w.heap.size 9 1 v1 hv.length ((hv.map (·.data.toList)).map encStr) := by rw [map_encStr]; exact own1
  obtain ⟨g1, c1, rfl, hg1, hg1l, hnc, hcm, _, hH⟩ := holds_of_ownsRow own1' hne
  have HH := Lib.hid hH
  have HO := Lib.hid own1'
  clear own1 own1' hne HCL hH
  obtain ⟨ss, hss⟩ : ∃ ss : List (List UInt8), ss = hv.map (·.data.toList) := ⟨_, rfl⟩
  rw [← hss] at HH HO
  have hsl : ss.length = hv.length := by rw [hss]; simp
  have HSS := Lib.hid hss
  have HSL := Lib.hid hsl
  have HSC : Hid (Calls Tryz.prog 138 #[.slice (some ⟨g1, 0, none⟩) hv.length c1] w1 fun e w' => e = .returned (.tuple #[]) ∧ ∃ n os, w' = grow (putRow encStr (Sort.ahead w1 n) g1 0 (ss.mergeSort fun x y => decide (x ≤ y)).toArray) os) := by
    have := Tryz.slices_Sort_string g1 0 c1 ss w1 HH.out hg1l (by omega)
    rw [hsl] at this
    exact this
  clear hss hsl HH
  go_wp2_with fail
  refine HSC.out.mono ?_
  rintro e w2 ⟨rfl, n2, os2, hw2⟩
  obtain ⟨ts, hts⟩ : ∃ ts, ts = ss.mergeSort fun x y => decide (x ≤ y) := ⟨_, rfl⟩
  rw [← hts] at hw2
  have htl : ts.length = hv.length := by rw [hts, List.length_mergeSort]; exact HSL.out
  have own2 := ownsRow_bel (ownsRow_putRow (q := n2) (k := hv.length) HO.out htl (Nat.le_refl _)) (belowGrow (putRow encStr (Sort.ahead w1 n2) g1 0 ts.toArray) os2)
  rw [← hw2, List.take_of_length_le (by omega)] at own2
  have hb2 : Below w.heap.size w w2 := by rw [hw2]; exact (below_putRow hb1 hg1).trans ((belowGrow _ _).mono (by have := hb1.size; simpa [putRow, mapBlock, Sort.ahead] using this))
  obtain ⟨g3, c3, hv3, _, _, hnc3, _, _, hH2⟩ := holds_of_ownsRow own2 (by simp)
  simp only [Value.slice.injEq, Option.some.injEq, Addr.mk.injEq, and_true, true_and] at hv3
  obtain ⟨rfl, rfl⟩ := hv3
  have HO2 := Lib.hid own2
  have HTS := Lib.hid (show onceL (hv.map (·.data.toList)) = Lib.compact ts by rw [onceL, hts, HSS.out])
  have HCC : Hid (Calls Tryz.prog 156 #[.slice (some ⟨g1, 0, none⟩) hv.length c1] w2 fun e w' => e = .returned (.slice (some ⟨g1, 0, none⟩) (Lib.compact ts).length c1) ∧ ∃ q, w' = putRow encStr (Sort.ahead w2 q) g1 0 (Lib.compact ts ++ List.replicate (hv.length - (Lib.compact ts).length) []).toArray) := by
    have := Tryz.slices_Compact_string g1 0 c1 ts w2 hH2 (by omega) (by omega)
    rw [htl] at this
    exact this
  have HTL := Lib.hid htl
  clear hw2 own2 hts htl hH2 HSC
  go_wp2_with fail
  refine HCC.out.mono ?_
  rintro e w3 ⟨rfl, q3, hw3⟩
  have hcl : (Lib.compact ts).length ≤ hv.length := by have := Lib.compact_length_le ts; have := HTL.out; omega
  have own3 := ownsRow_putRow (q := q3) (k := (Lib.compact ts).length) (ys := Lib.compact ts ++ List.replicate (hv.length - (Lib.compact ts).length) []) HO2.out (by simp; omega) hcl
  rw [← hw3, List.take_append_of_le_length (Nat.le_refl _), List.take_length, ← HTS.out, onceS_cells] at own3
  have hrl : (onceL (hv.map (·.data.toList))).length = (onceS hv).length := by simp [onceS]
  rw [hrl] at own3
  have hb3 : Below w.heap.size w w3 := by rw [hw3]; exact below_putRow hb2 hg1
  have HO3 := Lib.hid own3
  have HRL := Lib.hid (show (Lib.compact ts).length = (onceS hv).length by rw [← HTS.out, hrl])
  clear own3 hw3 hrl HCC
  rw [HRL.out]
  go_wp2_with fail
  go_ret
  exact ⟨_, rfl, HO3.out, hb3⟩
open Go
open Nat renaming reduceAdd → nA, reduceSub → nB, reduceMul → nC, reduceLT → nD, reduceLeDiff → nE, reduceEqDiff → nF, reduceMod → nG, reduceDiv → nH, reducePow → nI
abbrev zPYE : List Nat := [0, 1, 2, 3, 4, 5, 6]
abbrev zPYP : List (Nat × List Nat × List Nat) := [(7, [], [])]
abbrev zPZE : List Nat := [0, 1, 2, 3, 4, 5, 6]
abbrev zPZP : List (Nat × List Nat × List Nat) := [(7, [], [])]
attribute [go_sem] zPYE zPYP zPZE zPZP
set_option maxRecDepth 100000
set_option maxHeartbeats 8000000
theorem flat_encS (l : List ByteArray) : (l.map encS).flatten = l.map fun x => AV.v (.string x) := by
 induction l with
 | nil => rfl
 | cons x q ih => simp [encS, ih]
theorem repL_strs (G : Gh) (l : List ByteArray) : RepL G (l.map fun x => AV.v (.string x)) (l.map Value.string) := by
 refine ⟨by simp, fun j a b => ?_⟩
 simp only [List.getElem_map]
 exact ⟨.v _ rfl, rfl⟩
theorem repL_strs_inv {G : Gh} {l : List ByteArray} {us : List Value} (h : RepL G (l.map fun x => AV.v (.string x)) us) : us = l.map Value.string := by
 obtain ⟨h1, h2⟩ := h
 apply List.ext_getElem (by simpa using h1)
 intro j a b
 have h3 := (h2 j (by simpa using b) a).1
 simp only [List.getElem_map] at h3 ⊢
 generalize us[j] = y at h3
 cases h3; rfl
theorem g_once (ns : List ByteArray) (k : Option Nat) (h : Hp) (h0 : 0 < ns.length) (hl : ns.length ≤ 100000) : ACalls Tryz.prog 104 [.row 1 (ns.map encS) k] h (fun r h' => r = .row 1 ((onceS ns).map encS) none ∧ h' = h) := by
 refine acalls_mk (by kernel_rfl) fun G w vs hs hv ha => ?_
 have hr := ha 0 (by simp)
 have hvs : vs = #[vs.getD 0 undef] := by
  have hv1 : vs.size = 1 := hv
  apply Array.ext (by simpa using hv1)
  intro j hj hj'
  simp only [List.size_toArray, List.length_cons, List.length_nil] at hj'
  obtain rfl : j = 0 := by omega
  simp [Array.getD, hv1]
 rw [hvs]
 generalize vs.getD 0 undef = v at *
 simp only [List.getElem_cons_zero] at hr
 rcases Rep.row_inv hr with ⟨a, _, e⟩ | ⟨g, o, c, us, rfl, hc, hz, hru, hu⟩
 ·have := congrArg List.length e; simp only [List.length_map, List.length_nil] at this; omega
 ·rw [flat_encS] at hru
  have hus := repL_strs_inv hru
  rw [List.length_map] at hc ⊢
  refine (once_walk g o c ns w (fun j hj => hs.cell _ _ _ (hu j _ ?_)) h0 hl).mono ?_
  ·rw [hus, List.getElem?_map, List.getElem?_eq_getElem hj, List.getD_eq_getElem?_getD, List.getElem?_eq_getElem hj]; rfl
  ·rintro _ w' ⟨v', rfl, own, bel⟩
   obtain ⟨G', g1, f1, s1, r1⟩ := row_of_own hs bel own (xs := (onceS ns).map encS) (by simp) (fun x hx => by obtain ⟨y, _, rfl⟩ := List.mem_map.1 hx; rfl) (by rw [flat_encS]; exact repL_strs G _)
   exact ⟨v', rfl, _, h, G', ⟨rfl, rfl⟩, g1, f1, s1, r1⟩
theorem g_itemsOf (xs : List (ByteArray × Int)) (h : Hp) (h0 : 0 < xs.length) (hl : xs.length ≤ 5000) : ACalls Tryz.prog 82 [.row 2 (xs.map encStep) none] h (fun r h' => r = .row 1 ((onceS (xs.map (·.1))).map encS) none ∧ Hp.le h h') := by
 refine gE Tryz.func82 rfl (by kernel_rfl) 19 rfl fun c => ?_
 (repeat (first | refine gQ rfl ?_ | (refine gM zM31 fun K1 hK1 => ?_; simp only [go_sem, ↓reduceIte, reduceCtorEq, nA, nB, nC, nD, nE, nF] <;> and_intros <;> (apply hK1; clear hK1 K1))))
 refine awp_seq ?_
 refine awp_own 3 1 rfl ⟨rfl, rfl⟩ (fun k hk => ?_)
 replace hk : h.T k = none := hk
 (repeat (first | refine gO rfl ?_ | (refine gM zM31 fun K1 hK1 => ?_; simp only [go_sem, ↓reduceIte, reduceCtorEq, nA, nB, nC, nD, nE, nF] <;> and_intros <;> (apply hK1; clear hK1 K1))))
 refine awp_loopC (rl false [3, 1, 2, 3, 11]) 0 (fun g s => ∃ j : Nat, g + j = xs.length ∧
  s = ⟨((jnk 3 ((.row 1 (((xs.take j).map (·.1)).map encS) (some k)) :: AV.junk :: AV.junk :: ((.row 2 (xs.map encStep) none) :: (.v (.int .i64 xs.length)) :: (.v (.int .i64 j)) :: (jnk 11 []))))), [], ⟨h.H, upd h.T k (some (.tail j))⟩⟩) xs.length ⟨0, by omega, rfl⟩ ?_
 rintro g _ ⟨j, hj, rfl⟩
 have hTq : upd h.T k (some (TO.tail j)) k = some (.tail j) := upd_same _ _ _
 have hlj : (((xs.take j).map (·.1)).map encS).length = j := by simp; omega
 (repeat (first | refine gO rfl ?_ | (refine gM zM31 fun K1 hK1 => ?_; simp only [go_sem, ↓reduceIte, reduceCtorEq, nA, nB, nC, nD, nE, nF] <;> and_intros <;> (apply hK1; clear hK1 K1))))
 refine awp_cond (t := _) rfl (fun h1 => ?_) (fun h1 => ?_)
 ·simp only [decide_eq_true_eq] at h1
  have hjl : j < xs.length := by omega
  have gx : (xs.map encStep).getD j [] = encStep (xs.getD j default) := getD_enc encStep xs j default hjl
  have tx : ((xs.take (j + 1)).map (·.1)).map encS = ((xs.take j).map (·.1)).map encS ++ [encS (xs.getD j default).1] := by rw [take_at xs j hjl]; simp
  generalize xs.getD j default = x at gx tx
  (repeat (first | refine gO rfl ?_ | (refine gM zM31 fun K1 hK1 => ?_; simp only [go_sem, ↓reduceIte, reduceCtorEq, nA, nB, nC, nD, nE, nF, Int.toNat_natCast, gx, encStep, hTq, hlj] <;> and_intros <;> first | (apply hK1; clear hK1 K1) | (intros; first | omega | decide))))
  refine ⟨g - 1, by omega, j + 1, by omega, ?_⟩
  rw [tx]; rfl
 ·simp only [decide_eq_false_iff_not] at h1
  have hjl : j = xs.length := by omega
  subst hjl
  rw [List.take_length] at *
  (repeat (first | refine gO rfl ?_ | (refine gM zM31 fun K1 hK1 => ?_; simp only [go_sem, ↓reduceIte, reduceCtorEq, nA, nB, nC, nD, nE, nF] <;> and_intros)))
  refine (g_once (xs.map (·.1)) (some k) _ (by simpa using h0) (by simp; omega)).mono ?_; rintro _ hz ⟨rfl, hh⟩; apply hK1; clear hK1 K1; rw [hh]; clear hh hz
  (repeat (first | refine gO rfl ?_ | (refine gM zM31 fun K1 hK1 => ?_; simp only [go_sem, ↓reduceIte, reduceCtorEq, nA, nB, nC, nD, nE, nF] <;> and_intros <;> (apply hK1; clear hK1 K1))))
  simp only [Tryz.results82, go_sem, ↓reduceIte, reduceCtorEq, nA, nB, nC, nD, nE, nF]
  refine ⟨_, h, Weak.refl _, ⟨fun _ => .inr rfl, fun i => ?_⟩, rfl, Hp.le.refl _⟩
  by_cases e : i = k
  ·subst e; exact .inl hk
  ·exact .inr (upd_other _ _ e).symm
end Go.Proofs.YtoleejecmefogaaGreatDoor
namespace Go.Proofs
open Go.Shelf
set_option linter.unusedVariables false
set_option linter.unusedSimpArgs false
def Tryz.sorted79_ren : Go.Shelf.Ren := ⟨fun | 6 => 79 | 8 => 137 | 9 => 138 | 11 => 185 | 13 => 151 | 12 => 186 | 23 => 204 | 24 => 205 | 14 => 223 | 15 => 224 | 16 => 225 | 17 => 226 | 18 => 227 | 19 => 228 | 20 => 229 | 21 => 230 | 22 => 231 | 25 => 258 | 26 => 240 | 27 => 241 | 28 => 259 | 29 => 260 | 30 => 261 | 31 => 281 | n => n, fun | 26 => 9 | 28 => 131 | 24 => 80 | 0 => 0 | 3 => 3 | 37 => 225 | 48 => 278 | 50 => 280 | 4 => 4 | 40 => 272 | 39 => 271 | 45 => 190 | 5 => 5 | 9 => 9 | 51 => 304 | 55 => 308 | 57 => 323 | 58 => 116 | 33 => 140 | n => n, fun | n => n⟩
theorem Tryz.sorted79 : Go.Proofs.SlLaysZ.n6 Tryz.prog Tryz.sorted79_ren := {
  mixed := by kernel_rfl
  f6 := ⟨Tryz.f79.name, by decide, Tryz.func79.trans (congrArg some (by kernel_rfl))⟩
  f8 := ⟨Tryz.f137.name, by decide, Tryz.func137.trans (congrArg some (by kernel_rfl))⟩
  f11 := ⟨Tryz.f185.name, by decide, Tryz.func185.trans (congrArg some (by kernel_rfl))⟩
  t0 := Tryz.underlying0
  a0 := Tryz.isAgg0
  z0 := Tryz.sizeOf0
  v0 := Tryz.zeroValue0
  t24 := Tryz.underlying80
  a24 := Tryz.isAgg80
  z24 := Tryz.sizeOf80
  v24 := Tryz.zeroValue80
  t26 := Tryz.underlying9
  a26 := Tryz.isAgg9
  z26 := Tryz.sizeOf9
  v26 := Tryz.zeroValue9
  t28 := Tryz.underlying131
  a28 := Tryz.isAgg131
  z28 := Tryz.sizeOf131
  v28 := Tryz.zeroValue131
  i26 := by kernel_rfl }
def Tryz.sort138_ren : Go.Shelf.Ren := ⟨fun | 6 => 138 | 8 => 151 | 9 => 186 | 19 => 204 | 20 => 205 | 21 => 223 | 22 => 224 | 23 => 225 | 24 => 226 | 25 => 227 | 26 => 228 | 27 => 229 | 28 => 230 | 29 => 231 | 36 => 258 | 31 => 240 | 32 => 241 | 37 => 259 | 38 => 260 | 39 => 261 | 41 => 281 | n => n, fun | 27 => 80 | 29 => 9 | 3 => 3 | 32 => 225 | 26 => 80 | 0 => 0 | 44 => 278 | 46 => 280 | 4 => 4 | 36 => 272 | 35 => 271 | 41 => 190 | 5 => 5 | 9 => 9 | 53 => 304 | 57 => 308 | 63 => 323 | 64 => 116 | n => n, fun | n => n⟩
theorem Tryz.sort138 : Go.Proofs.SlLaysM.n6 Tryz.prog Tryz.sort138_ren := {
  mixed := by kernel_rfl
  f6 := ⟨Tryz.f138.name, by decide, Tryz.func138.trans (congrArg some (by kernel_rfl))⟩
  f8 := Tryz.func151.trans (congrArg some (by kernel_rfl))
  f9 := ⟨Tryz.f186.name, by decide, Tryz.func186.trans (congrArg some (by kernel_rfl))⟩
  f19 := Tryz.func204.trans (congrArg some (by kernel_rfl))
  f20 := Tryz.func205.trans (congrArg some (by kernel_rfl))
  f21 := ⟨Tryz.f223.name, by decide, Tryz.func223.trans (congrArg some (by kernel_rfl))⟩
  f22 := ⟨Tryz.f224.name, by decide, Tryz.func224.trans (congrArg some (by kernel_rfl))⟩
  f23 := ⟨Tryz.f225.name, by decide, Tryz.func225.trans (congrArg some (by kernel_rfl))⟩
  f24 := ⟨Tryz.f226.name, by decide, Tryz.func226.trans (congrArg some (by kernel_rfl))⟩
  f25 := ⟨Tryz.f227.name, by decide, Tryz.func227.trans (congrArg some (by kernel_rfl))⟩
  f26 := ⟨Tryz.f228.name, by decide, Tryz.func228.trans (congrArg some (by kernel_rfl))⟩
  f27 := ⟨Tryz.f229.name, by decide, Tryz.func229.trans (congrArg some (by kernel_rfl))⟩
  f28 := ⟨Tryz.f230.name, by decide, Tryz.func230.trans (congrArg some (by kernel_rfl))⟩
  f29 := ⟨Tryz.f231.name, by decide, Tryz.func231.trans (congrArg some (by kernel_rfl))⟩
  f31 := Tryz.func240.trans (congrArg some (by kernel_rfl))
  f32 := Tryz.func241.trans (congrArg some (by kernel_rfl))
  f36 := ⟨Tryz.f258.name, by decide, Tryz.func258.trans (congrArg some (by kernel_rfl))⟩
  f37 := ⟨Tryz.f259.name, by decide, Tryz.func259.trans (congrArg some (by kernel_rfl))⟩
  f38 := ⟨Tryz.f260.name, by decide, Tryz.func260.trans (congrArg some (by kernel_rfl))⟩
  f39 := ⟨Tryz.f261.name, by decide, Tryz.func261.trans (congrArg some (by kernel_rfl))⟩
  f41 := ⟨Tryz.f281.name, by decide, Tryz.func281.trans (congrArg some (by kernel_rfl))⟩
  t0 := Tryz.underlying0
  a0 := Tryz.isAgg0
  z0 := Tryz.sizeOf0
  v0 := Tryz.zeroValue0
  t3 := Tryz.underlying3
  a3 := Tryz.isAgg3
  z3 := Tryz.sizeOf3
  v3 := Tryz.zeroValue3
  t4 := Tryz.underlying4
  a4 := Tryz.isAgg4
  z4 := Tryz.sizeOf4
  v4 := Tryz.zeroValue4
  t5 := Tryz.underlying5
  a5 := Tryz.isAgg5
  z5 := Tryz.sizeOf5
  v5 := Tryz.zeroValue5
  t9 := Tryz.underlying9
  a9 := Tryz.isAgg9
  z9 := Tryz.sizeOf9
  v9 := Tryz.zeroValue9
  t26 := Tryz.underlying80
  a26 := Tryz.isAgg80
  z26 := Tryz.sizeOf80
  v26 := Tryz.zeroValue80
  t27 := Tryz.underlying80
  a27 := Tryz.isAgg80
  z27 := Tryz.sizeOf80
  v27 := Tryz.zeroValue80
  t29 := Tryz.underlying9
  a29 := Tryz.isAgg9
  z29 := Tryz.sizeOf9
  v29 := Tryz.zeroValue9
  t32 := Tryz.underlying225
  a32 := Tryz.isAgg225
  z32 := Tryz.sizeOf225
  v32 := Tryz.zeroValue225
  t35 := Tryz.underlying271
  a35 := Tryz.isAgg271
  z35 := Tryz.sizeOf271
  v35 := Tryz.zeroValue271
  t36 := Tryz.underlying272
  a36 := Tryz.isAgg272
  z36 := Tryz.sizeOf272
  v36 := Tryz.zeroValue272
  t41 := Tryz.underlying190
  a41 := Tryz.isAgg190
  z41 := Tryz.sizeOf190
  v41 := Tryz.zeroValue190
  t44 := Tryz.underlying278
  a44 := Tryz.isAgg278
  z44 := Tryz.sizeOf278
  v44 := Tryz.zeroValue278
  t46 := Tryz.underlying280
  a46 := Tryz.isAgg280
  z46 := Tryz.sizeOf280
  v46 := Tryz.zeroValue280
  t53 := Tryz.underlying304
  a53 := Tryz.isAgg304
  z53 := Tryz.sizeOf304
  v53 := Tryz.zeroValue304
  t57 := Tryz.underlying308
  a57 := Tryz.isAgg308
  z57 := Tryz.sizeOf308
  v57 := Tryz.zeroValue308
  t63 := Tryz.underlying323
  a63 := Tryz.isAgg323
  z63 := Tryz.sizeOf323
  v63 := Tryz.zeroValue323
  t64 := Tryz.underlying116
  a64 := Tryz.isAgg116
  z64 := Tryz.sizeOf116
  v64 := Tryz.zeroValue116 }
open Go.RowKit Go.Maps Go.Sort in
theorem Tryz.sorts79 (m : Nat) : AnyZ.SortsIn Tryz.prog Tryz.sorted79_ren Fence.wide m :=
  ⟨fun blk off cap ss W hH hblk hsz => callsIn_wide.2 (AnyM.slices_Sort_string Tryz.sort138 blk off cap ss W hH hblk hsz),
   fun p cap W => callsIn_wide.2 (AnyM.slices_Sort_string_none Tryz.sort138 p cap W)⟩
def Tryz.keys100_ren : Go.Shelf.Ren := ⟨fun | 7 => 100 | 10 => 152 | n => n, fun | 23 => 148 | 26 => 9 | 3 => 4 | 28 => 131 | 0 => 0 | 27 => 130 | 33 => 140 | 4 => 4 | n => n, fun | n => n⟩
theorem Tryz.keys100 : Go.Proofs.SlLaysZ.n7 Tryz.prog Tryz.keys100_ren := {
  mixed := by kernel_rfl
  f7 := ⟨Tryz.f100.name, by decide, Tryz.func100.trans (congrArg some (by kernel_rfl))⟩
  f10 := ⟨Tryz.f152.name, by decide, Tryz.func152.trans (congrArg some (by kernel_rfl))⟩
  t0 := Tryz.underlying0
  a0 := Tryz.isAgg0
  z0 := Tryz.sizeOf0
  v0 := Tryz.zeroValue0
  t4 := Tryz.underlying4
  a4 := Tryz.isAgg4
  z4 := Tryz.sizeOf4
  v4 := Tryz.zeroValue4
  t23 := Tryz.underlying148
  a23 := Tryz.isAgg148
  z23 := Tryz.sizeOf148
  v23 := Tryz.zeroValue148
  t26 := Tryz.underlying9
  a26 := Tryz.isAgg9
  z26 := Tryz.sizeOf9
  v26 := Tryz.zeroValue9
  t27 := Tryz.underlying130
  a27 := Tryz.isAgg130
  z27 := Tryz.sizeOf130
  v27 := Tryz.zeroValue130
  t28 := Tryz.underlying131
  a28 := Tryz.isAgg131
  z28 := Tryz.sizeOf131
  v28 := Tryz.zeroValue131
  t33 := Tryz.underlying140
  a33 := Tryz.isAgg140
  z33 := Tryz.sizeOf140
  v33 := Tryz.zeroValue140 }
end Go.Proofs
namespace Go.Proofs.YtoleejecmefogaaGreatDoor
open Go.RowKit Go.Maps Go.Sort Go.Shelf Go.WideElems Go.MapKept
set_option linter.unusedVariables false
set_option linter.unusedSimpArgs false
def keyL (x : MapEntry) : List UInt8 := match x.key with
  | .string s => s.data.toList
  | _ => []
def okR {H : Type} : Value → Option (DataW H × List MemPlace) := fun _ => some (.lit (.bool true), [])
theorem ents_fit {H : Type} {P : Program} {k : TypeId} (hk : P.underlying k = some .string) {ents : Array MapEntry} {clock : Nat} (hst : Stamped ents clock) (hs : ∀ x ∈ ents.toList, ∃ s : ByteArray, x.key = .string s ∧ s.size ≤ maxLen) (hl : ents.size ≤ maxLen) : Fit (H := H) P k okR ents clock := by
  refine ⟨hl, hst, fun x hx => ?_⟩
  obtain ⟨s, e, hsz⟩ := hs x hx
  exact ⟨(.string s.data.toList, .lit (.bool true)), by simp [Go.WideElems.rd, keyOf, hk, e, mapKey, hsz, okR]⟩
theorem ents_keys {H : Type} {P : Program} {k : TypeId} (hk : P.underlying k = some .string) {l : List MapEntry} (hs : ∀ x ∈ l, ∃ s : ByteArray, x.key = .string s ∧ s.size ≤ maxLen) : (l.map (Go.WideElems.rg (H := H) P k okR)).map (fun p => strOf p.1) = l.map keyL := by
  rw [List.map_map]
  refine List.map_congr_left fun x hx => ?_
  obtain ⟨s, e, hsz⟩ := hs x hx
  have : Go.WideElems.rd (H := H) P k okR x = some (.string s.data.toList, .lit (.bool true)) := by simp [Go.WideElems.rd, keyOf, hk, e, mapKey, hsz, okR]
  simp [Go.WideElems.rg, this, strOf, keyL, e]
set_option maxRecDepth 100000 in
set_option maxHeartbeats 1000000 in
theorem sorted_walkB (p b : Nat) (ents : Array MapEntry) (clock : Nat) (W : World) (hp : W.cell? ⟨p, 0, none⟩ = some (.map (some b))) (hb : W.heap[b]? = some (.map ents clock)) (hst : Stamped ents clock)
    (hs : ∀ x ∈ ents.toList, ∃ s : ByteArray, x.key = .string s ∧ s.size ≤ maxLen) (hl : ents.size ≤ 100000) :
    Calls Tryz.prog 79 #[.func (.func 152) #[] #[.pointer (some ⟨p, 0, none⟩)]] W fun e w' => ∃ (v : Value) (ss : List (List UInt8)), e = .returned v ∧ ss.Perm (ents.toList.map keyL) ∧
      w'.ownsRow W.heap.size 9 1 v ss.length ((ss.mergeSort (fun x y => decide (x ≤ y))).map encStr) ∧ Below W.heap.size W w' := by
  have hk : Tryz.prog.underlying 9 = some .string := Tryz.underlying9
  have hmx : (100000 : Nat) ≤ maxLen := by decide
  have F := ents_fit (H := Unit) hk hst hs (by omega)
  have hpb : p < W.heap.size := World.block_lt_of_cell? W _ hp
  have hperm : ((ents.toList.map (Go.WideElems.rg (H := Unit) Tryz.prog 9 okR)).foldr DataW.insert []).Perm (ents.toList.map (Go.WideElems.rg Tryz.prog 9 okR)) := Go.WideShapes.sorted_perm _
  have hlen : Maps.size (.map ((ents.toList.map (Go.WideElems.rg (H := Unit) Tryz.prog 9 okR)).foldr DataW.insert [])) = ents.size := by
    rw [Maps.size_eq, hperm.length_eq]; simp
  have hown : W.ownsMap Tryz.prog 9 (okR (H := Unit)) b ents.size (.map ((ents.toList.map (Go.WideElems.rg Tryz.prog 9 okR)).foldr DataW.insert [])) := ⟨ents, clock, hb, F, Nat.le_refl _, rfl⟩
  have hseq := AnyZ.keys_gives (ρ := Tryz.keys100_ren) { Tryz.keys100 with } Fence.wide 2 trivial rfl (by omega) p b ents.size _ W hpb hp hown
  have hc := AnyZ.sorted_in Tryz.sorted79 Fence.wide 5 trivial trivial trivial trivial rfl (by omega) (Tryz.sorts79 _) (enters_of Tryz.func138 (by kernel_rfl) rfl) 152 #[.pointer (some ⟨p, 0, none⟩)] trivial
    (enters_of Tryz.func152 (by kernel_rfl) rfl) _ _ (by rw [hlen]; omega) (by rw [hlen]; omega) W hseq
  refine (callsIn_wide.1 hc).mono ?_
  rintro e w' ⟨v, ss, rfl, hS, hrow, _, hbel⟩
  refine ⟨v, ss, rfl, hS.trans ?_, hrow, hbel⟩
  rw [← ents_keys (H := Unit) hk hs]
  exact hperm.map _
open Go
open Nat renaming reduceAdd → nA, reduceSub → nB, reduceMul → nC, reduceLT → nD, reduceLeDiff → nE, reduceEqDiff → nF, reduceMod → nG, reduceDiv → nH, reducePow → nI
set_option maxRecDepth 100000
set_option maxHeartbeats 8000000
theorem g_keysB (m : Nat) (h : Hp) : ACalls Tryz.prog 100 [.map m] h (fun r h' => ∃ i, h.H i = none ∧ r = .fn 152 [.ptr i 0] ∧ h' = { h with H := upd h.H i (some (.cells [.map m])) }) := by
 refine gE Tryz.func100 rfl (by kernel_rfl) 3 rfl fun c => ?_
 (repeat ((refine gM zM32 fun K1 hK1 => ?_; simp only [go_sem, ↓reduceIte, reduceCtorEq, nA, nB, nC, nD, nE, nF] <;> and_intros)))
 intro i hi
 refine hK1 _ ?_; clear hK1 K1
 (repeat (first | refine gO rfl ?_ | (refine gM zM32 fun K1 hK1 => ?_; simp only [go_sem, ↓reduceIte, reduceCtorEq, nA, nB, nC, nD, nE, nF] <;> and_intros <;> first | (apply hK1; clear hK1 K1) | (intros; (decide)))))
 simp only [Tryz.results100, go_sem, ↓reduceIte, reduceCtorEq, nA, nB, nC, nD, nE, nF]
 exact ⟨_, _, Weak.refl _, Hp.le.refl _, i, hi, rfl, rfl⟩
theorem g_sortedB (i m : Nat) (es : List (ByteArray × AV)) (ns : List ByteArray) (h : Hp) (hi : h.H i = some (.cells [.map m])) (hm : h.H m = some (.map es)) (hmem : ∀ k, k ∈ es.map (·.1) ↔ k ∈ ns) (hsz : ∀ k ∈ es.map (·.1), k.size ≤ 1000000) (hl : es.length ≤ 100000) :
  ACalls Tryz.prog 79 [.fn 152 [.ptr i 0]] h (fun r h' => r = .row 1 ((onceS ns).map encS) none ∧ h' = h) := by
 refine acalls_mk (by kernel_rfl) fun G w vs hs hv ha => ?_
 have hr := ha 0 (by simp)
 have hvs : vs = #[vs.getD 0 undef] := by
  have hv1 : vs.size = 1 := hv
  apply Array.ext (by simpa using hv1)
  intro j hj hj'
  simp only [List.size_toArray, List.length_cons, List.length_nil] at hj'
  obtain rfl : j = 0 := by omega
  simp [Array.getD, hv1]
 rw [hvs]
 generalize vs.getD 0 undef = v at *
 simp only [List.getElem_cons_zero] at hr
 cases hr with
 | fn _ _ us u hlu huu hru =>
 have h0 := hru 0 (by simp)
 have hu0 := huu 0 (by simp)
 simp only [List.getElem_cons_zero] at h0
 have hus : us = #[u 0] := by
  have hl1 : us.size = 1 := hlu
  apply Array.ext (by simpa using hl1)
  intro j hj hj'
  simp only [List.size_toArray, List.length_cons, List.length_nil] at hj'
  obtain rfl : j = 0 := by omega
  rw [Array.getElem?_eq_getElem hj] at hu0
  simpa using hu0
 rw [hus]
 generalize u 0 = p0 at h0
 cases h0 with
 | ptr _ _ p hat =>
 obtain ⟨p', ob, e', hh, ⟨cs, E, rfl, hcr⟩, _⟩ := hs.obj i _ hi
 rw [hat] at e'; cases e'
 obtain ⟨x, hx, hrx, _⟩ := hcr.getD (j := 0) (by simp)
 simp only [List.getD_cons_zero] at hrx
 cases hrx with
 | map _ b hab =>
 have hcell : w.cell? ⟨p, 0, none⟩ = some (.map (some b)) := by
  rw [List.getElem?_take] at hx
  split at hx
  ·simpa [World.cell?, hh] using hx
  ·cases hx
 obtain ⟨b', ob, e', hhb, ⟨ents, clock, rfl, hst, hsize, hent⟩, _⟩ := hs.obj m _ hm
 rw [hab] at e'; cases e'
 have hkeys : ents.toList.map keyL = es.map (fun q => q.1.data.toList) := by
  apply List.ext_getElem (by simpa using hsize)
  intro j h1 h2
  have h3 := hent j (by simpa using h2) (by simpa using h1)
  simp only [List.getElem_map, Array.getElem_toList, keyL, h3.1]
 have hks : ∀ x ∈ ents.toList, ∃ s : ByteArray, x.key = .string s ∧ s.size ≤ maxLen := fun x hx => by
  obtain ⟨j, hj, e⟩ := List.getElem_of_mem hx
  have hj2 : j < ents.size := by simpa using hj
  have hj3 : j < es.length := by omega
  have h3 := hent j hj3 hj2
  have hmx : (1000000 : Nat) ≤ maxLen := by decide
  refine ⟨es[j].1, by rw [← e]; simpa using h3.1, Nat.le_trans (hsz _ (List.mem_map.2 ⟨es[j], List.getElem_mem hj3, rfl⟩)) hmx⟩
 have hnd : (es.map (fun q => q.1.data.toList)).Nodup := by
  rw [← hkeys]
  have h3 : ents.toList.map (fun x => x.key) = (ents.toList.map keyL).map encStr := by
   rw [List.map_map]
   refine List.map_congr_left fun x hx => ?_
   obtain ⟨s, e, _⟩ := hks x hx
   simp [keyL, e, encStr]
  have h4 := hst.2.2
  rw [h3] at h4
  exact List.Pairwise.of_map encStr (fun a b h e => h (by rw [e])) h4
 refine (sorted_walkB p b ents clock w hcell hhb hst hks (by omega)).mono ?_
 rintro _ w' ⟨v', ss, rfl, hperm, own, bel⟩
 rw [hkeys] at hperm
 have hmm : ∀ x, x ∈ ss ↔ x ∈ ns.map (·.data.toList) := fun x => by
  rw [hperm.mem_iff, List.mem_map, List.mem_map]
  constructor
  ·rintro ⟨q, hq, rfl⟩; exact ⟨q.1, (hmem q.1).1 (List.mem_map.2 ⟨q, hq, rfl⟩), rfl⟩
  ·rintro ⟨k, hk, rfl⟩
   obtain ⟨q, hq, rfl⟩ := List.mem_map.1 ((hmem k).2 hk)
   exact ⟨q, hq, rfl⟩
 have hko := keys_once (hperm.nodup_iff.2 hnd) hmm
 have hsl : ss.length = (onceS ns).length := by
  have := congrArg List.length hko
  rw [List.length_mergeSort] at this
  rw [this, onceS, List.length_map]
 rw [hko, onceS_cells, hsl] at own
 obtain ⟨G', g1, f1, s1, r1⟩ := row_of_own hs bel own (xs := (onceS ns).map encS) (by simp) (fun x hx => by obtain ⟨y, _, rfl⟩ := List.mem_map.1 hx; rfl) (by rw [flat_encS]; exact repL_strs G _)
 exact ⟨v', rfl, _, h, G', ⟨rfl, rfl⟩, g1, f1, s1, r1⟩
abbrev zP10E : List Nat := [0, 1, 2, 3, 4, 5, 6, 7, 8, 9, 10, 11]
abbrev zP10P : List (Nat × List Nat × List Nat) := [(12, [], [])]
attribute [go_sem] zP10E zP10P
theorem g_tallies (xs : List (ByteArray × Int)) (h : Hp) (hp : Pos xs) (hl : xs.length ≤ 5000) : ACalls Tryz.prog 78 [.row 2 (xs.map encStep) none] h (fun r h' => ∃ m ks f, r = .map m ∧ TalI h' m xs (xs.map (·.1)) ks f) := by
 refine gE Tryz.func78 rfl (by kernel_rfl) 46 rfl fun c => ?_
 (repeat (first | refine gQ rfl ?_ | ((refine gM zM33 fun K1 hK1 => ?_; simp only [go_sem, ↓reduceIte, reduceCtorEq, nA, nB, nC, nD, nE, nF] <;> and_intros <;> first | (apply hK1; clear hK1 K1) | skip))))
 intro m hm
 refine hK1 _ ?_; clear hK1 K1
 (repeat ((refine gQ rfl ?_)))
 refine awp_seq ?_
 (repeat (first | refine gO rfl ?_ | ((refine gM zM33 fun K1 hK1 => ?_; simp only [go_sem, ↓reduceIte, reduceCtorEq, nA, nB, nC, nD, nE, nF] <;> and_intros <;> (apply hK1; clear hK1 K1)))))
 refine awp_loopC (rl false [3, 1, 3, 3, 37]) 0 (fun g s => ∃ (j : Nat) (h2 : Hp) (ks : List ByteArray) (f : ByteArray → Nat), g + j = xs.length ∧ TalI h2 m (xs.take j) ((xs.take j).map (·.1)) ks f ∧
  s = ⟨((jnk 3 ((.map m) :: (jnk 3 ((.row 2 (xs.map encStep) none) :: (.v (.int .i64 xs.length)) :: (.v (.int .i64 j)) :: (jnk 37 [])))))), [], h2⟩) xs.length ⟨0, _, [], fun _ => 0, by omega, TalI.nil (upd_same _ _ _), rfl⟩ ?_
 rintro g _ ⟨j, h2, ks, f, hj, hT, rfl⟩
 (repeat (first | refine gO rfl ?_ | ((refine gM zM33 fun K1 hK1 => ?_; simp only [go_sem, ↓reduceIte, reduceCtorEq, nA, nB, nC, nD, nE, nF] <;> and_intros <;> (apply hK1; clear hK1 K1)))))
 refine awp_cond (t := _) rfl (fun h1 => ?_) (fun h1 => ?_)
 ·simp only [decide_eq_true_eq] at h1
  have hjl : j < xs.length := by omega
  have gx : (xs.map encStep).getD j [] = encStep (xs.getD j default) := getD_enc encStep xs j default hjl
  have tx : (xs.take (j + 1)).map (·.1) = (xs.take j).map (·.1) ++ [(xs.getD j default).1] := by rw [take_at xs j hjl]; simp
  have hxb := pos_at hp hjl
  obtain ⟨q, hq⟩ : ∃ q, (xs.getD j default).1 = q := ⟨_, rfl⟩
  obtain ⟨y, hy⟩ : ∃ y, (xs.getD j default).2 = y := ⟨_, rfl⟩
  have gx2 : (xs.map encStep).getD j [] = [.v (.string q), .v (.int .i64 y)] := by rw [gx, encStep, hq, hy]
  rw [hy] at hxb
  rw [hq] at tx
  have hM := hT.map
  clear gx
  (repeat ((refine gQ rfl ?_)))
  refine awp_seq ?_
  refine awp_block ?_
  (repeat (first | refine gQ rfl ?_ | ((refine gM zM33 fun K1 hK1 => ?_; simp only [go_sem, ↓reduceIte, reduceCtorEq, nA, nB, nC, nD, nE, nF, Int.toNat_natCast, gx2] <;> and_intros <;> first | (apply hK1; clear hK1 K1) | (intros; (omega))))))
  refine awp_seq ?_
  refine awp_join (rl false [3, 1, 1, 1, 1, 3, 37]) 1 (fun s => ∃ (h3 : Hp) (ks3 : List ByteArray) (f3 : ByteArray → Nat), q ∈ ks3 ∧ TalI h3 m (xs.take j) ((xs.take (j + 1)).map (·.1)) ks3 f3 ∧
   s = ⟨((jnk 3 ((.map m) :: AV.junk :: ((.loc 0 0) :: AV.junk :: ((.row 2 (xs.map encStep) none) :: (.v (.int .i64 xs.length)) :: (.v (.int .i64 j)) :: (jnk 37 [])))))), [[.v (.string q), .v (.int .i64 y)]], h3⟩) ?_ ?_
  ·by_cases hk : q ∈ ks
   ·have hG := (mget_ptrs f ks q).1 hk
    (repeat (first | refine gO rfl ?_ | ((refine gM zM33 fun K1 hK1 => ?_; simp only [go_sem, ↓reduceIte, reduceCtorEq, nA, nB, nC, nD, nE, nF, hM, hG] <;> and_intros <;> (apply hK1; clear hK1 K1)))))
    refine awp_cond (t := _) rfl (fun h9 => by cases h9) (fun _ => ?_)
    (repeat ((refine gO rfl ?_)))
    exact ⟨_, ks, f, hk, by rw [tx]; exact hT.same hk, rfl⟩
   ·have hG := (mget_ptrs f ks q).2 hk
    (repeat (first | refine gO rfl ?_ | ((refine gM zM33 fun K1 hK1 => ?_; simp only [go_sem, ↓reduceIte, reduceCtorEq, nA, nB, nC, nD, nE, nF, hM, hG] <;> and_intros <;> (apply hK1; clear hK1 K1)))))
    refine awp_cond (t := _) rfl (fun _ => ?_) (fun h9 => by cases h9)
    (repeat (((refine gM zM33 fun K1 hK1 => ?_; simp only [go_sem, ↓reduceIte, reduceCtorEq, nA, nB, nC, nD, nE, nF, hM, hG] <;> and_intros))))
    intro i hi
    have him : m ≠ i := fun e => by rw [← e, hM] at hi; cases hi
    have hMi : ∀ X, upd h2.H i X m = some (AO.map (ptrsL f ks)) := fun X => by rw [upd_other _ _ him]; exact hM
    simp only [hMi]
    refine hK1 _ ?_; clear hK1 K1
    (repeat ((refine gO rfl ?_)))
    have hz := longF_zero (xs := xs.take j) (k := q) (fun e => hk ((hT.mem q).2 e))
    refine ⟨_, ks ++ [q], fun k => if k = q then i else f k, by simp, ?_, rfl⟩
    rw [tx]
    refine hT.born hk hi ?_ ?_ fun n h5 h6 => ?_
    ·show upd _ m _ m = _
     rw [upd_same, mset_ptrs hk]
    ·show upd _ m _ i = _
     rw [upd_other _ _ (Ne.symm him), upd_same, tCell, hz.1, hz.2]; rfl
    ·show upd _ m _ n = _
     rw [upd_other _ _ h6, upd_other _ _ h5]
  ·rintro _ ⟨h3, ks3, f3, hk3, hT3, rfl⟩
   have hM3 := hT3.map
   have hG3 := (mget_ptrs f3 ks3 q).1 hk3
   have hC3 := hT3.cell q hk3
   have hne := hT3.ne q hk3
   rw [tCell] at hC3
   have hM4 : ∀ X, upd h3.H (f3 q) X m = some (AO.map (ptrsL f3 ks3)) := fun X => by rw [upd_other _ _ (Ne.symm hne)]; exact hM3
   have hcl := cntF_le (xs.take j) q
   have hlj : (xs.take j).length ≤ 5000 := by rw [List.length_take]; omega
   have hlb := longF_bd (xs := xs.take j) (fun x hx => hp x (List.mem_of_mem_take hx)) q
   obtain ⟨cn, hcn⟩ : ∃ cn, cntF (xs.take j) q = cn := ⟨_, rfl⟩
   obtain ⟨lg, hlg⟩ : ∃ lg, longF (xs.take j) q = lg := ⟨_, rfl⟩
   rw [hcn, hlg] at hC3
   rw [hcn] at hcl
   rw [hlg] at hlb
   (repeat (first | refine gO rfl ?_ | ((first | refine gM zM33 ?_ | (with_reducible refine wM ?_ ?_) | ((with_reducible refine xR ?_); refine uE 8 zM33 zP10E zP10P 47 rfl (by kernel_rfl) ?_)) <;> ((try with_reducible intro K1 hK1); simp only [go_sem, ↓reduceIte, reduceCtorEq, nA, nB, nC, nD, nE, nF, hM3, hG3, hC3, hM4, upd_same] <;> and_intros <;> first | (apply hK1; clear hK1 K1) | (intros; (omega))))))
   refine ⟨g - 1, by omega, j + 1, _, ks3, f3, by omega, hT3.more hjl hq hk3 ?_ (fun i hi => upd_other _ _ hi), rfl⟩
   show upd _ (f3 q) _ (f3 q) = _
   rw [upd_same, tCell, cntF_yes hjl hq, longF_yes hjl hq, hcn, hlg, hy]; rfl
 ·simp only [decide_eq_false_iff_not] at h1
  have hjl : j = xs.length := by omega
  subst hjl
  rw [List.take_length] at *
  (repeat (first | refine gO rfl ?_ | ((refine gM zM33 fun K1 hK1 => ?_; simp only [go_sem, ↓reduceIte, reduceCtorEq, nA, nB, nC, nD, nE, nF] <;> and_intros <;> (apply hK1; clear hK1 K1)))))
  simp only [Tryz.results78, go_sem, ↓reduceIte, reduceCtorEq, nA, nB, nC, nD, nE, nF]
  exact ⟨_, _, Weak.refl _, Hp.le.refl _, m, ks, f, rfl, hT⟩
def IZ : Nat → LT → Prop
 | 0, _ => True
 | d + 1, .mk _ item _ _ kids _ => item.size ≤ 2 ∧ ∀ k ∈ kids, IZ d k
theorem IZ.dflt : ∀ d : Nat, IZ d default
 | 0 => trivial
 | d + 1 => show IZ (d + 1) (.mk 0 default 0 0 [] []) from ⟨Nat.zero_le _, fun k hk => (by cases hk)⟩
theorem iz_of : ∀ (d : Nat) (t : LT), KC d t → IZ d t
 | 0, _, _ => trivial
 | d + 1, .mk kind item long many kids shares, h => ⟨h.2.1, fun k hk => iz_of d k (h.2.2.2.2.2.2.2 k hk)⟩
theorem pass_item : ∀ (d : Nat) (t : LT) (s : PS), IZ d t → ∀ x ∈ (passU d t s).2, x.1.size ≤ 2
 | 0, _, _, _ => by simp [passU]
 | d + 1, .mk kind item long many kids shares, .mk p cs ks, hi => by
  rw [passU_succ]
  have hk : ∀ i, IZ d (kids.getD i default) := fun i => by
   by_cases h : i < kids.length
   ·exact hi.2 _ (getD_mem' kids i default h)
   ·rw [List.getD_eq_getElem?_getD, List.getElem?_eq_none (by omega)]; exact IZ.dflt d
  have key : ∀ (L : List Nat) (a : (List Int × List PS) × List (ByteArray × Int)), (∀ x ∈ a.2, x.1.size ≤ 2) → ∀ x ∈ (L.foldl (stepU (passU d) kids) a).2, x.1.size ≤ 2 := fun L => by
   induction L with
   | nil => intro a h; exact h
   | cons i L ih =>
    intro a h
    refine ih _ (fun x hx => ?_)
    rcases List.mem_append.1 hx with h9 | h9
    ·exact h x h9
    ·exact pass_item d _ _ (hk i) x h9
  refine key _ _ ?_
  split
  ·intro x hx
   rw [List.mem_singleton.1 hx]
   exact hi.1
  ·simp
theorem passes_item {d : Nat} {t : LT} (h : IZ d t) : ∀ n, ∀ x ∈ (passesU d t n).2, x.1.size ≤ 2
 | 0 => by simp [passesU]
 | n + 1 => fun x hx => by
  rcases List.mem_append.1 hx with h9 | h9
  ·exact passes_item h n x h9
  ·exact pass_item d t _ h x h9
structure GoodS (xs : List (ByteArray × Int)) : Prop where
 ne : xs ≠ []
 len : xs.length ≤ 5000
 pos : Pos xs
 item : ∀ x ∈ xs, x.1.size ≤ 2
theorem rd_good {d : Nat} {t : LT} (hb : KC d t) (h : rdE d t = 0) : GoodS (rdS d t) := by
 unfold rdE at h
 unfold rdS
 by_cases hf : faultF t = 0
 ·rw [if_pos hf] at h ⊢
  have hp := part_of_fault hf
  have hv := vl_of d t hb hp
  refine ⟨fun e => ?_, roundS_len d t, roundS_long (il_of d t hp), fun x hx => ?_⟩
  ·have := roundS_pos hv h
   rw [e] at this; simp at this
  ·unfold roundS at hx
   split at hx
   ·cases hx
   ·exact passes_item (iz_of d t hb) _ x hx
 ·rw [if_neg hf] at h; exact absurd h hf
theorem rd_bad2 {d : Nat} {t : LT} (h : rdE d t ≠ 0) : rdS d t = [] := (rd_bad h).1
abbrev zP11E : List Nat := [0, 1, 2, 3, 4, 5, 6, 7, 8, 9, 10, 12, 13, 14, 15, 16, 17, 18, 19]
abbrev zP11P : List (Nat × List Nat × List Nat) := [(11, [14, 17, 19], []), (20, [], [21, 22]), (23, [], []), (24, [], [])]
attribute [go_sem] zP11E zP11P
theorem g_at (n : Int) (xs : List (ByteArray × Int)) (x : Int) (h : Hp) (hg : GoodS xs) (h0 : 0 ≤ x) (h1 : x ≤ 1000000000000) : ACalls Tryz.prog 85 [.agg [.v (.int .i64 n), .row 2 (xs.map encStep) none, .v (.int .i64 (sumL xs))], .v (.int .i64 x)] h
  (fun r h' => r = .tup [.v (.int .i64 (posF xs (x.tmod (sumL xs)) : Nat)), .v (.int .i64 (x.tmod (sumL xs) - preL xs (posF xs (x.tmod (sumL xs)))))] ∧ h' = h) := by
 have hs := sumL_pos hg.pos hg.ne
 have hgl := hg.len
 have hr : 0 ≤ x.tmod (sumL xs) ∧ x.tmod (sumL xs) < sumL xs := ⟨Int.tmod_nonneg _ h0, Int.tmod_lt_of_pos _ (by omega)⟩
 have hsb := sumL_bd hg.pos
 have hal := preL_all xs
 have hne : (sumL xs = 0) = False := by simp; omega
 refine gE Tryz.func85 rfl (by kernel_rfl) 30 rfl fun c => ?_
 (repeat (first | refine gO rfl ?_ | (refine gM zM34 fun K1 hK1 => ?_; simp only [go_sem, ↓reduceIte, reduceCtorEq, nA, nB, nC, nD, nE, nF, hne] <;> and_intros <;> (apply hK1; clear hK1 K1))))
 generalize x.tmod (sumL xs) = rr at *
 refine awp_loopC (rl false [2, 1, 3, 1, 7, 3, 15]) 0 (fun g s => ∃ j : Nat, g + j = xs.length ∧ preL xs j ≤ rr ∧
  s = ⟨(AV.junk :: AV.junk :: ((.ref [.v (.int .i64 n), .row 2 (xs.map encStep) none, .v (.int .i64 (sumL xs))] 0) :: (jnk 3 ((.v (.int .i64 (rr - preL xs j))) :: (jnk 7 ((.row 2 (xs.map encStep) none) :: (.v (.int .i64 xs.length)) :: (.v (.int .i64 j)) :: (jnk 15 []))))))), [], h⟩) xs.length ⟨0, by omega, by rw [preL_zero]; omega, by rw [preL_zero, Int.sub_zero]; rfl⟩ ?_
 rintro g _ ⟨j, hj, hle, rfl⟩
 (repeat (first | refine gO rfl ?_ | (refine gM zM34 fun K1 hK1 => ?_; simp only [go_sem, ↓reduceIte, reduceCtorEq, nA, nB, nC, nD, nE, nF] <;> and_intros <;> (apply hK1; clear hK1 K1))))
 refine awp_cond (t := _) rfl (fun h2 => ?_) (fun h2 => ?_)
 ·simp only [decide_eq_true_eq] at h2
  have hjl : j < xs.length := by omega
  have gx : (xs.map encStep).getD j [] = encStep (xs.getD j default) := getD_enc encStep xs j default hjl
  have hpa := pos_at hg.pos hjl
  have hps := preL_succ xs j hjl
  have hpb := preL_bd hg.pos j (by omega)
  generalize xs.getD j default = y at gx hpa hps
  (repeat (first | refine gO rfl ?_ | (refine gM zM34 fun K1 hK1 => ?_; simp only [go_sem, ↓reduceIte, reduceCtorEq, nA, nB, nC, nD, nE, nF, Int.toNat_natCast, gx, encStep] <;> and_intros <;> first | (apply hK1; clear hK1 K1) | (intros; (omega)))))
  refine awp_cond (t := _) rfl (fun h3 => ?_) (fun h3 => ?_)
  ·simp only [decide_eq_true_eq] at h3
   (repeat (first | refine gO rfl ?_ | (refine gM zM34 fun K1 hK1 => ?_; simp only [go_sem, ↓reduceIte, reduceCtorEq, nA, nB, nC, nD, nE, nF] <;> and_intros <;> (apply hK1; clear hK1 K1))))
   simp only [Tryz.results85, go_sem, ↓reduceIte, reduceCtorEq, nA, nB, nC, nD, nE, nF]
   have hpf := posF_of hg.pos hjl hle (show rr < preL xs (j + 1) by omega)
   exact ⟨_, _, Weak.refl _, Hp.le.refl _, by rw [hpf], rfl⟩
  ·simp only [decide_eq_false_iff_not] at h3
   (repeat (first | refine gO rfl ?_ | (refine gM zM34 fun K1 hK1 => ?_; simp only [go_sem, ↓reduceIte, reduceCtorEq, nA, nB, nC, nD, nE, nF] <;> and_intros <;> first | (apply hK1; clear hK1 K1) | (intros; (omega)))))
   refine ⟨g - 1, by omega, j + 1, by omega, by omega, ?_⟩
   rw [hps, ← Int.sub_sub]; rfl
 ·simp only [decide_eq_false_iff_not] at h2
  have hjl : j = xs.length := by omega
  rw [hjl, hal] at hle
  omega
abbrev zP12E : List Nat := [0, 1, 2, 3, 4, 5, 6]
abbrev zP12P : List (Nat × List Nat × List Nat) := []
abbrev zP13E : List Nat := [0, 1, 2, 3, 4, 5]
abbrev zP13P : List (Nat × List Nat × List Nat) := []
attribute [go_sem] zP12E zP12P zP13E zP13P
theorem g_unseen (xs : List (ByteArray × Int)) (a x : Int) (h : Hp) (hg : GoodS xs) (h0 : 0 ≤ a ∧ a ≤ x) (h1 : x ≤ 1000000000000) : ACalls Tryz.prog 154 [.row 2 (xs.map encStep) none, .v (.int .i64 a), .v (.int .i64 x)] h
  (fun r h' => r = .tup [.v (.int .i64 ((posL xs ((x - a).tmod (sumL xs))).1 : Nat)), .v (.int .i64 (posL xs ((x - a).tmod (sumL xs))).2)] ∧ h' = h) := by
 have hs := sumL_pos hg.pos hg.ne
 have hgl := hg.len
 have hr := rest_bd hg.pos hg.ne h0.2
 have hsb := sumL_bd hg.pos
 have hal := preL_all xs
 have hne : (sumL xs = 0) = False := by simp; omega
 refine gE Tryz.func154 rfl (by kernel_rfl) 52 rfl fun c => ?_
 (repeat (first | refine gO rfl ?_ | ((refine gM zM35 fun K1 hK1 => ?_; simp only [go_sem, ↓reduceIte, reduceCtorEq, nA, nB, nC, nD, nE, nF] <;> and_intros <;> (apply hK1; clear hK1 K1)))))
 refine awp_loopC (rl false [0, 3, 5, 1, 5, 3, 38]) 0 (fun g s => ∃ j : Nat, g + j = xs.length ∧
  s = ⟨((.row 2 (xs.map encStep) none) :: (.v (.int .i64 a)) :: (.v (.int .i64 x)) :: (jnk 5 ((.v (.int .i64 (preL xs j))) :: (jnk 5 ((.row 2 (xs.map encStep) none) :: (.v (.int .i64 xs.length)) :: (.v (.int .i64 j)) :: (jnk 38 [])))))), [], h⟩) xs.length ⟨0, by omega, rfl⟩ ?_
 rintro g _ ⟨j, hj, rfl⟩
 have hpb := preL_bd hg.pos j (by omega)
 (repeat (first | refine gO rfl ?_ | ((refine gM zM35 fun K1 hK1 => ?_; simp only [go_sem, ↓reduceIte, reduceCtorEq, nA, nB, nC, nD, nE, nF] <;> and_intros <;> (apply hK1; clear hK1 K1)))))
 refine awp_cond (t := _) rfl (fun h2 => ?_) (fun h2 => ?_)
 ·simp only [decide_eq_true_eq] at h2
  have hjl : j < xs.length := by omega
  have gx : (xs.map encStep).getD j [] = encStep (xs.getD j default) := getD_enc encStep xs j default hjl
  have hpa := pos_at hg.pos hjl
  have hps := preL_succ xs j hjl
  generalize xs.getD j default = y at gx hpa hps
  (repeat (first | refine gO rfl ?_ | ((refine gM zM35 fun K1 hK1 => ?_; simp only [go_sem, ↓reduceIte, reduceCtorEq, nA, nB, nC, nD, nE, nF, Int.toNat_natCast, gx, encStep] <;> and_intros <;> first | (apply hK1; clear hK1 K1) | (intros; (omega))))))
  exact ⟨g - 1, by omega, j + 1, by omega, by rw [hps]; rfl⟩
 ·simp only [decide_eq_false_iff_not] at h2
  have hjl : j = xs.length := by omega
  subst hjl
  rw [hal] at hpb ⊢
  clear hj h2
  (repeat (first | refine gO rfl ?_ | ((refine gM zM35 fun K1 hK1 => ?_; simp only [go_sem, ↓reduceIte, reduceCtorEq, nA, nB, nC, nD, nE, nF, hne] <;> and_intros <;> first | (apply hK1; clear hK1 K1) | (intros; (omega))))))
  generalize (x - a).tmod (sumL xs) = rr at *
  refine awp_loopC (rl false [11, 1, 18, 3, 22]) 0 (fun g2 s => ∃ j : Nat, g2 + j = xs.length ∧ preL xs j ≤ rr ∧
   s = ⟨((jnk 11 ((.v (.int .i64 (rr - preL xs j))) :: (jnk 18 ((.row 2 (xs.map encStep) none) :: (.v (.int .i64 xs.length)) :: (.v (.int .i64 j)) :: (jnk 22 [])))))), [], h⟩) xs.length ⟨0, by omega, by rw [preL_zero]; omega, by rw [preL_zero, Int.sub_zero]; rfl⟩ ?_
  rintro g2 _ ⟨j, hj, hle, rfl⟩
  (repeat (first | refine gO rfl ?_ | ((refine gM zM35 fun K1 hK1 => ?_; simp only [go_sem, ↓reduceIte, reduceCtorEq, nA, nB, nC, nD, nE, nF] <;> and_intros <;> (apply hK1; clear hK1 K1)))))
  refine awp_cond (t := _) rfl (fun h2 => ?_) (fun h2 => ?_)
  ·simp only [decide_eq_true_eq] at h2
   have hjl : j < xs.length := by omega
   have gx : (xs.map encStep).getD j [] = encStep (xs.getD j default) := getD_enc encStep xs j default hjl
   have hpa := pos_at hg.pos hjl
   have hps := preL_succ xs j hjl
   have hpb := preL_bd hg.pos j (by omega)
   have hpf := fun e => posF_of hg.pos hjl hle (r := rr) e
   obtain ⟨y, hy⟩ : ∃ y, y = xs.getD j default := ⟨_, rfl⟩
   rw [← hy] at gx hpa hps
   (repeat (first | refine gO rfl ?_ | ((refine gM zM35 fun K1 hK1 => ?_; simp only [go_sem, ↓reduceIte, reduceCtorEq, nA, nB, nC, nD, nE, nF, Int.toNat_natCast, gx, encStep] <;> and_intros <;> first | (apply hK1; clear hK1 K1) | (intros; (omega))))))
   refine awp_cond (t := _) rfl (fun h3 => ?_) (fun h3 => ?_)
   ·simp only [decide_eq_true_eq] at h3
    (repeat (first | refine gO rfl ?_ | ((((with_reducible refine xS ?_); refine uD 12 zM35 zP12E zP12P 55 rfl (by kernel_rfl) ?_)) <;> ((try with_reducible intro K1 hK1); simp only [go_sem, ↓reduceIte, reduceCtorEq, nA, nB, nC, nD, nE, nF] <;> and_intros <;> first | (apply hK1; clear hK1 K1) | (intros; (omega))))))
    simp only [Tryz.results154, go_sem, ↓reduceIte, reduceCtorEq, nA, nB, nC, nD, nE, nF]
    exact ⟨_, _, Weak.refl _, Hp.le.refl _, by rw [posL, hpf (by omega), longA, ← hy], rfl⟩
   ·simp only [decide_eq_false_iff_not] at h3
    (repeat (first | refine gO rfl ?_ | ((refine gM zM35 fun K1 hK1 => ?_; simp only [go_sem, ↓reduceIte, reduceCtorEq, nA, nB, nC, nD, nE, nF] <;> and_intros <;> first | (apply hK1; clear hK1 K1) | (intros; (omega))))))
    refine ⟨g2 - 1, by omega, j + 1, by omega, by omega, ?_⟩
    rw [hps, ← Int.sub_sub]; rfl
  ·simp only [decide_eq_false_iff_not] at h2
   have hjl : j = xs.length := by omega
   rw [hjl, hal] at hle
   omega
abbrev zP14E : List Nat := [0, 1, 2, 3, 4, 5, 6, 7, 8, 9, 10, 11, 12, 13]
abbrev zP14P : List (Nat × List Nat × List Nat) := [(14, [10], [15, 16]), (17, [], [])]
abbrev zP15E : List Nat := [0, 1, 2, 3, 4, 5, 6, 7, 8]
abbrev zP15P : List (Nat × List Nat × List Nat) := []
abbrev zP16E : List Nat := [0, 1, 2, 3, 4, 5, 6, 7, 8, 9, 10]
abbrev zP16P : List (Nat × List Nat × List Nat) := [(11, [], [])]
abbrev zP17E : List Nat := [0, 1, 2, 3, 4, 5]
abbrev zP17P : List (Nat × List Nat × List Nat) := []
attribute [go_sem] zP14E zP14P zP15E zP15P zP16E zP16P zP17E zP17P
def encD (x : Pl × Bool) : List AV := [.v (.string ⟨#[]⟩), .v (.string x.1.1), .v (.int .i64 x.1.2.1), .v (.int .i64 x.1.2.2), .v (.bool x.2)]
theorem g_add (q : ByteArray) (a b : Int) (br : Bool) (U : List (Pl × Bool)) (k ia : Nat) (h : Hp) (h1 : h.H ia = some (.cells [.row 5 (U.map encD) (some k)])) (h2 : h.T k = some (.tail U.length)) (hab : a < b) (hb : 0 ≤ a ∧ b ≤ 1000000000000) (hU : U.length ≤ 100000) :
  ACalls Tryz.prog 153 [.v (.string q), .v (.int .i64 a), .v (.int .i64 b), .v (.bool br), .ptr ia 0] h (fun r h' => r = .tup [] ∧ h' = ⟨upd h.H ia (some (.cells [.row 5 ((U ++ [((q, a, b - a), br)]).map encD) (some k)])), upd h.T k (some (.tail (U ++ [((q, a, b - a), br)]).length))⟩) := by
 have hl : (U.map encD).length = U.length := List.length_map _
 have hd : decide (a < b) = true := by simpa using hab
 refine gE Tryz.func153 rfl (by kernel_rfl) 18 rfl fun c => ?_
 (repeat (first | refine gO rfl ?_ | (refine gR fun K1 hK1 => ?_; simp only [go_sem, ↓reduceIte, reduceCtorEq, nA, nB, nC, nD, nE, nF, hd] <;> and_intros <;> (apply hK1; clear hK1 K1))))
 refine awp_cond (t := _) rfl (fun _ => ?_) (fun h9 => by cases h9)
 (repeat (first | refine gO rfl ?_ | (refine gR fun K1 hK1 => ?_; simp only [go_sem, ↓reduceIte, reduceCtorEq, nA, nB, nC, nD, nE, nF, h1, h2, hl] <;> and_intros <;> first | (apply hK1; clear hK1 K1) | (intros; first | omega | decide))))
 simp only [Tryz.results153, go_sem, ↓reduceIte, reduceCtorEq, nA, nB, nC, nD, nE, nF]
 refine ⟨_, _, Weak.refl _, Hp.le.refl _, rfl, ?_⟩
 rw [List.map_append, List.length_append]; rfl
structure RaH (h : Hp) (ia k : Nat) (V : List (Pl × Bool)) : Prop where
 a : h.H ia = some (.cells [.row 5 (V.map encD) (some k)])
 t : h.T k = some (.tail V.length)
theorem RaH.push {h : Hp} {ia k : Nat} {V : List (Pl × Bool)} (x : Pl × Bool) : RaH ⟨upd h.H ia (some (.cells [.row 5 ((V ++ [x]).map encD) (some k)])), upd h.T k (some (.tail (V ++ [x]).length))⟩ ia k (V ++ [x]) := ⟨upd_same _ _ _, upd_same _ _ _⟩
theorem headT_le : ∀ {cs : List Pl} {now w1 : Int}, Row cs now w1 → headT cs w1 ≤ w1
 | [], _, _, _ => Int.le_refl _
 | c :: cs, now, w1, h => by have := h.2.1; have := h.2.2.le; simp only [headT]; omega
theorem Row.adv {x : Int} : ∀ {cs : List Pl} {now w1 : Int}, Row cs now w1 → x ≤ headT cs w1 → Row cs x w1
 | [], _, _, _, hx => hx
 | _ :: _, _, _, h, hx => ⟨hx, h.2⟩
theorem g_runAll (xs : List (ByteArray × Int)) (w0 w1 m : Int) (bs : List Wn) (h : Hp) (hg : GoodS xs) (hw : 0 ≤ w0 ∧ w0 ≤ w1 ∧ w1 ≤ 345686400000) (hbl : bs.length ≤ 500) (hb : Brk bs 0) (hm : m = 1 ∨ m = 2 ∨ m = 3 ∨ m = 4) :
  ACalls Tryz.prog 101 [.row 2 (xs.map encStep) none, .agg [.v (.int .i64 w0), .v (.int .i64 w1)], .row 3 (bs.map encW) none, .v (.int .i64 m)] h
   (fun r _ => ∃ V R, V ++ R = runE xs w0 w1 m (cutF w0 w1 bs) (0, longA xs 0) w0 ∧ (V.length ≤ 3000 → R = []) ∧ r = .tup [.row 5 (V.map encD) none, .v (.bool (decide ((V.length : Int) ≤ 3000)))]) := by
 have hgl := hg.len
 have hx0 := List.length_pos_iff.2 hg.ne
 generalize hU : runE xs w0 w1 m (cutF w0 w1 bs) (0, longA xs 0) w0 = U
 refine gE Tryz.func101 rfl (by kernel_rfl) 201 rfl fun c => ?_
 (repeat (first | refine gQ rfl ?_ | ((refine gM zM36 fun K1 hK1 => ?_; simp only [go_sem, ↓reduceIte, reduceCtorEq, nA, nB, nC, nD, nE, nF] <;> and_intros <;> (apply hK1; clear hK1 K1)))))
 refine awp_seq ?_
 refine awp_own 10 3 rfl ⟨rfl, rfl⟩ (fun k hk => ?_)
 replace hk : h.T k = none := hk
 (repeat (first | refine gO rfl ?_ | ((refine gM zM36 fun K1 hK1 => ?_; simp only [go_sem, ↓reduceIte, reduceCtorEq, nA, nB, nC, nD, nE, nF, List.length_map] <;> and_intros <;> (apply hK1; clear hK1 K1)))))
 refine awp_loopC (rl false [0, 1, 2, 1, 1, 1, 4, 1, 9, 3, 182]) 0 (fun g s => ∃ (j : Nat), g + j = bs.length ∧
  s = ⟨((.row 2 (xs.map encStep) none) :: AV.junk :: AV.junk :: ((.v (.int .i64 m)) :: AV.junk :: ((.ref [.v (.int .i64 w0), .v (.int .i64 w1)] 0) :: (jnk 4 ((.row 3 ((cutF w0 w1 (bs.take j)).map encW) (some k)) :: (jnk 9 ((.row 3 (bs.map encW) none) :: (.v (.int .i64 bs.length)) :: (.v (.int .i64 j)) :: (jnk 182 [])))))))), [], ⟨h.H, upd h.T k (some (.tail (cutF w0 w1 (bs.take j)).length))⟩⟩) bs.length ⟨0, by omega, rfl⟩ ?_
 rintro g _ ⟨j, hj, rfl⟩
 have hTq : upd h.T k (some (TO.tail (cutF w0 w1 (bs.take j)).length)) k = some (.tail (cutF w0 w1 (bs.take j)).length) := upd_same _ _ _
 have hlc : ((cutF w0 w1 (bs.take j)).map encW).length = (cutF w0 w1 (bs.take j)).length := List.length_map _
 have hlb : (cutF w0 w1 (bs.take j)).length ≤ 500 := by
  have h1 := List.length_filter_le (fun c : Pl => decide (c.2.1 < c.2.2)) ((bs.take j).map (cutB w0 w1))
  have h2 := List.length_take_le j bs
  rw [List.length_map] at h1
  unfold cutF; omega
 (repeat (first | refine gO rfl ?_ | ((refine gM zM36 fun K1 hK1 => ?_; simp only [go_sem, ↓reduceIte, reduceCtorEq, nA, nB, nC, nD, nE, nF] <;> and_intros <;> (apply hK1; clear hK1 K1)))))
 refine awp_cond (t := _) rfl (fun h2 => ?_) (fun h2 => ?_)
 ·simp only [decide_eq_true_eq] at h2
  have hjl : j < bs.length := by omega
  have gx : (bs.map encW).getD j [] = [.v (.string (bs.getD j default).1), .v (.int .i64 (bs.getD j default).2.1), .v (.int .i64 (bs.getD j default).2.2)] := getD_enc encW bs j default hjl
  have htk : cutF w0 w1 (bs.take (j + 1)) = cutF w0 w1 (bs.take j) ++ cutF w0 w1 [bs.getD j default] := by
   rw [List.take_add_one, List.getElem?_eq_getElem hjl, List.getD_eq_getElem?_getD, List.getElem?_eq_getElem hjl]
   unfold cutF
   rw [List.map_append, List.filter_append]; rfl
  rw [cutF_cons] at htk
  generalize bs.getD j default = x at gx htk
  (repeat (first | refine gO rfl ?_ | ((first | refine gM zM36 ?_ | (with_reducible refine wM ?_ ?_) | ((with_reducible refine xS ?_); refine uD 5 zM36 zP14E zP14P 205 rfl (by kernel_rfl) ?_)) <;> ((try with_reducible intro K1 hK1); simp only [go_sem, ↓reduceIte, reduceCtorEq, nA, nB, nC, nD, nE, nF, Int.toNat_natCast, gx] <;> and_intros <;> first | (apply hK1; clear hK1 K1) | (intros; first | omega | (simp_all <;> omega))))))
  refine awp_cond (t := _) rfl (fun h3 => ?_) (fun h3 => ?_)
  ·simp only [decide_eq_true_eq] at h3
   rw [if_pos h3] at htk
   (repeat (first | refine gO rfl ?_ | ((refine gM zM36 fun K1 hK1 => ?_; simp only [go_sem, ↓reduceIte, reduceCtorEq, nA, nB, nC, nD, nE, nF, hTq, hlc] <;> and_intros <;> first | (apply hK1; clear hK1 K1) | (intros; first | omega | decide)))))
   refine ⟨g - 1, by omega, j + 1, by omega, ?_⟩
   rw [htk, List.map_append, List.length_append]; rfl
  ·simp only [decide_eq_false_iff_not] at h3
   rw [if_neg h3] at htk
   (repeat (first | refine gO rfl ?_ | ((refine gM zM36 fun K1 hK1 => ?_; simp only [go_sem, ↓reduceIte, reduceCtorEq, nA, nB, nC, nD, nE, nF] <;> and_intros <;> first | (apply hK1; clear hK1 K1) | (intros; (omega))))))
   refine ⟨g - 1, by omega, j + 1, by omega, ?_⟩
   rw [htk, show cutF w0 w1 [] = [] from rfl, List.append_nil]; rfl
 ·simp only [decide_eq_false_iff_not] at h2
  have hjl : j = bs.length := by omega
  subst hjl
  rw [List.take_length] at *
  have hrow : Row (cutF w0 w1 bs) w0 w1 := row_cut hb hw.2.1 (by omega)
  (repeat (first | refine gQ rfl ?_ | ((refine gM zM36 fun K1 hK1 => ?_; simp only [go_sem, ↓reduceIte, reduceCtorEq, nA, nB, nC, nD, nE, nF] <;> and_intros))))
  intro ia hia
  refine hK1 _ ?_; clear hK1 K1
  have gx : (xs.map encStep).getD 0 [] = encStep (xs.getD 0 default) := getD_enc encStep xs 0 default hx0
  have hl0 : (xs.getD 0 default).2 = longA xs 0 := rfl
  have hh0 : upd h.H ia (some (AO.cells [.v (.slice none 0 0)])) ia = some (AO.cells [.v (.slice none 0 0)]) := upd_same _ _ _
  generalize xs.getD 0 default = x0 at gx hl0
  (repeat (first | refine gQ rfl ?_ | ((first | refine gM zM36 ?_ | ((with_reducible refine xS ?_); refine uD 11 zM36 zP15E zP15P 205 rfl (by kernel_rfl) ?_)) <;> ((try with_reducible intro K1 hK1); simp only [go_sem, ↓reduceIte, reduceCtorEq, nA, nB, nC, nD, nE, nF, Int.toNat_zero, gx, encStep, hl0] <;> and_intros <;> first | (apply hK1; clear hK1 K1) | (intros; first | omega | decide)))))
  refine awp_ownRow ia 0 5 (cs := [.v (.slice none 0 0)]) (upd_same _ _ _) rfl (fun k5 hk5 => ?_)
  clear hk5 gx hl0 hh0 hia hj h2 hTq hlc hlb
  (repeat ((refine gO rfl ?_)))
  refine awp_loopC (rl false [0, 1, 2, 1, 1, 1, 4, 1, 2, 5, 187]) 0 (fun g s => ∃ (now : Int) (q : Nat × Int) (cs : List Pl) (V : List (Pl × Bool)) (kk : Option Nat) (h3 : Hp), g = (w1 - now).toNat ∧ WfS xs q ∧ Row cs now w1 ∧ (w0 ≤ now ∧ now ≤ w1) ∧ cs.length ≤ 500 ∧ V.length ≤ 3502 ∧ V ++ runE xs w0 w1 m cs q now = U ∧ RaH h3 ia k5 V ∧
   s = ⟨((.row 2 (xs.map encStep) none) :: AV.junk :: AV.junk :: ((.v (.int .i64 m)) :: AV.junk :: ((.ref [.v (.int .i64 w0), .v (.int .i64 w1)] 0) :: (jnk 4 ((.row 3 (cs.map encW) kk) :: AV.junk :: AV.junk :: ((.ptr ia 0) :: (.fn 153 [.ptr ia 0]) :: (.v (.int .i64 now)) :: (.v (.int .i64 q.1)) :: (.v (.int .i64 q.2)) :: (jnk 187 []))))))), [], h3⟩) (w1 - w0).toNat
   ?_ ?_
  ·refine ⟨w0, (0, longA xs 0), cutF w0 w1 bs, [], some k, ⟨upd (upd h.H ia (some (.cells [.v (.slice none 0 0)]))) ia (some (.cells [.row 5 [] (some k5)])), upd (upd h.T k (some (.tail (cutF w0 w1 bs).length))) k5 (some (.tail 0))⟩, rfl, wf_first hg.pos hg.ne, hrow, by omega, ?_, by simp, hU, ⟨upd_same _ _ _, upd_same _ _ _⟩, rfl⟩
   have h1 := List.length_filter_le (fun c : Pl => decide (c.2.1 < c.2.2)) (bs.map (cutB w0 w1))
   rw [List.length_map] at h1
   unfold cutF; omega
  rintro g _ ⟨now, q, cs, V, kk, h3, hgw, hq, hr, hn, hcl, hVl, HV, hH, rfl⟩
  have e1 := hH.a
  have e2 := hH.t
  have e3 : (V.map encD).length = V.length := List.length_map _
  (repeat (first | refine gO rfl ?_ | ((refine gM zM36 fun K1 hK1 => ?_; simp only [go_sem, ↓reduceIte, reduceCtorEq, nA, nB, nC, nD, nE, nF, e1, e3] <;> and_intros <;> (apply hK1; clear hK1 K1)))))
  refine awp_cond (t := _) rfl (fun h2 => ?_) (fun h2 => ?_)
  ·simp only [Bool.and_eq_true, decide_eq_true_eq] at h2
   (repeat ((refine gQ rfl ?_)))
   refine awp_seqJ (rl false [0, 1, 2, 1, 1, 1, 4, 1, 2, 5, 187]) 0 (fun s => now < headT cs w1 ∧
    s = ⟨((.row 2 (xs.map encStep) none) :: AV.junk :: AV.junk :: ((.v (.int .i64 m)) :: AV.junk :: ((.ref [.v (.int .i64 w0), .v (.int .i64 w1)] 0) :: (jnk 4 ((.row 3 (cs.map encW) kk) :: AV.junk :: AV.junk :: ((.ptr ia 0) :: (.fn 153 [.ptr ia 0]) :: (.v (.int .i64 now)) :: (.v (.int .i64 q.1)) :: (.v (.int .i64 q.2)) :: (jnk 187 []))))))), [], h3⟩) ?_ ?_
   ·cases cs with
    | nil =>
     have hd0 : decide ((0 : Int) < ((0 : Nat) : Int)) = false := by decide
     (repeat (((refine gM zM36 fun K1 hK1 => ?_; simp only [go_sem, ↓reduceIte, reduceCtorEq, nA, nB, nC, nD, nE, nF, List.map_nil, List.length_nil, hd0, Int.toNat_zero, List.getD_nil] <;> and_intros))))
     refine ⟨.v (.bool true), rfl, hK1 _ ?_⟩; clear hK1 K1
     (repeat ((refine gO rfl ?_)))
     refine awp_cond (t := _) rfl (fun h9 => by cases h9) (fun _ => ?_)
     (repeat ((refine gO rfl ?_)))
     exact ⟨h2.1, rfl⟩
    | cons cc cs =>
     have hd0 : decide ((0 : Int) < ((cs.length + 1 : Nat) : Int)) = true := by simp only [decide_eq_true_eq]; omega
     have gp : ((cc :: cs).map encW).getD 0 [] = [.v (.string cc.1), .v (.int .i64 cc.2.1), .v (.int .i64 cc.2.2)] := rfl
     have hln : ((cc :: cs).map encW).length = cs.length + 1 := by simp
     (repeat (first | refine gO rfl ?_ | ((refine gM zM36 fun K1 hK1 => ?_; simp only [go_sem, ↓reduceIte, reduceCtorEq, nA, nB, nC, nD, nE, nF, hd0, Int.toNat_zero, gp, hln] <;> and_intros <;> first | (apply hK1; clear hK1 K1) | (intros; first | omega | decide | (simp_all <;> omega))))))
     refine awp_cond (t := _) rfl (fun h5 => ?_) (fun h5 => ?_)
     ·simp only [beq_iff_eq, decide_eq_true_eq] at h5
      clear hd0 gp hln
      refine awp_seqJ (rl false [0, 1, 2, 1, 1, 1, 4, 1, 2, 5, 187]) 0 (fun s => ∃ (now2 : Int) (cs2 : List Pl) (V2 : List (Pl × Bool)) (k2 : Option Nat) (h4 : Hp), Row cs2 now2 w1 ∧ (now < now2 ∧ now2 ≤ w1) ∧ cs2.length ≤ 500 ∧ V2.length ≤ 3502 ∧ V2 ++ runE xs w0 w1 m cs2 (goOnF xs w0 m q now2) now2 = U ∧ RaH h4 ia k5 V2 ∧
       s = ⟨((.row 2 (xs.map encStep) none) :: AV.junk :: AV.junk :: ((.v (.int .i64 m)) :: AV.junk :: ((.ref [.v (.int .i64 w0), .v (.int .i64 w1)] 0) :: (jnk 4 ((.row 3 (cs2.map encW) k2) :: AV.junk :: AV.junk :: ((.ptr ia 0) :: (.fn 153 [.ptr ia 0]) :: (.v (.int .i64 now2)) :: (.v (.int .i64 q.1)) :: (.v (.int .i64 q.2)) :: (jnk 187 []))))))), [], h4⟩) ?_ ?_
      ·(repeat ((refine gO rfl ?_)))
       refine awp_loopC (rl false [0, 1, 2, 1, 1, 1, 4, 1, 2, 5, 187]) 0 (fun g2 s => ∃ (now2 : Int) (cs2 : List Pl) (V2 : List (Pl × Bool)) (k2 : Option Nat) (h4 : Hp), g2 = cs2.length ∧ Row cs2 now2 w1 ∧ (now < now2 ∨ now = now2 ∧ now2 = headT cs2 w1) ∧ now2 ≤ w1 ∧ cs2.length ≤ 500 ∧ V2.length + cs2.length ≤ 3501 ∧ V2 ++ runE xs w0 w1 m cs2 (goOnF xs w0 m q now2) now2 = U ∧ RaH h4 ia k5 V2 ∧
        s = ⟨((.row 2 (xs.map encStep) none) :: AV.junk :: AV.junk :: ((.v (.int .i64 m)) :: AV.junk :: ((.ref [.v (.int .i64 w0), .v (.int .i64 w1)] 0) :: (jnk 4 ((.row 3 (cs2.map encW) k2) :: AV.junk :: AV.junk :: ((.ptr ia 0) :: (.fn 153 [.ptr ia 0]) :: (.v (.int .i64 now2)) :: (.v (.int .i64 q.1)) :: (.v (.int .i64 q.2)) :: (jnk 187 []))))))), [], h4⟩) (cc :: cs).length ⟨now, cc :: cs, V, kk, h3, rfl, hr, .inr ⟨rfl, h5.symm⟩, hn.2, hcl, by omega, ?_, hH, rfl⟩ ?_
       ·rw [runE_hit' h5, ← runE_hit h5]; exact HV
       rintro g2 _ ⟨now2, cs2, V2, k2, h4, hg2, hr2, hc2, hw2, hl2, hv2, HV2, hH2, rfl⟩
       clear HV hH e1 e2 e3 hr hcl h5
       cases cs2 with
       | nil =>
        have hd0 : decide ((0 : Int) < ((0 : Nat) : Int)) = false := by decide
        (repeat (first | refine gO rfl ?_ | ((refine gM zM36 fun K1 hK1 => ?_; simp only [go_sem, ↓reduceIte, reduceCtorEq, nA, nB, nC, nD, nE, nF, List.map_nil, List.length_nil, hd0, Int.toNat_zero, List.getD_nil] <;> and_intros))))
        refine ⟨.v (.bool true), rfl, hK1 _ ?_⟩; clear hK1 K1
        (repeat ((refine gO rfl ?_)))
        refine awp_cond (t := _) rfl (fun h9 => by cases h9) (fun _ => ?_)
        (repeat ((refine gO rfl ?_)))
        refine ⟨now2, [], V2, k2, h4, hr2, ⟨?_, hw2⟩, by simp, by omega, HV2, hH2, rfl⟩
        simp only [headT] at hc2
        omega
       | cons c2 cs2 =>
        have hd0 : decide ((0 : Int) < ((cs2.length + 1 : Nat) : Int)) = true := by simp only [decide_eq_true_eq]; omega
        have gp : ((c2 :: cs2).map encW).getD 0 [] = [.v (.string c2.1), .v (.int .i64 c2.2.1), .v (.int .i64 c2.2.2)] := rfl
        have hln : ((c2 :: cs2).map encW).length = cs2.length + 1 := by simp
        have hi1 : Int.toNat 1 = 1 := rfl
        have htk : List.take cs2.length (cs2.map encW) = cs2.map encW := List.take_of_length_le (by simp)
        obtain ⟨r1, r2, r3⟩ := hr2
        have r4 := r3.le
        simp only [List.length_cons] at hl2 hv2 hg2
        (repeat (first | refine gO rfl ?_ | ((refine gM zM36 fun K1 hK1 => ?_; simp only [go_sem, ↓reduceIte, reduceCtorEq, nA, nB, nC, nD, nE, nF, hd0, Int.toNat_zero, gp, hln] <;> and_intros <;> first | (apply hK1; clear hK1 K1) | (intros; first | omega | decide | (simp_all <;> omega))))))
        refine awp_cond (t := _) rfl (fun h6 => ?_) (fun h6 => ?_)
        ·simp only [beq_iff_eq, decide_eq_true_eq] at h6
         subst h6
         (repeat (first | refine gO rfl ?_ | ((first | refine gM zM36 ?_ | ((with_reducible refine xS ?_); refine uD 15 zM36 zP16E zP16P 205 rfl (by kernel_rfl) ?_)) <;> ((try with_reducible intro K1 hK1); simp only [go_sem, ↓reduceIte, reduceCtorEq, nA, nB, nC, nD, nE, nF, Int.toNat_zero, gp, hln, encW] <;> and_intros <;> first | (apply hK1; clear hK1 K1) | (intros; (omega)) | skip))))
         refine (g_add c2.1 c2.2.1 c2.2.2 true V2 k5 ia h4 hH2.a hH2.t r2 (by omega) (by omega)).mono ?_; rintro _ _ ⟨rfl, rfl⟩; apply hK1; clear hK1 K1
         (repeat (first | refine gO rfl ?_ | ((first | refine gM zM36 ?_ | (with_reducible refine wM ?_ ?_)) <;> ((try with_reducible intro K1 hK1); simp only [go_sem, ↓reduceIte, reduceCtorEq, nA, nB, nC, nD, nE, nF, Int.toNat_zero, gp, hln, encW, Option.toList_none, Option.toList_some, List.append_eq, List.nil_append, List.cons_append, uside, List.length_cons, List.length_map, hi1, List.drop_one, List.tail_cons, Int.toNat_natCast, Nat.add_sub_cancel, htk] <;> and_intros <;> first | (apply hK1; clear hK1 K1) | (intros; (omega))))))
         rw [runE_hit' rfl] at HV2
         refine ⟨cs2.length, by omega, c2.2.2, cs2, V2 ++ [((c2.1, c2.2.1, c2.2.2 - c2.2.1), true)], _, _, rfl, r3, .inl (by omega), by omega, by omega, by rw [List.length_append, List.length_singleton]; omega, ?_, RaH.push _, rfl⟩
         rw [List.append_assoc]; exact HV2
        ·simp only [beq_eq_false_iff_ne, decide_eq_false_iff_not, ne_eq] at h6
         (repeat ((refine gO rfl ?_)))
         refine ⟨now2, c2 :: cs2, V2, k2, h4, ⟨r1, r2, r3⟩, ⟨?_, hw2⟩, by simp; omega, by omega, HV2, hH2, rfl⟩
         simp only [headT] at hc2
         omega
      ·rintro _ ⟨now2, cs2, V2, k2, h4, hr2, hc2, hl2, hv2, HV2, hH2, rfl⟩
       clear HV hH e1 e2 e3 hr hcl h5
       have hql := hq.lt
       have hqe := hq.le
       have gq : (xs.map encStep).getD q.1 [] = [.v (.string (xs.getD q.1 default).1), .v (.int .i64 (longA xs q.1))] := getD_enc encStep xs q.1 default hql
       generalize (xs.getD q.1 default).1 = nm at gq
       have er : ((q.1 : Int) + 1).tmod (xs.length : Int) = (((q.1 + 1) % xs.length : Nat) : Int) := rfl
       have hne : ((xs.length : Int) = 0) = False := by simp; exact hg.ne
       have hml := Nat.mod_lt (q.1 + 1) hx0
       have gm : (xs.map encStep).getD ((q.1 + 1) % xs.length) [] = [.v (.string (xs.getD ((q.1 + 1) % xs.length) default).1), .v (.int .i64 (longA xs ((q.1 + 1) % xs.length)))] := getD_enc encStep xs _ default hml
       generalize (xs.getD ((q.1 + 1) % xs.length) default).1 = nm2 at gm
       have hwf := wf_goOn hg.pos hg.ne (w0 := w0) (m := m) hq (at_ := now2) (by omega)
       have hwh0 : (q.2 == longA xs q.1) = true ∨ (q.2 == longA xs q.1) = false := by cases (q.2 == longA xs q.1) <;> simp
       rcases hm with rfl | rfl | rfl | rfl
       ·rcases hwh0 with hwh | hwh
        ·have hw9 := hwh
         simp only [beq_iff_eq] at hw9
         (repeat (first | refine gO rfl ?_ | ((refine gM zM36 fun K1 hK1 => ?_; simp only [go_sem, ↓reduceIte, reduceCtorEq, nA, nB, nC, nD, nE, nF, Int.toNat_natCast, gq, hwh] <;> and_intros <;> first | (apply hK1; clear hK1 K1) | (intros; (omega))))))
         refine awp_cond (t := _) rfl (fun h9 => by cases h9) (fun _ => ?_)
         (repeat (first | refine gO rfl ?_ | ((refine gM zM36 fun K1 hK1 => ?_; simp only [go_sem, ↓reduceIte, reduceCtorEq, nA, nB, nC, nD, nE, nF, hwh] <;> and_intros <;> (apply hK1; clear hK1 K1)))))
         refine awp_cond (t := _) rfl (fun _ => ?_) (fun h9 => by cases h9)
         (repeat ((refine gO rfl ?_)))
         have hgo : goOnF xs w0 1 q now2 = q := by rw [goOnF, if_neg (by decide), if_neg (by omega)]
         rw [hgo] at hwf HV2
         exact ⟨(w1 - now2).toNat, by omega, now2, q, cs2, V2, k2, h4, rfl, hwf, hr2, by omega, hl2, hv2, HV2, hH2, rfl⟩
        ·have hw9 := hwh
         simp only [beq_eq_false_iff_ne, ne_eq] at hw9
         (repeat (first | refine gO rfl ?_ | ((refine gM zM36 fun K1 hK1 => ?_; simp only [go_sem, ↓reduceIte, reduceCtorEq, nA, nB, nC, nD, nE, nF, Int.toNat_natCast, gq, hwh] <;> and_intros <;> first | (apply hK1; clear hK1 K1) | (intros; (omega))))))
         refine awp_cond (t := _) rfl (fun h9 => by cases h9) (fun _ => ?_)
         (repeat (first | refine gO rfl ?_ | ((refine gM zM36 fun K1 hK1 => ?_; simp only [go_sem, ↓reduceIte, reduceCtorEq, nA, nB, nC, nD, nE, nF, hwh] <;> and_intros <;> (apply hK1; clear hK1 K1)))))
         refine awp_cond (t := _) rfl (fun _ => ?_) (fun h9 => by cases h9)
         (repeat ((refine gO rfl ?_)))
         have hgo : goOnF xs w0 1 q now2 = q := by rw [goOnF, if_neg (by decide), if_pos (by omega), if_neg (by decide), if_neg (by decide)]
         rw [hgo] at hwf HV2
         exact ⟨(w1 - now2).toNat, by omega, now2, q, cs2, V2, k2, h4, rfl, hwf, hr2, by omega, hl2, hv2, HV2, hH2, rfl⟩
       ·rcases hwh0 with hwh | hwh
        ·have hw9 := hwh
         simp only [beq_iff_eq] at hw9
         (repeat (first | refine gO rfl ?_ | ((refine gM zM36 fun K1 hK1 => ?_; simp only [go_sem, ↓reduceIte, reduceCtorEq, nA, nB, nC, nD, nE, nF, Int.toNat_natCast, gq, hwh] <;> and_intros <;> first | (apply hK1; clear hK1 K1) | (intros; (omega))))))
         refine awp_cond (t := _) rfl (fun h9 => by cases h9) (fun _ => ?_)
         (repeat (first | refine gO rfl ?_ | ((refine gM zM36 fun K1 hK1 => ?_; simp only [go_sem, ↓reduceIte, reduceCtorEq, nA, nB, nC, nD, nE, nF, hwh] <;> and_intros <;> (apply hK1; clear hK1 K1)))))
         refine awp_cond (t := _) rfl (fun _ => ?_) (fun h9 => by cases h9)
         (repeat ((refine gO rfl ?_)))
         have hgo : goOnF xs w0 2 q now2 = q := by rw [goOnF, if_neg (by decide), if_neg (by omega)]
         rw [hgo] at hwf HV2
         exact ⟨(w1 - now2).toNat, by omega, now2, q, cs2, V2, k2, h4, rfl, hwf, hr2, by omega, hl2, hv2, HV2, hH2, rfl⟩
        ·have hw9 := hwh
         simp only [beq_eq_false_iff_ne, ne_eq] at hw9
         (repeat (first | refine gO rfl ?_ | ((refine gM zM36 fun K1 hK1 => ?_; simp only [go_sem, ↓reduceIte, reduceCtorEq, nA, nB, nC, nD, nE, nF, Int.toNat_natCast, gq, hwh] <;> and_intros <;> first | (apply hK1; clear hK1 K1) | (intros; (omega))))))
         refine awp_cond (t := _) rfl (fun h9 => by cases h9) (fun _ => ?_)
         (repeat (first | refine gO rfl ?_ | ((refine gM zM36 fun K1 hK1 => ?_; simp only [go_sem, ↓reduceIte, reduceCtorEq, nA, nB, nC, nD, nE, nF, hwh] <;> and_intros <;> (apply hK1; clear hK1 K1)))))
         refine awp_cond (t := _) rfl (fun h9 => by cases h9) (fun _ => ?_)
         (repeat (first | refine gO rfl ?_ | ((refine gM zM36 fun K1 hK1 => ?_; simp only [go_sem, ↓reduceIte, reduceCtorEq, nA, nB, nC, nD, nE, nF] <;> and_intros <;> (apply hK1; clear hK1 K1)))))
         refine awp_cond (t := _) rfl (fun _ => ?_) (fun h9 => by cases h9)
         (repeat (first | refine gO rfl ?_ | ((refine gM zM36 fun K1 hK1 => ?_; simp only [go_sem, ↓reduceIte, reduceCtorEq, nA, nB, nC, nD, nE, nF, Int.toNat_natCast, gq, hwh] <;> and_intros <;> first | (apply hK1; clear hK1 K1) | (intros; (omega))))))
         have hgo : goOnF xs w0 2 q now2 = (q.1, longA xs q.1) := by rw [goOnF, if_neg (by decide), if_pos (by omega), if_neg (by decide), if_pos rfl]
         rw [hgo] at hwf HV2
         exact ⟨(w1 - now2).toNat, by omega, now2, (q.1, longA xs q.1), cs2, V2, k2, h4, rfl, hwf, hr2, by omega, hl2, hv2, HV2, hH2, rfl⟩
       ·rcases hwh0 with hwh | hwh
        ·have hw9 := hwh
         simp only [beq_iff_eq] at hw9
         (repeat (first | refine gO rfl ?_ | ((refine gM zM36 fun K1 hK1 => ?_; simp only [go_sem, ↓reduceIte, reduceCtorEq, nA, nB, nC, nD, nE, nF, Int.toNat_natCast, gq, hwh] <;> and_intros <;> first | (apply hK1; clear hK1 K1) | (intros; (omega))))))
         refine awp_cond (t := _) rfl (fun h9 => by cases h9) (fun _ => ?_)
         (repeat (first | refine gO rfl ?_ | ((refine gM zM36 fun K1 hK1 => ?_; simp only [go_sem, ↓reduceIte, reduceCtorEq, nA, nB, nC, nD, nE, nF, hwh] <;> and_intros <;> (apply hK1; clear hK1 K1)))))
         refine awp_cond (t := _) rfl (fun _ => ?_) (fun h9 => by cases h9)
         (repeat ((refine gO rfl ?_)))
         have hgo : goOnF xs w0 3 q now2 = q := by rw [goOnF, if_neg (by decide), if_neg (by omega)]
         rw [hgo] at hwf HV2
         exact ⟨(w1 - now2).toNat, by omega, now2, q, cs2, V2, k2, h4, rfl, hwf, hr2, by omega, hl2, hv2, HV2, hH2, rfl⟩
        ·have hw9 := hwh
         simp only [beq_eq_false_iff_ne, ne_eq] at hw9
         (repeat (first | refine gO rfl ?_ | ((refine gM zM36 fun K1 hK1 => ?_; simp only [go_sem, ↓reduceIte, reduceCtorEq, nA, nB, nC, nD, nE, nF, Int.toNat_natCast, gq, hwh] <;> and_intros <;> first | (apply hK1; clear hK1 K1) | (intros; (omega))))))
         refine awp_cond (t := _) rfl (fun h9 => by cases h9) (fun _ => ?_)
         (repeat (first | refine gO rfl ?_ | ((refine gM zM36 fun K1 hK1 => ?_; simp only [go_sem, ↓reduceIte, reduceCtorEq, nA, nB, nC, nD, nE, nF, hwh] <;> and_intros <;> (apply hK1; clear hK1 K1)))))
         refine awp_cond (t := _) rfl (fun h9 => by cases h9) (fun _ => ?_)
         (repeat (first | refine gO rfl ?_ | ((refine gM zM36 fun K1 hK1 => ?_; simp only [go_sem, ↓reduceIte, reduceCtorEq, nA, nB, nC, nD, nE, nF] <;> and_intros <;> (apply hK1; clear hK1 K1)))))
         refine awp_cond (t := _) rfl (fun h9 => by cases h9) (fun _ => ?_)
         (repeat (first | refine gO rfl ?_ | ((refine gM zM36 fun K1 hK1 => ?_; simp only [go_sem, ↓reduceIte, reduceCtorEq, nA, nB, nC, nD, nE, nF] <;> and_intros <;> (apply hK1; clear hK1 K1)))))
         refine awp_cond (t := _) rfl (fun _ => ?_) (fun h9 => by cases h9)
         (repeat (first | refine gO rfl ?_ | ((refine gM zM36 fun K1 hK1 => ?_; simp only [go_sem, ↓reduceIte, reduceCtorEq, nA, nB, nC, nD, nE, nF, hne, er, Int.toNat_natCast, gm, hml, List.length_map] <;> and_intros <;> first | (apply hK1; clear hK1 K1) | (intros; (omega))))))
         have hgo : goOnF xs w0 3 q now2 = nextA xs q.1 := by rw [goOnF, if_neg (by decide), if_pos (by omega), if_pos rfl]
         rw [hgo] at hwf HV2
         exact ⟨(w1 - now2).toNat, by omega, now2, nextA xs q.1, cs2, V2, k2, h4, rfl, hwf, hr2, by omega, hl2, hv2, HV2, hH2, rfl⟩
       ·clear hwh0
        (repeat (first | refine gO rfl ?_ | ((refine gM zM36 fun K1 hK1 => ?_; simp only [go_sem, ↓reduceIte, reduceCtorEq, nA, nB, nC, nD, nE, nF, Int.toNat_natCast, gq] <;> and_intros <;> first | (apply hK1; clear hK1 K1) | (intros; (omega))))))
        refine awp_cond (t := _) rfl (fun _ => ?_) (fun h9 => by cases h9)
        (repeat (((refine gM zM36 fun K1 hK1 => ?_; simp only [go_sem, ↓reduceIte, reduceCtorEq, nA, nB, nC, nD, nE, nF, Int.toNat_natCast, gq] <;> and_intros))))
        refine (g_unseen xs w0 now2 h4 hg (by omega) (by omega)).mono ?_; rintro _ hz ⟨rfl, hh⟩; apply hK1; clear hK1 K1; rw [hh]; clear hh hz
        (repeat (first | refine gO rfl ?_ | ((refine gM zM36 fun K1 hK1 => ?_; simp only [go_sem, ↓reduceIte, reduceCtorEq, nA, nB, nC, nD, nE, nF] <;> and_intros <;> (apply hK1; clear hK1 K1)))))
        have hgo : goOnF xs w0 4 q now2 = posL xs ((now2 - w0).tmod (sumL xs)) := by rw [goOnF, if_pos rfl]
        rw [hgo] at hwf HV2
        exact ⟨(w1 - now2).toNat, by omega, now2, posL xs ((now2 - w0).tmod (sumL xs)), cs2, V2, k2, h4, rfl, hwf, hr2, by omega, hl2, hv2, HV2, hH2, rfl⟩
     ·simp only [beq_eq_false_iff_ne, decide_eq_false_iff_not, ne_eq] at h5
      (repeat ((refine gO rfl ?_)))
      refine ⟨?_, rfl⟩
      have := hr.1
      simp only [headT]
      omega
   ·rintro _ ⟨hlt, rfl⟩
    have hql := hq.lt
    have hqe := hq.le
    have hqp := hq.pos
    have hqb := (longA_bd hg.pos hql).2
    have hhw := headT_le hr
    have hra := fun x => Row.adv (x := x) hr
    rw [runE_step hg.pos hg.ne hq hlt] at HV
    (repeat (first | refine gQ rfl ?_ | ((refine gM zM36 fun K1 hK1 => ?_; simp only [go_sem, ↓reduceIte, reduceCtorEq, nA, nB, nC, nD, nE, nF] <;> and_intros <;> first | (apply hK1; clear hK1 K1) | (intros; (omega))))))
    refine awp_seqJ (rl false [0, 1, 2, 1, 1, 1, 4, 1, 2, 5, 1, 1, 185]) 0 (fun s => s = ⟨((.row 2 (xs.map encStep) none) :: AV.junk :: AV.junk :: ((.v (.int .i64 m)) :: AV.junk :: ((.ref [.v (.int .i64 w0), .v (.int .i64 w1)] 0) :: (jnk 4 ((.row 3 (cs.map encW) kk) :: AV.junk :: AV.junk :: ((.ptr ia 0) :: (.fn 153 [.ptr ia 0]) :: (.v (.int .i64 now)) :: (.v (.int .i64 q.1)) :: (.v (.int .i64 q.2)) :: AV.junk :: ((.v (.int .i64 (now + min q.2 (headT cs w1 - now)))) :: (jnk 185 [])))))))), [], h3⟩) ?_ ?_
    ·cases cs with
     | nil =>
      have hd0 : decide ((0 : Int) < ((0 : Nat) : Int)) = false := by decide
      have hmn : min (now + q.2) w1 = now + min q.2 (headT [] w1 - now) := by simp only [headT]; omega
      (repeat (first | refine gO rfl ?_ | ((refine gM zM36 fun K1 hK1 => ?_; simp only [go_sem, ↓reduceIte, reduceCtorEq, nA, nB, nC, nD, nE, nF, List.map_nil, List.length_nil, hd0] <;> and_intros <;> (apply hK1; clear hK1 K1)))))
      refine awp_cond (t := _) rfl (fun h9 => by cases h9) (fun _ => ?_)
      (repeat ((refine gO rfl ?_)))
      rw [← hmn]; rfl
     | cons cc cs =>
      have hd0 : decide ((0 : Int) < ((cs.length + 1 : Nat) : Int)) = true := by simp only [decide_eq_true_eq]; omega
      have gp : ((cc :: cs).map encW).getD 0 [] = [.v (.string cc.1), .v (.int .i64 cc.2.1), .v (.int .i64 cc.2.2)] := rfl
      have hln : ((cc :: cs).map encW).length = cs.length + 1 := by simp
      have hmn : min (min (now + q.2) w1) cc.2.1 = now + min q.2 (headT (cc :: cs) w1 - now) := by simp only [headT] at hhw ⊢; omega
      (repeat (first | refine gO rfl ?_ | ((refine gM zM36 fun K1 hK1 => ?_; simp only [go_sem, ↓reduceIte, reduceCtorEq, nA, nB, nC, nD, nE, nF, hd0, Int.toNat_zero, gp, hln] <;> and_intros <;> (apply hK1; clear hK1 K1)))))
      refine awp_cond (t := _) rfl (fun _ => ?_) (fun h9 => by cases h9)
      (repeat (first | refine gO rfl ?_ | ((refine gM zM36 fun K1 hK1 => ?_; simp only [go_sem, ↓reduceIte, reduceCtorEq, nA, nB, nC, nD, nE, nF, Int.toNat_zero, gp, hln, encW] <;> and_intros <;> first | (apply hK1; clear hK1 K1) | (intros; (omega))))))
      rw [← hmn]; rfl
    rintro _ rfl
    have gq : (xs.map encStep).getD q.1 [] = [.v (.string (xs.getD q.1 default).1), .v (.int .i64 (longA xs q.1))] := getD_enc encStep xs q.1 default hql
    have er : ((q.1 : Int) + 1).tmod (xs.length : Int) = (((q.1 + 1) % xs.length : Nat) : Int) := rfl
    have hne : ((xs.length : Int) = 0) = False := by simp; exact hg.ne
    have hml := Nat.mod_lt (q.1 + 1) hx0
    have gm : (xs.map encStep).getD ((q.1 + 1) % xs.length) [] = [.v (.string (xs.getD ((q.1 + 1) % xs.length) default).1), .v (.int .i64 (longA xs ((q.1 + 1) % xs.length)))] := getD_enc encStep xs _ default hml
    generalize (xs.getD ((q.1 + 1) % xs.length) default).1 = nm2 at gm
    generalize (xs.getD q.1 default).1 = nm at gq HV
    obtain ⟨d, hd⟩ : ∃ d, d = min q.2 (headT cs w1 - now) := ⟨_, rfl⟩
    rw [← hd] at HV ⊢
    have hd1 : 1 ≤ d ∧ d ≤ q.2 ∧ now + d ≤ headT cs w1 := by omega
    have hra2 := hra (now + d) hd1.2.2
    have hwb := wf_behind hg.pos hg.ne hq (d := d) (by omega)
    clear hra hd
    have hsub : now + d - now = d := by omega
    (repeat (((refine gM zM36 fun K1 hK1 => ?_; simp only [go_sem, ↓reduceIte, reduceCtorEq, nA, nB, nC, nD, nE, nF, Int.toNat_natCast, gq] <;> and_intros <;> first | (intros; (omega)) | skip))))
    refine (g_add nm now (now + d) false V k5 ia h3 hH.a hH.t (by omega) (by omega) (by omega)).mono ?_; rintro _ _ ⟨rfl, rfl⟩; apply hK1; clear hK1 K1
    rw [hsub]
    (repeat (first | refine gO rfl ?_ | ((refine gM zM36 fun K1 hK1 => ?_; simp only [go_sem, ↓reduceIte, reduceCtorEq, nA, nB, nC, nD, nE, nF, hsub] <;> and_intros <;> first | (apply hK1; clear hK1 K1) | (intros; (omega))))))
    have hbh : behind xs q d = if 0 < q.2 - d then (q.1, q.2 - d) else nextA xs q.1 := rfl
    refine awp_cond (t := _) rfl (fun h5 => ?_) (fun h5 => ?_)
    ·simp only [beq_iff_eq, decide_eq_true_eq] at h5
     rw [if_neg (by omega)] at hbh
     rw [hbh] at HV hwb
     (repeat (first | refine gO rfl ?_ | ((refine gM zM36 fun K1 hK1 => ?_; simp only [go_sem, ↓reduceIte, reduceCtorEq, nA, nB, nC, nD, nE, nF, hne, er, Int.toNat_natCast, gm, hml, List.length_map] <;> and_intros <;> first | (apply hK1; clear hK1 K1) | (intros; (omega))))))
     exact ⟨(w1 - (now + d)).toNat, by omega, now + d, nextA xs q.1, cs, V ++ [((nm, now, d), false)], kk, _, rfl, hwb, hra2, by omega, hcl, by rw [List.length_append, List.length_singleton]; omega, by rw [List.append_assoc]; exact HV, RaH.push _, rfl⟩
    ·simp only [beq_eq_false_iff_ne, decide_eq_false_iff_not, ne_eq] at h5
     rw [if_pos (by omega)] at hbh
     rw [hbh] at HV hwb
     (repeat ((refine gO rfl ?_)))
     exact ⟨(w1 - (now + d)).toNat, by omega, now + d, (q.1, q.2 - d), cs, V ++ [((nm, now, d), false)], kk, _, rfl, hwb, hra2, by omega, hcl, by rw [List.length_append, List.length_singleton]; omega, by rw [List.append_assoc]; exact HV, RaH.push _, rfl⟩
  ·simp only [Bool.and_eq_false_iff, decide_eq_false_iff_not] at h2
   (repeat (first | refine gO rfl ?_ | ((((with_reducible refine xS ?_); refine uD 36 zM36 zP17E zP17P 205 rfl (by kernel_rfl) ?_)) <;> ((try with_reducible intro K1 hK1); simp only [go_sem, ↓reduceIte, reduceCtorEq, nA, nB, nC, nD, nE, nF, e1, e3] <;> and_intros <;> (apply hK1; clear hK1 K1)))))
   simp only [Tryz.results101, go_sem, ↓reduceIte, reduceCtorEq, nA, nB, nC, nD, nE, nF]
   refine ⟨_, h3, Weak.tup1 (Weak.row _ _ _) (Weak.refl _), Hp.le.refl _, V, _, HV, fun hl3 => ?_, rfl⟩
   have hnw : now = w1 := by omega
   subst hnw
   cases cs with
   | nil => exact runE_end (Int.le_refl _)
   | cons cc cs => have := hr.1; have := hr.2.1; have := hr.2.2.le; omega
def encP (x : Pl) : List AV := [.v (.string ⟨#[]⟩), .v (.string x.1), .v (.int .i64 x.2.1), .v (.int .i64 x.2.2)]
theorem run_len {V R U : List (Pl × Bool)} (h : V ++ R = U) (hR : V.length ≤ 3000 → R = []) : (V.length ≤ 3000 → V = U) ∧ (U.length ≤ 3000 ↔ V.length ≤ 3000) := by
 have h1 : V.length ≤ U.length := by rw [← h, List.length_append]; omega
 have h2 : V.length ≤ 3000 → V = U := fun h3 => by rw [hR h3, List.append_nil] at h; exact h
 exact ⟨h2, fun h3 => by omega, fun h3 => by rw [← h2 h3]; exact h3⟩
theorem g_runOf (xs : List (ByteArray × Int)) (w0 w1 m : Int) (bs : List Wn) (h : Hp) (hg : GoodS xs) (hw : 0 ≤ w0 ∧ w0 ≤ w1 ∧ w1 ≤ 345686400000) (hbl : bs.length ≤ 500) (hb : Brk bs 0) (hm : m = 1 ∨ m = 2 ∨ m = 3 ∨ m = 4)
  {U : List (Pl × Bool)} (hU : runE xs w0 w1 m (cutF w0 w1 bs) (0, longA xs 0) w0 = U) :
  ACalls Tryz.prog 49 [.row 2 (xs.map encStep) none, .agg [.v (.int .i64 w0), .v (.int .i64 w1)], .row 3 (bs.map encW) none, .v (.int .i64 m)] h
   (fun r _ => r = if U.length ≤ 3000 then .tup [.row 4 ((U.map (·.1)).map encP) none, .v (.int .i64 0)] else .tup [.row 4 [] none, .v (.int .i64 2)]) := by
 refine gE Tryz.func49 rfl (by kernel_rfl) 34 rfl fun c => ?_
 (repeat (first | refine gO rfl ?_ | (refine gM zM37 fun K1 hK1 => ?_; simp only [go_sem, ↓reduceIte, reduceCtorEq, nA, nB, nC, nD, nE, nF] <;> and_intros <;> first | (apply hK1; clear hK1 K1) | skip)))
 refine (g_runAll xs w0 w1 m bs h hg hw hbl hb hm).mono ?_
 rintro _ h2 ⟨V, R, hVR, hR, rfl⟩
 apply hK1; clear hK1 K1
 rw [hU] at hVR
 obtain ⟨q1, q2⟩ := run_len hVR hR
 by_cases hl : V.length ≤ 3000
 ·rw [if_pos (q2.2 hl)]
  have hd : decide ((V.length : Int) ≤ 3000) = true := by simp only [decide_eq_true_eq]; omega
  have hv := q1 hl
  subst hv
  (repeat (first | refine gO rfl ?_ | (refine gM zM37 fun K1 hK1 => ?_; simp only [go_sem, ↓reduceIte, reduceCtorEq, nA, nB, nC, nD, nE, nF, hd] <;> and_intros <;> (apply hK1; clear hK1 K1))))
  refine awp_cond (t := _) rfl (fun h9 => by cases h9) (fun _ => ?_)
  (repeat (first | refine gQ rfl ?_ | (refine gM zM37 fun K1 hK1 => ?_; simp only [go_sem, ↓reduceIte, reduceCtorEq, nA, nB, nC, nD, nE, nF] <;> and_intros <;> (apply hK1; clear hK1 K1))))
  refine awp_own 12 4 rfl ⟨rfl, rfl⟩ (fun k hk => ?_)
  (repeat (first | refine gO rfl ?_ | (refine gM zM37 fun K1 hK1 => ?_; simp only [go_sem, ↓reduceIte, reduceCtorEq, nA, nB, nC, nD, nE, nF, List.length_map] <;> and_intros <;> (apply hK1; clear hK1 K1))))
  refine awp_loopC (rl false [12, 1, 12, 3, 10]) 0 (fun g s => ∃ (j : Nat), g + j = V.length ∧
   s = ⟨((jnk 12 ((.row 4 (((V.take j).map (·.1)).map encP) (some k)) :: (jnk 12 ((.row 5 (V.map encD) none) :: (.v (.int .i64 V.length)) :: (.v (.int .i64 j)) :: (jnk 10 [])))))), [], ⟨h2.H, upd h2.T k (some (.tail j))⟩⟩) V.length ⟨0, by omega, rfl⟩ ?_
  rintro g _ ⟨j, hj, rfl⟩
  have hTq : upd h2.T k (some (TO.tail j)) k = some (.tail j) := upd_same _ _ _
  have hlj : (((V.take j).map (·.1)).map encP).length = j := by simp; omega
  (repeat (first | refine gO rfl ?_ | (refine gM zM37 fun K1 hK1 => ?_; simp only [go_sem, ↓reduceIte, reduceCtorEq, nA, nB, nC, nD, nE, nF] <;> and_intros <;> (apply hK1; clear hK1 K1))))
  refine awp_cond (t := _) rfl (fun h3 => ?_) (fun h3 => ?_)
  ·simp only [decide_eq_true_eq] at h3
   have hjl : j < V.length := by omega
   have gx : (V.map encD).getD j [] = encD (V.getD j default) := getD_enc encD V j default hjl
   have htk : V.take (j + 1) = V.take j ++ [V.getD j default] := by
    rw [List.take_add_one, List.getElem?_eq_getElem hjl, List.getD_eq_getElem?_getD, List.getElem?_eq_getElem hjl]; rfl
   generalize V.getD j default = x at gx htk
   (repeat (first | refine gO rfl ?_ | (refine gM zM37 fun K1 hK1 => ?_; simp only [go_sem, ↓reduceIte, reduceCtorEq, nA, nB, nC, nD, nE, nF, Int.toNat_natCast, gx, encD, hTq, hlj] <;> and_intros <;> first | (apply hK1; clear hK1 K1) | (intros; first | omega | decide))))
   refine ⟨g - 1, by omega, j + 1, by omega, ?_⟩
   rw [htk, List.map_append, List.map_append]; rfl
  ·simp only [decide_eq_false_iff_not] at h3
   have hjl : j = V.length := by omega
   subst hjl
   rw [List.take_length]
   (repeat (first | refine gO rfl ?_ | (refine gM zM37 fun K1 hK1 => ?_; simp only [go_sem, ↓reduceIte, reduceCtorEq, nA, nB, nC, nD, nE, nF] <;> and_intros <;> (apply hK1; clear hK1 K1))))
   simp only [Tryz.results49, go_sem, ↓reduceIte, reduceCtorEq, nA, nB, nC, nD, nE, nF]
   exact ⟨_, _, Weak.tup1 (Weak.row _ _ _) (Weak.refl _), Hp.le.refl _, rfl⟩
 ·rw [if_neg (fun h3 => hl (q2.1 h3))]
  have hd : decide ((V.length : Int) ≤ 3000) = false := by simp only [decide_eq_false_iff_not]; omega
  (repeat (first | refine gO rfl ?_ | (refine gM zM37 fun K1 hK1 => ?_; simp only [go_sem, ↓reduceIte, reduceCtorEq, nA, nB, nC, nD, nE, nF, hd] <;> and_intros <;> (apply hK1; clear hK1 K1))))
  refine awp_cond (t := _) rfl (fun _ => ?_) (fun h9 => by cases h9)
  (repeat (first | refine gO rfl ?_ | (refine gM zM37 fun K1 hK1 => ?_; simp only [go_sem, ↓reduceIte, reduceCtorEq, nA, nB, nC, nD, nE, nF] <;> and_intros <;> (apply hK1; clear hK1 K1))))
  simp only [Tryz.results49, go_sem, ↓reduceIte, reduceCtorEq, nA, nB, nC, nD, nE, nF]
  exact ⟨_, _, Weak.tup1 (Weak.nil 4 0 0 ⟨rfl, rfl⟩) (Weak.refl _), Hp.le.refl _, rfl⟩
abbrev zP18E : List Nat := [0, 1, 2, 3, 4, 5, 6, 7, 8, 9, 10, 11, 12]
abbrev zP18P : List (Nat × List Nat × List Nat) := []
abbrev zP19E : List Nat := [0, 1, 2, 3, 4, 5, 6, 7, 8, 9, 10, 11, 12, 13, 14]
abbrev zP19P : List (Nat × List Nat × List Nat) := [(15, [], [])]
abbrev zP1AE : List Nat := [0, 1, 2, 3, 4, 5, 6, 7, 8, 9, 10]
abbrev zP1AP : List (Nat × List Nat × List Nat) := [(11, [], [12, 13, 14, 15, 16])]
abbrev zP1BE : List Nat := [0, 1, 2, 3, 4, 5, 6, 7, 8, 9, 10, 11, 12, 13, 14]
abbrev zP1BP : List (Nat × List Nat × List Nat) := [(15, [], [])]
attribute [go_sem] zP18E zP18P zP19E zP19P zP1AE zP1AP zP1BE zP1BP
def plC (n : Int) (xs : List (ByteArray × Int)) (w0 w1 m : Int) (A B : List Pl) (ka kb : Nat) (s : Nat × Int) (half : Bool) : List AV :=
 [.v (.int .i64 n), .row 2 (xs.map encStep) none, .v (.int .i64 (sumL xs)), .v (.int .i64 w0), .v (.int .i64 w1), .v (.int .i64 m), .row 4 (A.map encP) (some ka), .row 4 (B.map encP) (some kb), .v (.int .i64 s.1), .v (.int .i64 s.2), .v (.bool half)]
theorem g_full (n : Int) (xs : List (ByteArray × Int)) (w0 w1 m : Int) (A B : List Pl) (ka kb : Nat) (s : Nat × Int) (half : Bool) (i : Nat) (h : Hp) (hp : h.H i = some (.cells (plC n xs w0 w1 m A B ka kb s half))) (hA : A.length ≤ 100000) (hB : B.length ≤ 100000) :
  ACalls Tryz.prog 148 [.ptr i 0] h (fun r h' => r = .v (.bool (decide (3000 < A.length + B.length))) ∧ h' = h) := by
 unfold plC at hp
 have e : decide (3000 < (A.length : Int) + (B.length : Int)) = decide (3000 < A.length + B.length) := decide_eq_decide.2 (by omega)
 refine gE Tryz.func148 rfl (by kernel_rfl) 14 rfl fun c => ?_
 (repeat (first | refine gO rfl ?_ | ((first | refine gR ?_ | ((with_reducible refine xS ?_); refine uD 1 zM38 zP18E zP18P 15 rfl (by kernel_rfl) ?_)) <;> ((try with_reducible intro K1 hK1); simp only [go_sem, ↓reduceIte, reduceCtorEq, nA, nB, nC, nD, nE, nF, hp, List.length_map] <;> and_intros <;> first | (apply hK1; clear hK1 K1) | (intros; (omega))))))
 simp only [Tryz.results148, go_sem, ↓reduceIte, reduceCtorEq, nA, nB, nC, nD, nE, nF]
 exact ⟨_, _, Weak.refl _, Hp.le.refl _, by rw [← e], rfl⟩
theorem g_stepP (n : Int) (xs : List (ByteArray × Int)) (w0 w1 m : Int) (A B : List Pl) (ka kb : Nat) (s : Nat × Int) (half : Bool) (i : Nat) (h : Hp) (hp : h.H i = some (.cells (plC n xs w0 w1 m A B ka kb s half))) (hg : GoodS xs) (k : Nat) (hk : k ≤ 1000000) :
  ACalls Tryz.prog 238 [.ptr i 0, .v (.int .i64 k)] h (fun r h' => r = .agg (encStep (xs.getD (k % xs.length) default)) ∧ h' = h) := by
 unfold plC at hp
 have hx0 := List.length_pos_iff.2 hg.ne
 have hgl := hg.len
 have er : (k : Int).tmod (xs.length : Int) = ((k % xs.length : Nat) : Int) := rfl
 have hne : ((xs.length : Int) = 0) = False := by have := hg.ne; simp [this]
 have hml := Nat.mod_lt k hx0
 have gm : (xs.map encStep).getD (k % xs.length) [] = [.v (.string (xs.getD (k % xs.length) default).1), .v (.int .i64 (xs.getD (k % xs.length) default).2)] := getD_enc encStep xs _ default hml
 generalize xs.getD (k % xs.length) default = x at gm
 refine gE Tryz.func238 rfl (by kernel_rfl) 18 rfl fun c => ?_
 (repeat (first | refine gO rfl ?_ | ((first | refine gM zM30 ?_ | (with_reducible refine wM ?_ ?_) | ((with_reducible refine xS ?_); refine uD 1 zM30 zP19E zP19P 20 rfl (by kernel_rfl) ?_)) <;> ((try with_reducible intro K1 hK1); simp only [go_sem, ↓reduceIte, reduceCtorEq, nA, nB, nC, nD, nE, nF, hp, hne, er, Int.toNat_natCast, gm, hml, List.length_map] <;> and_intros <;> first | (apply hK1; clear hK1 K1) | (intros; (omega))))))
 simp only [Tryz.results238, go_sem, ↓reduceIte, reduceCtorEq, nA, nB, nC, nD, nE, nF]
 exact ⟨_, _, Weak.refl _, Hp.le.refl _, rfl, rfl⟩
def goOnH (xs : List (ByteArray × Int)) (w0 m : Int) (s : Nat × Int) (half : Bool) (at_ : Int) : Nat × Int :=
 if m = 4 then posL xs ((at_ - w0).tmod (sumL xs)) else if half = true ∧ m = 3 then nextA xs s.1 else if half = false ∨ m = 2 then (s.1, longA xs s.1) else s
theorem goOnH_eq {xs : List (ByteArray × Int)} {w0 m : Int} {s : Nat × Int} {half : Bool} (h : WfS xs s) (hh : m = 4 ∨ half = decide (s.2 < longA xs s.1)) (at_ : Int) : goOnH xs w0 m s half at_ = goOnF xs w0 m s at_ := by
 unfold goOnH goOnF
 by_cases h4 : m = 4
 ·rw [if_pos h4, if_pos h4]
 ·rw [if_neg h4, if_neg h4]
  have hh := hh.resolve_left h4
  have hle := h.le
  cases half with
  | true =>
   have hlt : s.2 < longA xs s.1 := by simpa using hh.symm
   rw [if_pos hlt]
   by_cases h3 : m = 3
   ·simp [h3]
   ·by_cases h2 : m = 2 <;> simp [h3, h2]
  | false =>
   have hlt : ¬ s.2 < longA xs s.1 := by simpa using hh.symm
   rw [if_neg hlt]
   have e : longA xs s.1 = s.2 := by omega
   simp [e]
theorem g_goOnA (n : Int) (xs : List (ByteArray × Int)) (w0 w1 m : Int) (A B : List Pl) (ka kb : Nat) (s : Nat × Int) (half : Bool) (i : Nat) (h : Hp) (hp : h.H i = some (.cells (plC n xs w0 w1 m A B ka kb s half))) (hg : GoodS xs) (hsl : s.1 < xs.length)
  (hm : m = 1 ∨ m = 2 ∨ m = 3 ∨ m = 4) (x : Int) (hw : 0 ≤ w0 ∧ w0 ≤ x ∧ x ≤ 1000000000000) :
  ACalls Tryz.prog 237 [.ptr i 0, .v (.int .i64 x)] h (fun r h' => r = .tup [] ∧ h' = ⟨upd h.H i (some (.cells (plC n xs w0 w1 m A B ka kb (goOnH xs w0 m s half x) false))), h.T⟩) := by
 have hx0 := List.length_pos_iff.2 hg.ne
 have hgl := hg.len
 refine gE Tryz.func237 rfl (by kernel_rfl) 106 rfl fun c => ?_
 have hne : ((xs.length : Int) = 0) = False := by have := hg.ne; simp [this]
 have er : ((s.1 : Int) + 1).tmod (xs.length : Int) = (((s.1 + 1) % xs.length : Nat) : Int) := rfl
 have hml := Nat.mod_lt (s.1 + 1) hx0
 have ems : s.1 % xs.length = s.1 := Nat.mod_eq_of_lt hsl
 have hp2 := hp
 unfold plC at hp2
 rcases hm with rfl | rfl | rfl | rfl
 ·cases half with
  | true =>
   have hgo : goOnH xs w0 1 s true x = s := by simp [goOnH]
   (repeat (first | refine gO rfl ?_ | ((refine gR fun K1 hK1 => ?_; simp only [go_sem, ↓reduceIte, reduceCtorEq, nA, nB, nC, nD, nE, nF, hp2] <;> and_intros <;> (apply hK1; clear hK1 K1)))))
   refine awp_cond (t := _) rfl (fun h9 => by cases h9) (fun _ => ?_)
   (repeat (first | refine gO rfl ?_ | ((refine gR fun K1 hK1 => ?_; simp only [go_sem, ↓reduceIte, reduceCtorEq, nA, nB, nC, nD, nE, nF, hp2] <;> and_intros <;> (apply hK1; clear hK1 K1)))))
   refine awp_cond (t := _) rfl (fun h9 => by cases h9) (fun _ => ?_)
   (repeat (first | refine gO rfl ?_ | ((refine gR fun K1 hK1 => ?_; simp only [go_sem, ↓reduceIte, reduceCtorEq, nA, nB, nC, nD, nE, nF, hp2] <;> and_intros <;> (apply hK1; clear hK1 K1)))))
   refine awp_cond (t := _) rfl (fun h9 => by cases h9) (fun _ => ?_)
   (repeat (first | refine gO rfl ?_ | ((refine gR fun K1 hK1 => ?_; simp only [go_sem, ↓reduceIte, reduceCtorEq, nA, nB, nC, nD, nE, nF, hp2] <;> and_intros <;> (apply hK1; clear hK1 K1)))))
   simp only [Tryz.results237, go_sem, ↓reduceIte, reduceCtorEq, nA, nB, nC, nD, nE, nF]
   exact ⟨_, _, Weak.refl _, Hp.le.refl _, rfl, by rw [hgo]; rfl⟩
  | false =>
   have hgo : goOnH xs w0 1 s false x = (s.1, longA xs s.1) := by simp [goOnH]
   (repeat (first | refine gO rfl ?_ | ((refine gR fun K1 hK1 => ?_; simp only [go_sem, ↓reduceIte, reduceCtorEq, nA, nB, nC, nD, nE, nF, hp2] <;> and_intros <;> (apply hK1; clear hK1 K1)))))
   refine awp_cond (t := _) rfl (fun h9 => by cases h9) (fun _ => ?_)
   (repeat (first | refine gO rfl ?_ | ((refine gR fun K1 hK1 => ?_; simp only [go_sem, ↓reduceIte, reduceCtorEq, nA, nB, nC, nD, nE, nF, hp2] <;> and_intros <;> (apply hK1; clear hK1 K1)))))
   refine awp_cond (t := _) rfl (fun h9 => by cases h9) (fun _ => ?_)
   (repeat (first | refine gO rfl ?_ | ((refine gR fun K1 hK1 => ?_; simp only [go_sem, ↓reduceIte, reduceCtorEq, nA, nB, nC, nD, nE, nF, hp2] <;> and_intros <;> (apply hK1; clear hK1 K1)))))
   refine awp_cond (t := _) rfl (fun _ => ?_) (fun h9 => by cases h9)
   (repeat (((refine gR fun K1 hK1 => ?_; simp only [go_sem, ↓reduceIte, reduceCtorEq, nA, nB, nC, nD, nE, nF, hp2] <;> and_intros))))
   refine (g_stepP n xs w0 w1 1 A B ka kb s false i h hp hg s.1 (by omega)).mono ?_; rintro _ hz ⟨rfl, hh⟩; apply hK1; clear hK1 K1; rw [hh]; clear hh hz
   rw [ems]
   (repeat (first | refine gO rfl ?_ | ((refine gR fun K1 hK1 => ?_; simp only [go_sem, ↓reduceIte, reduceCtorEq, nA, nB, nC, nD, nE, nF, hp2, encStep] <;> and_intros <;> (apply hK1; clear hK1 K1)))))
   simp only [Tryz.results237, go_sem, ↓reduceIte, reduceCtorEq, nA, nB, nC, nD, nE, nF]
   exact ⟨_, _, Weak.refl _, Hp.le.refl _, rfl, by rw [hgo]; rfl⟩
 ·cases half with
  | true =>
   have hgo : goOnH xs w0 2 s true x = (s.1, longA xs s.1) := by simp [goOnH]
   (repeat (first | refine gO rfl ?_ | ((refine gR fun K1 hK1 => ?_; simp only [go_sem, ↓reduceIte, reduceCtorEq, nA, nB, nC, nD, nE, nF, hp2] <;> and_intros <;> (apply hK1; clear hK1 K1)))))
   refine awp_cond (t := _) rfl (fun h9 => by cases h9) (fun _ => ?_)
   (repeat (first | refine gO rfl ?_ | ((refine gR fun K1 hK1 => ?_; simp only [go_sem, ↓reduceIte, reduceCtorEq, nA, nB, nC, nD, nE, nF, hp2] <;> and_intros <;> (apply hK1; clear hK1 K1)))))
   refine awp_cond (t := _) rfl (fun h9 => by cases h9) (fun _ => ?_)
   (repeat (first | refine gO rfl ?_ | ((refine gR fun K1 hK1 => ?_; simp only [go_sem, ↓reduceIte, reduceCtorEq, nA, nB, nC, nD, nE, nF, hp2] <;> and_intros <;> (apply hK1; clear hK1 K1)))))
   refine awp_cond (t := _) rfl (fun _ => ?_) (fun h9 => by cases h9)
   (repeat (((refine gR fun K1 hK1 => ?_; simp only [go_sem, ↓reduceIte, reduceCtorEq, nA, nB, nC, nD, nE, nF, hp2] <;> and_intros))))
   refine (g_stepP n xs w0 w1 2 A B ka kb s true i h hp hg s.1 (by omega)).mono ?_; rintro _ hz ⟨rfl, hh⟩; apply hK1; clear hK1 K1; rw [hh]; clear hh hz
   rw [ems]
   (repeat (first | refine gO rfl ?_ | ((refine gR fun K1 hK1 => ?_; simp only [go_sem, ↓reduceIte, reduceCtorEq, nA, nB, nC, nD, nE, nF, hp2, encStep] <;> and_intros <;> (apply hK1; clear hK1 K1)))))
   simp only [Tryz.results237, go_sem, ↓reduceIte, reduceCtorEq, nA, nB, nC, nD, nE, nF]
   exact ⟨_, _, Weak.refl _, Hp.le.refl _, rfl, by rw [hgo]; rfl⟩
  | false =>
   have hgo : goOnH xs w0 2 s false x = (s.1, longA xs s.1) := by simp [goOnH]
   (repeat (first | refine gO rfl ?_ | ((refine gR fun K1 hK1 => ?_; simp only [go_sem, ↓reduceIte, reduceCtorEq, nA, nB, nC, nD, nE, nF, hp2] <;> and_intros <;> (apply hK1; clear hK1 K1)))))
   refine awp_cond (t := _) rfl (fun h9 => by cases h9) (fun _ => ?_)
   (repeat (first | refine gO rfl ?_ | ((refine gR fun K1 hK1 => ?_; simp only [go_sem, ↓reduceIte, reduceCtorEq, nA, nB, nC, nD, nE, nF, hp2] <;> and_intros <;> (apply hK1; clear hK1 K1)))))
   refine awp_cond (t := _) rfl (fun h9 => by cases h9) (fun _ => ?_)
   (repeat (first | refine gO rfl ?_ | ((refine gR fun K1 hK1 => ?_; simp only [go_sem, ↓reduceIte, reduceCtorEq, nA, nB, nC, nD, nE, nF, hp2] <;> and_intros <;> (apply hK1; clear hK1 K1)))))
   refine awp_cond (t := _) rfl (fun _ => ?_) (fun h9 => by cases h9)
   (repeat (((refine gR fun K1 hK1 => ?_; simp only [go_sem, ↓reduceIte, reduceCtorEq, nA, nB, nC, nD, nE, nF, hp2] <;> and_intros))))
   refine (g_stepP n xs w0 w1 2 A B ka kb s false i h hp hg s.1 (by omega)).mono ?_; rintro _ hz ⟨rfl, hh⟩; apply hK1; clear hK1 K1; rw [hh]; clear hh hz
   rw [ems]
   (repeat (first | refine gO rfl ?_ | ((refine gR fun K1 hK1 => ?_; simp only [go_sem, ↓reduceIte, reduceCtorEq, nA, nB, nC, nD, nE, nF, hp2, encStep] <;> and_intros <;> (apply hK1; clear hK1 K1)))))
   simp only [Tryz.results237, go_sem, ↓reduceIte, reduceCtorEq, nA, nB, nC, nD, nE, nF]
   exact ⟨_, _, Weak.refl _, Hp.le.refl _, rfl, by rw [hgo]; rfl⟩
 ·cases half with
  | true =>
   have hgo : goOnH xs w0 3 s true x = nextA xs s.1 := by simp [goOnH]
   (repeat (first | refine gO rfl ?_ | ((refine gR fun K1 hK1 => ?_; simp only [go_sem, ↓reduceIte, reduceCtorEq, nA, nB, nC, nD, nE, nF, hp2] <;> and_intros <;> (apply hK1; clear hK1 K1)))))
   refine awp_cond (t := _) rfl (fun h9 => by cases h9) (fun _ => ?_)
   (repeat (first | refine gO rfl ?_ | ((refine gR fun K1 hK1 => ?_; simp only [go_sem, ↓reduceIte, reduceCtorEq, nA, nB, nC, nD, nE, nF, hp2] <;> and_intros <;> (apply hK1; clear hK1 K1)))))
   refine awp_cond (t := _) rfl (fun _ => ?_) (fun h9 => by cases h9)
   (repeat (first | refine gO rfl ?_ | ((first | refine gR ?_ | (with_reducible refine wM ?_ ?_) | ((with_reducible refine xS ?_); refine uD 4 zM38 zP1BE zP1BP 108 rfl (by kernel_rfl) ?_)) <;> ((try with_reducible intro K1 hK1); simp only [go_sem, ↓reduceIte, reduceCtorEq, nA, nB, nC, nD, nE, nF, hp2, hne, er, List.length_map] <;> and_intros <;> first | (apply hK1; clear hK1 K1) | (intros; (omega)) | skip))))
   have hu : ∀ X : Option AO, upd h.H i X i = X := fun X => upd_same _ _ _
   have huu : ∀ X Y : Option AO, upd (upd h.H i X) i Y = upd h.H i Y := fun X Y => upd_upd _ _ _ _
   refine (g_stepP n xs w0 w1 3 A B ka kb ((s.1 + 1) % xs.length, s.2) true i _ (upd_same _ _ _) hg ((s.1 + 1) % xs.length) (by omega)).mono ?_; rintro _ hz ⟨rfl, hh⟩; apply hK1; clear hK1 K1; rw [hh]; clear hh hz
   rw [Nat.mod_mod]
   (repeat (first | refine gO rfl ?_ | ((refine gR fun K1 hK1 => ?_; simp only [go_sem, ↓reduceIte, reduceCtorEq, nA, nB, nC, nD, nE, nF, hu, huu, encStep] <;> and_intros <;> (apply hK1; clear hK1 K1)))))
   simp only [Tryz.results237, go_sem, ↓reduceIte, reduceCtorEq, nA, nB, nC, nD, nE, nF]
   exact ⟨_, _, Weak.refl _, Hp.le.refl _, rfl, by rw [hgo]; rfl⟩
  | false =>
   have hgo : goOnH xs w0 3 s false x = (s.1, longA xs s.1) := by simp [goOnH]
   (repeat (first | refine gO rfl ?_ | ((refine gR fun K1 hK1 => ?_; simp only [go_sem, ↓reduceIte, reduceCtorEq, nA, nB, nC, nD, nE, nF, hp2] <;> and_intros <;> (apply hK1; clear hK1 K1)))))
   refine awp_cond (t := _) rfl (fun h9 => by cases h9) (fun _ => ?_)
   (repeat (first | refine gO rfl ?_ | ((refine gR fun K1 hK1 => ?_; simp only [go_sem, ↓reduceIte, reduceCtorEq, nA, nB, nC, nD, nE, nF, hp2] <;> and_intros <;> (apply hK1; clear hK1 K1)))))
   refine awp_cond (t := _) rfl (fun h9 => by cases h9) (fun _ => ?_)
   (repeat (first | refine gO rfl ?_ | ((refine gR fun K1 hK1 => ?_; simp only [go_sem, ↓reduceIte, reduceCtorEq, nA, nB, nC, nD, nE, nF, hp2] <;> and_intros <;> (apply hK1; clear hK1 K1)))))
   refine awp_cond (t := _) rfl (fun _ => ?_) (fun h9 => by cases h9)
   (repeat (((refine gR fun K1 hK1 => ?_; simp only [go_sem, ↓reduceIte, reduceCtorEq, nA, nB, nC, nD, nE, nF, hp2] <;> and_intros))))
   refine (g_stepP n xs w0 w1 3 A B ka kb s false i h hp hg s.1 (by omega)).mono ?_; rintro _ hz ⟨rfl, hh⟩; apply hK1; clear hK1 K1; rw [hh]; clear hh hz
   rw [ems]
   (repeat (first | refine gO rfl ?_ | ((refine gR fun K1 hK1 => ?_; simp only [go_sem, ↓reduceIte, reduceCtorEq, nA, nB, nC, nD, nE, nF, hp2, encStep] <;> and_intros <;> (apply hK1; clear hK1 K1)))))
   simp only [Tryz.results237, go_sem, ↓reduceIte, reduceCtorEq, nA, nB, nC, nD, nE, nF]
   exact ⟨_, _, Weak.refl _, Hp.le.refl _, rfl, by rw [hgo]; rfl⟩
 ·have hr := rest_bd hg.pos hg.ne hw.2.1
  obtain ⟨q1, q2, q3⟩ := posF_ex hg.pos hr.1 hr.2
  have hpb := preL_bd hg.pos (posF xs ((x - w0).tmod (sumL xs))) (by omega)
  have hpa := longA_bd hg.pos q1
  have hsb := sumL_bd hg.pos
  have gq : (xs.map encStep).getD (posF xs ((x - w0).tmod (sumL xs))) [] = [.v (.string (xs.getD (posF xs ((x - w0).tmod (sumL xs))) default).1), .v (.int .i64 (longA xs (posF xs ((x - w0).tmod (sumL xs)))))] := getD_enc encStep xs _ default q1
  have hgo : goOnH xs w0 4 s half x = (posF xs ((x - w0).tmod (sumL xs)), longA xs (posF xs ((x - w0).tmod (sumL xs))) - ((x - w0).tmod (sumL xs) - preL xs (posF xs ((x - w0).tmod (sumL xs))))) := by rw [goOnH, if_pos rfl]; rfl
  have hat := fun h => g_at n xs (x - w0) h hg (by omega) (by omega)
  generalize (x - w0).tmod (sumL xs) = rr at *
  generalize posF xs rr = p at *
  (repeat (first | refine gO rfl ?_ | ((refine gR fun K1 hK1 => ?_; simp only [go_sem, ↓reduceIte, reduceCtorEq, nA, nB, nC, nD, nE, nF, hp2] <;> and_intros <;> (apply hK1; clear hK1 K1)))))
  refine awp_cond (t := _) rfl (fun _ => ?_) (fun h9 => by cases h9)
  (repeat (((first | refine gR ?_ | ((with_reducible refine xS ?_); refine uD 1 zM38 zP1AE zP1AP 108 rfl (by kernel_rfl) ?_)) <;> ((try with_reducible intro K1 hK1); simp only [go_sem, ↓reduceIte, reduceCtorEq, nA, nB, nC, nD, nE, nF, hp2] <;> and_intros <;> first | (apply hK1; clear hK1 K1) | (intros; (omega)) | skip))))
  refine (hat h).mono ?_; rintro _ hz ⟨rfl, hh⟩; apply hK1; clear hK1 K1; rw [hh]; clear hh hz
  generalize (xs.getD p default).1 = nm at gq
  (repeat (first | refine gO rfl ?_ | ((first | refine gR ?_ | (with_reducible refine wM ?_ ?_)) <;> ((try with_reducible intro K1 hK1); simp only [go_sem, ↓reduceIte, reduceCtorEq, nA, nB, nC, nD, nE, nF, hp2, Int.toNat_natCast, gq, q1, List.length_map] <;> and_intros <;> first | (apply hK1; clear hK1 K1) | (intros; (omega))))))
  simp only [Tryz.results237, go_sem, ↓reduceIte, reduceCtorEq, nA, nB, nC, nD, nE, nF]
  exact ⟨_, _, Weak.refl _, Hp.le.refl _, rfl, by rw [hgo]; rfl⟩
structure StP (xs : List (ByteArray × Int)) (w0 m : Int) (s : Nat × Int) (half : Bool) (q : Nat × Int) : Prop where
 lt : s.1 < xs.length
 wf : WfS xs q
 eq : ∀ x, goOnH xs w0 m s half x = goOnF xs w0 m q x
theorem StP.first {xs : List (ByteArray × Int)} (hp : Pos xs) (hn : xs ≠ []) (w0 m : Int) (r : Int) : StP xs w0 m (0, r) false (0, longA xs 0) := by
 refine ⟨List.length_pos_iff.2 hn, wf_first hp hn, fun x => ?_⟩
 unfold goOnH goOnF
 by_cases h4 : m = 4
 ·simp [h4]
 ·simp [h4]
theorem StP.of {xs : List (ByteArray × Int)} {w0 m : Int} {s : Nat × Int} {half : Bool} (h : WfS xs s) (hh : half = decide (s.2 < longA xs s.1)) : StP xs w0 m s half s := ⟨h.lt, h, fun x => goOnH_eq h (.inr hh) x⟩
theorem StP.any {xs : List (ByteArray × Int)} (hp : Pos xs) (hn : xs ≠ []) (w0 m : Int) {s : Nat × Int} (half : Bool) (h : WfS xs s) : ∃ q, StP xs w0 m s half q := by
 have hl : WfS xs (s.1, longA xs s.1) := ⟨h.lt, (longA_bd hp h.lt).1, Int.le_refl _⟩
 by_cases h4 : m = 4
 ·exact ⟨s, h.lt, h, fun x => by simp [goOnH, goOnF, h4]⟩
 ·by_cases h1 : half = true ∧ m = 3
  ·exact ⟨nextA xs s.1, h.lt, wf_next hp hn _, fun x => by simp [goOnH, goOnF, h1, nextA]⟩
  ·by_cases h2 : half = false ∨ m = 2
   ·exact ⟨_, h.lt, hl, fun x => by simp [goOnH, goOnF, h4, h1, h2]⟩
   ·refine ⟨s, h.lt, h, fun x => ?_⟩
    simp only [not_or] at h2
    have h3 : m ≠ 3 := fun e => h1 ⟨by cases half <;> simp_all, e⟩
    simp [goOnH, goOnF, h4, h2, h3]
abbrev zP1CE : List Nat := [0, 1, 2, 3, 4, 5, 6, 7, 8, 9, 12, 13]
abbrev zP1CP : List (Nat × List Nat × List Nat) := [(10, [4], [11, 14, 15]), (16, [], [17, 18]), (19, [], [])]
abbrev zP1DE : List Nat := [0, 1, 2, 3, 4, 5, 6, 7, 8, 9, 10, 11, 12, 13, 14]
abbrev zP1DP : List (Nat × List Nat × List Nat) := [(15, [], [])]
attribute [go_sem] zP1CE zP1CP zP1DE zP1DP
structure GapR (xs : List (ByteArray × Int)) (m : Int) (A B : List Pl) (G : List Pl × (Nat × Int)) (A' : List Pl) (s' : Nat × Int) (half' : Bool) : Prop where
 ex : ∃ R, A' ++ R = A ++ G.1 ∧ ((R = [] ∧ s' = G.2 ∧ half' = decide (s'.2 < longA xs s'.1)) ∨ 3000 < A'.length + B.length)
 len : A'.length + B.length ≤ max 3001 (A.length + B.length)
 wf : WfS xs s'
theorem g_gap (n : Int) (xs : List (ByteArray × Int)) (w0 w1 m : Int) (A B : List Pl) (ka kb : Nat) (s : Nat × Int) (half : Bool) (i : Nat) (h : Hp) (hp : h.H i = some (.cells (plC n xs w0 w1 m A B ka kb s half))) (ht : h.T ka = some (.tail A.length)) (hg : GoodS xs) {q0 : Nat × Int} (hs : StP xs w0 m s half q0)
  (hm : m = 1 ∨ m = 2 ∨ m = 3 ∨ m = 4) (a b : Int) (hw : 0 ≤ w0 ∧ w0 ≤ a ∧ a < b ∧ b ≤ 1000000000000) (hl : A.length + B.length ≤ 3999) :
  ACalls Tryz.prog 195 [.ptr i 0, .v (.int .i64 a), .v (.int .i64 b)] h (fun r h' => r = .tup [] ∧ ∃ A' s' half', GapR xs m A B (gapF xs (goOnF xs w0 m q0 a) a b) A' s' half' ∧
   h' = ⟨upd h.H i (some (.cells (plC n xs w0 w1 m A' B ka kb s' half'))), upd h.T ka (some (.tail A'.length))⟩) := by
 have hx0 := List.length_pos_iff.2 hg.ne
 have hgl := hg.len
 have hwf := wf_goOn hg.pos hg.ne (w0 := w0) (m := m) hs.wf (at_ := a) hw.2.1
 have hne : ((xs.length : Int) = 0) = False := by have := hg.ne; simp [this]
 have hu : ∀ X Y : Option AO, upd (upd h.H i X) i Y = upd h.H i Y := fun X Y => upd_upd _ _ _ _
 have hv : ∀ X Y : Option TO, upd (upd h.T ka X) ka Y = upd h.T ka Y := fun X Y => upd_upd _ _ _ _
 have hT0 : upd h.T ka (some (TO.tail A.length)) = h.T := by
  funext j
  by_cases e : j = ka
  ·rw [e, upd_same, ht]
  ·rw [upd_other _ _ e]
 have hgo := g_goOnA n xs w0 w1 m A B ka kb s half i h hp hg hs.lt hm a ⟨hw.1, hw.2.1, by omega⟩
 rw [hs.eq a] at hgo
 generalize goOnF xs w0 m q0 a = s1 at *
 generalize hG : gapF xs s1 a b = G
 have hd0 : decide (b ≤ a) = false := by simp only [decide_eq_false_iff_not]; omega
 refine gE Tryz.func195 rfl (by kernel_rfl) 94 rfl fun c => ?_
 (repeat (first | refine gO rfl ?_ | ((refine gR fun K1 hK1 => ?_; simp only [go_sem, ↓reduceIte, reduceCtorEq, nA, nB, nC, nD, nE, nF, hd0] <;> and_intros <;> (apply hK1; clear hK1 K1)))))
 refine awp_cond (t := _) rfl (fun h9 => by cases h9) (fun _ => ?_)
 (repeat (first | refine gO rfl ?_ | ((refine gR fun K1 hK1 => ?_; simp only [go_sem, ↓reduceIte, reduceCtorEq, nA, nB, nC, nD, nE, nF] <;> and_intros))))
 refine hgo.mono ?_; rintro _ hz ⟨rfl, hh⟩; apply hK1; clear hK1 K1; rw [hh]; clear hh hz
 clear hgo
 (repeat ((refine gO rfl ?_)))
 refine awp_loopC (rl false [0, 3, 94]) 0 (fun g s => ∃ (a2 : Int) (s2 : Nat × Int) (V : List Pl) (hf : Bool), g = (b - a2).toNat ∧ WfS xs s2 ∧ (a ≤ a2 ∧ a2 ≤ b) ∧ (a2 = a ∨ hf = decide (s2.2 < longA xs s2.1)) ∧ V.length + B.length ≤ max 3001 (A.length + B.length) ∧ V ++ (gapF xs s2 a2 b).1 = A ++ G.1 ∧ (gapF xs s2 a2 b).2 = G.2 ∧
  s = ⟨((.ptr i 0) :: (.v (.int .i64 a2)) :: (.v (.int .i64 b)) :: (jnk 94 [])), [], ⟨upd h.H i (some (.cells (plC n xs w0 w1 m V B ka kb s2 hf))), upd h.T ka (some (.tail V.length))⟩⟩) (b - a).toNat ⟨a, s1, A, false, rfl, hwf, by omega, .inl rfl, by omega, by rw [hG], by rw [hG], ?_⟩ ?_
 ·rw [hT0]; rfl
 rintro g _ ⟨a2, s2, V, hf, hg2, hs2, ha2, hhf, hVl, HV, HG, rfl⟩
 have hH : ∀ X : Option AO, upd h.H i X i = X := fun X => upd_same _ _ _
 have hT : ∀ X : Option TO, upd h.T ka X ka = X := fun X => upd_same _ _ _
 have hlv : (V.map encP).length = V.length := List.length_map _
 by_cases hab : a2 < b
 ·have hd1 : decide (a2 < b) = true := by simpa using hab
  (repeat (first | refine gO rfl ?_ | ((refine gR fun K1 hK1 => ?_; simp only [go_sem, ↓reduceIte, reduceCtorEq, nA, nB, nC, nD, nE, nF, hd1] <;> and_intros <;> first | (intros; (simp_all <;> omega)) | skip))))
  refine (g_full n xs w0 w1 m V B ka kb s2 hf i _ (upd_same _ _ _) (by omega) (by omega)).mono ?_; rintro _ hz ⟨rfl, hh⟩; refine ⟨rfl, hK1 _ ?_⟩; clear hK1 K1; rw [hh]; clear hh hz
  have hf0 : decide (3000 < V.length + B.length) = true ∨ decide (3000 < V.length + B.length) = false := by cases decide (3000 < V.length + B.length) <;> simp
  rcases hf0 with hf1 | hf1
  ·have hfl : 3000 < V.length + B.length := by simpa using hf1
   rw [hf1]
   (repeat (first | refine gO rfl ?_ | ((refine gR fun K1 hK1 => ?_; simp only [go_sem, ↓reduceIte, reduceCtorEq, nA, nB, nC, nD, nE, nF] <;> and_intros <;> (apply hK1; clear hK1 K1)))))
   refine awp_cond (t := _) rfl (fun h9 => by cases h9) (fun _ => ?_)
   (repeat ((refine gO rfl ?_)))
   simp only [Tryz.results195, go_sem, ↓reduceIte, reduceCtorEq, nA, nB, nC, nD, nE, nF]
   exact ⟨_, _, Weak.refl _, Hp.le.refl _, rfl, V, s2, hf, ⟨⟨_, HV, .inr hfl⟩, hVl, hs2⟩, rfl⟩
  ·have hfl : ¬ 3000 < V.length + B.length := by simpa using hf1
   rw [hf1]
   have hql := hs2.lt
   have hqe := hs2.le
   have hqp := hs2.pos
   have hqb := (longA_bd hg.pos hql).2
   have er : ((s2.1 : Int) + 1).tmod (xs.length : Int) = (((s2.1 + 1) % xs.length : Nat) : Int) := rfl
   have hml := Nat.mod_lt (s2.1 + 1) hx0
   have ems : s2.1 % xs.length = s2.1 := Nat.mod_eq_of_lt hql
   have hst := g_stepP n xs w0 w1 m V B ka kb s2 hf i ⟨upd h.H i (some (.cells (plC n xs w0 w1 m V B ka kb s2 hf))), upd h.T ka (some (.tail V.length))⟩ (upd_same _ _ _) hg s2.1 (by omega)
   rw [ems] at hst
   have hwb := wf_behind hg.pos hg.ne hs2 (d := min s2.2 (b - a2)) (by omega)
   rw [gapF_step hg.pos hg.ne hs2 hab] at HV HG
   simp only at HV HG
   obtain ⟨d, hd⟩ : ∃ d, d = min s2.2 (b - a2) := ⟨_, rfl⟩
   rw [← hd] at HV HG hwb
   have hd3 : 1 ≤ d ∧ d ≤ s2.2 ∧ a2 + d ≤ b := by omega
   have hbh : behind xs s2 d = if 0 < s2.2 - d then (s2.1, s2.2 - d) else nextA xs s2.1 := rfl
   have hmn : min s2.2 (b - a2) = d := hd.symm
   clear hd ems
   generalize xs.getD s2.1 default = x at *
   unfold plC at hst ⊢
   (repeat (first | refine gO rfl ?_ | ((refine gR fun K1 hK1 => ?_; simp only [go_sem, ↓reduceIte, reduceCtorEq, nA, nB, nC, nD, nE, nF] <;> and_intros <;> (apply hK1; clear hK1 K1)))))
   refine awp_cond (t := _) rfl (fun _ => ?_) (fun h9 => by cases h9)
   (repeat (first | refine gO rfl ?_ | ((first | refine gR ?_ | ((with_reducible refine xS ?_); refine uD 4 zM38 zP1CE zP1CP 97 rfl (by kernel_rfl) ?_)) <;> ((try with_reducible intro K1 hK1); simp only [go_sem, ↓reduceIte, reduceCtorEq, nA, nB, nC, nD, nE, nF, hH, hT, hmn, hlv] <;> and_intros <;> first | (apply hK1; clear hK1 K1) | (intros; (omega)) | skip))))
   refine hst.mono ?_; rintro _ hz ⟨rfl, hh⟩; apply hK1; clear hK1 K1; rw [hh]; clear hh hz
   (repeat (first | refine gO rfl ?_ | ((first | refine gR ?_ | (with_reducible refine wM ?_ ?_)) <;> ((try with_reducible intro K1 hK1); simp only [go_sem, ↓reduceIte, reduceCtorEq, nA, nB, nC, nD, nE, nF, hH, hT, hu, hv, hlv, encStep] <;> and_intros <;> first | (apply hK1; clear hK1 K1) | (intros; first | omega | decide | (simp_all <;> omega))))))
   by_cases h5 : 0 < s2.2 - d
   ·have hd5 : decide (0 < s2.2 - d) = true := by simpa using h5
    rw [if_pos h5] at hbh
    rw [hbh] at HV HG hwb
    rw [hd5]
    refine awp_cond (t := _) rfl (fun h9 => by cases h9) (fun _ => ?_)
    (repeat ((refine gO rfl ?_)))
    refine ⟨(b - (a2 + d)).toNat, by omega, a2 + d, (s2.1, s2.2 - d), V ++ [(x.1, a2, d)], true, rfl, hwb, by omega, .inr ?_, by rw [List.length_append, List.length_singleton]; omega, by rw [List.append_assoc]; exact HV, HG, ?_⟩
    ·symm; simp only [decide_eq_true_eq]; omega
    ·rw [List.map_append, List.length_append]; rfl
   ·have hd5 : decide (0 < s2.2 - d) = false := by simpa using h5
    rw [if_neg h5] at hbh
    rw [hbh] at HV HG hwb
    rw [hd5]
    refine awp_cond (t := _) rfl (fun _ => ?_) (fun h9 => by cases h9)
    have hst2 := g_stepP n xs w0 w1 m (V ++ [(x.1, a2, d)]) B ka kb ((s2.1 + 1) % xs.length, s2.2 - d) false i ⟨upd h.H i (some (.cells (plC n xs w0 w1 m (V ++ [(x.1, a2, d)]) B ka kb ((s2.1 + 1) % xs.length, s2.2 - d) false))), upd h.T ka (some (.tail (V.length + 1)))⟩ (upd_same _ _ _) hg ((s2.1 + 1) % xs.length) (by omega)
    rw [Nat.mod_mod] at hst2
    simp only [plC, List.map_append, List.map_cons, List.map_nil, encP] at hst2
    (repeat (first | refine gO rfl ?_ | ((first | refine gR ?_ | (with_reducible refine wM ?_ ?_) | ((with_reducible refine xS ?_); refine uD 9 zM38 zP1DE zP1DP 97 rfl (by kernel_rfl) ?_)) <;> ((try with_reducible intro K1 hK1); simp only [go_sem, ↓reduceIte, reduceCtorEq, nA, nB, nC, nD, nE, nF, hH, hu, hne, er, List.length_map] <;> and_intros <;> first | (apply hK1; clear hK1 K1) | (intros; (omega)) | skip))))
    refine hst2.mono ?_; rintro _ hz ⟨rfl, hh⟩; apply hK1; clear hK1 K1; rw [hh]; clear hh hz
    (repeat (first | refine gO rfl ?_ | ((refine gR fun K1 hK1 => ?_; simp only [go_sem, ↓reduceIte, reduceCtorEq, nA, nB, nC, nD, nE, nF, hH, hu, encStep] <;> and_intros <;> (apply hK1; clear hK1 K1)))))
    refine ⟨(b - (a2 + d)).toNat, by omega, a2 + d, nextA xs s2.1, V ++ [(x.1, a2, d)], false, rfl, hwb, by omega, .inr ?_, by rw [List.length_append, List.length_singleton]; omega, by rw [List.append_assoc]; exact HV, HG, ?_⟩
    ·symm; simp only [decide_eq_false_iff_not]; exact Int.lt_irrefl _
    ·rw [List.map_append, List.length_append]; rfl
 ·have hd1 : decide (a2 < b) = false := by simpa using hab
  obtain rfl : a2 = b := by omega
  rw [gapF_stop xs s2 (Int.le_refl _)] at HV HG
  simp only [List.append_nil] at HV HG
  (repeat (first | refine gO rfl ?_ | ((refine gR fun K1 hK1 => ?_; simp only [go_sem, ↓reduceIte, reduceCtorEq, nA, nB, nC, nD, nE, nF, hd1] <;> and_intros <;> first | (apply hK1; clear hK1 K1) | skip))))
  refine ⟨.v (.bool true), rfl, hK1 _ ?_⟩; clear hK1 K1
  (repeat ((refine gO rfl ?_)))
  refine awp_cond (t := _) rfl (fun h9 => by cases h9) (fun _ => ?_)
  (repeat ((refine gO rfl ?_)))
  simp only [Tryz.results195, go_sem, ↓reduceIte, reduceCtorEq, nA, nB, nC, nD, nE, nF]
  exact ⟨_, _, Weak.refl _, Hp.le.refl _, rfl, V, s2, hf, ⟨⟨[], by rw [List.append_nil]; exact HV, .inl ⟨rfl, HG, hhf.resolve_left (by omega)⟩⟩, hVl, hs2⟩, rfl⟩
theorem g_gapE (i : Nat) (h : Hp) (a b : Int) (hab : b ≤ a) : ACalls Tryz.prog 195 [.ptr i 0, .v (.int .i64 a), .v (.int .i64 b)] h (fun r h' => r = .tup [] ∧ h' = h) := by
 have hd0 : decide (b ≤ a) = true := by simpa using hab
 refine gE Tryz.func195 rfl (by kernel_rfl) 94 rfl fun c => ?_
 (repeat (first | refine gO rfl ?_ | ((refine gR fun K1 hK1 => ?_; simp only [go_sem, ↓reduceIte, reduceCtorEq, nA, nB, nC, nD, nE, nF, hd0] <;> and_intros <;> (apply hK1; clear hK1 K1)))))
 refine awp_cond (t := _) rfl (fun _ => ?_) (fun h9 => by cases h9)
 (repeat ((refine gO rfl ?_)))
 simp only [Tryz.results195, go_sem, ↓reduceIte, reduceCtorEq, nA, nB, nC, nD, nE, nF]
 exact ⟨_, _, Weak.refl _, Hp.le.refl _, rfl, rfl⟩
abbrev zP1EE : List Nat := [0, 1, 2, 3, 4, 5, 6, 7, 8, 9, 10, 11, 12, 13, 14, 15, 16, 17, 18, 19]
abbrev zP1EP : List (Nat × List Nat × List Nat) := []
abbrev zP1FE : List Nat := [0, 1, 2, 3, 4, 5, 6, 7, 8, 9, 10, 11, 12]
abbrev zP1FP : List (Nat × List Nat × List Nat) := [(13, [], [14, 15]), (16, [], [])]
attribute [go_sem] zP1EE zP1EP zP1FE zP1FP
structure PlH (h0 h : Hp) (i ka kb : Nat) (n : Int) (xs : List (ByteArray × Int)) (w0 w1 m : Int) (A B : List Pl) (s : Nat × Int) (half : Bool) : Prop where
 p : h.H i = some (.cells (plC n xs w0 w1 m A B ka kb s half))
 a : h.T ka = some (.tail A.length)
 b : h.T kb = some (.tail B.length)
 o : ∀ j, j ≠ i → h.H j = h0.H j
theorem PlH.own {h0 h : Hp} {i ka kb : Nat} {n : Int} {xs : List (ByteArray × Int)} {w0 w1 m : Int} {A B A' : List Pl} {s s' : Nat × Int} {half half' : Bool} (H : PlH h0 h i ka kb n xs w0 w1 m A B s half) (hk : ka ≠ kb) :
  PlH h0 ⟨upd h.H i (some (.cells (plC n xs w0 w1 m A' B ka kb s' half'))), upd h.T ka (some (.tail A'.length))⟩ i ka kb n xs w0 w1 m A' B s' half' :=
 ⟨upd_same _ _ _, upd_same _ _ _, (upd_other _ _ (Ne.symm hk)).trans H.b, fun j hj => (upd_other _ _ hj).trans (H.o j hj)⟩
theorem PlH.same {h0 h : Hp} {i ka kb : Nat} {n : Int} {xs : List (ByteArray × Int)} {w0 w1 m : Int} {A B : List Pl} {s s' : Nat × Int} {half half' : Bool} (H : PlH h0 h i ka kb n xs w0 w1 m A B s half) :
  PlH h0 ⟨upd h.H i (some (.cells (plC n xs w0 w1 m A B ka kb s' half'))), h.T⟩ i ka kb n xs w0 w1 m A B s' half' :=
 ⟨upd_same _ _ _, H.a, H.b, fun j hj => (upd_other _ _ hj).trans (H.o j hj)⟩
theorem g_gapAny (h0 : Hp) (n : Int) (xs : List (ByteArray × Int)) (w0 w1 m : Int) (A B : List Pl) (ka kb : Nat) (s : Nat × Int) (half : Bool) (i : Nat) (h : Hp) (H : PlH h0 h i ka kb n xs w0 w1 m A B s half) (hk : ka ≠ kb) (hg : GoodS xs) {q : Nat × Int} (hs : StP xs w0 m s half q)
  (hm : m = 1 ∨ m = 2 ∨ m = 3 ∨ m = 4) (a b : Int) (hw : 0 ≤ w0 ∧ w0 ≤ a ∧ a ≤ b ∧ b ≤ 1000000000000) (hl : A.length + B.length ≤ 3999) :
  ACalls Tryz.prog 195 [.ptr i 0, .v (.int .i64 a), .v (.int .i64 b)] h (fun r h' => r = .tup [] ∧ ∃ A' s' half' q', PlH h0 h' i ka kb n xs w0 w1 m A' B s' half' ∧ StP xs w0 m s' half' q' ∧ A'.length + B.length ≤ max 3001 (A.length + B.length) ∧
   ((A' = A ++ (gapF xs (goOnF xs w0 m q a) a b).1 ∧ (∀ x, b ≤ x → goOnF xs w0 m q' x = goOnF xs w0 m (gapF xs (goOnF xs w0 m q a) a b).2 x)) ∨ (3000 < A'.length + B.length ∧ ∃ R, A' ++ R = A ++ (gapF xs (goOnF xs w0 m q a) a b).1))) := by
 by_cases hab : a < b
 ·refine (g_gap n xs w0 w1 m A B ka kb s half i h H.p H.a hg hs hm a b ⟨hw.1, hw.2.1, hab, hw.2.2.2⟩ hl).mono ?_
  rintro r h' ⟨e, A', s', half', hG, rfl⟩
  obtain ⟨R, hR, hc⟩ := hG.ex
  rcases hc with ⟨rfl, e2, e3⟩ | hf
  ·rw [List.append_nil] at hR
   exact ⟨e, A', s', half', s', H.own hk, StP.of hG.wf e3, hG.len, .inl ⟨hR, fun x _ => by rw [e2]⟩⟩
  ·obtain ⟨q', hq'⟩ := StP.any hg.pos hg.ne w0 m half' hG.wf
   exact ⟨e, A', s', half', q', H.own hk, hq', hG.len, .inr ⟨hf, R, hR⟩⟩
 ·refine (g_gapE i h a b (by omega)).mono ?_
  rintro r h' ⟨e, rfl⟩
  refine ⟨e, A, s, half, q, H, hs, by omega, .inl ⟨?_, fun x _ => ?_⟩⟩
  ·rw [gapF_stop xs _ (by omega), List.append_nil]
  ·rw [gapF_stop xs _ (by omega), goOn_twice]
theorem Row.back : ∀ {cs : List Pl} {x y w1 : Int}, Row cs x w1 → y ≤ x → Row cs y w1
 | [], x, y, w1, h, hy => Int.le_trans hy h
 | c :: cs, x, y, w1, h, hy => ⟨Int.le_trans hy h.1, h.2⟩
def RunI (xs : List (ByteArray × Int)) (w0 w1 m : Int) (U : List (Pl × Bool)) (cs : List Pl) (q : Nat × Int) (at_ : Int) (A B : List Pl) : Prop :=
 (∃ V, V ++ runE xs w0 w1 m cs (goOnF xs w0 m q at_) at_ = U ∧ A = ownF V ∧ B = brkF V) ∨ (3000 < A.length + B.length ∧ 3000 < U.length)
theorem g_run (n : Int) (xs : List (ByteArray × Int)) (w0 w1 m : Int) (ka kb : Nat) (bs : List Wn) (i : Nat) (h : Hp) (H : PlH h h i ka kb n xs w0 w1 m [] [] (0, 0) false) (hk : ka ≠ kb) (hg : GoodS xs)
  (hm : m = 1 ∨ m = 2 ∨ m = 3 ∨ m = 4) (hw : 0 ≤ w0 ∧ w0 ≤ w1 ∧ w1 ≤ 345686400000) (hbl : bs.length ≤ 500) (hb : Brk bs 0) {U : List (Pl × Bool)} (hU : runE xs w0 w1 m (cutF w0 w1 bs) (0, longA xs 0) w0 = U) :
  ACalls Tryz.prog 147 [.ptr i 0, .row 3 (bs.map encW) none] h (fun r h' => r = .tup [] ∧ ∃ A B s half, PlH h h' i ka kb n xs w0 w1 m A B s half ∧ A.length + B.length ≤ 4000 ∧ ((A = ownF U ∧ B = brkF U) ∨ (3000 < A.length + B.length ∧ 3000 < U.length))) := by
 have hx0 := List.length_pos_iff.2 hg.ne
 have hgl := hg.len
 have hp0 := H.p
 unfold plC at hp0
 refine gE Tryz.func147 rfl (by kernel_rfl) 73 rfl fun c => ?_
 (repeat (first | refine gO rfl ?_ | ((refine gM zM39 fun K1 hK1 => ?_; simp only [go_sem, ↓reduceIte, reduceCtorEq, nA, nB, nC, nD, nE, nF, hp0, List.length_map] <;> and_intros <;> (apply hK1; clear hK1 K1)))))
 clear hp0
 refine awp_loopC (rl false [0, 1, 3, 1, 9, 3, 58]) 0 (fun g s => ∃ (j : Nat) (at1 : Int) (A B : List Pl) (s1 q : Nat × Int) (half : Bool) (h3 : Hp), g + j = bs.length ∧ PlH h h3 i ka kb n xs w0 w1 m A B s1 half ∧ StP xs w0 m s1 half q ∧ (w0 ≤ at1 ∧ at1 ≤ w1) ∧ Row (cutF w0 w1 (bs.drop j)) at1 w1 ∧ A.length + B.length ≤ 3002 ∧ RunI xs w0 w1 m U (cutF w0 w1 (bs.drop j)) q at1 A B ∧
  s = ⟨((.ptr i 0) :: (jnk 3 ((.v (.int .i64 at1)) :: (jnk 9 ((.row 3 (bs.map encW) none) :: (.v (.int .i64 bs.length)) :: (.v (.int .i64 j)) :: (jnk 58 [])))))), [], h3⟩) bs.length
  ⟨0, w0, [], [], (0, 0), (0, longA xs 0), false, h, by omega, H, StP.first hg.pos hg.ne _ _ _, by omega, row_cut hb hw.2.1 (by omega), by simp, .inl ⟨[], by rw [goOn_first hg.pos hg.ne]; exact hU, rfl, rfl⟩, rfl⟩ ?_
 clear H
 rintro g _ ⟨j, at1, A, B, s1, q, half, h3, hj, H, hs, ha, hr, hl, hI, rfl⟩
 (repeat (first | refine gO rfl ?_ | ((refine gM zM39 fun K1 hK1 => ?_; simp only [go_sem, ↓reduceIte, reduceCtorEq, nA, nB, nC, nD, nE, nF] <;> and_intros <;> (apply hK1; clear hK1 K1)))))
 refine awp_cond (t := _) rfl (fun h1 => ?_) (fun h1 => ?_)
 ·simp only [decide_eq_true_eq] at h1
  have hjl : j < bs.length := by omega
  have gx : (bs.map encW).getD j [] = [.v (.string (bs.getD j default).1), .v (.int .i64 (bs.getD j default).2.1), .v (.int .i64 (bs.getD j default).2.2)] := getD_enc encW bs j default hjl
  rw [drop_at bs j default hjl, cutF_cons] at hr hI
  generalize bs.getD j default = x at gx hr hI
  have hp := H.p
  unfold plC at hp
  by_cases hft : max x.2.1 w0 < min x.2.2 w1
  ·rw [if_pos hft] at hr hI
   have hd0 : decide (min x.2.2 w1 ≤ max x.2.1 w0) = false := by simp only [decide_eq_false_iff_not]; omega
   (repeat (first | refine gO rfl ?_ | ((first | refine gM zM39 ?_ | ((with_reducible refine xS ?_); refine uD 4 zM39 zP1EE zP1EP 75 rfl (by kernel_rfl) ?_)) <;> ((try with_reducible intro K1 hK1); simp only [go_sem, ↓reduceIte, reduceCtorEq, nA, nB, nC, nD, nE, nF, Int.toNat_natCast, gx, hp, hd0] <;> and_intros <;> first | (apply hK1; clear hK1 K1) | (intros; first | omega | (simp_all <;> omega)) | skip))))
   refine (g_full n xs w0 w1 m A B ka kb s1 half i h3 H.p (by omega) (by omega)).mono ?_; rintro _ hz ⟨rfl, hh⟩; refine ⟨rfl, hK1 _ ?_⟩; clear hK1 K1; rw [hh]; clear hh hz
   have hf0 : decide (3000 < A.length + B.length) = true ∨ decide (3000 < A.length + B.length) = false := by cases decide (3000 < A.length + B.length) <;> simp
   rcases hf0 with hf1 | hf1
   ·rw [hf1]
    have hfl : 3000 < A.length + B.length := by simpa using hf1
    (repeat (first | refine gO rfl ?_ | ((refine gM zM39 fun K1 hK1 => ?_; simp only [go_sem, ↓reduceIte, reduceCtorEq, nA, nB, nC, nD, nE, nF] <;> and_intros <;> (apply hK1; clear hK1 K1)))))
    refine awp_cond (t := _) rfl (fun _ => ?_) (fun h9 => by cases h9)
    (repeat (first | refine gO rfl ?_ | ((refine gM zM39 fun K1 hK1 => ?_; simp only [go_sem, ↓reduceIte, reduceCtorEq, nA, nB, nC, nD, nE, nF] <;> and_intros <;> first | (apply hK1; clear hK1 K1) | (intros; (omega))))))
    have f2 : 3000 < U.length := by
     rcases hI with ⟨V, hV, e1, e2⟩ | ⟨_, f2⟩
     ·have e3 := ownF_len V
      have e4 := congrArg List.length hV
      rw [List.length_append] at e4
      rw [e1, e2] at hfl
      omega
     ·exact f2
    have r2 : max x.2.1 w0 < min x.2.2 w1 := hft
    have r1 : at1 ≤ max x.2.1 w0 := hr.1
    have r3 : Row (cutF w0 w1 (bs.drop (j + 1))) (min x.2.2 w1) w1 := hr.2.2
    exact ⟨g - 1, by omega, j + 1, at1, A, B, s1, q, half, h3, by omega, H, hs, ha, r3.back (by omega), hl, .inr ⟨hfl, f2⟩, rfl⟩
   ·rw [hf1]
    have hfl : ¬ 3000 < A.length + B.length := by simpa using hf1
    (repeat (first | refine gO rfl ?_ | ((refine gM zM39 fun K1 hK1 => ?_; simp only [go_sem, ↓reduceIte, reduceCtorEq, nA, nB, nC, nD, nE, nF] <;> and_intros <;> (apply hK1; clear hK1 K1)))))
    refine awp_cond (t := _) rfl (fun h9 => by cases h9) (fun _ => ?_)
    (repeat (first | refine gO rfl ?_ | ((refine gM zM39 fun K1 hK1 => ?_; simp only [go_sem, ↓reduceIte, reduceCtorEq, nA, nB, nC, nD, nE, nF] <;> and_intros))))
    have r1 : at1 ≤ max x.2.1 w0 := hr.1
    have r3 : Row (cutF w0 w1 (bs.drop (j + 1))) (min x.2.2 w1) w1 := hr.2.2
    refine (g_gapAny h n xs w0 w1 m A B ka kb s1 half i h3 H hk hg hs hm at1 (max x.2.1 w0) ⟨hw.1, ha.1, r1, by omega⟩ (by omega)).mono ?_
    rintro _ h4 ⟨rfl, A', s', half', q', H', hs', hl', hc⟩
    refine hK1 _ ?_; clear hK1 K1
    have hp' := H'.p
    have hb' := H'.b
    have hlb' : (B.map encP).length = B.length := List.length_map _
    unfold plC at hp'
    (repeat (first | refine gO rfl ?_ | ((first | refine gM zM39 ?_ | (with_reducible refine wM ?_ ?_) | ((with_reducible refine xS ?_); refine uD 7 zM39 zP1FE zP1FP 75 rfl (by kernel_rfl) ?_)) <;> ((try with_reducible intro K1 hK1); simp only [go_sem, ↓reduceIte, reduceCtorEq, nA, nB, nC, nD, nE, nF, hp', hb', hlb'] <;> and_intros <;> first | (apply hK1; clear hK1 K1) | (intros; first | omega | decide)))))
    have hH5 : PlH h ⟨upd h4.H i (some (.cells (plC n xs w0 w1 m A' (B ++ [(x.1, max x.2.1 w0, min x.2.2 w1 - max x.2.1 w0)]) ka kb s' half'))), upd h4.T kb (some (.tail (B.length + 1)))⟩ i ka kb n xs w0 w1 m A' (B ++ [(x.1, max x.2.1 w0, min x.2.2 w1 - max x.2.1 w0)]) s' half' :=
     ⟨upd_same _ _ _, (upd_other _ _ hk).trans H'.a, by rw [List.length_append]; exact upd_same _ _ _, fun k hk2 => (upd_other _ _ hk2).trans (H'.o k hk2)⟩
    refine ⟨g - 1, by omega, j + 1, min x.2.2 w1, A', B ++ [(x.1, max x.2.1 w0, min x.2.2 w1 - max x.2.1 w0)], s', q', half', _, by omega, hH5, hs', by omega, r3, by rw [List.length_append, List.length_singleton]; omega, ?_, ?_⟩
    ·rcases hI with ⟨V, hV, e1, e2⟩ | ⟨f1, _⟩
     ·have hVe : V ++ (tagF (gapF xs (goOnF xs w0 m q at1) at1 (max x.2.1 w0)).1 ++ ((x.1, max x.2.1 w0, min x.2.2 w1 - max x.2.1 w0), true) :: runE xs w0 w1 m (cutF w0 w1 (bs.drop (j + 1))) (goOnF xs w0 m (gapF xs (goOnF xs w0 m q at1) at1 (max x.2.1 w0)).2 (min x.2.2 w1)) (min x.2.2 w1)) = U := hV
      rcases hc with ⟨c1, c2⟩ | ⟨f3, R, hR⟩
      ·refine .inl ⟨V ++ (tagF (gapF xs (goOnF xs w0 m q at1) at1 (max x.2.1 w0)).1 ++ [((x.1, max x.2.1 w0, min x.2.2 w1 - max x.2.1 w0), true)]), ?_, ?_, ?_⟩
       ·rw [← hVe, c2 _ (by omega), List.append_assoc, List.append_assoc]; rfl
       ·rw [ownF_app, ownF_app, (ownF_tag _).1, c1, e1]; simp [ownF]
       ·rw [brkF_app, brkF_app, (ownF_tag _).2, e2]; simp [brkF]
      ·refine .inr ⟨by rw [List.length_append]; omega, ?_⟩
       have g1 := congrArg List.length hR
       have g2 := congrArg List.length hVe
       have g3 := ownF_len V
       simp only [List.length_append, tagF, List.length_map, List.length_cons] at g1 g2
       rw [e1] at g1
       rw [e2] at f3
       omega
     ·exact absurd f1 hfl
    ·rw [plC, List.map_append]; rfl
  ·rw [if_neg hft] at hr hI
   have hd0 : decide (min x.2.2 w1 ≤ max x.2.1 w0) = true := by simp only [decide_eq_true_eq]; omega
   (repeat (first | refine gO rfl ?_ | ((first | refine gM zM39 ?_ | ((with_reducible refine xS ?_); refine uD 4 zM39 zP1EE zP1EP 75 rfl (by kernel_rfl) ?_)) <;> ((try with_reducible intro K1 hK1); simp only [go_sem, ↓reduceIte, reduceCtorEq, nA, nB, nC, nD, nE, nF, Int.toNat_natCast, gx, hp, hd0] <;> and_intros <;> first | (apply hK1; clear hK1 K1) | (intros; (omega))))))
   refine awp_cond (t := _) rfl (fun _ => ?_) (fun h9 => by cases h9)
   (repeat (first | refine gO rfl ?_ | ((refine gM zM39 fun K1 hK1 => ?_; simp only [go_sem, ↓reduceIte, reduceCtorEq, nA, nB, nC, nD, nE, nF] <;> and_intros <;> first | (apply hK1; clear hK1 K1) | (intros; (omega))))))
   exact ⟨g - 1, by omega, j + 1, at1, A, B, s1, q, half, h3, by omega, H, hs, ha, hr, hl, hI, rfl⟩
 ·simp only [decide_eq_false_iff_not] at h1
  have hjl : j = bs.length := by omega
  subst hjl
  rw [List.drop_length] at hr hI
  have hp := H.p
  unfold plC at hp
  (repeat (first | refine gO rfl ?_ | ((refine gM zM39 fun K1 hK1 => ?_; simp only [go_sem, ↓reduceIte, reduceCtorEq, nA, nB, nC, nD, nE, nF, hp] <;> and_intros))))
  refine (g_gapAny h n xs w0 w1 m A B ka kb s1 half i h3 H hk hg hs hm at1 w1 ⟨hw.1, ha.1, ha.2, by omega⟩ (by omega)).mono ?_
  rintro _ h4 ⟨rfl, A', s', half', q', H', hs', hl', hc⟩
  refine hK1 _ ?_; clear hK1 K1
  (repeat ((refine gO rfl ?_)))
  simp only [Tryz.results147, go_sem, ↓reduceIte, reduceCtorEq, nA, nB, nC, nD, nE, nF]
  refine ⟨_, _, Weak.refl _, Hp.le.refl _, rfl, A', B, s', half', H', by omega, ?_⟩
  rcases hI with ⟨V, hV, rfl, rfl⟩ | ⟨f1, f2⟩
  ·have hVe : V ++ tagF (gapF xs (goOnF xs w0 m q at1) at1 w1).1 = U := hV
   rcases hc with ⟨rfl, _⟩ | ⟨f3, R, hR⟩
   ·refine .inl ⟨?_, ?_⟩
    ·rw [← hVe, ownF_app, (ownF_tag _).1]
    ·rw [← hVe, brkF_app, (ownF_tag _).2, List.append_nil]
   ·refine .inr ⟨f3, ?_⟩
    have e1 := congrArg List.length hR
    have e2 := congrArg List.length hVe
    have e3 := ownF_len V
    simp only [List.length_append, tagF, List.length_map] at e1 e2
    omega
  ·refine .inr ⟨?_, f2⟩
   rcases hc with ⟨rfl, _⟩ | ⟨f3, _⟩
   ·rw [List.length_append]; omega
   ·exact f3
theorem ACalls.pure {P : Program} {f : Nat} {args : List AV} {R : AV → Prop} (hc : ACalls P f args ⟨fun _ => none, fun _ => none⟩ (fun r _ => R r)) (h : Hp) : ACalls P f args h (fun r h' => R r ∧ h' = ⟨h.H, fun _ => none⟩) := by
 refine ⟨hc.ok, fun G w vs hs hl ha => ?_⟩
 have h0 : Hp.le ⟨fun _ => none, fun _ => none⟩ h := ⟨fun _ => .inl rfl, fun _ => .inl rfl⟩
 refine (hc.calls G w vs (hs.less h0) hl ha).mono ?_
 rintro e w' ⟨r, h', G', v, rfl, hR, g1, f1, s1, r1⟩
 have hno : ∀ b, ¬ Own G ⟨fun _ => none, fun _ => none⟩ b := by
  rintro b (⟨i, a, _⟩ | ⟨k, t, a, _⟩)
  ·exact a rfl
  ·exact a rfl
 have hk := fun b hb => f1.keep b hb (hno b)
 have hat : ∀ i b, h.H i ≠ none → G'.at_ i = some b → G.at_ i = some b := fun i b a c => by
  obtain ⟨ob, hob⟩ := Option.ne_none_iff_exists'.1 a
  obtain ⟨b2, o, e1, _⟩ := hs.obj i ob hob
  have h2 := g1.at_ i b2 e1
  rw [c] at h2
  cases h2
  exact e1
 refine ⟨r, ⟨h.H, fun _ => none⟩, G', v, rfl, ⟨hR, rfl⟩, g1, ?_, ?_, r1⟩
 ·refine ⟨f1.os, f1.tape, f1.output, f1.size, fun b hb hn => ?_⟩
  obtain ⟨x, y, z⟩ := hk b hb
  refine ⟨x, ?_, z⟩
  rintro (⟨i, a, c⟩ | ⟨k, t, a, _⟩)
  ·exact hn (.inl ⟨i, a, hat i b a c⟩)
  ·exact a rfl
 ·refine ⟨s1.val, fun i ob e => ?_, fun i j b hi hj e1 e2 => hs.inj i j b hi hj (hat i b hi e1) (hat j b hj e2), (fun k m e => by cases e), (fun k l s t a => absurd rfl a), (fun k i t a => absurd rfl a), s1.fat, s1.ftl⟩
  obtain ⟨b, o, e1, e2, e3, e4⟩ := hs.obj i ob e
  have hbl : b < w.heap.size := (Array.getElem?_eq_some_iff.1 e2).1
  obtain ⟨x, y, z⟩ := hk b hbl
  exact ⟨b, o, g1.at_ i b e1, x.trans e2, e3.mono g1, fun q => (z q).trans (e4 q)⟩
theorem cntF_push (l : List (ByteArray × Int)) (x : ByteArray × Int) (k : ByteArray) : cntF (l ++ [x]) k = cntF l k + if (x.1 == k) = true then 1 else 0 := by
 rw [cntF, cntF, List.filter_append, List.length_append]
 by_cases h : (x.1 == k) = true
 ·rw [if_pos h, List.filter_cons_of_pos (p := fun x : ByteArray × Int => x.1 == k) h]; rfl
 ·rw [if_neg h, List.filter_cons_of_neg (p := fun x : ByteArray × Int => x.1 == k) h]; rfl
theorem longF_push (l : List (ByteArray × Int)) (x : ByteArray × Int) (k : ByteArray) : longF (l ++ [x]) k = longF l k + if (x.1 == k) = true then x.2 else 0 := by
 rw [longF, longF, List.filter_append, List.map_append, List.sum_append]
 by_cases h : (x.1 == k) = true
 ·rw [if_pos h, List.filter_cons_of_pos (p := fun x : ByteArray × Int => x.1 == k) h]; simp
 ·rw [if_neg h, List.filter_cons_of_neg (p := fun x : ByteArray × Int => x.1 == k) h]; simp
def encLo (x : ByteArray × Int × Int) : List AV := [.v (.string x.1), .v (.int .i64 x.2.1), .v (.int .i64 1), .v (.int .i64 x.2.2), .v (.int .i64 1)]
def allP (U : List (Pl × Bool)) : List (ByteArray × Int) := ofPl (U.map (·.1))
def ownP (U : List (Pl × Bool)) : List (ByteArray × Int) := ofPl (ownF U)
theorem allP_push (U : List (Pl × Bool)) (x : Pl × Bool) : allP (U ++ [x]) = allP U ++ [(x.1.1, x.1.2.2)] := by simp [allP, ofPl]
theorem ownP_push (U : List (Pl × Bool)) (x : Pl × Bool) : ownP (U ++ [x]) = ownP U ++ (if x.2 = true then [] else [(x.1.1, x.1.2.2)]) := by
 obtain ⟨x, b⟩ := x
 cases b <;> simp [ownP, ofPl, ownF]
theorem take_snoc {α : Type} (l : List α) (j : Nat) (d : α) (h : j < l.length) : l.take (j + 1) = l.take j ++ [l.getD j d] := by
 rw [List.take_add_one, List.getElem?_eq_getElem h, List.getD_eq_getElem?_getD, List.getElem?_eq_getElem h]; rfl
theorem filterMap_one {α β : Type} (f : α → Option β) (x : α) : [x].filterMap f = (f x).toList := by
 rw [List.filterMap_cons]
 cases f x <;> rfl
theorem pos_sub {l m : List (ByteArray × Int)} (h : Pos l) (hs : ∀ x ∈ m, x ∈ l) : Pos m := fun x hx => h x (hs x hx)
theorem allP_take (U : List (Pl × Bool)) (j : Nat) : ∀ x ∈ allP (U.take j), x ∈ allP U := fun x hx => by
 obtain ⟨y, hy, rfl⟩ := List.mem_map.1 hx
 obtain ⟨z, hz, rfl⟩ := List.mem_map.1 hy
 exact List.mem_map.2 ⟨_, List.mem_map.2 ⟨z, List.mem_of_mem_take hz, rfl⟩, rfl⟩
theorem ownP_take (U : List (Pl × Bool)) (j : Nat) : ∀ x ∈ ownP (U.take j), x ∈ ownP U := fun x hx => by
 obtain ⟨y, hy, rfl⟩ := List.mem_map.1 hx
 obtain ⟨z, hz, rfl⟩ := List.mem_map.1 hy
 obtain ⟨h1, h2⟩ := List.mem_filter.1 hz
 exact List.mem_map.2 ⟨_, List.mem_map.2 ⟨z, List.mem_filter.2 ⟨List.mem_of_mem_take h1, h2⟩, rfl⟩, rfl⟩
theorem allP_len (U : List (Pl × Bool)) : (allP U).length = U.length := by simp [allP, ofPl]
theorem ownP_len (U : List (Pl × Bool)) : (ownP U).length ≤ U.length := by
 have := List.length_filter_le (fun x : Pl × Bool => !x.2) U
 simpa [ownP, ofPl, ownF] using this
theorem g_lostOf (xs : List (ByteArray × Int)) (w0 w1 m : Int) (bs : List Wn) (h : Hp) (hg : GoodS xs) (hw : 0 ≤ w0 ∧ w0 ≤ w1 ∧ w1 ≤ 345686400000) (hbl : bs.length ≤ 500) (hb : Brk bs 0) (hm : m = 1 ∨ m = 2 ∨ m = 3 ∨ m = 4)
  {U O : List (Pl × Bool)} (hU : runE xs w0 w1 m (cutF w0 w1 bs) (0, longA xs 0) w0 = U) (hO : runE xs w0 w1 m [] (0, longA xs 0) w0 = O) (hpU : Pos (ownP U)) (hpO : Pos (allP O)) :
  ACalls Tryz.prog 50 [.row 2 (xs.map encStep) none, .agg [.v (.int .i64 w0), .v (.int .i64 w1)], .row 3 (bs.map encW) none, .v (.int .i64 m)] h
   (fun r _ => r = if U.length ≤ 3000 ∧ O.length ≤ 3000 then .tup [.row 5 (((onceS (xs.map (·.1))).filterMap (lostK (ownP U) (allP O))).map encLo) none, .v (.int .i64 0)] else .tup [.row 5 [] none, .v (.int .i64 2)]) := by
 have hx0 := List.length_pos_iff.2 hg.ne
 have hgl := hg.len
 refine gE Tryz.func50 rfl (by kernel_rfl) 107 rfl fun c => ?_
 (repeat (first | refine gO rfl ?_ | (refine gM zM3A fun K1 hK1 => ?_; simp only [go_sem, ↓reduceIte, reduceCtorEq, nA, nB, nC, nD, nE, nF] <;> and_intros <;> first | (apply hK1; clear hK1 K1) | skip)))
 refine (g_runAll xs w0 w1 m bs h hg hw hbl hb hm).mono ?_
 rintro _ h2 ⟨V, R, hVR, hR, rfl⟩
 apply hK1; clear hK1 K1
 rw [hU] at hVR
 obtain ⟨q1, q2⟩ := run_len hVR hR
 (repeat (first | refine gO rfl ?_ | (refine gM zM3A fun K1 hK1 => ?_; simp only [go_sem, ↓reduceIte, reduceCtorEq, nA, nB, nC, nD, nE, nF] <;> and_intros <;> first | (apply hK1; clear hK1 K1) | skip)))
 have hnil := (g_runAll xs w0 w1 m [] h2 hg hw (by simp) trivial hm).weakArgs (args' := [.row 2 (xs.map encStep) none, .agg [.v (.int .i64 w0), .v (.int .i64 w1)], .v (.slice none 0 0), .v (.int .i64 m)]) rfl (fun j a b => by
  match j, a with
  | 0, _ => exact Weak.refl _
  | 1, _ => exact Weak.refl _
  | 2, _ => exact Weak.nil 3 0 0 ⟨rfl, rfl⟩
  | 3, _ => exact Weak.refl _)
 refine hnil.mono ?_
 rintro _ h3 ⟨V0, R0, hVR0, hR0, rfl⟩
 apply hK1; clear hK1 K1 hnil
 rw [show cutF w0 w1 [] = [] from rfl, hO] at hVR0
 obtain ⟨p1, p2⟩ := run_len hVR0 hR0
 have hd0 : decide ((V.length : Int) ≤ 3000) = true ∨ decide ((V.length : Int) ≤ 3000) = false := by cases decide ((V.length : Int) ≤ 3000) <;> simp
 have he0 : decide ((V0.length : Int) ≤ 3000) = true ∨ decide ((V0.length : Int) ≤ 3000) = false := by cases decide ((V0.length : Int) ≤ 3000) <;> simp
 rcases hd0 with hd | hd
 ·have hl : V.length ≤ 3000 := by simp only [decide_eq_true_eq] at hd; omega
  rcases he0 with he | he
  ·have hl0 : V0.length ≤ 3000 := by simp only [decide_eq_true_eq] at he; omega
   rw [if_pos ⟨q2.2 hl, p2.2 hl0⟩]
   have hv := q1 hl
   have hv0 := p1 hl0
   subst hv
   subst hv0
   (repeat (first | refine gO rfl ?_ | (refine gM zM3A fun K1 hK1 => ?_; simp only [go_sem, ↓reduceIte, reduceCtorEq, nA, nB, nC, nD, nE, nF, hd, he] <;> and_intros <;> (apply hK1; clear hK1 K1))))
   refine awp_cond (t := _) rfl (fun h9 => by cases h9) (fun _ => ?_)
   clear hd he hVR hVR0 hR hR0 q1 q2 p1 p2
   (repeat (first | refine gQ rfl ?_ | (refine gM zM3A fun K1 hK1 => ?_; simp only [go_sem, ↓reduceIte, reduceCtorEq, nA, nB, nC, nD, nE, nF] <;> and_intros <;> (apply hK1; clear hK1 K1))))
   refine awp_own 14 5 rfl ⟨rfl, rfl⟩ (fun k hk => ?_)
   (repeat (first | refine gO rfl ?_ | (refine gM zM3A fun K1 hK1 => ?_; simp only [go_sem, ↓reduceIte, reduceCtorEq, nA, nB, nC, nD, nE, nF] <;> and_intros)))
   refine (g_itemsOf xs _ hx0 hgl).mono ?_
   rintro _ h4 ⟨rfl, hle⟩
   have hT4 : h4.T k = some (.tail 0) := by
    rcases hle.T k with e | e
    ·replace e : upd h3.T k (some (TO.tail 0)) k = none := e
     rw [upd_same] at e; cases e
    ·rw [← e]; exact upd_same _ _ _
   refine hK1 _ ?_; clear hK1 K1
   have hol := onceS_len (xs.map (·.1))
   rw [List.length_map] at hol
   generalize onceS (xs.map (·.1)) = N at *
   have hal := allP_len V0
   have hwl := ownP_len V
   (repeat (first | refine gO rfl ?_ | (refine gM zM3A fun K1 hK1 => ?_; simp only [go_sem, ↓reduceIte, reduceCtorEq, nA, nB, nC, nD, nE, nF, List.length_map] <;> and_intros <;> (apply hK1; clear hK1 K1))))
   refine awp_loopC (rl false [10, 1, 1, 1, 1, 1, 30, 3, 63]) 0 (fun g s => ∃ (j : Nat) (h5 : Hp), g + j = N.length ∧ h5.T k = some (.tail ((N.take j).filterMap (lostK (ownP V) (allP V0))).length) ∧
    s = ⟨((jnk 10 ((.row 5 (V.map encD) none) :: AV.junk :: ((.row 5 (V0.map encD) none) :: AV.junk :: ((.row 5 (((N.take j).filterMap (lostK (ownP V) (allP V0))).map encLo) (some k)) :: (jnk 30 ((.row 1 (N.map encS) none) :: (.v (.int .i64 N.length)) :: (.v (.int .i64 j)) :: (jnk 63 [])))))))), [], h5⟩) N.length ⟨0, h4, by omega, hT4, rfl⟩ ?_
   clear hT4 hle
   rintro g _ ⟨j, h5, hj, hT5, rfl⟩
   have hlo : (((N.take j).filterMap (lostK (ownP V) (allP V0))).map encLo).length = ((N.take j).filterMap (lostK (ownP V) (allP V0))).length := List.length_map _
   have hlb : ((N.take j).filterMap (lostK (ownP V) (allP V0))).length ≤ 5000 := by
    have h1 := List.length_filterMap_le (lostK (ownP V) (allP V0)) (N.take j)
    have h2 := List.length_take_le j N
    omega
   (repeat (first | refine gO rfl ?_ | (refine gM zM3A fun K1 hK1 => ?_; simp only [go_sem, ↓reduceIte, reduceCtorEq, nA, nB, nC, nD, nE, nF] <;> and_intros <;> (apply hK1; clear hK1 K1))))
   refine awp_cond (t := _) rfl (fun h1 => ?_) (fun h1 => ?_)
   ·simp only [decide_eq_true_eq] at h1
    have hjl : j < N.length := by omega
    have gx : (N.map encS).getD j [] = encS (N.getD j default) := getD_enc encS N j default hjl
    have tx : (N.take (j + 1)).filterMap (lostK (ownP V) (allP V0)) = (N.take j).filterMap (lostK (ownP V) (allP V0)) ++ (lostK (ownP V) (allP V0) (N.getD j default)).toList := by
     rw [take_snoc N j default hjl, List.filterMap_append, filterMap_one]
    generalize N.getD j default = q at gx tx
    generalize (N.take j).filterMap (lostK (ownP V) (allP V0)) = L at *
    (repeat (first | refine gO rfl ?_ | (refine gM zM3A fun K1 hK1 => ?_; simp only [go_sem, ↓reduceIte, reduceCtorEq, nA, nB, nC, nD, nE, nF, Int.toNat_natCast, gx, encS, List.length_map] <;> and_intros <;> first | (apply hK1; clear hK1 K1) | (intros; (omega)))))
    refine awp_loopC (rl false [10, 1, 1, 1, 1, 1, 1, 3, 26, 3, 3, 3, 57]) 0 (fun g2 s => ∃ (i : Nat), g2 + i = V0.length ∧
     s = ⟨((jnk 10 ((.row 5 (V.map encD) none) :: AV.junk :: ((.row 5 (V0.map encD) none) :: AV.junk :: ((.row 5 (L.map encLo) (some k)) :: AV.junk :: ((.v (.string q)) :: (.v (.int .i64 (cntF (allP (V0.take i)) q))) :: (.v (.int .i64 (longF (allP (V0.take i)) q))) :: (jnk 26 ((.row 1 (N.map encS) none) :: (.v (.int .i64 N.length)) :: (.v (.int .i64 j)) :: (jnk 3 ((.row 5 (V0.map encD) none) :: (.v (.int .i64 V0.length)) :: (.v (.int .i64 i)) :: (jnk 57 []))))))))))), [], h5⟩) V0.length ⟨0, by omega, rfl⟩ ?_
    rintro g2 _ ⟨i, hi, rfl⟩
    have hb1 := longF_bd (pos_sub hpO (allP_take V0 i)) q
    have hb2 := allP_len (V0.take i)
    have hb3 := List.length_take_le i V0
    have hb4 := cntF_le (allP (V0.take i)) q
    (repeat (first | refine gO rfl ?_ | (refine gM zM3A fun K1 hK1 => ?_; simp only [go_sem, ↓reduceIte, reduceCtorEq, nA, nB, nC, nD, nE, nF] <;> and_intros <;> (apply hK1; clear hK1 K1))))
    refine awp_cond (t := _) rfl (fun h6 => ?_) (fun h6 => ?_)
    ·simp only [decide_eq_true_eq] at h6
     have hil : i < V0.length := by omega
     have gy : (V0.map encD).getD i [] = encD (V0.getD i default) := getD_enc encD V0 i default hil
     have ty := allP_push (V0.take i) (V0.getD i default)
     rw [← take_snoc V0 i default hil] at ty
     have hpx := hpO (((V0.getD i default).1.1), (V0.getD i default).1.2.2) (allP_take V0 (i + 1) _ (by rw [ty]; simp))
     have c1 := cntF_push (allP (V0.take i)) ((V0.getD i default).1.1, (V0.getD i default).1.2.2) q
     have c2 := longF_push (allP (V0.take i)) ((V0.getD i default).1.1, (V0.getD i default).1.2.2) q
     rw [← ty] at c1 c2
     generalize V0.getD i default = y at gy hpx c1 c2
     simp only at hpx
     (repeat (first | refine gO rfl ?_ | (refine gM zM3A fun K1 hK1 => ?_; simp only [go_sem, ↓reduceIte, reduceCtorEq, nA, nB, nC, nD, nE, nF, Int.toNat_natCast, gy, encD] <;> and_intros <;> first | (apply hK1; clear hK1 K1) | (intros; (omega)))))
     refine awp_cond (t := _) rfl (fun h7 => ?_) (fun h7 => ?_)
     ·rw [if_pos h7] at c1 c2
      (repeat (first | refine gO rfl ?_ | (refine gM zM3A fun K1 hK1 => ?_; simp only [go_sem, ↓reduceIte, reduceCtorEq, nA, nB, nC, nD, nE, nF] <;> and_intros <;> first | (apply hK1; clear hK1 K1) | (intros; (omega)))))
      exact ⟨g2 - 1, by omega, i + 1, by omega, by rw [c1, c2]; rfl⟩
     ·rw [if_neg (by rw [h7]; decide), Nat.add_zero] at c1
      rw [if_neg (by rw [h7]; decide), Int.add_zero] at c2
      (repeat (first | refine gO rfl ?_ | (refine gM zM3A fun K1 hK1 => ?_; simp only [go_sem, ↓reduceIte, reduceCtorEq, nA, nB, nC, nD, nE, nF] <;> and_intros <;> first | (apply hK1; clear hK1 K1) | (intros; (omega)))))
      exact ⟨g2 - 1, by omega, i + 1, by omega, by rw [c1, c2]; rfl⟩
    ·simp only [decide_eq_false_iff_not] at h6
     have hil : i = V0.length := by omega
     subst hil
     rw [List.take_length] at *
     clear hi h6 hb3
     obtain ⟨pc, hpc⟩ : ∃ pc, pc = cntF (allP V0) q := ⟨_, rfl⟩
     obtain ⟨pl, hpl⟩ : ∃ pl, pl = longF (allP V0) q := ⟨_, rfl⟩
     rw [← hpc] at hb4
     rw [← hpl] at hb1
     rw [← hpc, ← hpl]
     (repeat (first | refine gO rfl ?_ | (refine gM zM3A fun K1 hK1 => ?_; simp only [go_sem, ↓reduceIte, reduceCtorEq, nA, nB, nC, nD, nE, nF, List.length_map] <;> and_intros <;> (apply hK1; clear hK1 K1))))
     refine awp_loopC (rl false [10, 1, 1, 1, 1, 1, 1, 3, 26, 3, 22, 3, 38]) 0 (fun g2 s => ∃ (i : Nat), g2 + i = V.length ∧
      s = ⟨((jnk 10 ((.row 5 (V.map encD) none) :: AV.junk :: ((.row 5 (V0.map encD) none) :: AV.junk :: ((.row 5 (L.map encLo) (some k)) :: AV.junk :: ((.v (.string q)) :: (.v (.int .i64 ((pc : Int) - (cntF (ownP (V.take i)) q : Nat)))) :: (.v (.int .i64 (pl - longF (ownP (V.take i)) q))) :: (jnk 26 ((.row 1 (N.map encS) none) :: (.v (.int .i64 N.length)) :: (.v (.int .i64 j)) :: (jnk 22 ((.row 5 (V.map encD) none) :: (.v (.int .i64 V.length)) :: (.v (.int .i64 i)) :: (jnk 38 []))))))))))), [], h5⟩) V.length ⟨0, by omega, ?_⟩ ?_
     ·have z1 : (pc : Int) - (cntF (ownP (V.take 0)) q : Nat) = pc := by simp [ownP, ownF, ofPl, cntF]
      have z2 : pl - longF (ownP (V.take 0)) q = pl := by simp [ownP, ownF, ofPl, longF]
      rw [z1, z2]; rfl
     rintro g2 _ ⟨i, hi, rfl⟩
     have hd1 := longF_bd (pos_sub hpU (ownP_take V i)) q
     have hd2 := ownP_len (V.take i)
     have hd3 := List.length_take_le i V
     have hd4 := cntF_le (ownP (V.take i)) q
     have hd5 : (ownP (V.take i)).length ≤ 3000 := by omega
     (repeat (first | refine gO rfl ?_ | (refine gM zM3A fun K1 hK1 => ?_; simp only [go_sem, ↓reduceIte, reduceCtorEq, nA, nB, nC, nD, nE, nF] <;> and_intros <;> (apply hK1; clear hK1 K1))))
     refine awp_cond (t := _) rfl (fun h6 => ?_) (fun h6 => ?_)
     ·simp only [decide_eq_true_eq] at h6
      have hil : i < V.length := by omega
      have gy : (V.map encD).getD i [] = encD (V.getD i default) := getD_enc encD V i default hil
      have ty := ownP_push (V.take i) (V.getD i default)
      rw [← take_snoc V i default hil] at ty
      have hpx : (V.getD i default).2 = false → 1 ≤ (V.getD i default).1.2.2 ∧ (V.getD i default).1.2.2 ≤ 3600000 := fun e => hpU ((V.getD i default).1.1, (V.getD i default).1.2.2) (ownP_take V (i + 1) _ (by rw [ty, e]; simp))
      have c1 := cntF_push (ownP (V.take i)) ((V.getD i default).1.1, (V.getD i default).1.2.2) q
      have c2 := longF_push (ownP (V.take i)) ((V.getD i default).1.1, (V.getD i default).1.2.2) q
      generalize V.getD i default = y at gy hpx c1 c2 ty
      obtain ⟨⟨y1, y2, y3⟩, yb⟩ := y
      simp only at hpx c1 c2 ty
      have hyq : (y1 == q) = true ∨ (y1 == q) = false := by cases (y1 == q) <;> simp
      cases yb with
      | true =>
       rw [if_pos rfl, List.append_nil] at ty
       (repeat (first | refine gO rfl ?_ | (refine gM zM3A fun K1 hK1 => ?_; simp only [go_sem, ↓reduceIte, reduceCtorEq, nA, nB, nC, nD, nE, nF, Int.toNat_natCast, gy, encD] <;> and_intros <;> first | (apply hK1; clear hK1 K1) | (intros; (omega)))))
       refine awp_cond (t := _) rfl (fun h7 => by simp at h7) (fun _ => ?_)
       (repeat (first | refine gO rfl ?_ | (refine gM zM3A fun K1 hK1 => ?_; simp only [go_sem, ↓reduceIte, reduceCtorEq, nA, nB, nC, nD, nE, nF] <;> and_intros <;> first | (apply hK1; clear hK1 K1) | (intros; (omega)))))
       exact ⟨g2 - 1, by omega, i + 1, by omega, by rw [ty]; rfl⟩
      | false =>
       rw [if_neg (by decide)] at ty
       rw [← ty] at c1 c2
       have hpy := hpx rfl
       (repeat (first | refine gO rfl ?_ | (refine gM zM3A fun K1 hK1 => ?_; simp only [go_sem, ↓reduceIte, reduceCtorEq, nA, nB, nC, nD, nE, nF, Int.toNat_natCast, gy, encD] <;> and_intros <;> first | (apply hK1; clear hK1 K1) | (intros; (omega)))))
       refine awp_cond (t := _) rfl (fun h7 => ?_) (fun h7 => ?_)
       ·have h8 : (y1 == q) = true := by simpa using h7
        rw [if_pos h8] at c1 c2
        (repeat (first | refine gO rfl ?_ | (refine gM zM3A fun K1 hK1 => ?_; simp only [go_sem, ↓reduceIte, reduceCtorEq, nA, nB, nC, nD, nE, nF] <;> and_intros <;> first | (apply hK1; clear hK1 K1) | (intros; (omega)))))
        refine ⟨g2 - 1, by omega, i + 1, by omega, ?_⟩
        rw [c1, c2, Int.natCast_add, ← Int.sub_sub, ← Int.sub_sub]; rfl
       ·have h8 : (y1 == q) = false := by simpa using h7
        rw [if_neg (by rw [h8]; decide), Nat.add_zero] at c1
        rw [if_neg (by rw [h8]; decide), Int.add_zero] at c2
        (repeat (first | refine gO rfl ?_ | (refine gM zM3A fun K1 hK1 => ?_; simp only [go_sem, ↓reduceIte, reduceCtorEq, nA, nB, nC, nD, nE, nF] <;> and_intros <;> first | (apply hK1; clear hK1 K1) | (intros; (omega)))))
        exact ⟨g2 - 1, by omega, i + 1, by omega, by rw [c1, c2]; rfl⟩
     ·simp only [decide_eq_false_iff_not] at h6
      have hil : i = V.length := by omega
      subst hil
      rw [List.take_length] at *
      have hlk : lostK (ownP V) (allP V0) q = if (pc : Int) - (cntF (ownP V) q : Nat) ≠ 0 ∨ pl - longF (ownP V) q ≠ 0 then some (q, (pc : Int) - (cntF (ownP V) q : Nat), pl - longF (ownP V) q) else none := by rw [lostK, ← hpc, ← hpl]
      generalize (pc : Int) - (cntF (ownP V) q : Nat) = u at *
      generalize pl - longF (ownP V) q = v at *
      (repeat (first | refine gO rfl ?_ | (refine gM zM3A fun K1 hK1 => ?_; simp only [go_sem, ↓reduceIte, reduceCtorEq, nA, nB, nC, nD, nE, nF] <;> and_intros <;> (apply hK1; clear hK1 K1))))
      refine awp_cond (t := _) rfl (fun h7 => ?_) (fun h7 => ?_)
      ·rw [if_pos (by simp at h7; omega)] at hlk
       rw [hlk] at tx
       (repeat (first | refine gO rfl ?_ | (refine gM zM3A fun K1 hK1 => ?_; simp only [go_sem, ↓reduceIte, reduceCtorEq, nA, nB, nC, nD, nE, nF, hT5, hlo] <;> and_intros <;> first | (apply hK1; clear hK1 K1) | (intros; first | omega | decide))))
       refine ⟨g - 1, by omega, j + 1, ⟨h5.H, upd h5.T k (some (.tail (L.length + 1)))⟩, by omega, ?_, ?_⟩
       ·show upd _ _ _ _ = _
        rw [upd_same, tx, List.length_append]; rfl
       ·rw [tx, List.map_append]; rfl
      ·rw [if_neg (by simp at h7; omega)] at hlk
       rw [hlk] at tx
       rw [Option.toList_none, List.append_nil] at tx
       (repeat (first | refine gO rfl ?_ | (refine gM zM3A fun K1 hK1 => ?_; simp only [go_sem, ↓reduceIte, reduceCtorEq, nA, nB, nC, nD, nE, nF] <;> and_intros <;> first | (apply hK1; clear hK1 K1) | (intros; (omega)))))
       exact ⟨g - 1, by omega, j + 1, h5, by omega, by rw [tx]; exact hT5, by rw [tx]; rfl⟩
   ·simp only [decide_eq_false_iff_not] at h1
    have hjl : j = N.length := by omega
    subst hjl
    rw [List.take_length]
    (repeat (first | refine gO rfl ?_ | (refine gM zM3A fun K1 hK1 => ?_; simp only [go_sem, ↓reduceIte, reduceCtorEq, nA, nB, nC, nD, nE, nF] <;> and_intros <;> (apply hK1; clear hK1 K1))))
    simp only [Tryz.results50, go_sem, ↓reduceIte, reduceCtorEq, nA, nB, nC, nD, nE, nF]
    exact ⟨_, _, Weak.tup1 (Weak.row _ _ _) (Weak.refl _), Hp.le.refl _, rfl⟩
  ·rw [if_neg (fun h9 => by have := p2.1 h9.2; simp only [decide_eq_false_iff_not] at he; omega)]
   (repeat (first | refine gO rfl ?_ | (refine gM zM3A fun K1 hK1 => ?_; simp only [go_sem, ↓reduceIte, reduceCtorEq, nA, nB, nC, nD, nE, nF, hd, he] <;> and_intros <;> (apply hK1; clear hK1 K1))))
   refine awp_cond (t := _) rfl (fun _ => ?_) (fun h9 => by cases h9)
   (repeat (first | refine gO rfl ?_ | (refine gM zM3A fun K1 hK1 => ?_; simp only [go_sem, ↓reduceIte, reduceCtorEq, nA, nB, nC, nD, nE, nF] <;> and_intros <;> (apply hK1; clear hK1 K1))))
   simp only [Tryz.results50, go_sem, ↓reduceIte, reduceCtorEq, nA, nB, nC, nD, nE, nF]
   exact ⟨_, _, Weak.tup1 (Weak.nil 5 0 0 ⟨rfl, rfl⟩) (Weak.refl _), Hp.le.refl _, rfl⟩
 ·rw [if_neg (fun h9 => by have := q2.1 h9.1; simp only [decide_eq_false_iff_not] at hd; omega)]
  (repeat (first | refine gO rfl ?_ | (refine gM zM3A fun K1 hK1 => ?_; simp only [go_sem, ↓reduceIte, reduceCtorEq, nA, nB, nC, nD, nE, nF, hd] <;> and_intros <;> (apply hK1; clear hK1 K1))))
  refine awp_cond (t := _) rfl (fun _ => ?_) (fun h9 => by cases h9)
  (repeat (first | refine gO rfl ?_ | (refine gM zM3A fun K1 hK1 => ?_; simp only [go_sem, ↓reduceIte, reduceCtorEq, nA, nB, nC, nD, nE, nF] <;> and_intros <;> (apply hK1; clear hK1 K1))))
  simp only [Tryz.results50, go_sem, ↓reduceIte, reduceCtorEq, nA, nB, nC, nD, nE, nF]
  exact ⟨_, _, Weak.tup1 (Weak.nil 5 0 0 ⟨rfl, rfl⟩) (Weak.refl _), Hp.le.refl _, rfl⟩
theorem fills_bd : ∀ {l : List (Pl × Bool)} {a b : Int}, Fills l a b → ∀ x ∈ l, a ≤ x.1.2.1 ∧ x.1.2.1 ≤ b
 | [], _, _, _, x, hx => by cases hx
 | y :: l, a, b, h, x, hx => by
  have h1 := h.1
  have h2 := h.2.1
  have h3 := h.2.2.le
  rcases List.mem_cons.1 hx with rfl | hx
  ·omega
  ·have := fills_bd h.2.2 x hx
   omega
theorem fills_pos : ∀ {l : List (Pl × Bool)} {a b : Int}, Fills l a b → ∀ x ∈ l, 1 ≤ x.1.2.2
 | [], _, _, _, x, hx => by cases hx
 | y :: l, a, b, h, x, hx => by
  rcases List.mem_cons.1 hx with rfl | hx
  ·exact h.2.1
  ·exact fills_pos h.2.2 x hx
structure RunF (xs : List (ByteArray × Int)) (w0 w1 : Int) (U : List (Pl × Bool)) : Prop where
 fill : Fills U w0 w1
 own : Pos (ownP U)
 item : ∀ x ∈ ownP U, x.1 ∈ xs.map (·.1)
theorem run_facts {xs : List (ByteArray × Int)} (hg : GoodS xs) {w0 w1 m : Int} (hw : w0 ≤ w1) (h0 : 0 ≤ w0) {bs : List Wn} (hb : Brk bs 0) {U : List (Pl × Bool)} (hU : runE xs w0 w1 m (cutF w0 w1 bs) (0, longA xs 0) w0 = U) : RunF xs w0 w1 U := by
 obtain ⟨f1, f2⟩ := fills_run (w0 := w0) (m := m) hg.pos hg.ne (wf_first hg.pos hg.ne) (Int.le_refl w0) (row_cut hb hw (Int.le_max_right _ _))
 rw [hU] at f1 f2
 have h1 := fills_pos f1
 refine ⟨f1, fun x hx => ?_, fun x hx => ?_⟩
 ·obtain ⟨y, hy, rfl⟩ := List.mem_map.1 hx
  obtain ⟨z, hz, rfl⟩ := List.mem_map.1 hy
  obtain ⟨z1, z2⟩ := List.mem_filter.1 hz
  exact ⟨h1 z z1, (f2 z z1 (by simpa using z2)).1⟩
 ·obtain ⟨y, hy, rfl⟩ := List.mem_map.1 hx
  obtain ⟨z, hz, rfl⟩ := List.mem_map.1 hy
  obtain ⟨z1, z2⟩ := List.mem_filter.1 hz
  exact (f2 z z1 (by simpa using z2)).2
theorem run_all {xs : List (ByteArray × Int)} {w0 w1 m : Int} {s : Nat × Int} {now : Int} {O : List (Pl × Bool)} (hO : runE xs w0 w1 m [] s now = O) : ownP O = allP O ∧ brkF O = [] ∧ ownF O = O.map (·.1) := by
 rw [runE] at hO
 obtain ⟨e1, e2⟩ := ownF_tag (gapF xs s now w1).1
 rw [hO] at e1 e2
 have e3 : O.map (·.1) = (gapF xs s now w1).1 := by rw [← hO, tagF, List.map_map]; exact List.map_id _
 refine ⟨?_, e2, by rw [e1, e3]⟩
 rw [ownP, allP, e1, e3]
noncomputable def plyE (d : Nat) (t : LT) (bs : List Wn) (w0 w1 m : Int) : Int := orI [faultF t, brkE bs, if m < 1 ∨ 4 < m then 4 else 0, winE w0 w1, rdE d t]
def PlyR (d : Nat) (t : LT) (bs : List Wn) (w0 w1 m : Int) (r : AV) (h' : Hp) : Prop :=
 (plyE d t bs w0 w1 m ≠ 0 → r = .tup [.v (.pointer none), .v (.int .i64 (plyE d t bs w0 w1 m))]) ∧
 (plyE d t bs w0 w1 m = 0 → ∀ U, runE (rdS d t) w0 w1 m (cutF w0 w1 bs) (0, longA (rdS d t) 0) w0 = U →
  (3000 < U.length → r = .tup [.v (.pointer none), .v (.int .i64 2)]) ∧
  (U.length ≤ 3000 → ∃ (i ka kb : Nat) (s : Nat × Int) (half : Bool) (n : Int), r = .tup [.ptr i 0, .v (.int .i64 0)] ∧ h'.H i = some (.cells (plC n (rdS d t) w0 w1 m (ownF U) (brkF U) ka kb s half))))
theorem PlyR.bad {d : Nat} {t : LT} {bs : List Wn} {w0 w1 m : Int} {h' : Hp} {e : Int} (h1 : plyE d t bs w0 w1 m = e) (h0 : e ≠ 0) : PlyR d t bs w0 w1 m (.tup [.v (.pointer none), .v (.int .i64 e)]) h' :=
 ⟨fun _ => by rw [h1], fun h => absurd (h1.symm.trans h) h0⟩
theorem g_played (d : Nat) (t : LT) (bs : List Wn) (w0 w1 m : Int) (h : Hp) (hb : KC d t) (hd : manyF t ≤ 1000000000000000 ∧ d ≤ 1000) (hbs : ∀ x ∈ bs, WOk x) (hbl : bs.length ≤ 1000) :
  ACalls Tryz.prog 95 [.agg (encL t), .agg [.v (.int .i64 w0), .v (.int .i64 w1)], .row 3 (bs.map encW) none, .v (.int .i64 m)] h (fun r h' => PlyR d t bs w0 w1 m r h') := by
 have hlen := encL_len t
 have htk : List.take 6 (encL t) = encL t := List.take_of_length_le (Nat.le_of_eq hlen)
 have hdk : List.drop 6 (encL t) = [] := List.drop_of_length_le (Nat.le_of_eq hlen)
 have hck := fun h => g_check7 d t h hb hd
 have hbrk := fun h => g_brkP bs h hbs hbl
 have hgood := fun he => rd_good (d := d) (t := t) hb he
 refine gE Tryz.func95 rfl (by kernel_rfl) 52 rfl fun c => ?_
 (repeat (first | refine gO rfl ?_ | (refine gM zM3B fun K1 hK1 => ?_; simp only [go_sem, ↓reduceIte, reduceCtorEq, nA, nB, nC, nD, nE, nF, hlen, htk, hdk] <;> and_intros <;> first | (apply hK1; clear hK1 K1) | skip)))
 refine (hck _).mono ?_; rintro _ hz ⟨rfl, hh⟩; apply hK1; clear hK1 K1; rw [hh]; clear hh hz
 (repeat (first | refine gO rfl ?_ | (refine gM zM3B fun K1 hK1 => ?_; simp only [go_sem, ↓reduceIte, reduceCtorEq, nA, nB, nC, nD, nE, nF, hlen, htk, hdk] <;> and_intros <;> (apply hK1; clear hK1 K1))))
 by_cases hf : faultF t = 0
 ·have hv := vl_of d t hb (part_of_fault hf)
  have hrp := fun h => (g_roundP d t ⟨fun _ => none, fun _ => none⟩ hb hv (il_of d t (part_of_fault hf))).pure h
  have hpe : plyE d t bs w0 w1 m = orI [brkE bs, if m < 1 ∨ 4 < m then 4 else 0, winE w0 w1, roundE d t] := by rw [plyE, rdE, if_pos hf]; simp [orI, hf]
  have hrs : rdS d t = roundS d t := by rw [rdS, if_pos hf]
  unfold roundC at hrp
  rw [hf]
  refine awp_cond (t := _) rfl (fun h9 => by cases h9) (fun _ => ?_)
  (repeat (first | refine gO rfl ?_ | (refine gM zM3B fun K1 hK1 => ?_; simp only [go_sem, ↓reduceIte, reduceCtorEq, nA, nB, nC, nD, nE, nF, hlen, htk, hdk] <;> and_intros)))
  refine (hbrk _).mono ?_; rintro _ hz ⟨rfl, hh⟩; apply hK1; clear hK1 K1; rw [hh]; clear hh hz
  (repeat (first | refine gO rfl ?_ | (refine gM zM3B fun K1 hK1 => ?_; simp only [go_sem, ↓reduceIte, reduceCtorEq, nA, nB, nC, nD, nE, nF, hlen, htk, hdk] <;> and_intros <;> (apply hK1; clear hK1 K1))))
  by_cases hk : brkE bs = 0
  ·rw [hk]
   refine awp_cond (t := _) rfl (fun h9 => by cases h9) (fun _ => ?_)
   (repeat (first | refine gO rfl ?_ | (refine gM zM3B fun K1 hK1 => ?_; simp only [go_sem, ↓reduceIte, reduceCtorEq, nA, nB, nC, nD, nE, nF, hlen, htk, hdk] <;> and_intros)))
   refine (a_outside m 1 4 _).mono ?_; rintro _ hz ⟨rfl, hh⟩; apply hK1; clear hK1 K1; rw [hh]; clear hh hz
   by_cases hm : m < 1 ∨ 4 < m
   ·rw [show (decide (m < 1) || decide (4 < m)) = true by simpa using hm]
    refine awp_cond (t := _) rfl (fun _ => ?_) (fun h9 => by cases h9)
    (repeat (first | refine gO rfl ?_ | (refine gM zM3B fun K1 hK1 => ?_; simp only [go_sem, ↓reduceIte, reduceCtorEq, nA, nB, nC, nD, nE, nF] <;> and_intros <;> (apply hK1; clear hK1 K1))))
    simp only [Tryz.results95, go_sem, ↓reduceIte, reduceCtorEq, nA, nB, nC, nD, nE, nF]
    exact ⟨_, _, Weak.refl _, Hp.le.refl _, PlyR.bad (e := 4) (by rw [hpe]; simp [orI, hk, hm]) (by decide)⟩
   ·rw [show (decide (m < 1) || decide (4 < m)) = false by simpa using hm]
    refine awp_cond (t := _) rfl (fun h9 => by cases h9) (fun _ => ?_)
    (repeat (first | refine gO rfl ?_ | (refine gM zM3B fun K1 hK1 => ?_; simp only [go_sem, ↓reduceIte, reduceCtorEq, nA, nB, nC, nD, nE, nF, hlen, htk, hdk] <;> and_intros)))
    refine (a_outside w0 0 w1 _).mono ?_; rintro _ hz ⟨rfl, hh⟩; apply hK1; clear hK1 K1; rw [hh]; clear hh hz
    have bad1 : winE w0 w1 = 1 → plyE d t bs w0 w1 m = 1 := fun e => by rw [hpe]; simp [orI, hk, hm, e]
    by_cases ho : w0 < 0 ∨ w1 < w0
    ·rw [show (decide (w0 < 0) || decide (w1 < w0)) = true by simpa using ho]
     (repeat (first | refine gO rfl ?_ | (refine gM zM3B fun K1 hK1 => ?_; simp only [go_sem, ↓reduceIte, reduceCtorEq, nA, nB, nC, nD, nE, nF] <;> and_intros <;> (apply hK1; clear hK1 K1))))
     refine awp_cond (t := _) rfl (fun _ => ?_) (fun h9 => by cases h9)
     (repeat (first | refine gO rfl ?_ | (refine gM zM3B fun K1 hK1 => ?_; simp only [go_sem, ↓reduceIte, reduceCtorEq, nA, nB, nC, nD, nE, nF] <;> and_intros <;> (apply hK1; clear hK1 K1))))
     simp only [Tryz.results95, go_sem, ↓reduceIte, reduceCtorEq, nA, nB, nC, nD, nE, nF]
     refine ⟨_, _, Weak.refl _, Hp.le.refl _, PlyR.bad (e := 1) (bad1 ?_) (by decide)⟩
     rw [winE, if_pos]
     simp
     omega
    ·rw [show (decide (w0 < 0) || decide (w1 < w0)) = false by simpa using ho]
     by_cases ho2 : 345686400000 < w1
     ·have hd2 : decide (345686400000 < w1) = true := by simpa using ho2
      (repeat (first | refine gO rfl ?_ | (refine gM zM3B fun K1 hK1 => ?_; simp only [go_sem, ↓reduceIte, reduceCtorEq, nA, nB, nC, nD, nE, nF, hd2] <;> and_intros <;> (apply hK1; clear hK1 K1))))
      refine awp_cond (t := _) rfl (fun _ => ?_) (fun h9 => by cases h9)
      (repeat (first | refine gO rfl ?_ | (refine gM zM3B fun K1 hK1 => ?_; simp only [go_sem, ↓reduceIte, reduceCtorEq, nA, nB, nC, nD, nE, nF] <;> and_intros <;> (apply hK1; clear hK1 K1))))
      simp only [Tryz.results95, go_sem, ↓reduceIte, reduceCtorEq, nA, nB, nC, nD, nE, nF]
      refine ⟨_, _, Weak.refl _, Hp.le.refl _, PlyR.bad (e := 1) (bad1 ?_) (by decide)⟩
      rw [winE, if_pos]
      simp
      omega
     ·have hd2 : decide (345686400000 < w1) = false := by simpa using ho2
      have hwz : winE w0 w1 = 0 := by
       rw [winE, if_neg]
       simp
       omega
      have hpe2 : plyE d t bs w0 w1 m = roundE d t := by
       rw [hpe]
       by_cases h9 : roundE d t = 0 <;> simp [orI, hk, hm, hwz, h9]
      (repeat (first | refine gO rfl ?_ | (refine gM zM3B fun K1 hK1 => ?_; simp only [go_sem, ↓reduceIte, reduceCtorEq, nA, nB, nC, nD, nE, nF, hd2, hlen, htk, hdk] <;> and_intros <;> (apply hK1; clear hK1 K1))))
      refine awp_cond (t := _) rfl (fun h9 => by cases h9) (fun _ => ?_)
      (repeat (first | refine gO rfl ?_ | (refine gM zM3B fun K1 hK1 => ?_; simp only [go_sem, ↓reduceIte, reduceCtorEq, nA, nB, nC, nD, nE, nF, hlen, htk, hdk] <;> and_intros)))
      refine (hrp _).mono ?_
      rintro _ h2 ⟨rfl, rfl⟩
      refine hK1 _ ?_; clear hK1 K1
      have hsl : ((roundS d t).map (·.2)).sum = sumL (roundS d t) := rfl
      rw [hsl]
      clear hrp hck hbrk
      obtain ⟨hbk, hbl5⟩ := brkE_ok hk
      have hre : rdE d t = roundE d t := by rw [rdE, if_pos hf]
      unfold PlyR
      rw [hpe2]
      rw [hrs] at hgood ⊢
      rw [hre] at hgood
      clear hpe hpe2 hrs hre bad1 hwz
      generalize roundS d t = xs at *
      generalize ((roundN d t : Nat) : Int) = n at *
      generalize roundE d t = e at *
      (repeat (first | refine gO rfl ?_ | (refine gM zM3B fun K1 hK1 => ?_; simp only [go_sem, ↓reduceIte, reduceCtorEq, nA, nB, nC, nD, nE, nF] <;> and_intros <;> (apply hK1; clear hK1 K1))))
      by_cases he : e = 0
      ·subst he
       have hg := hgood rfl
       refine awp_cond (t := _) rfl (fun h9 => by cases h9) (fun _ => ?_)
       (repeat (first | refine gO rfl ?_ | (refine gM zM3B fun K1 hK1 => ?_; simp only [go_sem, ↓reduceIte, reduceCtorEq, nA, nB, nC, nD, nE, nF] <;> and_intros)))
       intro i hi
       refine hK1 _ ?_; clear hK1 K1
       refine vRem_nil ?_
       refine awp_ownRow i 6 4 (upd_same _ _ _) rfl (fun ka hka => ?_)
       refine awp_ownRow i 7 4 (upd_same _ _ _) rfl (fun kb hkb => ?_)
       have hkk : ka ≠ kb := fun e => by
        subst e
        have h9 : upd (fun _ => none) ka (some (TO.tail 0)) ka = none := hkb
        rw [upd_same] at h9
        cases h9
       simp only [upd_upd, List.set_cons_succ, List.set_cons_zero]
       have hw3 : 0 ≤ w0 ∧ w0 ≤ w1 ∧ w1 ≤ 345686400000 := by omega
       have hm4 : m = 1 ∨ m = 2 ∨ m = 3 ∨ m = 4 := by omega
       clear ho ho2 hm hd2 hbs hbl hka hkb
       obtain ⟨U, hU⟩ : ∃ U, runE xs w0 w1 m (cutF w0 w1 bs) (0, longA xs 0) w0 = U := ⟨_, rfl⟩
       (repeat ((refine gM zM3B fun K1 hK1 => ?_; simp only [go_sem, ↓reduceIte, reduceCtorEq, nA, nB, nC, nD, nE, nF] <;> and_intros)))
       refine (g_run n xs w0 w1 m ka kb bs i _ ⟨upd_same _ _ _, (upd_other _ _ hkk).trans (upd_same _ _ _), upd_same _ _ _, fun _ _ => rfl⟩ hkk hg hm4 hw3 hbl5 hbk hU).mono ?_
       rintro _ h3 ⟨rfl, A, B, s, half, H, hl4, hc⟩
       refine hK1 _ ?_; clear hK1 K1
       (repeat (first | refine gO rfl ?_ | (refine gM zM3B fun K1 hK1 => ?_; simp only [go_sem, ↓reduceIte, reduceCtorEq, nA, nB, nC, nD, nE, nF] <;> and_intros)))
       refine (g_full n xs w0 w1 m A B ka kb s half i h3 H.p (by omega) (by omega)).mono ?_; rintro _ hz ⟨rfl, hh⟩; apply hK1; clear hK1 K1; rw [hh]; clear hh hz
       have hol := ownF_len U
       by_cases hfu : 3000 < A.length + B.length
       ·rw [show decide (3000 < A.length + B.length) = true by simpa using hfu]
        refine awp_cond (t := _) rfl (fun _ => ?_) (fun h9 => by cases h9)
        (repeat (first | refine gO rfl ?_ | (refine gM zM3B fun K1 hK1 => ?_; simp only [go_sem, ↓reduceIte, reduceCtorEq, nA, nB, nC, nD, nE, nF] <;> and_intros <;> (apply hK1; clear hK1 K1))))
        simp only [Tryz.results95, go_sem, ↓reduceIte, reduceCtorEq, nA, nB, nC, nD, nE, nF]
        refine ⟨_, _, Weak.refl _, Hp.le.refl _, fun h9 => absurd trivial h9, fun U' hU' => ?_⟩
        rw [hU] at hU'
        subst hU'
        have hUl : 3000 < U.length := by
         rcases hc with ⟨rfl, rfl⟩ | ⟨_, f⟩
         ·omega
         ·exact f
        exact ⟨fun _ => rfl, fun h9 => by omega⟩
       ·rw [show decide (3000 < A.length + B.length) = false by simpa using hfu]
        obtain ⟨rfl, rfl⟩ := hc.resolve_right (fun h9 => hfu h9.1)
        have hp := H.p
        refine awp_cond (t := _) rfl (fun h9 => by cases h9) (fun _ => ?_)
        (repeat (first | refine gO rfl ?_ | (refine gM zM3B fun K1 hK1 => ?_; simp only [go_sem, ↓reduceIte, reduceCtorEq, nA, nB, nC, nD, nE, nF] <;> and_intros <;> (apply hK1; clear hK1 K1))))
        simp only [Tryz.results95, go_sem, ↓reduceIte, reduceCtorEq, nA, nB, nC, nD, nE, nF]
        refine ⟨_, _, Weak.refl _, Hp.le.refl _, fun h9 => absurd trivial h9, fun U' hU' => ?_⟩
        rw [hU] at hU'
        subst hU'
        exact ⟨fun h9 => by omega, fun _ => ⟨i, ka, kb, s, half, n, rfl, hp⟩⟩
      ·have hb9 : (e != 0) = true := by simpa using he
       refine awp_cond (t := _) rfl (fun _ => ?_) (fun h9 => by rw [hb9] at h9; cases h9)
       (repeat (first | refine gO rfl ?_ | (refine gM zM3B fun K1 hK1 => ?_; simp only [go_sem, ↓reduceIte, reduceCtorEq, nA, nB, nC, nD, nE, nF] <;> and_intros <;> (apply hK1; clear hK1 K1))))
       simp only [Tryz.results95, go_sem, ↓reduceIte, reduceCtorEq, nA, nB, nC, nD, nE, nF]
       exact ⟨_, _, Weak.refl _, Hp.le.refl _, fun _ => rfl, fun h => absurd h he⟩
  ·have hb9 : (brkE bs != 0) = true := by simpa using hk
   refine awp_cond (t := _) rfl (fun _ => ?_) (fun h9 => by rw [hb9] at h9; cases h9)
   (repeat (first | refine gO rfl ?_ | (refine gM zM3B fun K1 hK1 => ?_; simp only [go_sem, ↓reduceIte, reduceCtorEq, nA, nB, nC, nD, nE, nF] <;> and_intros <;> (apply hK1; clear hK1 K1))))
   simp only [Tryz.results95, go_sem, ↓reduceIte, reduceCtorEq, nA, nB, nC, nD, nE, nF]
   exact ⟨_, _, Weak.refl _, Hp.le.refl _, PlyR.bad (by rw [hpe]; simp [orI, hk]) hk⟩
 ·have hb9 : (faultF t != 0) = true := by simpa using hf
  refine awp_cond (t := _) rfl (fun _ => ?_) (fun h9 => by rw [hb9] at h9; cases h9)
  (repeat (first | refine gO rfl ?_ | (refine gM zM3B fun K1 hK1 => ?_; simp only [go_sem, ↓reduceIte, reduceCtorEq, nA, nB, nC, nD, nE, nF] <;> and_intros <;> (apply hK1; clear hK1 K1))))
  simp only [Tryz.results95, go_sem, ↓reduceIte, reduceCtorEq, nA, nB, nC, nD, nE, nF]
  exact ⟨_, _, Weak.refl _, Hp.le.refl _, PlyR.bad (by rw [plyE]; simp [orI, hf]) hf⟩
theorem arr_of_own0 {G : Gh} {h : Hp} {w w' : World} (hs : HSim G h w) (hb : RowKit.Below w.heap.size w w') {g c z : Nat} {E : TypeId} {cur : Array Value} (hg : w.heap.size ≤ g) (hh : w'.heap[g]? = some (.cells cur E (0, 0))) (hsz : cur.size = c * z) (hc : 0 < c) (hcm : c ≤ maxLen) :
  ∃ G' k, h.T k = none ∧ GLe G G' ∧ Fr G h w G' { h with T := upd h.T k (some (.cont z [])) } w' ∧ HSim G' { h with T := upd h.T k (some (.cont z [])) } w' ∧ Rep G' (.arr z k 0) (.slice (some ⟨g, 0, none⟩) 0 c) := by
 have hs' := hs.below hb.block
 have hk : h.T G.nx = none := by
  cases e : h.T G.nx with
  | none => rfl
  | some m => exact absurd (hs.ftl G.nx (Nat.le_refl _)) (hs.tok _ m e).tl
 have htk : (upd G.tl G.nx (some (some ⟨g, 0, z, c⟩))) G.nx = some (some ⟨g, 0, z, c⟩) := upd_same _ _ _
 have hto : ∀ l, l ≠ G.nx → (upd G.tl G.nx (some (some ⟨g, 0, z, c⟩))) l = G.tl l := fun l hl => upd_other _ _ hl
 have hle : GLe G { G with tl := upd G.tl G.nx (some (some ⟨g, 0, z, c⟩)), nx := G.nx + 1 } := ⟨fun _ _ _ e => e, fun _ _ e => e, Nat.le_succ _, fun j hj => by
  show TlLe _ (upd G.tl G.nx (some (some ⟨g, 0, z, c⟩)) j)
  rw [upd_other _ _ (by omega)]; exact .same _⟩
 have hbt : ∀ l t, h.T l ≠ none → G.tl l = some (some t) → t.g < w.heap.size := fun l t hl e => by
  obtain ⟨o, ho⟩ := Option.ne_none_iff_exists'.1 hl
  obtain ⟨vs, E, e2⟩ := (hs.tok l o ho).blk e
  exact (Array.getElem?_eq_some_iff.1 e2).1
 have hbo : ∀ i b, h.H i ≠ none → G.at_ i = some b → b < w.heap.size := fun i b hi e => by
  obtain ⟨o, ho⟩ := Option.ne_none_iff_exists'.1 hi
  obtain ⟨b', o', e1, e2, _⟩ := hs.obj i o ho
  rw [e] at e1
  cases e1
  exact (Array.getElem?_eq_some_iff.1 e2).1
 have hTn : ∀ l, l ≠ G.nx → upd h.T G.nx (some (TO.cont z [])) l ≠ none → h.T l ≠ none := fun l hl a => by rwa [upd_other _ _ hl] at a
 have hown : ∀ b, Own { G with tl := upd G.tl G.nx (some (some ⟨g, 0, z, c⟩)), nx := G.nx + 1 } { h with T := upd h.T G.nx (some (.cont z [])) } b → Own G h b ∨ b = g := by
  rintro b (⟨i, hi, e⟩ | ⟨l, t, hl, e, hgt⟩)
  ·exact .inl (.inl ⟨i, hi, e⟩)
  ·by_cases hlk : l = G.nx
   ·subst hlk
    replace e : upd G.tl G.nx (some (some ⟨g, 0, z, c⟩)) G.nx = some (some t) := e
    rw [htk] at e
    cases e
    exact .inr hgt.symm
   ·replace e : upd G.tl G.nx (some (some ⟨g, 0, z, c⟩)) l = some (some t) := e
    rw [hto l hlk] at e
    exact .inl (.inr ⟨l, t, hTn l hlk hl, e, hgt⟩)
 refine ⟨{ G with tl := upd G.tl G.nx (some (some ⟨g, 0, z, c⟩)), nx := G.nx + 1 }, G.nx, hk, hle, ⟨hb.os, hb.tape, hb.output, hb.size, fun b hb' hn => ⟨hb.block b hb', fun o => ?_, fun o => rfl⟩⟩, ?_, ?_⟩
 ·rcases hown b o with h1 | h1
  ·exact hn h1
  ·omega
 ·refine ⟨hs'.val, fun i ob e => ?_, hs'.inj, fun l m e => ?_, fun l j t t' hl hj e e' hg' => ?_, fun l i t hl hi e => ?_, fun i hi => hs.fat i (by have : G.nx + 1 ≤ i := hi; omega), fun l hl => ?_⟩
  ·obtain ⟨b, o, x, y, r, q⟩ := hs'.obj i ob e
   exact ⟨b, o, x, y, r.mono hle, q⟩
  ·by_cases hlk : l = G.nx
   ·subst hlk
    replace e : upd h.T G.nx (some (TO.cont z [])) G.nx = some m := e
    rw [upd_same] at e
    cases e
    exact .inr ⟨⟨g, 0, z, c⟩, cur, E, htk, rfl, hc, hh, hsz, Nat.zero_le _, hcm, fun o => hs.val_new hg o, rfl, (fun x hx => absurd hx List.not_mem_nil), ⟨by simp, fun j a b => absurd a (by simp)⟩⟩
   ·replace e : upd h.T G.nx (some (TO.cont z [])) l = some m := e
    rw [upd_other _ _ hlk] at e
    exact (hs'.tok l m e).move hle (hto l hlk) fun t _ => ⟨rfl, fun _ => rfl⟩
  ·replace e : upd G.tl G.nx (some (some ⟨g, 0, z, c⟩)) l = some (some t) := e
   replace e' : upd G.tl G.nx (some (some ⟨g, 0, z, c⟩)) j = some (some t') := e'
   by_cases hlk : l = G.nx
   ·by_cases hjk : j = G.nx
    ·rw [hlk, hjk]
    ·subst hlk
     rw [htk] at e
     cases e
     rw [hto j hjk] at e'
     have := hbt j t' (hTn j hjk hj) e'
     simp only at hg'
     omega
   ·rw [hto l hlk] at e
    have h1 := hbt l t (hTn l hlk hl) e
    by_cases hjk : j = G.nx
    ·subst hjk
     rw [htk] at e'
     cases e'
     simp only at hg'
     omega
    ·rw [hto j hjk] at e'
     exact hs'.tinj l j t t' (hTn l hlk hl) (hTn j hjk hj) e e' hg'
  ·replace e : upd G.tl G.nx (some (some ⟨g, 0, z, c⟩)) l = some (some t) := e
   intro e2
   by_cases hlk : l = G.nx
   ·subst hlk
    rw [htk] at e
    cases e
    have := hbo i _ hi e2
    simp only at this
    omega
   ·rw [hto l hlk] at e
    exact hs'.tobj l i t (hTn l hlk hl) hi e e2
  ·show upd G.tl G.nx (some (some ⟨g, 0, z, c⟩)) l = none
   have hl' : G.nx + 1 ≤ l := hl
   rw [upd_other _ _ (by omega)]
   exact hs.ftl l (by omega)
 ·refine .arr z G.nx 0 _ 0 c ⟨Nat.lt_succ_self _, ⟨_, _, rfl, Nat.zero_le _, .inr ⟨g, rfl⟩⟩, ?_⟩
  show match upd G.tl G.nx (some (some ⟨g, 0, z, c⟩)) G.nx with | none => True | some none => 0 = 0 ∧ ∃ a, Value.slice (some ⟨g, 0, none⟩) 0 c = .slice a 0 0 | some (some t) => 0 ≤ t.m ∧ (0 = t.m → Value.slice (some ⟨g, 0, none⟩) 0 c = .slice (some ⟨t.g, 0, none⟩) 0 t.c ∧ z = t.z)
  rw [htk]
  exact ⟨Nat.le_refl _, fun _ => ⟨rfl, rfl⟩⟩
open Go Go.RowKit Go.Lib
theorem infoPlay : (Tryz.prog.info? 102).map (fun i => (i.zero, i.size, i.bytes)) = some (some (.agg #[.string ⟨#[]⟩, .string ⟨#[]⟩, .int .i64 0, .int .i64 0]), 4, 48) := by kernel_rfl
theorem grow_any (n : Nat) (h0 : 0 < n) (hn : n ≤ 100000) (w : World) : Calls Tryz.prog 149 #[.slice none 0 0, .int .i64 n] w fun e w' =>
  ∃ g c cur, e = .returned (.slice (some ⟨g, 0, none⟩) 0 c) ∧ w.heap.size ≤ g ∧ w'.heap[g]? = some (.cells cur 102 (0, 0)) ∧ cur.size = c * 4 ∧ 0 < c ∧ c ≤ maxLen ∧ Below w.heap.size w w' := by
 obtain ⟨i0, hi, hz0, hz1, hz2⟩ := info_parts infoPlay
 have happ := fun (W : World) => Lib.run_append_nil_zeros (P := Tryz.prog) W 93 3 93 102 i0 _ .i64 .i64 Tryz.underlying93 Tryz.underlying3 hi hz0 n h0 (by rw [hz1]; omega) (by omega) (by rw [hz2]; omega)
 have hc1 := grownCap_ge w n 0 102
 have hc2 := grownCap_le_maxLen w n 0 102 (by unfold maxLen; omega)
 have hsz : (Builtin.zeroCells (Value.agg #[.string ⟨#[]⟩, .string ⟨#[]⟩, .int .i64 0, .int .i64 0]).cells n ++ Builtin.zeroCells (Value.agg #[.string ⟨#[]⟩, .string ⟨#[]⟩, .int .i64 0, .int .i64 0]).cells (grownCap w n 0 102 - n)).size = grownCap w n 0 102 * 4 := by
  rw [Array.size_append, size_zeroCells, size_zeroCells, show (Value.agg #[.string ⟨#[]⟩, .string ⟨#[]⟩, .int .i64 0, .int .i64 0]).cells.size = 4 from rfl]
  omega
 go_enter Tryz.func149, Tryz.ntmps149
 go_wp2_with (at_builtin; refine Lib.wpList_append_run _ rfl _ _ _ _ rfl _ _ rfl rfl _ _ (happ _) ?_)
 go_ret
 exact ⟨_, _, _, rfl, Nat.le_refl _, heap_alloc_new _ _, hsz, by omega, hc2, (Below.refl _ _).drew.alloc (Nat.le_refl _) _⟩
theorem grow_none (w : World) : Calls Tryz.prog 149 #[.slice none 0 0, .int .i64 0] w fun e w' => e = .returned (.slice none 0 0) ∧ w = w' := by
 go_enter Tryz.func149, Tryz.ntmps149
 go_wp2_with fail
 go_ret
 exact ⟨rfl, rfl⟩
theorem vs_two' {vs : Array Value} (h : vs.size = 2) : vs = #[vs.getD 0 undef, vs.getD 1 undef] := by
 apply Array.ext (by simpa using h)
 intro j hj hj'
 simp only [List.size_toArray, List.length_cons, List.length_nil] at hj'
 have hc : j = 0 ∨ j = 1 := by omega
 rcases hc with rfl | rfl <;> simp [Array.getD, h]
theorem g_grow (n : Nat) (h : Hp) (h0 : 0 < n) (hn : n ≤ 100000) : ACalls Tryz.prog 149 [.v (.slice none 0 0), .v (.int .i64 n)] h (fun r h' => ∃ q, h.T q = none ∧ r = .arr 4 q 0 ∧ h' = { h with T := upd h.T q (some (.cont 4 [])) }) := by
 refine acalls_mk (by kernel_rfl) fun G w vs hs hv ha => ?_
 have r0 := ha 0 (by simp)
 have r1 := ha 1 (by simp)
 rw [vs_two' hv]
 generalize vs.getD 0 undef = v at r0
 generalize vs.getD 1 undef = u at r1
 simp only [List.getElem_cons_zero] at r0
 simp only [List.getElem_cons_succ, List.getElem_cons_zero] at r1
 cases r0
 cases r1
 refine (grow_any n h0 hn w).mono ?_
 rintro e w' ⟨g, c, cur, rfl, a1, a2, a3, a4, a5, a6⟩
 obtain ⟨G', k, hk, g1, f1, s1, rr⟩ := arr_of_own0 hs a6 a1 a2 a3 a4 a5
 exact ⟨_, rfl, _, _, G', ⟨k, hk, rfl, rfl⟩, g1, f1, s1, rr⟩
theorem g_grow0 (h : Hp) : ACalls Tryz.prog 149 [.v (.slice none 0 0), .v (.int .i64 0)] h (fun r h' => r = .v (.slice none 0 0) ∧ h' = h) := by
 refine acalls_mk (by kernel_rfl) fun G w vs hs hv ha => ?_
 have r0 := ha 0 (by simp)
 have r1 := ha 1 (by simp)
 rw [vs_two' hv]
 generalize vs.getD 0 undef = v at r0
 generalize vs.getD 1 undef = u at r1
 simp only [List.getElem_cons_zero] at r0
 simp only [List.getElem_cons_succ, List.getElem_cons_zero] at r1
 cases r0
 cases r1
 refine (grow_none w).mono ?_
 rintro e w' ⟨rfl, rfl⟩
 exact ⟨_, rfl, .v (.slice none 0 0), h, G, ⟨rfl, rfl⟩, GLe.refl _, Fr.refl _ _ _, hs, .v _ rfl⟩
theorem g_concat (A B : List Pl) (ka kb : Option Nat) (h : Hp) (h0 : 0 < A.length + B.length) (hl : A.length + B.length ≤ 4000) :
  ACalls Tryz.prog 96 [.row 1 [[.row 4 (A.map encP) ka], [.row 4 (B.map encP) kb]] none] h
   (fun r h' => ∃ q, r = .arr 4 q (A.length + B.length) ∧ h'.T q = some (.cont 4 ((A ++ B).map encP))) := by
 have r0 : [[AV.row 4 (A.map encP) ka], [AV.row 4 (B.map encP) kb]].getD 0 [] = [AV.row 4 (A.map encP) ka] := rfl
 have r1 : [[AV.row 4 (A.map encP) ka], [AV.row 4 (B.map encP) kb]].getD 1 [] = [AV.row 4 (B.map encP) kb] := rfl
 have rl2 : [[AV.row 4 (A.map encP) ka], [AV.row 4 (B.map encP) kb]].length = 2 := rfl
 generalize [[AV.row 4 (A.map encP) ka], [AV.row 4 (B.map encP) kb]] = R at r0 r1 rl2 ⊢
 refine gE Tryz.func96 rfl (by kernel_rfl) 35 rfl fun c => ?_
 (repeat (first | refine gO rfl ?_ | (refine gR fun K1 hK1 => ?_; simp only [go_sem, ↓reduceIte, reduceCtorEq, nA, nB, nC, nD, nE, nF, rl2] <;> and_intros <;> (apply hK1; clear hK1 K1))))
 refine awp_loopC (rl false [0, 1, 2, 1, 5, 3, 24]) 0 (fun g s => ∃ (j : Nat) (sz : Int), g + j = 2 ∧ (j = 0 ∧ sz = 0 ∨ j = 1 ∧ sz = A.length ∨ j = 2 ∧ sz = A.length + B.length) ∧
  s = ⟨((.row 1 R none) :: AV.junk :: AV.junk :: ((.v (.int .i64 sz)) :: (jnk 5 ((.row 1 R none) :: (.v (.int .i64 2)) :: (.v (.int .i64 j)) :: (jnk 24 []))))), [], h⟩) 2
  ⟨0, 0, rfl, .inl ⟨rfl, rfl⟩, rfl⟩ ?_
 rintro g _ ⟨j, sz, hj, hc, rfl⟩
 (repeat (first | refine gO rfl ?_ | (refine gR fun K1 hK1 => ?_; simp only [go_sem, ↓reduceIte, reduceCtorEq, nA, nB, nC, nD, nE, nF] <;> and_intros <;> (apply hK1; clear hK1 K1))))
 refine awp_cond (t := _) rfl (fun h1 => ?_) (fun h1 => ?_)
 ·simp only [decide_eq_true_eq] at h1
  have hx : ∃ X kx, R.getD j [] = [AV.row 4 (X.map encP) kx] ∧ (j = 0 ∧ X = A ∨ j = 1 ∧ X = B) := by
   have hjc : j = 0 ∨ j = 1 := by omega
   rcases hjc with rfl | rfl
   ·exact ⟨A, ka, r0, .inl ⟨rfl, rfl⟩⟩
   ·exact ⟨B, kb, r1, .inr ⟨rfl, rfl⟩⟩
  obtain ⟨X, kx, gx, hX⟩ := hx
  have hs2 : sz + X.length = A.length ∧ j = 0 ∨ sz + X.length = A.length + B.length ∧ j = 1 := by
   rcases hX with ⟨rfl, rfl⟩ | ⟨rfl, rfl⟩ <;> rcases hc with ⟨h5, rfl⟩ | ⟨h5, rfl⟩ | ⟨h5, rfl⟩ <;> omega
  have hjl : j < R.length := by omega
  clear r0 r1 hX hc
  (repeat (first | refine gO rfl ?_ | (refine gR fun K1 hK1 => ?_; simp only [go_sem, ↓reduceIte, reduceCtorEq, nA, nB, nC, nD, nE, nF, Int.toNat_natCast, gx, rl2, List.length_map] <;> and_intros <;> first | (apply hK1; clear hK1 K1) | (intros; (omega)))))
  refine awp_cond (t := _) rfl (fun h9 => ?_) (fun _ => ?_)
  ·simp only [decide_eq_true_eq] at h9
   omega
  (repeat (first | refine gO rfl ?_ | (refine gR fun K1 hK1 => ?_; simp only [go_sem, ↓reduceIte, reduceCtorEq, nA, nB, nC, nD, nE, nF] <;> and_intros <;> first | (apply hK1; clear hK1 K1) | (intros; (omega)))))
  refine ⟨g - 1, by omega, j + 1, sz + X.length, by omega, ?_, rfl⟩
  omega
 ·simp only [decide_eq_false_iff_not] at h1
  have hj2 : j = 2 := by omega
  have hsz : sz = ((A.length + B.length : Nat) : Int) := by omega
  subst hj2 hsz
  clear hc h1 hj
  (repeat (first | refine gO rfl ?_ | (refine gR fun K1 hK1 => ?_; simp only [go_sem, ↓reduceIte, reduceCtorEq, nA, nB, nC, nD, nE, nF] <;> and_intros)))
  refine (g_grow (A.length + B.length) h h0 (by omega)).mono ?_
  rintro _ h2 ⟨q, hq, rfl, rfl⟩
  refine hK1 _ ?_; clear hK1 K1
  (repeat (first | refine gO rfl ?_ | (refine gR fun K1 hK1 => ?_; simp only [go_sem, ↓reduceIte, reduceCtorEq, nA, nB, nC, nD, nE, nF, rl2] <;> and_intros <;> (apply hK1; clear hK1 K1))))
  refine awp_loopC (rl false [6, 1, 18, 3, 8]) 0 (fun g s => ∃ (j : Nat) (X : List Pl), g + j = 2 ∧ (j = 0 ∧ X = [] ∨ j = 1 ∧ X = A ∨ j = 2 ∧ X = A ++ B) ∧
   s = ⟨((jnk 6 ((.arr 4 q X.length) :: (jnk 18 ((.row 1 R none) :: (.v (.int .i64 2)) :: (.v (.int .i64 j)) :: (jnk 8 [])))))), [], ⟨h.H, upd h.T q (some (.cont 4 (X.map encP)))⟩⟩) 2
   ⟨0, [], rfl, .inl ⟨rfl, rfl⟩, rfl⟩ ?_
  rintro g _ ⟨j, X, hj, hc, rfl⟩
  have hTq : ∀ Y, upd h.T q (some (TO.cont 4 Y)) q = some (.cont 4 Y) := fun Y => upd_same _ _ _
  (repeat (first | refine gO rfl ?_ | (refine gR fun K1 hK1 => ?_; simp only [go_sem, ↓reduceIte, reduceCtorEq, nA, nB, nC, nD, nE, nF] <;> and_intros <;> (apply hK1; clear hK1 K1))))
  refine awp_cond (t := _) rfl (fun h1 => ?_) (fun h1 => ?_)
  ·simp only [decide_eq_true_eq] at h1
   have hx : ∃ Y kx, R.getD j [] = [AV.row 4 (Y.map encP) kx] ∧ (j = 0 ∧ Y = A ∨ j = 1 ∧ Y = B) := by
    have hjc : j = 0 ∨ j = 1 := by omega
    rcases hjc with rfl | rfl
    ·exact ⟨A, ka, r0, .inl ⟨rfl, rfl⟩⟩
    ·exact ⟨B, kb, r1, .inr ⟨rfl, rfl⟩⟩
   obtain ⟨Y, kx, gx, hY⟩ := hx
   have hXY : (j + 1 = 0 ∧ X ++ Y = [] ∨ j + 1 = 1 ∧ X ++ Y = A ∨ j + 1 = 2 ∧ X ++ Y = A ++ B) ∧ X.length + Y.length ≤ 4000 := by
    rcases hY with ⟨rfl, rfl⟩ | ⟨rfl, rfl⟩ <;> rcases hc with ⟨h5, rfl⟩ | ⟨h5, rfl⟩ | ⟨h5, rfl⟩
    ·exact ⟨.inr (.inl ⟨rfl, rfl⟩), by simp; omega⟩
    ·omega
    ·omega
    ·omega
    ·exact ⟨.inr (.inr ⟨rfl, rfl⟩), hl⟩
    ·omega
   have hjl : j < R.length := by omega
   have hmx : (X.map encP).length = X.length := List.length_map _
   have hmy : (Y.map encP).length = Y.length := List.length_map _
   clear r0 r1 hY hc
   (repeat (first | refine gO rfl ?_ | (refine gR fun K1 hK1 => ?_; simp only [go_sem, ↓reduceIte, reduceCtorEq, nA, nB, nC, nD, nE, nF, Int.toNat_natCast, gx, rl2, hTq, hmx, hmy, upd_upd] <;> and_intros <;> first | (apply hK1; clear hK1 K1) | (intros; first | omega | (simp_all <;> omega)))))
   refine ⟨g - 1, by omega, j + 1, X ++ Y, by omega, hXY.1, ?_⟩
   rw [List.length_append, List.map_append]
   rfl
  ·simp only [decide_eq_false_iff_not] at h1
   have hj2 : j = 2 := by omega
   have hX : X = A ++ B := by
    rcases hc with ⟨h5, rfl⟩ | ⟨h5, rfl⟩ | ⟨h5, rfl⟩
    ·omega
    ·omega
    ·rfl
   subst hj2 hX
   clear hc h1 hj
   (repeat (first | refine gO rfl ?_ | (refine gR fun K1 hK1 => ?_; simp only [go_sem, ↓reduceIte, reduceCtorEq, nA, nB, nC, nD, nE, nF] <;> and_intros <;> (apply hK1; clear hK1 K1))))
   simp only [Tryz.results96, go_sem, ↓reduceIte, reduceCtorEq, nA, nB, nC, nD, nE, nF]
   exact ⟨_, _, Weak.refl _, Hp.le.refl _, q, by rw [List.length_append], hTq _⟩
theorem g_concat0 (ka kb : Option Nat) (h : Hp) :
  ACalls Tryz.prog 96 [.row 1 [[.row 4 [] ka], [.row 4 [] kb]] none] h (fun r h' => r = .row 4 [] none) := by
 have r0 : [[AV.row 4 [] ka], [AV.row 4 [] kb]].getD 0 [] = [AV.row 4 [] ka] := rfl
 have r1 : [[AV.row 4 [] ka], [AV.row 4 [] kb]].getD 1 [] = [AV.row 4 [] kb] := rfl
 have rl2 : [[AV.row 4 [] ka], [AV.row 4 [] kb]].length = 2 := rfl
 generalize [[AV.row 4 [] ka], [AV.row 4 [] kb]] = R at r0 r1 rl2 ⊢
 have hR : ∀ j, j < 2 → ∃ kx, R.getD j [] = [AV.row 4 [] kx] := fun j hj => by
  have hjc : j = 0 ∨ j = 1 := by omega
  rcases hjc with rfl | rfl
  ·exact ⟨ka, r0⟩
  ·exact ⟨kb, r1⟩
 clear r0 r1
 refine gE Tryz.func96 rfl (by kernel_rfl) 35 rfl fun c => ?_
 (repeat (first | refine gO rfl ?_ | (refine gR fun K1 hK1 => ?_; simp only [go_sem, ↓reduceIte, reduceCtorEq, nA, nB, nC, nD, nE, nF, rl2] <;> and_intros <;> (apply hK1; clear hK1 K1))))
 refine awp_loopC (rl false [0, 1, 2, 1, 5, 3, 24]) 0 (fun g s => ∃ (j : Nat), g + j = 2 ∧
  s = ⟨((.row 1 R none) :: AV.junk :: AV.junk :: ((.v (.int .i64 0)) :: (jnk 5 ((.row 1 R none) :: (.v (.int .i64 2)) :: (.v (.int .i64 j)) :: (jnk 24 []))))), [], h⟩) 2
  ⟨0, rfl, rfl⟩ ?_
 rintro g _ ⟨j, hj, rfl⟩
 (repeat (first | refine gO rfl ?_ | (refine gR fun K1 hK1 => ?_; simp only [go_sem, ↓reduceIte, reduceCtorEq, nA, nB, nC, nD, nE, nF] <;> and_intros <;> (apply hK1; clear hK1 K1))))
 refine awp_cond (t := _) rfl (fun h1 => ?_) (fun h1 => ?_)
 ·simp only [decide_eq_true_eq] at h1
  obtain ⟨kx, gx⟩ := hR j (by omega)
  have hjl : j < R.length := by omega
  clear hR
  (repeat (first | refine gO rfl ?_ | (refine gR fun K1 hK1 => ?_; simp only [go_sem, ↓reduceIte, reduceCtorEq, nA, nB, nC, nD, nE, nF, Int.toNat_natCast, gx, rl2, List.length_map] <;> and_intros <;> first | (apply hK1; clear hK1 K1) | (intros; (omega)))))
  refine awp_cond (t := _) rfl (fun h9 => by simp at h9) (fun _ => ?_)
  (repeat (first | refine gO rfl ?_ | (refine gR fun K1 hK1 => ?_; simp only [go_sem, ↓reduceIte, reduceCtorEq, nA, nB, nC, nD, nE, nF] <;> and_intros <;> first | (apply hK1; clear hK1 K1) | (intros; (omega)))))
  exact ⟨g - 1, by omega, j + 1, by omega, rfl⟩
 ·clear h1 hj
  (repeat (first | refine gO rfl ?_ | (refine gR fun K1 hK1 => ?_; simp only [go_sem, ↓reduceIte, reduceCtorEq, nA, nB, nC, nD, nE, nF] <;> and_intros)))
  refine (g_grow0 h).mono ?_; rintro _ hz ⟨rfl, hh⟩; apply hK1; clear hK1 K1; rw [hh]; clear hh hz
  (repeat (first | refine gQ rfl ?_ | (refine gR fun K1 hK1 => ?_; simp only [go_sem, ↓reduceIte, reduceCtorEq, nA, nB, nC, nD, nE, nF, rl2] <;> and_intros <;> (apply hK1; clear hK1 K1))))
  refine awp_seq ?_
  (repeat (first | refine gO rfl ?_ | (refine gR fun K1 hK1 => ?_; simp only [go_sem, ↓reduceIte, reduceCtorEq, nA, nB, nC, nD, nE, nF, rl2] <;> and_intros <;> (apply hK1; clear hK1 K1))))
  refine awp_loopC (rl false [6, 1, 18, 3, 8]) 0 (fun g s => ∃ (j : Nat) (x : AV) (h2 : Hp), g + j = 2 ∧ (x = .v (.slice none 0 0) ∨ ∃ k, x = .row 4 [] (some k) ∧ h2.T k = some (.tail 0)) ∧
   s = ⟨((jnk 6 ((x) :: (jnk 18 ((.row 1 R none) :: (.v (.int .i64 2)) :: (.v (.int .i64 j)) :: (jnk 8 [])))))), [], h2⟩) 2
   ⟨0, _, _, rfl, .inl rfl, rfl⟩ ?_
  rintro g _ ⟨j, x, h2, hj, hx, rfl⟩
  (repeat (first | refine gO rfl ?_ | (refine gR fun K1 hK1 => ?_; simp only [go_sem, ↓reduceIte, reduceCtorEq, nA, nB, nC, nD, nE, nF] <;> and_intros <;> (apply hK1; clear hK1 K1))))
  refine awp_cond (t := _) rfl (fun h1 => ?_) (fun h1 => ?_)
  ·simp only [decide_eq_true_eq] at h1
   obtain ⟨kx, gx⟩ := hR j (by omega)
   have hjl : j < R.length := by omega
   clear hR
   rcases hx with rfl | ⟨k, rfl, hT⟩
   ·(repeat (first | refine gO rfl ?_ | (refine gR fun K1 hK1 => ?_; simp only [go_sem, ↓reduceIte, reduceCtorEq, nA, nB, nC, nD, nE, nF, Int.toNat_natCast, gx, rl2] <;> and_intros <;> first | (apply hK1; clear hK1 K1) | (intros; (omega)) | skip)))
    intro k hk
    refine hK1 _ ?_; clear hK1 K1
    (repeat (first | refine gO rfl ?_ | (refine gR fun K1 hK1 => ?_; simp only [go_sem, ↓reduceIte, reduceCtorEq, nA, nB, nC, nD, nE, nF, Int.toNat_natCast, gx, rl2] <;> and_intros <;> first | (apply hK1; clear hK1 K1) | (intros; (omega)))))
    exact ⟨g - 1, by omega, j + 1, _, _, by omega, .inr ⟨k, rfl, upd_same _ _ _⟩, rfl⟩
   ·(repeat (first | refine gO rfl ?_ | (refine gR fun K1 hK1 => ?_; simp only [go_sem, ↓reduceIte, reduceCtorEq, nA, nB, nC, nD, nE, nF, Int.toNat_natCast, gx, rl2, hT] <;> and_intros <;> first | (apply hK1; clear hK1 K1) | (intros; first | omega | decide))))
    exact ⟨g - 1, by omega, j + 1, _, _, by omega, .inr ⟨k, rfl, upd_same _ _ _⟩, rfl⟩
  ·rcases hx with rfl | ⟨k, rfl, hT⟩
   ·(repeat (first | refine gO rfl ?_ | (refine gR fun K1 hK1 => ?_; simp only [go_sem, ↓reduceIte, reduceCtorEq, nA, nB, nC, nD, nE, nF] <;> and_intros <;> (apply hK1; clear hK1 K1))))
    simp only [Tryz.results96, go_sem, ↓reduceIte, reduceCtorEq, nA, nB, nC, nD, nE, nF]
    exact ⟨_, _, Weak.nil _ _ _ ⟨rfl, rfl⟩, Hp.le.refl _, rfl⟩
   ·(repeat (first | refine gO rfl ?_ | (refine gR fun K1 hK1 => ?_; simp only [go_sem, ↓reduceIte, reduceCtorEq, nA, nB, nC, nD, nE, nF] <;> and_intros <;> (apply hK1; clear hK1 K1))))
    simp only [Tryz.results96, go_sem, ↓reduceIte, reduceCtorEq, nA, nB, nC, nD, nE, nF]
    exact ⟨_, _, Weak.row _ _ _, Hp.le.refl _, rfl⟩
open Go.RowKit
open Go.RowKit Go.Sort Go.Proofs
section
variable {α : Type} {enc : α → List Value} {k : Nat}
theorem flatK_at (hk : ∀ x, (enc x).length = k) : ∀ (l : List α) (j i : Nat) (hj : j < l.length), i < k → (l.flatMap enc)[j * k + i]? = (enc l[j])[i]?
  | [], _, _, hj, _ => absurd hj (by simp)
  | x :: r, 0, i, _, hi => by
    rw [List.flatMap_cons, Nat.zero_mul, Nat.zero_add, List.getElem?_append_left (by rw [hk]; exact hi)]
    rfl
  | x :: r, j + 1, i, hj, hi => by
    rw [List.flatMap_cons, List.getElem?_append_right (by rw [hk, Nat.add_mul]; omega), hk, show (j + 1) * k + i - k = j * k + i by rw [Nat.add_mul]; omega, flatK_at hk r j i (by simpa using hj) hi]
    rfl
theorem flatK_len (hk : ∀ x, (enc x).length = k) : ∀ l : List α, (l.flatMap enc).length = l.length * k
  | [] => by simp
  | x :: r => by rw [List.flatMap_cons, List.length_append, hk, flatK_len hk r, List.length_cons, Nat.add_mul]; omega
variable [Inhabited α]
theorem flatK_list (hk : ∀ x, (enc x).length = k) (d : Array α) : (flatK enc k d).toList = d.toList.flatMap enc := by
  apply List.ext_getElem?
  intro t
  by_cases h : t < d.size * k
  · have hk0 : 0 < k := Nat.pos_of_ne_zero (fun e => by rw [e, Nat.mul_zero] at h; omega)
    have hq : t / k < d.size := Nat.div_lt_of_lt_mul (by rw [Nat.mul_comm]; exact h)
    have hm := Nat.mod_lt t hk0
    have e := flatK_at hk d.toList (t / k) (t % k) (by simpa using hq) hm
    rw [show t / k * k + t % k = t by rw [Nat.mul_comm]; exact Nat.div_add_mod t k] at e
    rw [e, Array.getElem?_toList, Array.getElem?_eq_getElem (by rw [size_flatK]; exact h)]
    have g := get_flatK enc k d t h
    rw [getElem!_pos _ t (by rw [size_flatK]; exact h)] at g
    rw [g, getElem!_pos d _ hq, Array.getElem_toList, List.getElem?_eq_getElem (by rw [hk]; exact hm), getElem!_pos _ _ (by rw [hk]; exact hm)]
  · rw [List.getElem?_eq_none (by rw [Array.length_toList, size_flatK]; omega), List.getElem?_eq_none (by rw [flatK_len hk, Array.length_toList]; omega)]
theorem own_holds {w : World} {base e n cap g : Nat} {d : Array α} (hk : ∀ x, (enc x).length = k) (h : w.ownsRow base e k (.slice (some ⟨g, 0, none⟩) n cap) n (d.toList.flatMap enc)) (hd : d.size = n) :
    HoldsK enc k w g 0 d := by
  rcases h.2 with ⟨h0, _⟩ | ⟨g', cap', cur, hv, _, hh, _, _, _, hx⟩
  · cases h0
  · simp only [Value.slice.injEq, Option.some.injEq, Addr.mk.injEq] at hv
    obtain ⟨⟨rfl, _, _⟩, _, rfl⟩ := hv
    intro t ht
    rw [size_flatK] at ht
    have e : (flatK enc k d).toList[t]? = some (flatK enc k d)[t]! := by
      rw [Array.getElem?_toList, Array.getElem?_eq_getElem (by rw [size_flatK]; exact ht), getElem!_pos _ _ (by rw [size_flatK]; exact ht)]
    rw [flatK_list hk, ← hx, List.getElem?_take_of_lt (by rw [← hd]; exact ht)] at e
    simp only [Array.getElem?_toList] at e
    simp [World.cell?, World.frozen?, hh, e]
theorem sortK_own {w : World} {base e n cap g m : Nat} {d d' : Array α} {os : Array Obj} (hk : ∀ x, (enc x).length = k) (h : w.ownsRow base e k (.slice (some ⟨g, 0, none⟩) n cap) n (d.toList.flatMap enc)) (hd' : d'.size = n) :
    (sortWorldK enc k w g 0 m d' os).ownsRow base e k (.slice (some ⟨g, 0, none⟩) n cap) n (d'.toList.flatMap enc) ∧ w.grownBy (sortWorldK enc k w g 0 m d' os) (some g) := by
  rcases h.2 with ⟨h0, _⟩ | ⟨g', cap', cur, hv, hg, hh, hnc, hcm, hsz, hx⟩
  · cases h0
  · simp only [Value.slice.injEq, Option.some.injEq, Addr.mk.injEq] at hv
    obtain ⟨⟨rfl, _, _⟩, _, rfl⟩ := hv
    have hlt := block_lt hh
    have hgh : (sortWorldK enc k w g 0 m d' os).heap[g]? = some (.cells (putCells id 0 (flatK enc k d') cur) e (0, 0)) := by
      unfold sortWorldK grow putRowK putRow mapBlock
      simp only [Array.getElem?_append, Array.size_modify, heap_ahead]
      rw [if_pos hlt, Array.getElem?_modify, if_pos rfl, hh]
      rfl
    have hle : n * k ≤ cap * k := Nat.mul_le_mul_right k hnc
    refine ⟨⟨by rw [flatK_len hk, Array.length_toList, hd'], .inr ⟨g, cap, _, rfl, hg, hgh, hnc, hcm, by simp [putCells, hsz], ?_⟩⟩, rfl, rfl, rfl, ?_, ?_⟩
    · rw [← flatK_list hk]
      apply List.ext_getElem?
      intro t
      by_cases ht : t < n * k
      · have hs : t < (flatK enc k d').size := by rw [size_flatK, hd']; exact ht
        rw [List.getElem?_take_of_lt ht, Array.getElem?_toList, Array.getElem?_toList, putCells, Array.getElem?_mapIdx, Array.getElem?_eq_getElem (show t < cur.size by omega), Array.getElem?_eq_getElem hs]
        simp only [Option.map_some]
        rw [if_pos ⟨Nat.zero_le _, by omega⟩, Nat.sub_zero, getElem!_pos (flatK enc k d') t hs]
        rfl
      · rw [List.getElem?_eq_none (by rw [List.length_take]; exact Nat.le_trans (Nat.min_le_left _ _) (by omega)), List.getElem?_eq_none (by rw [Array.length_toList, size_flatK, hd']; omega)]
    · unfold sortWorldK
      rw [size_grow]
      simp [putRowK]
    · intro j hj hne
      unfold sortWorldK grow putRowK putRow mapBlock
      simp only [Array.getElem?_append, Array.size_modify, heap_ahead]
      rw [if_pos hj, Array.getElem?_modify, if_neg (fun e => hne (by rw [e]))]
end
open Go Go.RowKit Go.Sort Go.Lib Go.Proofs
set_option linter.unusedVariables false
set_option linter.unusedSimpArgs false
set_option maxRecDepth 100000
set_option maxHeartbeats 4000000
def PlB : Type := { x : Pl // 0 ≤ x.2.1 ∧ x.2.1 ≤ 1000000000000 }
instance : Inhabited PlB := ⟨⟨(⟨#[]⟩, 0, 0), by show (0 : Int) ≤ 0 ∧ (0 : Int) ≤ 1000000000000; omega⟩⟩
def plV (x : Pl) : List Value := [.string ⟨#[]⟩, .string x.1, .int .i64 x.2.1, .int .i64 x.2.2]
def plB (x : PlB) : List Value := plV x.1
def atC (x y : PlB) : Int := x.1.2.1 - y.1.2.1
theorem runCmp (x y : PlB) (W : World) : Calls Tryz.prog 98 #[.agg (plB x).toArray, .agg (plB y).toArray] W fun e w' => e = .returned (.int .i64 (atC x y)) ∧ ∃ q os', w' = grow (W.drewN q) os' := by
 obtain ⟨⟨xn, xa, xl⟩, hx⟩ := x
 obtain ⟨⟨yn, ya, yl⟩, hy⟩ := y
 simp only at hx hy
 unfold plB plV atC
 have hw : IntKind.i64.wrap (xa - ya) = xa - ya := by rw [IntKind.wrap_i64]; omega
 go_enter Tryz.func98, Tryz.ntmps98
 go_wp2_with fail
 go_ret
 exact ⟨by simp [hw], 0, _, by rw [alloc_eq_grow, alloc_eq_grow, grow_grow]; rfl⟩
theorem at_swo : SWO (ltOf atC) := by
 refine ⟨fun x => ?_, fun x y z h1 h2 => ?_, fun x y z h1 h2 => ?_⟩
 ·simp [ltOf, atC]
 ·have a : x.1.2.1 - y.1.2.1 < 0 := of_decide_eq_true h1
  have b : y.1.2.1 - z.1.2.1 < 0 := of_decide_eq_true h2
  have e : x.1.2.1 - z.1.2.1 < 0 := by omega
  exact decide_eq_true e
 ·have a : ¬ x.1.2.1 - y.1.2.1 < 0 := of_decide_eq_false h1
  have b : ¬ y.1.2.1 - z.1.2.1 < 0 := of_decide_eq_false h2
  have e : ¬ x.1.2.1 - z.1.2.1 < 0 := by omega
  exact decide_eq_false e
theorem repL_vals {α : Type} {G : Gh} (f : α → List Value) {us : List Value} (l : List α) (h : RepL G (l.map fun x => (f x).map AV.v).flatten us) : us = l.flatMap f := by
 have e : (l.map fun x => (f x).map AV.v).flatten = (l.flatMap f).map AV.v := by
  clear h
  induction l with
  | nil => rfl
  | cons x q ih => simp [ih]
 rw [e] at h
 obtain ⟨h1, h2⟩ := h
 apply List.ext_getElem (by simpa using h1)
 intro j a b
 have h3 := (h2 j (by simpa using b) a).1
 simp only [List.getElem_map] at h3 ⊢
 generalize us[j] = y at h3
 cases h3; rfl
theorem repL_vals_mk {α : Type} (G : Gh) (f : α → List Value) (h1 : ∀ x, ∀ v ∈ f x, v.oneCell' = true) (l : List α) : RepL G (l.map fun x => (f x).map AV.v).flatten (l.flatMap f) := by
 have e : (l.map fun x => (f x).map AV.v).flatten = (l.flatMap f).map AV.v := by
  induction l with
  | nil => rfl
  | cons x q ih => simp [ih]
 rw [e]
 refine ⟨by simp, fun j a b => ?_⟩
 have hv : ((l.flatMap f)[j]'(by simpa using a)).oneCell' = true := by
  obtain ⟨x, _, hx⟩ := List.mem_flatMap.1 (List.getElem_mem (show j < (l.flatMap f).length by simpa using a))
  exact h1 x _ hx
 simp only [List.getElem_map]
 exact ⟨.v _ hv, hv⟩
theorem plB_one (x : PlB) : ∀ v ∈ plB x, v.oneCell' = true := by
 intro v hv
 simp [plB, plV] at hv
 rcases hv with rfl | rfl | rfl | rfl <;> rfl
theorem encP_map (l : List PlB) : (l.map (·.1)).map encP = l.map fun x => (plB x).map AV.v := by
 rw [List.map_map]; rfl
set_option maxHeartbeats 1000000 in
theorem insPlay_none (A : Option Addr) (c : Nat) (f : Value) (w : World) : Calls Tryz.prog 196 #[.slice A 0 c, .int .i64 0, .int .i64 0, f] w fun e w' => e = .returned (.tuple #[]) ∧ w = w' := by
 go_enter Tryz.func196, Tryz.ntmps196
 go_wp2_with fail
 refine wp_loop_rounds 1 ?_
 rw [rounds_succ]
 go_wp2_with fail
 go_end0
 exact ⟨rfl, rfl⟩
theorem pdqPlay_none (A : Option Addr) (c : Nat) (l : Int) (f : Value) (w : World) : Calls Tryz.prog 150 #[.slice A 0 c, .int .i64 0, .int .i64 0, .int .i64 l, f] w fun e w' => e = .returned (.tuple #[]) ∧ w = w' := by
 go_enter Tryz.func150, Tryz.ntmps150
 go_wp2_with fail
 refine wp_loop_rounds 1 ?_
 rw [rounds_succ]
 go_wp2_with fail
 refine (insPlay_none A c f _).mono ?_
 rintro e w1 ⟨rfl, rfl⟩
 go_wp2_with fail
 (try simp only [Exit.inBlock, Exit.then]); refine bodyPost_ret (results_none rfl _ _ _) rfl ?_
 exact ⟨rfl, rfl⟩
theorem sortPlay_none (A : Option Addr) (c : Nat) (f : Value) (w : World) : Calls Tryz.prog 97 #[.slice A 0 c, f] w fun e w' => e = .returned (.tuple #[]) ∧ w = w' := by
 go_enter Tryz.func97, Tryz.ntmps97
 go_wp2_with fail
 refine (Tryz.bits_Len 0 _ (by omega) (by omega)).mono ?_
 rintro e w1 ⟨rfl, rfl⟩
 go_wp2_with fail
 refine (pdqPlay_none A c _ f _).mono ?_
 rintro e w1 ⟨rfl, rfl⟩
 go_wp2_with fail
 go_end0
 exact ⟨rfl, rfl⟩
theorem vs_two {vs : Array Value} (h : vs.size = 2) : vs = #[vs.getD 0 undef, vs.getD 1 undef] := by
 apply Array.ext (by simpa using h)
 intro j hj hj'
 simp only [List.size_toArray, List.length_cons, List.length_nil] at hj'
 have hc : j = 0 ∨ j = 1 := by omega
 rcases hc with rfl | rfl <;> simp [Array.getD, h]
theorem g_sortPlay (k : Nat) (l : List PlB) (h : Hp) (hT : h.T k = some (.cont 4 ((l.map (·.1)).map encP))) (h0 : 0 < l.length) (hb : l.length ≤ 100000) :
  ACalls Tryz.prog 97 [.arr 4 k l.length, .fn 98 []] h
   (fun r h' => r = .tup [] ∧ ∃ l' : List PlB, l'.Perm l ∧ l'.Pairwise (fun x y => x.1.2.1 ≤ y.1.2.1) ∧ h' = { h with T := upd h.T k (some (.cont 4 ((l'.map (·.1)).map encP))) }) := by
 refine acalls_mk (by kernel_rfl) fun G w vs hs hv ha => ?_
 have r0 := ha 0 (by simp)
 have r1 := ha 1 (by simp)
 rw [vs_two hv]
 generalize vs.getD 0 undef = v at r0
 generalize vs.getD 1 undef = u at r1
 simp only [List.getElem_cons_zero] at r0
 simp only [List.getElem_cons_succ, List.getElem_cons_zero] at r1
 cases r1 with
 | fn _ _ us _ hul _ _ =>
 have hus : us = #[] := by apply Array.eq_empty_of_size_eq_zero; simpa using hul
 subst hus
 rw [encP_map] at hT
 have hml : (l.map fun x => (plB x).map AV.v).length = l.length := by simp
 cases r0 with
 | arr _ _ _ q m c ho =>
 obtain ⟨_, ⟨q', c', e2, _, _⟩, hm⟩ := ho
 rcases hs.tok k _ hT with ⟨_, e1⟩ | ⟨tt, cur, E, htl, htm, htp, hth, hts, htc, htcm, htf, htz, hzx, htr⟩
 ·rw [e1] at hml; simp at hml; omega
 rw [htl] at hm
 obtain ⟨hxe, _⟩ := hm.2 (by rw [htm, hml])
 simp only [Value.slice.injEq] at hxe e2
 obtain ⟨rfl, rfl, rfl⟩ := hxe
 have hfl : (l.map fun x => (plB x).map AV.v).flatten.length = l.length * 4 := by rw [flatten_len hzx, hml]
 rw [hfl] at htr
 have hcs := repL_vals plB l htr
 rw [htz] at hts
 have hle : l.length ≤ tt.c := by rw [← hml, ← htm]; exact htc
 have hk : ∀ x : PlB, (plB x).length = 4 := fun _ => rfl
 have hown : w.ownsRow 0 E 4 (.slice (some ⟨tt.g, 0, none⟩) l.length tt.c) l.length (l.toArray.toList.flatMap plB) := by
  refine ⟨by rw [flatK_len hk], .inr ⟨tt.g, tt.c, cur, rfl, Nat.zero_le _, hth, hle, htcm, hts, by simpa using hcs⟩⟩
 have hblk : tt.g < w.heap.size := (Array.getElem?_eq_some_iff.1 hth).1
 have hcl : CmpLays Tryz.prog 98 #[] plB 4 atC tt.g 0 l.toArray.size w := fun m os dk _ x y => by
  simpa using runCmp x y (sortWorldK plB 4 w tt.g 0 m dk os)
 have hso := AnyQ.slices_SortFunc Tryz.sortPlay 4 Tryz.isAgg102 Tryz.sizeOf102 plB hk plB_one atC at_swo 98 #[] tt.g 0 tt.c l.toArray w (enters_of Tryz.func98 (by kernel_rfl) rfl) hcl (own_holds hk hown (by simp)) hblk (by simpa using (by omega : l.length < 4611686018427387904))
 simp only [List.size_toArray] at hso
 change Calls Tryz.prog 97 _ _ _ at hso
 refine hso.mono ?_
 rintro e w' ⟨rfl, d', n, os, hp, hsd, rfl⟩
 obtain ⟨p1, p2, p3⟩ := hp
 simp only [List.size_toArray] at p1
 obtain ⟨o1, o2⟩ := sortK_own (m := n) (os := os) (d' := d') (d := l.toArray) hk hown p1
 have hd' : d'.toList.length = l.length := by simpa using p1
 rcases o1.2 with ⟨h9, _⟩ | ⟨g9, c9, cur9, hv9, _, hh9, _, _, hsz9, hx9⟩
 ·cases h9
 simp only [Value.slice.injEq, Option.some.injEq, Addr.mk.injEq] at hv9
 obtain ⟨⟨rfl, _, _⟩, _, rfl⟩ := hv9
 have sm : Sim G [] ⟨[], [], h⟩ ⟨#[], []⟩ w := ⟨hs, Nat.le_refl _, fun t ht => by simp at ht, rfl, ⟨rfl, fun j b cs e => by simp at e, fun b hb => by simp at hb, List.nodup_nil⟩⟩
 have hzd : ∀ x ∈ d'.toList.map fun x => (plB x).map AV.v, x.length = 4 := fun x hx => by obtain ⟨y, _, rfl⟩ := List.mem_map.1 hx; rfl
 have hfd : (d'.toList.map fun x => (plB x).map AV.v).flatten.length = l.length * 4 := by rw [flatten_len hzd, List.length_map, hd']
 obtain ⟨G', rfl, s2, g2, f2⟩ := sm.setCont (k := k) (z := 4) (xs := d'.toList.map fun x => (plB x).map AV.v) (B := tt.g) (c := tt.c) (arr := cur9) (E := E) hT (fun b hb' hne => o2.block b hb' (fun e => hne (by simpa using e))) hh9 hsz9
  htf hzd (by rw [hfd, hx9]; exact repL_vals_mk G plB plB_one _) (by rw [List.length_map, hd']; exact hle) htcm (by rw [List.length_map, hd']; exact h0) (.inr ⟨by rw [hml, List.length_map, hd'], rfl, tt, htl, rfl, rfl⟩) (.inr ⟨tt, htl, rfl⟩) o2.os o2.tape o2.output o2.size
 rw [← encP_map] at s2 f2 g2
 refine ⟨_, rfl, .tup [], _, _, ⟨rfl, d'.toList, ?_, ?_, rfl⟩, g2, f2, s2.hs, .tup [] #[] (fun _ => undef) rfl (fun j hj => by simp at hj) (fun j hj => by simp at hj)⟩
 ·have e1 : d'.extract 0 l.length = d' := by rw [← p1]; simp
  have e2 : l.toArray.extract 0 l.length = l.toArray := by simp
  rw [e1, e2] at p3
  simpa using p3
 ·rw [List.pairwise_iff_getElem]
  intro i j hi hj hij
  have h9 := hsd i j (Nat.zero_le _) hij (by simpa [p1] using hj)
  simp only [ltOf, atC] at h9
  have hi2 : i < d'.size := by simpa using hi
  have hj2 : j < d'.size := by simpa using hj
  rw [getElem!_pos d' i hi2, getElem!_pos d' j hj2] at h9
  simp only [Array.getElem_toList]
  have h8 := of_decide_eq_false h9
  exact Int.not_lt.1 (fun h7 => h8 (by omega))
open Go
open Nat renaming reduceAdd → nA, reduceSub → nB, reduceMul → nC, reduceLT → nD, reduceLeDiff → nE, reduceEqDiff → nF, reduceMod → nG, reduceDiv → nH, reducePow → nI
abbrev zP1GE : List Nat := [0, 1, 2, 3, 4, 5, 6, 7, 8]
abbrev zP1GP : List (Nat × List Nat × List Nat) := [(9, [], [10])]
attribute [go_sem] zP1GE zP1GP
set_option maxHeartbeats 8000000
theorem plyE_ok {d : Nat} {t : LT} {bs : List Wn} {w0 w1 m : Int} (hb : KC d t) (h : plyE d t bs w0 w1 m = 0) : GoodS (rdS d t) ∧ (Brk bs 0 ∧ bs.length ≤ 500) ∧ (0 ≤ w0 ∧ w0 ≤ w1 ∧ w1 ≤ 345686400000) ∧ (m = 1 ∨ m = 2 ∨ m = 3 ∨ m = 4) := by
 unfold plyE at h
 by_cases h1 : faultF t = 0
 ·by_cases h2 : brkE bs = 0
  ·by_cases h3 : m < 1 ∨ 4 < m
   ·simp [orI, h1, h2, h3] at h
   ·by_cases h4 : winE w0 w1 = 0
    ·have h5 : rdE d t = 0 := by
      simp only [orI, h1, h2, h3, h4, if_true, if_false] at h
      by_cases h5 : rdE d t = 0
      ·exact h5
      ·simp [h5] at h
     refine ⟨rd_good hb h5, brkE_ok h2, ?_, by omega⟩
     unfold winE at h4
     split at h4
     ·cases h4
     ·rename_i h9
      simp at h9
      omega
    ·simp [orI, h1, h2, h3, h4] at h
  ·simp [orI, h1, h2] at h
 ·simp [orI, h1] at h
theorem plB_of : ∀ (l : List Pl), (∀ x ∈ l, 0 ≤ x.2.1 ∧ x.2.1 ≤ 1000000000000) → ∃ L : List PlB, L.map (·.1) = l
 | [], _ => ⟨[], rfl⟩
 | x :: l, h => by
  obtain ⟨L, hL⟩ := plB_of l fun y hy => h y (List.mem_cons_of_mem _ hy)
  exact ⟨⟨x, h x List.mem_cons_self⟩ :: L, congrArg (x :: ·) hL⟩
theorem run_sorted {xs : List (ByteArray × Int)} {w0 w1 : Int} {U : List (Pl × Bool)} (hR : RunF xs w0 w1 U) {L l : List PlB} (hL : L.map (·.1) = ownF U ++ brkF U) (hp : l.Perm L) (hs : l.Pairwise (fun x y => x.1.2.1 ≤ y.1.2.1)) : l.map (·.1) = U.map (·.1) := by
 refine perm_sorted ?_ (List.pairwise_map.2 hs) (fills_sorted hR.fill)
 exact ((hp.map _).trans (by rw [hL])).trans (own_perm U)
theorem g_sortNil (f : Nat) (h : Hp) : ACalls Tryz.prog 97 [.row 4 [] none, .fn f []] h (fun r h' => r = .tup [] ∧ h' = h) := by
 refine acalls_mk (by kernel_rfl) fun G w vs hs hv ha => ?_
 have r0 := ha 0 (by simp)
 rw [vs_two hv]
 generalize vs.getD 0 undef = v at r0
 generalize vs.getD 1 undef = u
 simp only [List.getElem_cons_zero] at r0
 have key : ∃ a c, v = .slice a 0 c := by
  cases r0 with
  | row _ _ _ g o n c uu hn hc hz hu hr h1 ht =>
   simp only [List.length_nil] at hn
   subst hn
   exact ⟨_, _, rfl⟩
  | nil => exact ⟨_, _, rfl⟩
  | nilA _ a => exact ⟨_, _, rfl⟩
 obtain ⟨a, c, rfl⟩ := key
 refine (sortPlay_none a c u w).mono ?_
 rintro e w' ⟨rfl, rfl⟩
 exact ⟨_, rfl, .tup [], h, G, ⟨rfl, rfl⟩, GLe.refl _, Fr.refl _ _ _, hs, .tup [] #[] (fun _ => undef) rfl (fun j hj => by simp at hj) (fun j hj => by simp at hj)⟩
def RunAns (d : Nat) (t : LT) (bs : List Wn) (w0 w1 m : Int) (r : AV) : Prop :=
 (plyE d t bs w0 w1 m ≠ 0 → r = .tup [.row 4 [] none, .v (.int .i64 (plyE d t bs w0 w1 m))]) ∧
 (plyE d t bs w0 w1 m = 0 → ∀ U, runE (rdS d t) w0 w1 m (cutF w0 w1 bs) (0, longA (rdS d t) 0) w0 = U → r = if U.length ≤ 3000 then .tup [.row 4 ((U.map (·.1)).map encP) none, .v (.int .i64 0)] else .tup [.row 4 [] none, .v (.int .i64 2)])
theorem g_Run (d : Nat) (t : LT) (bs : List Wn) (w0 w1 m : Int) (h : Hp) (hb : KC d t) (hd : manyF t ≤ 1000000000000000 ∧ d ≤ 1000) (hbs : ∀ x ∈ bs, WOk x) (hbl : bs.length ≤ 1000) :
  ACalls Tryz.prog 46 [.agg (encL t), .agg [.v (.int .i64 w0), .v (.int .i64 w1)], .row 3 (bs.map encW) none, .v (.int .i64 m)] h (fun r _ => RunAns d t bs w0 w1 m r) := by
 have hlen := encL_len t
 have htk : List.take 6 (encL t) = encL t := List.take_of_length_le (Nat.le_of_eq hlen)
 have hdk : List.drop 6 (encL t) = [] := List.drop_of_length_le (Nat.le_of_eq hlen)
 refine gE Tryz.func46 rfl (by kernel_rfl) 33 rfl fun c => ?_
 (repeat (first | refine gO rfl ?_ | ((refine gR fun K1 hK1 => ?_; simp only [go_sem, ↓reduceIte, reduceCtorEq, nA, nB, nC, nD, nE, nF, hlen, htk, hdk] <;> and_intros <;> first | (apply hK1; clear hK1 K1) | skip))))
 refine (g_played d t bs w0 w1 m _ hb hd hbs hbl).mono ?_
 rintro r h2 ⟨p1, p2⟩
 refine hK1 _ ?_; clear hK1 K1
 have hok := fun e => plyE_ok (d := d) (t := t) (bs := bs) (w0 := w0) (w1 := w1) (m := m) hb e
 unfold RunAns
 by_cases he : plyE d t bs w0 w1 m = 0
 ·obtain ⟨hg, ⟨hbk, hbl5⟩, hw, hm⟩ := hok he
  obtain ⟨U, hU⟩ : ∃ U, runE (rdS d t) w0 w1 m (cutF w0 w1 bs) (0, longA (rdS d t) 0) w0 = U := ⟨_, rfl⟩
  have hR := run_facts hg hw.2.1 hw.1 hbk hU
  obtain ⟨q1, q2⟩ := p2 he U hU
  rw [hU, he]
  clear p1 p2 hok
  by_cases hl : 3000 < U.length
  ·rw [q1 hl]
   clear q1 q2
   (repeat (first | refine gO rfl ?_ | ((refine gR fun K1 hK1 => ?_; simp only [go_sem, ↓reduceIte, reduceCtorEq, nA, nB, nC, nD, nE, nF] <;> and_intros <;> (apply hK1; clear hK1 K1)))))
   refine awp_cond (t := _) rfl (fun _ => ?_) (fun h9 => by cases h9)
   (repeat (first | refine gO rfl ?_ | ((refine gR fun K1 hK1 => ?_; simp only [go_sem, ↓reduceIte, reduceCtorEq, nA, nB, nC, nD, nE, nF] <;> and_intros <;> (apply hK1; clear hK1 K1)))))
   simp only [Tryz.results46, go_sem, ↓reduceIte, reduceCtorEq, nA, nB, nC, nD, nE, nF]
   exact ⟨_, _, Weak.tup1 (Weak.nil 4 0 0 ⟨rfl, rfl⟩) (Weak.refl _), Hp.le.refl _, fun h9 => absurd trivial h9, fun _ e => by subst e; rw [if_neg (by omega)]⟩
  ·obtain ⟨i, ka, kb, s, half, n, rfl, hp⟩ := q2 (by omega)
   clear q1 q2
   have hol := ownF_len U
   unfold plC at hp
   have hbd : ∀ x ∈ ownF U ++ brkF U, 0 ≤ x.2.1 ∧ x.2.1 ≤ 1000000000000 := fun x hx => by
    obtain ⟨y, hy, rfl⟩ := List.mem_map.1 ((own_perm U).mem_iff.1 hx)
    have := fills_bd hR.fill y hy
    omega
   obtain ⟨L, hL⟩ := plB_of _ hbd
   have hLl : L.length = (ownF U).length + (brkF U).length := by rw [← List.length_append, ← hL, List.length_map]
   (repeat (first | refine gO rfl ?_ | ((refine gR fun K1 hK1 => ?_; simp only [go_sem, ↓reduceIte, reduceCtorEq, nA, nB, nC, nD, nE, nF] <;> and_intros <;> (apply hK1; clear hK1 K1)))))
   refine awp_cond (t := _) rfl (fun h9 => by cases h9) (fun _ => ?_)
   (repeat (first | refine gO rfl ?_ | ((first | refine gR ?_ | ((with_reducible refine xS ?_); refine uD 4 zM38 zP1GE zP1GP 37 rfl (by kernel_rfl) ?_)) <;> ((try with_reducible intro K1 hK1); simp only [go_sem, ↓reduceIte, reduceCtorEq, nA, nB, nC, nD, nE, nF, hp] <;> and_intros <;> first | (apply hK1; clear hK1 K1) | (intros; (decide)) | skip))))
   by_cases h0 : 0 < (ownF U).length + (brkF U).length
   ·refine (g_concat (ownF U) (brkF U) (some ka) (some kb) _ h0 (by omega)).mono ?_
    rintro _ h3 ⟨q, rfl, hT⟩
    refine hK1 _ ?_; clear hK1 K1
    (repeat (first | refine gO rfl ?_ | ((first | refine gR ?_ | (with_reducible refine wM ?_ ?_)) <;> ((try with_reducible intro K1 hK1); simp only [go_sem, ↓reduceIte, reduceCtorEq, nA, nB, nC, nD, nE, nF] <;> and_intros <;> first | (apply hK1; clear hK1 K1) | skip))))
    rw [← hLl]
    refine (g_sortPlay q L h3 (by rw [hL]; exact hT) (by omega) (by omega)).mono ?_
    rintro _ h4 ⟨rfl, l', hpm, hsd, rfl⟩
    refine hK1 _ ?_; clear hK1 K1
    have hsrt := run_sorted hR hL hpm hsd
    have hll : l'.length = L.length := hpm.length_eq
    refine vRem_nil ?_
    refine awp_frz 12 q 4 (xs := (l'.map (·.1)).map encP) (by rw [List.length_map, List.length_map, hll]; rfl) (upd_same _ _ _) (fun y hy => by obtain ⟨z, _, rfl⟩ := List.mem_map.1 hy; rfl) ?_
    rw [hsrt]
    (repeat (first | refine gO rfl ?_ | ((refine gR fun K1 hK1 => ?_; simp only [go_sem, ↓reduceIte, reduceCtorEq, nA, nB, nC, nD, nE, nF] <;> and_intros <;> (apply hK1; clear hK1 K1)))))
    simp only [Tryz.results46, go_sem, ↓reduceIte, reduceCtorEq, nA, nB, nC, nD, nE, nF]
    exact ⟨_, _, Weak.refl _, Hp.le.refl _, fun h9 => absurd trivial h9, fun _ e => by subst e; rw [if_pos (by omega)]⟩
   ·have hU0 : U = [] := List.eq_nil_of_length_eq_zero (by omega)
    subst hU0
    refine (g_concat0 (some ka) (some kb) _).mono ?_
    rintro _ h3 rfl
    refine hK1 _ ?_; clear hK1 K1
    (repeat (first | refine gO rfl ?_ | ((first | refine gR ?_ | (with_reducible refine wM ?_ ?_)) <;> ((try with_reducible intro K1 hK1); simp only [go_sem, ↓reduceIte, reduceCtorEq, nA, nB, nC, nD, nE, nF] <;> and_intros <;> first | (apply hK1; clear hK1 K1) | skip))))
    refine (g_sortNil _ _).mono ?_
    rintro _ h4 ⟨rfl, rfl⟩
    refine hK1 _ ?_; clear hK1 K1
    (repeat (first | refine gO rfl ?_ | ((refine gR fun K1 hK1 => ?_; simp only [go_sem, ↓reduceIte, reduceCtorEq, nA, nB, nC, nD, nE, nF] <;> and_intros <;> (apply hK1; clear hK1 K1)))))
    simp only [Tryz.results46, go_sem, ↓reduceIte, reduceCtorEq, nA, nB, nC, nD, nE, nF]
    exact ⟨_, _, Weak.refl _, Hp.le.refl _, fun h9 => absurd trivial h9, fun _ e => by subst e; rfl⟩
 ·have hb9 : (plyE d t bs w0 w1 m != 0) = true := by simpa using he
  rw [p1 he]
  generalize plyE d t bs w0 w1 m = e at *
  clear p1 p2 hok
  (repeat (first | refine gO rfl ?_ | ((refine gR fun K1 hK1 => ?_; simp only [go_sem, ↓reduceIte, reduceCtorEq, nA, nB, nC, nD, nE, nF] <;> and_intros <;> (apply hK1; clear hK1 K1)))))
  refine awp_cond (t := _) rfl (fun _ => ?_) (fun h9 => by rw [hb9] at h9; cases h9)
  (repeat (first | refine gO rfl ?_ | ((refine gR fun K1 hK1 => ?_; simp only [go_sem, ↓reduceIte, reduceCtorEq, nA, nB, nC, nD, nE, nF] <;> and_intros <;> (apply hK1; clear hK1 K1)))))
  simp only [Tryz.results46, go_sem, ↓reduceIte, reduceCtorEq, nA, nB, nC, nD, nE, nF]
  exact ⟨_, _, Weak.tup1 (Weak.nil 4 0 0 ⟨rfl, rfl⟩) (Weak.refl _), Hp.le.refl _, fun _ => rfl, fun h9 => absurd h9 he⟩
theorem ofPl_len (A : List Pl) : (ofPl A).length = A.length := by simp [ofPl]
theorem g_sums (A : List Pl) (ka : Option Nat) (h : Hp) (hp : Pos (ofPl A)) (hl : A.length ≤ 3000) :
  ACalls Tryz.prog 99 [.row 4 (A.map encP) ka] h (fun r h' => ∃ m ks f, r = .map m ∧ TalI h' m (ofPl A) ((ofPl A).map (·.1)) ks f) := by
 refine gE Tryz.func99 rfl (by kernel_rfl) 22 rfl fun c => ?_
 (repeat (first | refine gQ rfl ?_ | (refine gM zM31 fun K1 hK1 => ?_; simp only [go_sem, ↓reduceIte, reduceCtorEq, nA, nB, nC, nD, nE, nF] <;> and_intros <;> (apply hK1; clear hK1 K1))))
 refine awp_seq ?_
 refine awp_own 3 2 rfl ⟨rfl, rfl⟩ (fun k hk => ?_)
 (repeat (first | refine gO rfl ?_ | (refine gM zM31 fun K1 hK1 => ?_; simp only [go_sem, ↓reduceIte, reduceCtorEq, nA, nB, nC, nD, nE, nF, List.length_map] <;> and_intros <;> (apply hK1; clear hK1 K1))))
 refine awp_loopC (rl false [3, 1, 2, 3, 14]) 0 (fun g s => ∃ (j : Nat), g + j = A.length ∧
  s = ⟨((jnk 3 ((.row 2 (((ofPl A).take j).map encStep) (some k)) :: AV.junk :: AV.junk :: ((.row 4 (A.map encP) ka) :: (.v (.int .i64 A.length)) :: (.v (.int .i64 j)) :: (jnk 14 []))))), [], ⟨h.H, upd h.T k (some (.tail j))⟩⟩) A.length ⟨0, by omega, rfl⟩ ?_
 rintro g _ ⟨j, hj, rfl⟩
 have hTq : ∀ X, upd h.T k (some (TO.tail X)) k = some (.tail X) := fun X => upd_same _ _ _
 have hlj : (((ofPl A).take j).map encStep).length = j := by rw [List.length_map, List.length_take, ofPl_len]; omega
 (repeat (first | refine gO rfl ?_ | (refine gM zM31 fun K1 hK1 => ?_; simp only [go_sem, ↓reduceIte, reduceCtorEq, nA, nB, nC, nD, nE, nF] <;> and_intros <;> (apply hK1; clear hK1 K1))))
 refine awp_cond (t := _) rfl (fun h1 => ?_) (fun h1 => ?_)
 ·simp only [decide_eq_true_eq] at h1
  have hjl : j < A.length := by omega
  have gx : (A.map encP).getD j [] = encP (A.getD j default) := getD_enc encP A j default hjl
  have tx : (ofPl A).take (j + 1) = (ofPl A).take j ++ [((A.getD j default).1, (A.getD j default).2.2)] := by
   rw [List.take_add_one, ofPl, List.getElem?_map, List.getElem?_eq_getElem hjl, List.getD_eq_getElem?_getD, List.getElem?_eq_getElem hjl]; rfl
  generalize A.getD j default = x at gx tx
  (repeat (first | refine gO rfl ?_ | (refine gM zM31 fun K1 hK1 => ?_; simp only [go_sem, ↓reduceIte, reduceCtorEq, nA, nB, nC, nD, nE, nF, Int.toNat_natCast, gx, encP, hTq, hlj, upd_upd] <;> and_intros <;> first | (apply hK1; clear hK1 K1) | (intros; first | omega | decide))))
  exact ⟨g - 1, by omega, j + 1, by omega, by rw [tx, List.map_append]; rfl⟩
 ·simp only [decide_eq_false_iff_not] at h1
  have hjl : j = A.length := by omega
  subst hjl
  rw [show (ofPl A).take A.length = ofPl A from List.take_of_length_le (by rw [ofPl_len]; omega)]
  (repeat (first | refine gO rfl ?_ | (refine gM zM31 fun K1 hK1 => ?_; simp only [go_sem, ↓reduceIte, reduceCtorEq, nA, nB, nC, nD, nE, nF] <;> and_intros)))
  have hw := (g_tallies (ofPl A) ⟨h.H, upd h.T k (some (.tail A.length))⟩ hp (by rw [ofPl_len]; omega)).weakArgs (args' := [.row 2 ((ofPl A).map encStep) (some k)]) rfl (fun j a b => by
   match j, a with
   | 0, _ => exact Weak.row _ _ _)
  refine hw.mono ?_
  rintro _ h2 ⟨m, ks, f, rfl, hT⟩
  refine hK1 _ ?_; clear hK1 K1 hw
  (repeat (first | refine gO rfl ?_ | (refine gM zM31 fun K1 hK1 => ?_; simp only [go_sem, ↓reduceIte, reduceCtorEq, nA, nB, nC, nD, nE, nF] <;> and_intros <;> (apply hK1; clear hK1 K1))))
  simp only [Tryz.results99, go_sem, ↓reduceIte, reduceCtorEq, nA, nB, nC, nD, nE, nF]
  exact ⟨_, _, Weak.refl _, Hp.le.refl _, m, ks, f, rfl, hT⟩
theorem mset_mem (k : ByteArray) (x : AV) : ∀ (es : List (ByteArray × AV)) (q : ByteArray), q ∈ (mset k x es).map (·.1) ↔ q = k ∨ q ∈ es.map (·.1)
 | [], q => by simp [mset]
 | (p, y) :: es, q => by
  have ih := mset_mem k x es q
  by_cases e : p = k
  ·subst e
   simp [mset]
  ·simp only [mset, if_neg e, List.map_cons, List.mem_cons, ih]
   constructor
   ·rintro (h | h | h)
    ·exact .inr (.inl h)
    ·exact .inl h
    ·exact .inr (.inr h)
   ·rintro (h | h | h)
    ·exact .inr (.inl h)
    ·exact .inl h
    ·exact .inr (.inr h)
theorem mset_nodup (k : ByteArray) (x : AV) : ∀ (es : List (ByteArray × AV)), (es.map (·.1)).Nodup → ((mset k x es).map (·.1)).Nodup
 | [], _ => by simp [mset]
 | (p, y) :: es, h => by
  simp only [List.map_cons, List.nodup_cons] at h
  by_cases e : p = k
  ·subst e
   simpa [mset] using h
  ·simp only [mset, if_neg e, List.map_cons, List.nodup_cons, mset_mem]
   refine ⟨?_, mset_nodup k x es h.2⟩
   rintro (h9 | h9)
   ·exact e h9
   ·exact h.1 h9
def unseenN (born : List Nat) (seen : Array Nat) : Nat := (born.filter fun b => !seen.contains b).length
theorem unseen_push {born : List Nat} {seen : Array Nat} {b : Nat} (hb : b ∈ born) (hs : seen.contains b = false) : unseenN born (seen.push b) < unseenN born seen := by
 refine filter_lt (fun x => !seen.contains x) (fun x => !(seen.push b).contains x) (fun x hx => ?_) b (by show (!seen.contains b) = true; rw [hs]; rfl) (by simp) born hb
 simp only [Array.contains_push, Bool.not_or, Bool.and_eq_true] at hx
 exact hx.1
theorem at_inj {l : List Nat} (hn : l.Nodup) {i j : Nat} (hi : i < l.length) (hj : j < l.length) (e : l[i] = l[j]) : i = j := by
 rcases Nat.lt_trichotomy i j with h | h | h
 ·exact absurd e (List.pairwise_iff_getElem.1 hn i j hi hj h)
 ·exact h
 ·exact absurd e.symm (List.pairwise_iff_getElem.1 hn j i hj hi h)
def seenK (es : List (ByteArray × AV)) (born : List Nat) (seen : Array Nat) (k : ByteArray) : Prop := ∃ j, j < es.length ∧ seen.contains (born.getD j 0) = true ∧ (es.getD j default).1 = k
theorem seenK_none (es : List (ByteArray × AV)) (born : List Nat) (k : ByteArray) : ¬ seenK es born #[] k := by
 rintro ⟨j, _, h, _⟩
 simp at h
theorem seenK_push {es : List (ByteArray × AV)} {born : List Nat} {seen : Array Nat} {j : Nat} (hj : j < es.length) (hl : born.length = es.length) (hn : born.Nodup) (k : ByteArray) :
  seenK es born (seen.push (born.getD j 0)) k ↔ k = (es.getD j default).1 ∨ seenK es born seen k := by
 constructor
 ·rintro ⟨i, hi, h, rfl⟩
  rw [Array.contains_push, Bool.or_eq_true] at h
  rcases h with h | h
  ·exact .inr ⟨i, hi, h, rfl⟩
  ·have e : born.getD i 0 = born.getD j 0 := by simpa using h
   have hi2 : i < born.length := by omega
   have hj2 : j < born.length := by omega
   rw [List.getD_eq_getElem?_getD, List.getD_eq_getElem?_getD, List.getElem?_eq_getElem hi2, List.getElem?_eq_getElem hj2] at e
   have e2 : i = j := at_inj hn hi2 hj2 (by simpa using e)
   subst e2
   exact .inl rfl
 ·rintro (rfl | ⟨i, hi, h, rfl⟩)
  ·exact ⟨j, hj, by simp, rfl⟩
  ·exact ⟨i, hi, by rw [Array.contains_push, h, Bool.true_or], rfl⟩
theorem seenK_all {es : List (ByteArray × AV)} {born : List Nat} {seen : Array Nat} (hl : born.length = es.length) (h : ∀ b ∈ born, seen.contains b = true) (k : ByteArray) : seenK es born seen k ↔ k ∈ es.map (·.1) := by
 constructor
 ·rintro ⟨j, hj, _, rfl⟩
  rw [List.getD_eq_getElem?_getD, List.getElem?_eq_getElem hj]
  exact List.mem_map.2 ⟨_, List.getElem_mem hj, rfl⟩
 ·intro hk
  obtain ⟨x, hx, rfl⟩ := List.mem_map.1 hk
  obtain ⟨j, hj, rfl⟩ := List.getElem_of_mem hx
  refine ⟨j, hj, h _ ?_, ?_⟩
  ·rw [List.getD_eq_getElem?_getD, List.getElem?_eq_getElem (by omega)]
   exact List.getElem_mem _
  ·rw [List.getD_eq_getElem?_getD, List.getElem?_eq_getElem hj]; rfl
def Ext (h h' : Hp) : Prop := ∀ x, h.H x ≠ none → h'.H x = h.H x
theorem Ext.refl (h : Hp) : Ext h h := fun _ _ => rfl
theorem Ext.at {h h' : Hp} (e : Ext h h') {x : Nat} {o : AO} (hx : h.H x = some o) : h'.H x = some o := (e x (by rw [hx]; simp)).trans hx
theorem Ext.trans {a b c : Hp} (h : Ext a b) (k : Ext b c) : Ext a c := fun x hx => (k x (by rw [h x hx]; exact hx)).trans (h x hx)
theorem TalI.ext {h h' : Hp} {m : Nat} {ys : List (ByteArray × Int)} {S ks : List ByteArray} {f : ByteArray → Nat} (t : TalI h m ys S ks f) (e : Ext h h') : TalI h' m ys S ks f :=
 ⟨t.nd, t.mem, e.at t.map, fun k hk => e.at (t.cell k hk), t.ne, t.inj⟩
theorem ptrs_fst (f : ByteArray → Nat) (ks : List ByteArray) : (ptrsL f ks).map (·.1) = ks := by
 rw [ptrsL, List.map_map]; exact List.map_id _
theorem ACalls.frame {P : Program} {f : Nat} {args : List AV} {R : AV → Hp → Prop} (hc : ACalls P f args ⟨fun _ => none, fun _ => none⟩ R) (h : Hp) :
  ACalls P f args h (fun r h'' => ∃ h', R r h' ∧ (∀ i, h.H i ≠ none → h''.H i = h.H i) ∧ (∀ i, h'.H i ≠ none → h''.H i = h'.H i) ∧ h''.T = h'.T) := by
 refine ⟨hc.ok, fun G w vs hs hl ha => ?_⟩
 have h0 : Hp.le ⟨fun _ => none, fun _ => none⟩ h := ⟨fun _ => .inl rfl, fun _ => .inl rfl⟩
 refine (hc.calls G w vs (hs.less h0) hl ha).mono ?_
 rintro e w' ⟨r, h', G', v, rfl, hR, g1, f1, s1, r1⟩
 have hno : ∀ b, ¬ Own G ⟨fun _ => none, fun _ => none⟩ b := by
  rintro b (⟨i, a, _⟩ | ⟨k, t, a, _⟩)
  ·exact a rfl
  ·exact a rfl
 have hk := fun b hb => f1.keep b hb (hno b)
 have hold : ∀ i, h.H i ≠ none → ∃ b, b < w.heap.size ∧ G.at_ i = some b ∧ G'.at_ i = some b := fun i a => by
  obtain ⟨ob, hob⟩ := Option.ne_none_iff_exists'.1 a
  obtain ⟨b, o, e1, e2, _⟩ := hs.obj i ob hob
  exact ⟨b, (Array.getElem?_eq_some_iff.1 e2).1, e1, g1.at_ i b e1⟩
 have hdis : ∀ i, h.H i ≠ none → h'.H i = none := fun i a => by
  obtain ⟨b, hb, e1, e2⟩ := hold i a
  cases e : h'.H i with
  | none => rfl
  | some x => exact absurd (.inl ⟨i, by rw [e]; simp, e2⟩) (hk b hb).2.1
 refine ⟨r, ⟨fun i => match h.H i with | some x => some x | none => h'.H i, h'.T⟩, G', v, rfl, ⟨h', hR, fun i a => ?_, fun i a => ?_, rfl⟩, g1, ?_, ?_, r1⟩
 ·obtain ⟨ob, hob⟩ := Option.ne_none_iff_exists'.1 a
  simp [hob]
 ·cases e : h.H i with
  | none => simp [e]
  | some x => exact absurd (hdis i (by rw [e]; simp)) a
 ·refine ⟨f1.os, f1.tape, f1.output, f1.size, fun b hb hn => ?_⟩
  obtain ⟨x, y, z⟩ := hk b hb
  refine ⟨x, ?_, z⟩
  rintro (⟨i, a, c⟩ | ⟨k, t, a, c⟩)
  ·by_cases e : h.H i = none
   ·simp only [e] at a
    exact y (.inl ⟨i, a, c⟩)
   ·obtain ⟨b2, hb2, e1, e2⟩ := hold i e
    rw [c] at e2
    cases e2
    exact hn (.inl ⟨i, e, e1⟩)
  ·exact y (.inr ⟨k, t, a, c⟩)
 ·have hsplit : ∀ i, (match h.H i with | some x => some x | none => h'.H i) ≠ none → (h.H i ≠ none ∨ h'.H i ≠ none) := fun i a => by
   by_cases e : h.H i = none
   ·simp only [e] at a; exact .inr a
   ·exact .inl e
  have hcross : ∀ i j b, h.H i ≠ none → h'.H j ≠ none → G'.at_ i = some b → G'.at_ j = some b → False := fun i j b hi hj e1 e2 => by
   obtain ⟨b2, hb2, _, e4⟩ := hold i hi
   rw [e1] at e4
   cases e4
   exact (hk b hb2).2.1 (.inl ⟨j, hj, e2⟩)
  refine ⟨s1.val, fun i ob e => ?_, fun i j b hi hj e1 e2 => ?_, s1.tok, s1.tinj, fun k i t a hi c e1 => ?_, s1.fat, s1.ftl⟩
  ·cases e0 : h.H i with
   | some x =>
    simp only [e0, Option.some.injEq] at e
    subst e
    obtain ⟨b, o, e1, e2, e3, e4⟩ := hs.obj i x e0
    obtain ⟨x1, y1, z1⟩ := hk b (Array.getElem?_eq_some_iff.1 e2).1
    exact ⟨b, o, g1.at_ i b e1, x1.trans e2, e3.mono g1, fun q => (z1 q).trans (e4 q)⟩
   | none =>
    simp only [e0] at e
    exact s1.obj i ob e
  ·rcases hsplit i hi with h1 | h1 <;> rcases hsplit j hj with h2 | h2
   ·obtain ⟨b1, _, c1, c2⟩ := hold i h1
    obtain ⟨b2, _, d1, d2⟩ := hold j h2
    rw [e1] at c2
    rw [e2] at d2
    cases c2
    cases d2
    exact hs.inj i j b h1 h2 c1 d1
   ·exact (hcross i j b h1 h2 e1 e2).elim
   ·exact (hcross j i b h2 h1 e2 e1).elim
   ·exact s1.inj i j b h1 h2 e1 e2
  ·rcases hsplit i hi with h1 | h1
   ·obtain ⟨b, hb, _, e3⟩ := hold i h1
    rw [e1] at e3
    cases e3
    exact (hk _ hb).2.1 (.inr ⟨k, t, a, c, rfl⟩)
   ·exact s1.tobj k i t a h1 c e1
end Go.Proofs.YtoleejecmefogaaGreatDoor
