/- What is wrong with assets, both ways. -/
import Derived.Test.YtpnfkfbapfnboaaGreatDoorM1
import Derived.Test.YtpnfkfbapfnboaaGreatDoorAvRun
import Derived.Test.YtpnfkfbapfnboaaGreatDoorAvTy
import Derived.Test.YtpnfkfbapfnboaaGreatDoorAvClr
import Derived.Test.YtpnfkfbapfnboaaGreatDoorAvFz
import Derived.Test.YtpnfkfbapfnboaaGreatDoorAvMap
import Derived.RangeFuncNested
import Derived.RangeFuncBound
import Derived.RangeFuncCalls
import Derived.RangeFuncLeaves
import Derived.RangeFuncBox
import Derived.Shelf.Abstract
import Derived.Shelf.RegionOpen
import Derived.WalkKit
import Derived.OwnWalkIn
import Derived.TacticsInMore
import Derived.LoopNIn
import Derived.LoopIn
import Derived.Test.YtpnfkfbapfnboaaGreatDoorAvOld
namespace Go.Proofs.YtpnfkfbapfnboaaGreatDoor
open Go
set_option linter.unusedVariables false
set_option linter.unusedSimpArgs false
open Nat renaming reduceAdd → nA, reduceSub → nB, reduceMul → nC, reduceLT → nD, reduceLeDiff → nE, reduceEqDiff → nF, reduceMod → nG, reduceDiv → nH, reducePow → nI
abbrev zM20 : Option Tmp → Nat := mdL [(4, 1)]
abbrev zM21 : Option Tmp → Nat := mdL [(41, 1)]
abbrev zM22 : Option Tmp → Nat := mdL []
abbrev zM23 : Option Tmp → Nat := mdL [(16, 3)]
abbrev zM24 : Option Tmp → Nat := mdL [(4, 3), (5, 1)]
abbrev zM25 : Option Tmp → Nat := mdL [(7, 1)]
abbrev zM26 : Option Tmp → Nat := mdL [(7, 1), (8, 1)]
attribute [go_sem] zM20 zM21 zM22 zM23 zM24 zM25 zM26
abbrev zP6E : List Nat := [0, 1, 2, 3, 4, 5, 6, 7, 8, 9, 10, 11, 12]
abbrev zP6P : List (Nat × List Nat × List Nat) := []
abbrev zP7E : List Nat := [0, 1, 2, 3, 4, 5, 6, 7, 8, 9, 10, 11, 12, 13]
abbrev zP7P : List (Nat × List Nat × List Nat) := []
attribute [go_sem] zP6E zP6P zP7E zP7P
set_option maxRecDepth 100000
set_option maxHeartbeats 8000000
theorem g_checkAssets (xs : List As) (kk : Option Nat) (hl : xs.length ≤ 500) (hok : ∀ a ∈ xs, AsOk a) (h : Hp) :
  ACalls Tryz.prog 30 [.row 2 (xs.map encAs) kk] h (fun r h' => r = .v (.int .i64 (assF xs)) ∧ h' = h) := by
 have hml : (xs.map encAs).length = xs.length := List.length_map _
 unfold assF
 rw [if_neg (by omega)]
 refine gE Tryz.func30 rfl (by kernel_rfl) 39 rfl fun c => ?_
 (repeat (first | refine gO rfl ?_ | ((first | refine gM zM20 ?_ | (with_reducible refine wM ?_ ?_) | ((with_reducible refine xS ?_); refine uD 8 zM20 zP6E zP6P 40 rfl (by kernel_rfl) ?_)) <;> ((try with_reducible intro K1 hK1); simp only [go_sem, ↓reduceIte, reduceCtorEq, nA, nB, nC, nD, nE, nF, hml] <;> and_intros <;> first | (apply hK1; clear hK1 K1) | (intros; first | omega | decide) | skip))))
 refine awp_cond (t := _) rfl (fun h5 => absurd (of_decide_eq_true h5) (by omega)) (fun _ => ?_)
 (repeat (first | refine gO rfl ?_ | ((first | refine gM zM20 ?_ | (with_reducible refine wM ?_ ?_) | ((with_reducible refine xS ?_); refine uD 8 zM20 zP6E zP6P 40 rfl (by kernel_rfl) ?_)) <;> ((try with_reducible intro K1 hK1); simp only [go_sem, ↓reduceIte, reduceCtorEq, nA, nB, nC, nD, nE, nF, hml] <;> and_intros <;> first | (apply hK1; clear hK1 K1) | (intros; first | omega | decide) | skip))))
 obtain ⟨E, hE⟩ : ∃ E, assL xs none = E := ⟨_, rfl⟩
 rw [hE]
 refine awp_loopC (rl false [0, 1, 8, 3, 28]) 0 (fun g s => ∃ (j : Nat), g + j = xs.length ∧ assL (xs.drop j) (preA xs j) = E ∧
  s = ⟨((.row 2 (xs.map encAs) kk) :: (jnk 8 ((.row 2 (xs.map encAs) kk) :: (.v (.int .i64 xs.length)) :: (.v (.int .i64 j)) :: (jnk 28 [])))), [], h⟩) xs.length ⟨0, by omega, hE, rfl⟩ ?_
 clear hE
 rintro g _ ⟨j, hj, hinv, rfl⟩
 (repeat (first | refine gO rfl ?_ | ((first | refine gM zM20 ?_ | (with_reducible refine wM ?_ ?_) | ((with_reducible refine xS ?_); refine uD 8 zM20 zP6E zP6P 40 rfl (by kernel_rfl) ?_)) <;> ((try with_reducible intro K1 hK1); simp only [go_sem, ↓reduceIte, reduceCtorEq, nA, nB, nC, nD, nE, nF] <;> and_intros <;> first | (apply hK1; clear hK1 K1) | (intros; first | omega | decide) | skip))))
 refine awp_cond (t := _) rfl (fun h5 => ?_) (fun h5 => ?_)
 ·simp only [decide_eq_true_eq] at h5
  have hjl : j < xs.length := by omega
  have gx : (xs.map encAs).getD j [] = encAs xs[j] := by rw [List.getD_eq_getElem?_getD, List.getElem?_map, List.getElem?_eq_getElem hjl]; rfl
  have gp : (xs.map encAs).getD (j - 1) [] = encAs (xs.getD (j - 1) default) := getD_enc encAs xs (j - 1) default (by omega)
  have hpj : ((j : Int) - 1).toNat = j - 1 := by omega
  have hvo := hok _ (List.getElem_mem hjl)
  rw [assL_step xs j hjl] at hinv
  have hpre : preA xs j = if j = 0 then none else some (xs.getD (j - 1) default).key := rfl
  rw [hpre] at hinv
  generalize xs.getD (j - 1) default = q at *
  generalize xs[j] = a at *
  obtain ⟨key, vs⟩ := a
  obtain ⟨qk, qvs⟩ := q
  have gx2 : (xs.map encAs).getD j [] = [.v (.string key), .row 3 (vs.map encVn) none] := gx
  have gp2 : (xs.map encAs).getD (j - 1) [] = [.v (.string qk), .row 3 (qvs.map encVn) none] := gp
  clear gx gp hpre
  have hvv : ∀ v ∈ vs, VnOk v := hvo.vs
  have hvl : vs.length ≤ 10 := hvo.len
  have hks : key.size ≤ 4 := hvo.key
  have hK := a_isKey key (by omega) h
  have hV := g_versF vs none (by omega) hvv h
  obtain ⟨vf, hvf⟩ : ∃ x, assOne ⟨key, vs⟩ (if j = 0 then none else some qk) = x := ⟨_, rfl⟩
  simp only at hinv
  rw [hvf] at hinv
  unfold assOne at hvf
  simp only at hvf
  (repeat (first | refine gO rfl ?_ | ((first | refine gM zM20 ?_ | (with_reducible refine wM ?_ ?_) | ((with_reducible refine xS ?_); refine uD 8 zM20 zP6E zP6P 40 rfl (by kernel_rfl) ?_)) <;> ((try with_reducible intro K1 hK1); simp only [go_sem, ↓reduceIte, reduceCtorEq, nA, nB, nC, nD, nE, nF, hml, Int.toNat_natCast, gx2] <;> and_intros <;> first | (apply hK1; clear hK1 K1) | (intros; first | omega | decide) | skip))))
  refine hK.mono ?_; rintro _ hz ⟨rfl, hh⟩; apply hK1; clear hK1 K1; rw [hh]; clear hh hz
  cases hk : keyB key with
  | false =>
   rw [if_pos hk] at hvf
   (repeat (first | refine gO rfl ?_ | ((first | refine gM zM20 ?_ | (with_reducible refine wM ?_ ?_) | ((with_reducible refine xS ?_); refine uD 8 zM20 zP6E zP6P 40 rfl (by kernel_rfl) ?_)) <;> ((try with_reducible intro K1 hK1); simp only [go_sem, ↓reduceIte, reduceCtorEq, nA, nB, nC, nD, nE, nF, hk, Bool.not_false] <;> and_intros <;> first | (apply hK1; clear hK1 K1) | (intros; first | omega | decide) | skip))))
   refine awp_cond (t := _) rfl (fun _ => ?_) (fun h6 => by cases h6)
   (repeat (first | refine gO rfl ?_ | ((first | refine gM zM20 ?_ | (with_reducible refine wM ?_ ?_) | ((with_reducible refine xS ?_); refine uD 8 zM20 zP6E zP6P 40 rfl (by kernel_rfl) ?_)) <;> ((try with_reducible intro K1 hK1); simp only [go_sem, ↓reduceIte, reduceCtorEq, nA, nB, nC, nD, nE, nF] <;> and_intros <;> first | (apply hK1; clear hK1 K1) | (intros; first | omega | decide) | skip))))
   simp only [Tryz.results30, go_sem, ↓reduceIte, reduceCtorEq, nA, nB, nC, nD, nE, nF]
   refine ⟨_, _, Weak.refl _, Hp.le.refl _, ?_, rfl⟩
   rw [← hvf, if_neg (by decide)] at hinv
   rw [← hinv]
  | true =>
   rw [if_neg (by rw [hk]; decide)] at hvf
   (repeat (first | refine gO rfl ?_ | ((first | refine gM zM20 ?_ | (with_reducible refine wM ?_ ?_) | ((with_reducible refine xS ?_); refine uD 8 zM20 zP6E zP6P 40 rfl (by kernel_rfl) ?_)) <;> ((try with_reducible intro K1 hK1); simp only [go_sem, ↓reduceIte, reduceCtorEq, nA, nB, nC, nD, nE, nF, hk, Bool.not_true] <;> and_intros <;> first | (apply hK1; clear hK1 K1) | (intros; first | omega | decide) | skip))))
   refine awp_cond (t := _) rfl (fun h6 => by cases h6) (fun _ => ?_)
   by_cases hj0 : j = 0
   ·have d7 : ((0 : Int) < (j : Int)) = False := eq_false (by omega)
    rw [if_pos hj0, if_neg (show ¬ behA key none = true from fun e => by cases e)] at hvf
    (repeat (first | refine gO rfl ?_ | ((first | refine gM zM20 ?_ | (with_reducible refine wM ?_ ?_) | ((with_reducible refine xS ?_); refine uD 8 zM20 zP6E zP6P 40 rfl (by kernel_rfl) ?_)) <;> ((try with_reducible intro K1 hK1); simp only [go_sem, ↓reduceIte, reduceCtorEq, nA, nB, nC, nD, nE, nF, d7, decide_false, hpj, gp2, hml] <;> and_intros <;> first | (apply hK1; clear hK1 K1) | (intros; first | omega | decide) | skip))))
    refine awp_cond (t := _) rfl (fun h6 => by cases h6) (fun _ => ?_)
    (repeat (first | refine gO rfl ?_ | ((first | refine gM zM20 ?_ | (with_reducible refine wM ?_ ?_) | ((with_reducible refine xS ?_); refine uD 8 zM20 zP6E zP6P 40 rfl (by kernel_rfl) ?_)) <;> ((try with_reducible intro K1 hK1); simp only [go_sem, ↓reduceIte, reduceCtorEq, nA, nB, nC, nD, nE, nF] <;> and_intros <;> first | (apply hK1; clear hK1 K1) | (intros; first | omega | decide) | skip))))
    refine hV.mono ?_; rintro _ hz ⟨rfl, hh⟩; apply hK1; clear hK1 K1; rw [hh]; clear hh hz
    rw [hvf]
    by_cases he : vf = 0
    ·rw [if_pos he] at hinv
     (repeat (first | refine gO rfl ?_ | ((first | refine gM zM20 ?_ | (with_reducible refine wM ?_ ?_) | ((with_reducible refine xS ?_); refine uD 8 zM20 zP6E zP6P 40 rfl (by kernel_rfl) ?_)) <;> ((try with_reducible intro K1 hK1); simp only [go_sem, ↓reduceIte, reduceCtorEq, nA, nB, nC, nD, nE, nF] <;> and_intros <;> first | (apply hK1; clear hK1 K1) | (intros; first | omega | decide) | skip))))
     refine awp_cond (t := _) rfl (fun h9 => by rw [he] at h9; cases h9) (fun _ => ?_)
     (repeat (first | refine gO rfl ?_ | ((first | refine gM zM20 ?_ | (with_reducible refine wM ?_ ?_) | ((with_reducible refine xS ?_); refine uD 8 zM20 zP6E zP6P 40 rfl (by kernel_rfl) ?_)) <;> ((try with_reducible intro K1 hK1); simp only [go_sem, ↓reduceIte, reduceCtorEq, nA, nB, nC, nD, nE, nF] <;> and_intros <;> first | (apply hK1; clear hK1 K1) | (intros; first | omega | decide) | skip))))
     exact ⟨g - 1, by omega, j + 1, by omega, hinv, rfl⟩
    ·have hne : (vf != 0) = true := by simpa using he
     rw [if_neg he] at hinv
     (repeat (first | refine gO rfl ?_ | ((first | refine gM zM20 ?_ | (with_reducible refine wM ?_ ?_) | ((with_reducible refine xS ?_); refine uD 8 zM20 zP6E zP6P 40 rfl (by kernel_rfl) ?_)) <;> ((try with_reducible intro K1 hK1); simp only [go_sem, ↓reduceIte, reduceCtorEq, nA, nB, nC, nD, nE, nF] <;> and_intros <;> first | (apply hK1; clear hK1 K1) | (intros; first | omega | decide) | skip))))
     refine awp_cond (t := _) rfl (fun _ => ?_) (fun h9 => by rw [hne] at h9; cases h9)
     (repeat (first | refine gO rfl ?_ | ((first | refine gM zM20 ?_ | (with_reducible refine wM ?_ ?_) | ((with_reducible refine xS ?_); refine uD 8 zM20 zP6E zP6P 40 rfl (by kernel_rfl) ?_)) <;> ((try with_reducible intro K1 hK1); simp only [go_sem, ↓reduceIte, reduceCtorEq, nA, nB, nC, nD, nE, nF] <;> and_intros <;> first | (apply hK1; clear hK1 K1) | (intros; first | omega | decide) | skip))))
     simp only [Tryz.results30, go_sem, ↓reduceIte, reduceCtorEq, nA, nB, nC, nD, nE, nF]
     exact ⟨_, _, Weak.refl _, Hp.le.refl _, by rw [← hinv], rfl⟩
   ·have d7 : ((0 : Int) < (j : Int)) = True := eq_true (by omega)
    have hle : (Op.bytesLess key.toList qk.toList || (key == qk)) = leB key qk := rfl
    rw [if_neg hj0] at hvf
    cases hq : leB key qk with
    | true =>
     rw [if_pos (show behA key (some qk) = true from hq)] at hvf
     rw [hq] at hle
     (repeat (first | refine gO rfl ?_ | ((first | refine gM zM20 ?_ | (with_reducible refine wM ?_ ?_) | ((with_reducible refine xS ?_); refine uD 8 zM20 zP6E zP6P 40 rfl (by kernel_rfl) ?_)) <;> ((try with_reducible intro K1 hK1); simp only [go_sem, ↓reduceIte, reduceCtorEq, nA, nB, nC, nD, nE, nF, d7, decide_true, hpj, gp2, hml, hle] <;> and_intros <;> first | (apply hK1; clear hK1 K1) | (intros; first | omega | decide) | skip))))
     refine awp_cond (t := _) rfl (fun _ => ?_) (fun h6 => by first | cases h6 | (rw [hle] at h6; cases h6))
     (repeat (first | refine gO rfl ?_ | ((first | refine gM zM20 ?_ | (with_reducible refine wM ?_ ?_) | ((with_reducible refine xS ?_); refine uD 8 zM20 zP6E zP6P 40 rfl (by kernel_rfl) ?_)) <;> ((try with_reducible intro K1 hK1); simp only [go_sem, ↓reduceIte, reduceCtorEq, nA, nB, nC, nD, nE, nF] <;> and_intros <;> first | (apply hK1; clear hK1 K1) | (intros; first | omega | decide) | skip))))
     simp only [Tryz.results30, go_sem, ↓reduceIte, reduceCtorEq, nA, nB, nC, nD, nE, nF]
     refine ⟨_, _, Weak.refl _, Hp.le.refl _, ?_, rfl⟩
     rw [← hvf, if_neg (by decide)] at hinv
     rw [← hinv]
    | false =>
     rw [if_neg (show ¬ behA key (some qk) = true from fun e => by rw [show behA key (some qk) = leB key qk from rfl, hq] at e; cases e)] at hvf
     rw [hq] at hle
     (repeat (first | refine gO rfl ?_ | ((first | refine gM zM20 ?_ | (with_reducible refine wM ?_ ?_) | ((with_reducible refine xS ?_); refine uD 8 zM20 zP6E zP6P 40 rfl (by kernel_rfl) ?_)) <;> ((try with_reducible intro K1 hK1); simp only [go_sem, ↓reduceIte, reduceCtorEq, nA, nB, nC, nD, nE, nF, d7, decide_true, hpj, gp2, hml, hle] <;> and_intros <;> first | (apply hK1; clear hK1 K1) | (intros; first | omega | decide) | skip))))
     refine awp_cond (t := _) rfl (fun h6 => by first | cases h6 | (rw [hle] at h6; cases h6)) (fun _ => ?_)
     (repeat (first | refine gO rfl ?_ | ((first | refine gM zM20 ?_ | (with_reducible refine wM ?_ ?_) | ((with_reducible refine xS ?_); refine uD 8 zM20 zP6E zP6P 40 rfl (by kernel_rfl) ?_)) <;> ((try with_reducible intro K1 hK1); simp only [go_sem, ↓reduceIte, reduceCtorEq, nA, nB, nC, nD, nE, nF] <;> and_intros <;> first | (apply hK1; clear hK1 K1) | (intros; first | omega | decide) | skip))))
     refine hV.mono ?_; rintro _ hz ⟨rfl, hh⟩; apply hK1; clear hK1 K1; rw [hh]; clear hh hz
     rw [hvf]
     by_cases he : vf = 0
     ·rw [if_pos he] at hinv
      (repeat (first | refine gO rfl ?_ | ((first | refine gM zM20 ?_ | (with_reducible refine wM ?_ ?_) | ((with_reducible refine xS ?_); refine uD 8 zM20 zP6E zP6P 40 rfl (by kernel_rfl) ?_)) <;> ((try with_reducible intro K1 hK1); simp only [go_sem, ↓reduceIte, reduceCtorEq, nA, nB, nC, nD, nE, nF] <;> and_intros <;> first | (apply hK1; clear hK1 K1) | (intros; first | omega | decide) | skip))))
      refine awp_cond (t := _) rfl (fun h9 => by rw [he] at h9; cases h9) (fun _ => ?_)
      (repeat (first | refine gO rfl ?_ | ((first | refine gM zM20 ?_ | (with_reducible refine wM ?_ ?_) | ((with_reducible refine xS ?_); refine uD 8 zM20 zP6E zP6P 40 rfl (by kernel_rfl) ?_)) <;> ((try with_reducible intro K1 hK1); simp only [go_sem, ↓reduceIte, reduceCtorEq, nA, nB, nC, nD, nE, nF] <;> and_intros <;> first | (apply hK1; clear hK1 K1) | (intros; first | omega | decide) | skip))))
      exact ⟨g - 1, by omega, j + 1, by omega, hinv, rfl⟩
     ·have hne : (vf != 0) = true := by simpa using he
      rw [if_neg he] at hinv
      (repeat (first | refine gO rfl ?_ | ((first | refine gM zM20 ?_ | (with_reducible refine wM ?_ ?_) | ((with_reducible refine xS ?_); refine uD 8 zM20 zP6E zP6P 40 rfl (by kernel_rfl) ?_)) <;> ((try with_reducible intro K1 hK1); simp only [go_sem, ↓reduceIte, reduceCtorEq, nA, nB, nC, nD, nE, nF] <;> and_intros <;> first | (apply hK1; clear hK1 K1) | (intros; first | omega | decide) | skip))))
      refine awp_cond (t := _) rfl (fun _ => ?_) (fun h9 => by rw [hne] at h9; cases h9)
      (repeat (first | refine gO rfl ?_ | ((first | refine gM zM20 ?_ | (with_reducible refine wM ?_ ?_) | ((with_reducible refine xS ?_); refine uD 8 zM20 zP6E zP6P 40 rfl (by kernel_rfl) ?_)) <;> ((try with_reducible intro K1 hK1); simp only [go_sem, ↓reduceIte, reduceCtorEq, nA, nB, nC, nD, nE, nF] <;> and_intros <;> first | (apply hK1; clear hK1 K1) | (intros; first | omega | decide) | skip))))
      simp only [Tryz.results30, go_sem, ↓reduceIte, reduceCtorEq, nA, nB, nC, nD, nE, nF]
      exact ⟨_, _, Weak.refl _, Hp.le.refl _, by rw [← hinv], rfl⟩
 ·simp only [decide_eq_false_iff_not] at h5
  have hjl : j = xs.length := by omega
  subst hjl
  rw [List.drop_length, assL] at hinv
  (repeat (first | refine gO rfl ?_ | ((first | refine gM zM20 ?_ | (with_reducible refine wM ?_ ?_) | ((with_reducible refine xS ?_); refine uD 8 zM20 zP6E zP6P 40 rfl (by kernel_rfl) ?_)) <;> ((try with_reducible intro K1 hK1); simp only [go_sem, ↓reduceIte, reduceCtorEq, nA, nB, nC, nD, nE, nF] <;> and_intros <;> first | (apply hK1; clear hK1 K1) | (intros; first | omega | decide) | skip))))
  simp only [Tryz.results30, go_sem, ↓reduceIte, reduceCtorEq, nA, nB, nC, nD, nE, nF]
  exact ⟨_, _, Weak.refl _, Hp.le.refl _, by rw [← hinv], rfl⟩
theorem g_assetsFault (xs : List As) (kk : Option Nat) (hl : xs.length ≤ 500) (hok : ∀ a ∈ xs, AsOk a) (h : Hp) :
  ACalls Tryz.prog 20 [.row 2 (xs.map encAs) kk] h (fun r h' => r = .v (.int .i64 (assF xs)) ∧ h' = h) := by
 have hml : (xs.map encAs).length = xs.length := List.length_map _
 unfold assF
 rw [if_neg (by omega)]
 refine gE Tryz.func20 rfl (by kernel_rfl) 41 rfl fun c => ?_
 (repeat (first | refine gO rfl ?_ | ((first | refine gM zM20 ?_ | (with_reducible refine wM ?_ ?_) | ((with_reducible refine xS ?_); refine uD 8 zM20 zP7E zP7P 42 rfl (by kernel_rfl) ?_)) <;> ((try with_reducible intro K1 hK1); simp only [go_sem, ↓reduceIte, reduceCtorEq, nA, nB, nC, nD, nE, nF, hml] <;> and_intros <;> first | (apply hK1; clear hK1 K1) | (intros; first | omega | decide) | skip))))
 refine awp_cond (t := _) rfl (fun h5 => absurd (of_decide_eq_true h5) (by omega)) (fun _ => ?_)
 (repeat (first | refine gO rfl ?_ | ((first | refine gM zM20 ?_ | (with_reducible refine wM ?_ ?_) | ((with_reducible refine xS ?_); refine uD 8 zM20 zP7E zP7P 42 rfl (by kernel_rfl) ?_)) <;> ((try with_reducible intro K1 hK1); simp only [go_sem, ↓reduceIte, reduceCtorEq, nA, nB, nC, nD, nE, nF, hml] <;> and_intros <;> first | (apply hK1; clear hK1 K1) | (intros; first | omega | decide) | skip))))
 obtain ⟨E, hE⟩ : ∃ E, assL xs none = E := ⟨_, rfl⟩
 rw [hE]
 refine awp_loopC (rl false [0, 1, 8, 3, 30]) 0 (fun g s => ∃ (j : Nat), g + j = xs.length ∧ assL (xs.drop j) (preA xs j) = E ∧
  s = ⟨((.row 2 (xs.map encAs) kk) :: (jnk 8 ((.row 2 (xs.map encAs) kk) :: (.v (.int .i64 xs.length)) :: (.v (.int .i64 j)) :: (jnk 30 [])))), [], h⟩) xs.length ⟨0, by omega, hE, rfl⟩ ?_
 clear hE
 rintro g _ ⟨j, hj, hinv, rfl⟩
 (repeat (first | refine gO rfl ?_ | ((first | refine gM zM20 ?_ | (with_reducible refine wM ?_ ?_) | ((with_reducible refine xS ?_); refine uD 8 zM20 zP7E zP7P 42 rfl (by kernel_rfl) ?_)) <;> ((try with_reducible intro K1 hK1); simp only [go_sem, ↓reduceIte, reduceCtorEq, nA, nB, nC, nD, nE, nF] <;> and_intros <;> first | (apply hK1; clear hK1 K1) | (intros; first | omega | decide) | skip))))
 refine awp_cond (t := _) rfl (fun h5 => ?_) (fun h5 => ?_)
 ·simp only [decide_eq_true_eq] at h5
  have hjl : j < xs.length := by omega
  have gx : (xs.map encAs).getD j [] = encAs xs[j] := by rw [List.getD_eq_getElem?_getD, List.getElem?_map, List.getElem?_eq_getElem hjl]; rfl
  have gp : (xs.map encAs).getD (j - 1) [] = encAs (xs.getD (j - 1) default) := getD_enc encAs xs (j - 1) default (by omega)
  have hpj : ((j : Int) - 1).toNat = j - 1 := by omega
  have hvo := hok _ (List.getElem_mem hjl)
  rw [assL_step xs j hjl] at hinv
  have hpre : preA xs j = if j = 0 then none else some (xs.getD (j - 1) default).key := rfl
  rw [hpre] at hinv
  generalize xs.getD (j - 1) default = q at *
  generalize xs[j] = a at *
  obtain ⟨key, vs⟩ := a
  obtain ⟨qk, qvs⟩ := q
  have gx2 : (xs.map encAs).getD j [] = [.v (.string key), .row 3 (vs.map encVn) none] := gx
  have gp2 : (xs.map encAs).getD (j - 1) [] = [.v (.string qk), .row 3 (qvs.map encVn) none] := gp
  clear gx gp hpre
  have hvv : ∀ v ∈ vs, VnOk v := hvo.vs
  have hvl : vs.length ≤ 10 := hvo.len
  have hks : key.size ≤ 4 := hvo.key
  have hK := a_key key (by omega) h
  have hV := g_versR vs none (by omega) hvv h
  obtain ⟨vf, hvf⟩ : ∃ x, assOne ⟨key, vs⟩ (if j = 0 then none else some qk) = x := ⟨_, rfl⟩
  simp only at hinv
  rw [hvf] at hinv
  unfold assOne at hvf
  simp only at hvf
  (repeat (first | refine gO rfl ?_ | ((first | refine gM zM20 ?_ | (with_reducible refine wM ?_ ?_) | ((with_reducible refine xS ?_); refine uD 8 zM20 zP7E zP7P 42 rfl (by kernel_rfl) ?_)) <;> ((try with_reducible intro K1 hK1); simp only [go_sem, ↓reduceIte, reduceCtorEq, nA, nB, nC, nD, nE, nF, hml, Int.toNat_natCast, gx2] <;> and_intros <;> first | (apply hK1; clear hK1 K1) | (intros; first | omega | decide) | skip))))
  refine hK.mono ?_; rintro _ hz ⟨rfl, hh⟩; apply hK1; clear hK1 K1; rw [hh]; clear hh hz
  cases hk : keyB key with
  | false =>
   rw [if_pos hk] at hvf
   (repeat (first | refine gO rfl ?_ | ((first | refine gM zM20 ?_ | (with_reducible refine wM ?_ ?_) | ((with_reducible refine xS ?_); refine uD 8 zM20 zP7E zP7P 42 rfl (by kernel_rfl) ?_)) <;> ((try with_reducible intro K1 hK1); simp only [go_sem, ↓reduceIte, reduceCtorEq, nA, nB, nC, nD, nE, nF, hk, Bool.not_false] <;> and_intros <;> first | (apply hK1; clear hK1 K1) | (intros; first | omega | decide) | skip))))
   refine awp_cond (t := _) rfl (fun _ => ?_) (fun h6 => by cases h6)
   (repeat (first | refine gO rfl ?_ | ((first | refine gM zM20 ?_ | (with_reducible refine wM ?_ ?_) | ((with_reducible refine xS ?_); refine uD 8 zM20 zP7E zP7P 42 rfl (by kernel_rfl) ?_)) <;> ((try with_reducible intro K1 hK1); simp only [go_sem, ↓reduceIte, reduceCtorEq, nA, nB, nC, nD, nE, nF] <;> and_intros <;> first | (apply hK1; clear hK1 K1) | (intros; first | omega | decide) | skip))))
   simp only [Tryz.results20, go_sem, ↓reduceIte, reduceCtorEq, nA, nB, nC, nD, nE, nF]
   refine ⟨_, _, Weak.refl _, Hp.le.refl _, ?_, rfl⟩
   rw [← hvf, if_neg (by decide)] at hinv
   rw [← hinv]
  | true =>
   rw [if_neg (by rw [hk]; decide)] at hvf
   (repeat (first | refine gO rfl ?_ | ((first | refine gM zM20 ?_ | (with_reducible refine wM ?_ ?_) | ((with_reducible refine xS ?_); refine uD 8 zM20 zP7E zP7P 42 rfl (by kernel_rfl) ?_)) <;> ((try with_reducible intro K1 hK1); simp only [go_sem, ↓reduceIte, reduceCtorEq, nA, nB, nC, nD, nE, nF, hk, Bool.not_true] <;> and_intros <;> first | (apply hK1; clear hK1 K1) | (intros; first | omega | decide) | skip))))
   refine awp_cond (t := _) rfl (fun h6 => by cases h6) (fun _ => ?_)
   by_cases hj0 : j = 0
   ·have d7 : ((0 : Int) < (j : Int)) = False := eq_false (by omega)
    rw [if_pos hj0, if_neg (show ¬ behA key none = true from fun e => by cases e)] at hvf
    (repeat (first | refine gO rfl ?_ | ((first | refine gM zM20 ?_ | (with_reducible refine wM ?_ ?_) | ((with_reducible refine xS ?_); refine uD 8 zM20 zP7E zP7P 42 rfl (by kernel_rfl) ?_)) <;> ((try with_reducible intro K1 hK1); simp only [go_sem, ↓reduceIte, reduceCtorEq, nA, nB, nC, nD, nE, nF, d7, decide_false, hpj, gp2, hml] <;> and_intros <;> first | (apply hK1; clear hK1 K1) | (intros; first | omega | decide) | skip))))
    refine awp_cond (t := _) rfl (fun h6 => by cases h6) (fun _ => ?_)
    (repeat (first | refine gO rfl ?_ | ((first | refine gM zM20 ?_ | (with_reducible refine wM ?_ ?_) | ((with_reducible refine xS ?_); refine uD 8 zM20 zP7E zP7P 42 rfl (by kernel_rfl) ?_)) <;> ((try with_reducible intro K1 hK1); simp only [go_sem, ↓reduceIte, reduceCtorEq, nA, nB, nC, nD, nE, nF] <;> and_intros <;> first | (apply hK1; clear hK1 K1) | (intros; first | omega | decide) | skip))))
    refine hV.mono ?_; rintro _ hz ⟨rfl, hh⟩; apply hK1; clear hK1 K1; rw [hh]; clear hh hz
    rw [hvf]
    by_cases he : vf = 0
    ·rw [if_pos he] at hinv
     (repeat (first | refine gO rfl ?_ | ((first | refine gM zM20 ?_ | (with_reducible refine wM ?_ ?_) | ((with_reducible refine xS ?_); refine uD 8 zM20 zP7E zP7P 42 rfl (by kernel_rfl) ?_)) <;> ((try with_reducible intro K1 hK1); simp only [go_sem, ↓reduceIte, reduceCtorEq, nA, nB, nC, nD, nE, nF] <;> and_intros <;> first | (apply hK1; clear hK1 K1) | (intros; first | omega | decide) | skip))))
     refine awp_cond (t := _) rfl (fun h9 => by rw [he] at h9; cases h9) (fun _ => ?_)
     (repeat (first | refine gO rfl ?_ | ((first | refine gM zM20 ?_ | (with_reducible refine wM ?_ ?_) | ((with_reducible refine xS ?_); refine uD 8 zM20 zP7E zP7P 42 rfl (by kernel_rfl) ?_)) <;> ((try with_reducible intro K1 hK1); simp only [go_sem, ↓reduceIte, reduceCtorEq, nA, nB, nC, nD, nE, nF] <;> and_intros <;> first | (apply hK1; clear hK1 K1) | (intros; first | omega | decide) | skip))))
     exact ⟨g - 1, by omega, j + 1, by omega, hinv, rfl⟩
    ·have hne : (vf != 0) = true := by simpa using he
     rw [if_neg he] at hinv
     (repeat (first | refine gO rfl ?_ | ((first | refine gM zM20 ?_ | (with_reducible refine wM ?_ ?_) | ((with_reducible refine xS ?_); refine uD 8 zM20 zP7E zP7P 42 rfl (by kernel_rfl) ?_)) <;> ((try with_reducible intro K1 hK1); simp only [go_sem, ↓reduceIte, reduceCtorEq, nA, nB, nC, nD, nE, nF] <;> and_intros <;> first | (apply hK1; clear hK1 K1) | (intros; first | omega | decide) | skip))))
     refine awp_cond (t := _) rfl (fun _ => ?_) (fun h9 => by rw [hne] at h9; cases h9)
     (repeat (first | refine gO rfl ?_ | ((first | refine gM zM20 ?_ | (with_reducible refine wM ?_ ?_) | ((with_reducible refine xS ?_); refine uD 8 zM20 zP7E zP7P 42 rfl (by kernel_rfl) ?_)) <;> ((try with_reducible intro K1 hK1); simp only [go_sem, ↓reduceIte, reduceCtorEq, nA, nB, nC, nD, nE, nF] <;> and_intros <;> first | (apply hK1; clear hK1 K1) | (intros; first | omega | decide) | skip))))
     simp only [Tryz.results20, go_sem, ↓reduceIte, reduceCtorEq, nA, nB, nC, nD, nE, nF]
     exact ⟨_, _, Weak.refl _, Hp.le.refl _, by rw [← hinv], rfl⟩
   ·have d7 : ((0 : Int) < (j : Int)) = True := eq_true (by omega)
    have hle : (Op.bytesLess key.toList qk.toList || (key == qk)) = leB key qk := rfl
    rw [if_neg hj0] at hvf
    cases hq : leB key qk with
    | true =>
     rw [if_pos (show behA key (some qk) = true from hq)] at hvf
     rw [hq] at hle
     (repeat (first | refine gO rfl ?_ | ((first | refine gM zM20 ?_ | (with_reducible refine wM ?_ ?_) | ((with_reducible refine xS ?_); refine uD 8 zM20 zP7E zP7P 42 rfl (by kernel_rfl) ?_)) <;> ((try with_reducible intro K1 hK1); simp only [go_sem, ↓reduceIte, reduceCtorEq, nA, nB, nC, nD, nE, nF, d7, decide_true, hpj, gp2, hml, hle] <;> and_intros <;> first | (apply hK1; clear hK1 K1) | (intros; first | omega | decide) | skip))))
     refine awp_cond (t := _) rfl (fun _ => ?_) (fun h6 => by first | cases h6 | (rw [hle] at h6; cases h6))
     (repeat (first | refine gO rfl ?_ | ((first | refine gM zM20 ?_ | (with_reducible refine wM ?_ ?_) | ((with_reducible refine xS ?_); refine uD 8 zM20 zP7E zP7P 42 rfl (by kernel_rfl) ?_)) <;> ((try with_reducible intro K1 hK1); simp only [go_sem, ↓reduceIte, reduceCtorEq, nA, nB, nC, nD, nE, nF] <;> and_intros <;> first | (apply hK1; clear hK1 K1) | (intros; first | omega | decide) | skip))))
     simp only [Tryz.results20, go_sem, ↓reduceIte, reduceCtorEq, nA, nB, nC, nD, nE, nF]
     refine ⟨_, _, Weak.refl _, Hp.le.refl _, ?_, rfl⟩
     rw [← hvf, if_neg (by decide)] at hinv
     rw [← hinv]
    | false =>
     rw [if_neg (show ¬ behA key (some qk) = true from fun e => by rw [show behA key (some qk) = leB key qk from rfl, hq] at e; cases e)] at hvf
     rw [hq] at hle
     (repeat (first | refine gO rfl ?_ | ((first | refine gM zM20 ?_ | (with_reducible refine wM ?_ ?_) | ((with_reducible refine xS ?_); refine uD 8 zM20 zP7E zP7P 42 rfl (by kernel_rfl) ?_)) <;> ((try with_reducible intro K1 hK1); simp only [go_sem, ↓reduceIte, reduceCtorEq, nA, nB, nC, nD, nE, nF, d7, decide_true, hpj, gp2, hml, hle] <;> and_intros <;> first | (apply hK1; clear hK1 K1) | (intros; first | omega | decide) | skip))))
     refine awp_cond (t := _) rfl (fun h6 => by first | cases h6 | (rw [hle] at h6; cases h6)) (fun _ => ?_)
     (repeat (first | refine gO rfl ?_ | ((first | refine gM zM20 ?_ | (with_reducible refine wM ?_ ?_) | ((with_reducible refine xS ?_); refine uD 8 zM20 zP7E zP7P 42 rfl (by kernel_rfl) ?_)) <;> ((try with_reducible intro K1 hK1); simp only [go_sem, ↓reduceIte, reduceCtorEq, nA, nB, nC, nD, nE, nF] <;> and_intros <;> first | (apply hK1; clear hK1 K1) | (intros; first | omega | decide) | skip))))
     refine hV.mono ?_; rintro _ hz ⟨rfl, hh⟩; apply hK1; clear hK1 K1; rw [hh]; clear hh hz
     rw [hvf]
     by_cases he : vf = 0
     ·rw [if_pos he] at hinv
      (repeat (first | refine gO rfl ?_ | ((first | refine gM zM20 ?_ | (with_reducible refine wM ?_ ?_) | ((with_reducible refine xS ?_); refine uD 8 zM20 zP7E zP7P 42 rfl (by kernel_rfl) ?_)) <;> ((try with_reducible intro K1 hK1); simp only [go_sem, ↓reduceIte, reduceCtorEq, nA, nB, nC, nD, nE, nF] <;> and_intros <;> first | (apply hK1; clear hK1 K1) | (intros; first | omega | decide) | skip))))
      refine awp_cond (t := _) rfl (fun h9 => by rw [he] at h9; cases h9) (fun _ => ?_)
      (repeat (first | refine gO rfl ?_ | ((first | refine gM zM20 ?_ | (with_reducible refine wM ?_ ?_) | ((with_reducible refine xS ?_); refine uD 8 zM20 zP7E zP7P 42 rfl (by kernel_rfl) ?_)) <;> ((try with_reducible intro K1 hK1); simp only [go_sem, ↓reduceIte, reduceCtorEq, nA, nB, nC, nD, nE, nF] <;> and_intros <;> first | (apply hK1; clear hK1 K1) | (intros; first | omega | decide) | skip))))
      exact ⟨g - 1, by omega, j + 1, by omega, hinv, rfl⟩
     ·have hne : (vf != 0) = true := by simpa using he
      rw [if_neg he] at hinv
      (repeat (first | refine gO rfl ?_ | ((first | refine gM zM20 ?_ | (with_reducible refine wM ?_ ?_) | ((with_reducible refine xS ?_); refine uD 8 zM20 zP7E zP7P 42 rfl (by kernel_rfl) ?_)) <;> ((try with_reducible intro K1 hK1); simp only [go_sem, ↓reduceIte, reduceCtorEq, nA, nB, nC, nD, nE, nF] <;> and_intros <;> first | (apply hK1; clear hK1 K1) | (intros; first | omega | decide) | skip))))
      refine awp_cond (t := _) rfl (fun _ => ?_) (fun h9 => by rw [hne] at h9; cases h9)
      (repeat (first | refine gO rfl ?_ | ((first | refine gM zM20 ?_ | (with_reducible refine wM ?_ ?_) | ((with_reducible refine xS ?_); refine uD 8 zM20 zP7E zP7P 42 rfl (by kernel_rfl) ?_)) <;> ((try with_reducible intro K1 hK1); simp only [go_sem, ↓reduceIte, reduceCtorEq, nA, nB, nC, nD, nE, nF] <;> and_intros <;> first | (apply hK1; clear hK1 K1) | (intros; first | omega | decide) | skip))))
      simp only [Tryz.results20, go_sem, ↓reduceIte, reduceCtorEq, nA, nB, nC, nD, nE, nF]
      exact ⟨_, _, Weak.refl _, Hp.le.refl _, by rw [← hinv], rfl⟩
 ·simp only [decide_eq_false_iff_not] at h5
  have hjl : j = xs.length := by omega
  subst hjl
  rw [List.drop_length, assL] at hinv
  (repeat (first | refine gO rfl ?_ | ((first | refine gM zM20 ?_ | (with_reducible refine wM ?_ ?_) | ((with_reducible refine xS ?_); refine uD 8 zM20 zP7E zP7P 42 rfl (by kernel_rfl) ?_)) <;> ((try with_reducible intro K1 hK1); simp only [go_sem, ↓reduceIte, reduceCtorEq, nA, nB, nC, nD, nE, nF] <;> and_intros <;> first | (apply hK1; clear hK1 K1) | (intros; first | omega | decide) | skip))))
  simp only [Tryz.results20, go_sem, ↓reduceIte, reduceCtorEq, nA, nB, nC, nD, nE, nF]
  exact ⟨_, _, Weak.refl _, Hp.le.refl _, by rw [← hinv], rfl⟩
theorem weak2 {a a' b b' : AV} (h : Weak a a') (k : Weak b b') : ∀ j, (hj : j < ([a, b] : List AV).length) → (hk : j < ([a', b'] : List AV).length) → Weak ([a, b][j]) ([a', b'][j])
 | 0, _, _ => h
 | 1, _, _ => k
 | j + 2, hj, _ => absurd hj (by simp)
def encR (p : Nat) : List AV := [.ptr p 0]
def encRV (p : Nat) : AV := .ptr p 0
def idxR (pr : Nat → Bool) (ps : List Nat) : Int := match ps.findIdx? pr with
 | some j => j
 | none => -1
theorem idxR_at {pr : Nat → Bool} {ps : List Nat} {j : Nat} (hj : j < ps.length) (hp : pr (ps.getD j default) = true) (hn : ∀ i, i < j → pr (ps.getD i default) = false) : idxR pr ps = j := by
 have e : ps.findIdx? pr = some j := by
  rw [List.findIdx?_eq_some_iff_getElem]
  refine ⟨hj, ?_, fun i hi => ?_⟩
  ·rwa [List.getD_eq_getElem?_getD, List.getElem?_eq_getElem hj] at hp
  ·have h9 := hn i hi
   rw [List.getD_eq_getElem?_getD, List.getElem?_eq_getElem (by omega)] at h9
   simpa using h9
 rw [idxR, e]
theorem idxR_no {pr : Nat → Bool} {ps : List Nat} (hn : ∀ i, i < ps.length → pr (ps.getD i default) = false) : idxR pr ps = -1 := by
 have e : ps.findIdx? pr = none := by
  rw [List.findIdx?_eq_none_iff]
  intro x hx
  obtain ⟨i, hi, rfl⟩ := List.getElem_of_mem hx
  have h9 := hn i hi
  rwa [List.getD_eq_getElem?_getD, List.getElem?_eq_getElem hi] at h9
 rw [idxR, e]
theorem g_idxK {f : Nat} {caps : List AV} (pr : Nat → Bool) (k : Nat) (ps : List Nat) (h : Hp) (hT : h.T k = some (.cont 1 (ps.map encR))) (hl : ps.length ≤ 100000)
  (hc : ∀ p ∈ ps, ACalls Tryz.prog f ([.ptr p 0] ++ caps) h (fun r h' => r = .v (.bool (pr p)) ∧ h' = h)) :
  ACalls Tryz.prog 184 [.arr 1 k ps.length, .fn f caps] h (fun r h' => r = .v (.int .i64 (idxR pr ps)) ∧ h' = h) := by
 have hml : (ps.map encR).length = ps.length := List.length_map _
 refine gE Tryz.func184 rfl (by kernel_rfl) 17 rfl fun c => ?_
 (repeat (first | refine gO rfl ?_ | (refine gR fun K1 hK1 => ?_; simp only [go_sem, ↓reduceIte, reduceCtorEq, nA, nB, nC, nD, nE, nF] <;> and_intros <;> first | (apply hK1; clear hK1 K1) | (intros; first | omega | decide | (simp_all <;> omega)) | skip)))
 refine awp_loopC (rl false [0, 2, 5, 2, 10]) 0 (fun g s => ∃ j : Nat, g + j = ps.length ∧ (∀ i, i < j → pr (ps.getD i default) = false) ∧
  s = ⟨((.arr 1 k ps.length) :: (.fn f caps) :: (jnk 5 ((.v (.int .i64 ps.length)) :: (.v (.int .i64 j)) :: (jnk 10 [])))), [], h⟩) ps.length ⟨0, by omega, fun i hi => by omega, rfl⟩ ?_
 rintro g _ ⟨j, hj, hn, rfl⟩
 (repeat (first | refine gO rfl ?_ | (refine gR fun K1 hK1 => ?_; simp only [go_sem, ↓reduceIte, reduceCtorEq, nA, nB, nC, nD, nE, nF] <;> and_intros <;> first | (apply hK1; clear hK1 K1) | (intros; first | omega | decide) | skip)))
 refine awp_cond (t := _) rfl (fun h1 => ?_) (fun h1 => ?_)
 ·simp only [decide_eq_true_eq] at h1
  have hjl : j < ps.length := by omega
  have gx : (ps.map encR).getD j [] = encR (ps.getD j default) := getD_enc encR ps j default hjl
  have hcc := hc (ps.getD j default) (by rw [List.getD_eq_getElem?_getD, List.getElem?_eq_getElem hjl]; exact List.getElem_mem _)
  obtain ⟨p, hp⟩ : ∃ p, ps.getD j default = p := ⟨_, rfl⟩
  rw [hp] at gx hcc
  (repeat (first | refine gO rfl ?_ | (refine gR fun K1 hK1 => ?_; simp only [go_sem, ↓reduceIte, reduceCtorEq, nA, nB, nC, nD, nE, nF, hT, hml, Int.toNat_natCast, gx, encR] <;> and_intros <;> first | (apply hK1; clear hK1 K1) | (intros; first | omega | decide) | skip)))
  refine hcc.mono ?_; rintro _ hz ⟨rfl, hh⟩; apply hK1; clear hK1 K1; rw [hh]; clear hh hz
  cases hb : pr p with
  | true =>
   (repeat (first | refine gO rfl ?_ | (refine gR fun K1 hK1 => ?_; simp only [go_sem, ↓reduceIte, reduceCtorEq, nA, nB, nC, nD, nE, nF] <;> and_intros <;> first | (apply hK1; clear hK1 K1) | (intros; first | omega | decide) | skip)))
   refine awp_cond (t := _) rfl (fun _ => ?_) (fun h9 => by cases h9)
   (repeat (first | refine gO rfl ?_ | (refine gR fun K1 hK1 => ?_; simp only [go_sem, ↓reduceIte, reduceCtorEq, nA, nB, nC, nD, nE, nF] <;> and_intros <;> first | (apply hK1; clear hK1 K1) | (intros; first | omega | decide) | skip)))
   simp only [Tryz.results184, go_sem, ↓reduceIte, reduceCtorEq, nA, nB, nC, nD, nE, nF]
   exact ⟨_, _, Weak.refl _, Hp.le.refl _, by rw [idxR_at hjl (by rw [hp]; exact hb) hn], rfl⟩
  | false =>
   (repeat (first | refine gO rfl ?_ | (refine gR fun K1 hK1 => ?_; simp only [go_sem, ↓reduceIte, reduceCtorEq, nA, nB, nC, nD, nE, nF] <;> and_intros <;> first | (apply hK1; clear hK1 K1) | (intros; first | omega | decide) | skip)))
   refine awp_cond (t := _) rfl (fun h9 => by cases h9) (fun _ => ?_)
   (repeat (first | refine gO rfl ?_ | (refine gR fun K1 hK1 => ?_; simp only [go_sem, ↓reduceIte, reduceCtorEq, nA, nB, nC, nD, nE, nF] <;> and_intros <;> first | (apply hK1; clear hK1 K1) | (intros; first | omega | decide) | skip)))
   refine ⟨g - 1, by omega, j + 1, by omega, fun i hi => ?_, rfl⟩
   rcases Nat.lt_succ_iff_lt_or_eq.1 hi with h9 | rfl
   ·exact hn i h9
   ·rw [hp]; exact hb
 ·simp only [decide_eq_false_iff_not] at h1
  (repeat (first | refine gO rfl ?_ | (refine gR fun K1 hK1 => ?_; simp only [go_sem, ↓reduceIte, reduceCtorEq, nA, nB, nC, nD, nE, nF] <;> and_intros <;> first | (apply hK1; clear hK1 K1) | (intros; first | omega | decide) | skip)))
  simp only [Tryz.results184, go_sem, ↓reduceIte, reduceCtorEq, nA, nB, nC, nD, nE, nF]
  exact ⟨_, _, Weak.refl _, Hp.le.refl _, by rw [idxR_no (fun i hi => hn i (by omega))], rfl⟩
theorem idxR_cases (pr : Nat → Bool) (ps : List Nat) : ((∀ p ∈ ps, pr p = false) ∧ idxR pr ps = -1) ∨ ∃ j, j < ps.length ∧ idxR pr ps = j ∧ pr (ps.getD j default) = true ∧ ∀ i, i < j → pr (ps.getD i default) = false := by
 unfold idxR
 cases e : ps.findIdx? pr with
 | none =>
  rw [List.findIdx?_eq_none_iff] at e
  exact .inl ⟨e, rfl⟩
 | some j =>
  rw [List.findIdx?_eq_some_iff_getElem] at e
  obtain ⟨hj, h1, h2⟩ := e
  refine .inr ⟨j, hj, rfl, ?_, fun i hi => ?_⟩
  ·rw [List.getD_eq_getElem?_getD, List.getElem?_eq_getElem hj]; exact h1
  ·have := h2 i hi
   rw [List.getD_eq_getElem?_getD, List.getElem?_eq_getElem (by omega)]
   simpa using this
theorem getD_mid' {α : Type} (A : List α) (x : α) (B : List α) (d : α) : (A ++ x :: B).getD A.length d = x := by
 rw [List.getD_eq_getElem?_getD, List.getElem?_append_right (Nat.le_refl _), Nat.sub_self]; rfl
theorem set_mid' {α : Type} (A : List α) (x y : α) (B : List α) : (A ++ x :: B).set A.length y = A ++ y :: B := by
 rw [List.set_append_right _ _ (Nat.le_refl _), Nat.sub_self]; rfl
theorem drop_at' {α : Type} (l : List α) (j : Nat) (d : α) (h : j < l.length) : l.drop j = l.getD j d :: l.drop (j + 1) := by
 rw [List.drop_eq_getElem_cons h, List.getD_eq_getElem?_getD, List.getElem?_eq_getElem h]; rfl
theorem take_at' {α : Type} (l : List α) (j : Nat) (d : α) (h : j < l.length) : l.take (j + 1) = l.take j ++ [l.getD j d] := by
 rw [List.take_add_one, List.getElem?_eq_getElem h, List.getD_eq_getElem?_getD, List.getElem?_eq_getElem h]; rfl
theorem g_delK {f : Nat} {caps : List AV} (pr : Nat → Bool) (k : Nat) (ps : List Nat) (h : Hp) (hT : h.T k = some (.cont 1 (ps.map encR))) (hl : ps.length ≤ 100000)
  (hc : ∀ p ∈ ps, ∀ T', ACalls Tryz.prog f ([.ptr p 0] ++ caps) ⟨h.H, T'⟩ (fun r h' => r = .v (.bool (pr p)) ∧ h' = ⟨h.H, T'⟩)) :
  ACalls Tryz.prog 187 [.arr 1 k ps.length, .fn f caps] h (fun r h' => ∃ q, r = .arr 1 q (ps.filter fun p => !pr p).length ∧ h'.H = h.H ∧ h'.T q = some (.cont 1 ((ps.filter fun p => !pr p).map encR)) ∧ ∀ t, t ≠ k → h.T t ≠ none → t ≠ q ∧ h'.T t = h.T t) := by
 have hix := g_idxK pr k ps h hT hl (fun p hp => hc p hp h.T)
 refine gE Tryz.func187 rfl (by kernel_rfl) 40 rfl fun c => ?_
 (repeat (first | refine gO rfl ?_ | (refine gM zM21 fun K1 hK1 => ?_; simp only [go_sem, ↓reduceIte, reduceCtorEq, nA, nB, nC, nD, nE, nF] <;> and_intros <;> first | (apply hK1; clear hK1 K1) | (intros; first | omega | decide | (simp_all <;> omega)) | skip)))
 refine hix.mono ?_; rintro _ hz ⟨rfl, hh⟩; apply hK1; clear hK1 K1; rw [hh]; clear hh hz
 clear hix
 rcases idxR_cases pr ps with ⟨hno, e⟩ | ⟨j0, hj0, e, hp0, hn0⟩
 ·rw [e]
  have ef : ps.filter (fun p => !pr p) = ps := List.filter_eq_self.2 fun p hp => by simp [hno p hp]
  rw [ef]
  have hb : ((-1 : Int) == -1) = true := rfl
  clear hc
  (repeat (first | refine gO rfl ?_ | (refine gM zM21 fun K1 hK1 => ?_; simp only [go_sem, ↓reduceIte, reduceCtorEq, nA, nB, nC, nD, nE, nF, hb] <;> and_intros <;> first | (apply hK1; clear hK1 K1) | (intros; first | omega | decide) | skip)))
  refine awp_cond (t := _) rfl (fun _ => ?_) (fun h9 => by cases h9)
  (repeat (first | refine gO rfl ?_ | (refine gM zM21 fun K1 hK1 => ?_; simp only [go_sem, ↓reduceIte, reduceCtorEq, nA, nB, nC, nD, nE, nF] <;> and_intros <;> first | (apply hK1; clear hK1 K1) | (intros; first | omega | decide) | skip)))
  simp only [Tryz.results187, go_sem, ↓reduceIte, reduceCtorEq, nA, nB, nC, nD, nE, nF]
  exact ⟨_, _, Weak.refl _, Hp.le.refl _, k, rfl, rfl, hT, fun t ht _ => ⟨ht, rfl⟩⟩
 ·rw [e]
  have hb : ((j0 : Int) == -1) = false := by
   rw [beq_eq_false_iff_ne]; omega
  (repeat (first | refine gO rfl ?_ | (refine gM zM21 fun K1 hK1 => ?_; simp only [go_sem, ↓reduceIte, reduceCtorEq, nA, nB, nC, nD, nE, nF, hb] <;> and_intros <;> first | (apply hK1; clear hK1 K1) | (intros; first | omega | decide) | skip)))
  refine awp_cond (t := _) rfl (fun h9 => by cases h9) (fun _ => ?_)
  (repeat (first | refine gO rfl ?_ | (refine gM zM21 fun K1 hK1 => ?_; simp only [go_sem, ↓reduceIte, reduceCtorEq, nA, nB, nC, nD, nE, nF] <;> and_intros <;> first | (apply hK1; clear hK1 K1) | (intros; first | omega | decide) | skip)))
  have hT0 : (ps.take j0).filter (fun p => !pr p) = ps.take j0 := List.filter_eq_self.2 fun p hp => by
   obtain ⟨i, hi, rfl⟩ := List.getElem_of_mem hp
   rw [List.length_take] at hi
   have h9 := hn0 i (by omega)
   rw [List.getD_eq_getElem?_getD, List.getElem?_eq_getElem (by omega)] at h9
   rw [List.getElem_take]
   simpa using h9
  refine awp_loopC (rl false [0, 2, 3, 2, 35]) 0 (fun g s => ∃ (j : Nat) (Fl M : List Nat), g + j = ps.length ∧ Fl = (ps.take j).filter (fun p => !pr p) ∧ M ≠ [] ∧ Fl.length + M.length = j ∧
   s = ⟨((.arr 1 k ps.length) :: (.fn f caps) :: (jnk 3 ((.v (.int .i64 Fl.length)) :: (.v (.int .i64 j)) :: (jnk 35 [])))), [], ⟨h.H, upd h.T k (some (.cont 1 ((Fl ++ (M ++ ps.drop j)).map encR)))⟩⟩) (ps.length - (j0 + 1))
   ⟨j0 + 1, ps.take j0, [ps.getD j0 default], by omega, by rw [take_at' ps j0 default hj0, List.filter_append, hT0, List.filter_cons_of_neg (p := fun p => !pr p) (show ¬ (!pr (ps.getD j0 default)) = true by rw [hp0]; decide)]; simp, by simp, by rw [List.length_take, List.length_singleton]; omega, ?_⟩ ?_
  ·have e1 : ps.take j0 ++ ([ps.getD j0 default] ++ ps.drop (j0 + 1)) = ps := by
    rw [List.singleton_append, ← drop_at' ps j0 default hj0, List.take_append_drop]
   have e2 : upd h.T k (some (TO.cont 1 (ps.map encR))) = h.T := by
    funext q
    by_cases e : q = k
    ·rw [e, upd_same, hT]
    ·rw [upd_other _ _ e]
   have e3 : (ps.take j0).length = j0 := by rw [List.length_take]; omega
   rw [e1, e2, e3]; rfl
  rintro g _ ⟨j, Fl, M, hj, hF, hM, hlen, rfl⟩
  have hTq : ∀ X, upd h.T k (some (TO.cont 1 X)) k = some (.cont 1 X) := fun X => upd_same _ _ _
  have hcl : ((Fl ++ (M ++ ps.drop j)).map encR).length = ps.length := by simp; omega
  (repeat (first | refine gO rfl ?_ | (refine gM zM21 fun K1 hK1 => ?_; simp only [go_sem, ↓reduceIte, reduceCtorEq, nA, nB, nC, nD, nE, nF] <;> and_intros <;> first | (apply hK1; clear hK1 K1) | (intros; first | omega | decide) | skip)))
  refine awp_cond (t := _) rfl (fun h1 => ?_) (fun h1 => ?_)
  ·simp only [decide_eq_true_eq] at h1
   have hjl : j < ps.length := by omega
   have hdj := drop_at' ps j default hjl
   have htj := take_at' ps j default hjl
   have hvm : ps.getD j default ∈ ps := by
    rw [List.getD_eq_getElem?_getD, List.getElem?_eq_getElem hjl]; exact List.getElem_mem _
   obtain ⟨v, hv⟩ : ∃ v, ps.getD j default = v := ⟨_, rfl⟩
   rw [hv] at hdj htj hvm
   have gx : ((Fl ++ (M ++ ps.drop j)).map encR).getD j [] = encR v := by
    rw [hdj, ← List.append_assoc, List.map_append, List.map_cons]
    have := getD_mid' ((Fl ++ M).map encR) (encR v) ((ps.drop (j + 1)).map encR) []
    rwa [List.length_map, List.length_append, hlen] at this
   have hcc := fun T' => hc v hvm T'
   obtain ⟨m0, M1, rfl⟩ := List.exists_cons_of_ne_nil hM
   have gs : (((Fl ++ (m0 :: M1 ++ ps.drop j)).map encR).set Fl.length (encR v)) = (((Fl ++ [v]) ++ ((M1 ++ [v]) ++ ps.drop (j + 1))).map encR) := by
    rw [hdj, List.map_append, List.cons_append, List.map_cons]
    have := set_mid' (Fl.map encR) (encR m0) (encR v) ((M1 ++ v :: ps.drop (j + 1)).map encR)
    rw [List.length_map] at this
    rw [this]; simp
   have hfl : Fl.length < ps.length := by simp at hlen; omega
   have gd : (((Fl ++ (m0 :: M1 ++ ps.drop j)).map encR).getD Fl.length []) = encR m0 := by
    rw [List.map_append, List.cons_append, List.map_cons]
    have := getD_mid' (Fl.map encR) (encR m0) ((M1 ++ ps.drop j).map encR) []
    rwa [List.length_map] at this
   simp only [encR] at gs gd
   generalize hct : (Fl ++ (m0 :: M1 ++ ps.drop j)).map encR = ct at *
   (repeat (first | refine gO rfl ?_ | (refine gM zM21 fun K1 hK1 => ?_; simp only [go_sem, ↓reduceIte, reduceCtorEq, nA, nB, nC, nD, nE, nF, hTq, hcl, Int.toNat_natCast, gx, encR] <;> and_intros <;> first | (apply hK1; clear hK1 K1) | (intros; first | omega | decide) | skip)))
   refine (hcc _).mono ?_; rintro _ hz ⟨rfl, hh⟩; apply hK1; clear hK1 K1; rw [hh]; clear hh hz
   cases hpv : pr v with
   | true =>
    (repeat (first | refine gO rfl ?_ | (refine gM zM21 fun K1 hK1 => ?_; simp only [go_sem, ↓reduceIte, reduceCtorEq, nA, nB, nC, nD, nE, nF] <;> and_intros <;> first | (apply hK1; clear hK1 K1) | (intros; first | omega | decide) | skip)))
    refine awp_cond (t := _) rfl (fun h9 => by cases h9) (fun _ => ?_)
    (repeat (first | refine gO rfl ?_ | (refine gM zM21 fun K1 hK1 => ?_; simp only [go_sem, ↓reduceIte, reduceCtorEq, nA, nB, nC, nD, nE, nF] <;> and_intros <;> first | (apply hK1; clear hK1 K1) | (intros; first | omega | decide) | skip)))
    refine ⟨g - 1, by omega, j + 1, Fl, m0 :: M1 ++ [v], by omega, by rw [htj, List.filter_append, ← hF]; simp [hpv], by simp, by simp at hlen ⊢; omega, ?_⟩
    rw [← hct, hdj]
    simp only [List.append_assoc, List.cons_append, List.nil_append]
    rfl
   | false =>
    (repeat (first | refine gO rfl ?_ | (refine gM zM21 fun K1 hK1 => ?_; simp only [go_sem, ↓reduceIte, reduceCtorEq, nA, nB, nC, nD, nE, nF] <;> and_intros <;> first | (apply hK1; clear hK1 K1) | (intros; first | omega | decide) | skip)))
    refine awp_cond (t := _) rfl (fun _ => ?_) (fun h9 => by cases h9)
    (repeat (first | refine gO rfl ?_ | (refine gM zM21 fun K1 hK1 => ?_; simp only [go_sem, ↓reduceIte, reduceCtorEq, nA, nB, nC, nD, nE, nF, hTq, hcl, Int.toNat_natCast, gd, upd_upd] <;> and_intros <;> first | (apply hK1; clear hK1 K1) | (intros; first | omega | decide) | skip)))
    refine ⟨g - 1, by omega, j + 1, Fl ++ [v], M1 ++ [v], by omega, by rw [htj, List.filter_append, ← hF]; simp [hpv], by simp, by simp at hlen ⊢; omega, ?_⟩
    simp only [List.drop_succ_cons, List.drop_zero, gs, List.length_append, List.length_singleton]
    rfl
  ·simp only [decide_eq_false_iff_not] at h1
   have hjl : j = ps.length := by omega
   subst hjl
   rw [List.take_length] at hF
   rw [List.drop_length, List.append_nil] at *
   clear h1 hj hc
   (repeat refine gO rfl ?_)
   have hml : (Fl ++ M).length = ps.length := by rw [List.length_append]; exact hlen
   have hMl := List.length_pos_iff.2 hM
   refine awp_seq ?_
   refine awp_AL ?_
   refine AL.cons rfl (Quiet.aop (q_move (.inl rfl)) ?_)
   refine AL.cons rfl (Quiet.aop (q_move (.inl rfl)) ?_)
   refine al_clear (z := 1) (k := k) (n := ps.length) (j := Fl.length) (xs := (Fl ++ M).map encR) tyok rfl rfl rfl rfl rfl rfl rfl rfl (upd_same _ _ _) (by rw [List.length_map, hml]) (by omega) (by omega) rfl rfl (by decide) (show 38 < 42 by decide) ?_
   have hfin : ((Fl ++ M).map encR).take ((Fl.length : Int)).toNat ++ List.replicate (ps.length - ((Fl.length : Int)).toNat) [AV.v (Value.pointer none)] = Fl.map encR ++ List.replicate M.length [AV.v (Value.pointer none)] := by
    rw [Int.toNat_natCast, List.map_append, List.take_append_of_le_length (by rw [List.length_map]; exact Nat.le_refl _), List.take_of_length_le (by rw [List.length_map]; exact Nat.le_refl _)]
    congr 2
    omega
   refine awp_cut (rl false [0, 1, 4, 1, 36]) 0 (?_ : Awp _ _ _ _ ⟨((.arr 1 k ps.length) :: (jnk 4 ((.v (.int .i64 Fl.length)) :: (jnk 36 [])))), [], ⟨h.H, upd (upd h.T k (some (.cont 1 ((Fl ++ M).map encR)))) k (some (.cont 1 (((Fl ++ M).map encR).take ((Fl.length : Int)).toNat ++ List.replicate (ps.length - ((Fl.length : Int)).toNat) [AV.v (Value.pointer none)])))⟩⟩)
   rw [hfin, upd_upd]
   have hzl : (Fl.map encR ++ List.replicate M.length [AV.v (Value.pointer none)]).length = ps.length := by simp; omega
   have htk : (Fl.map encR ++ List.replicate M.length [AV.v (Value.pointer none)]).take Fl.length = Fl.map encR := by
    rw [List.take_append_of_le_length (by rw [List.length_map]; exact Nat.le_refl _), List.take_of_length_le (by rw [List.length_map]; exact Nat.le_refl _)]
   generalize Fl.map encR ++ List.replicate M.length [AV.v (Value.pointer none)] = Z at hzl htk ⊢
   have hTz : ∀ X, upd h.T k (some (TO.cont 1 X)) k = some (.cont 1 X) := fun X => upd_same _ _ _
   (repeat (first | refine gO rfl ?_ | (refine gM zM21 fun K1 hK1 => ?_; simp only [go_sem, ↓reduceIte, reduceCtorEq, nA, nB, nC, nD, nE, nF, hTz, hzl] <;> and_intros <;> first | (apply hK1; clear hK1 K1) | (intros; first | omega | decide) | skip)))
   ·trivial
   ·trivial
   intro q hq
   rw [Int.toNat_natCast, htk]
   refine hK1 _ ?_; clear hK1 K1
   have hqk : q ≠ k := by
    intro e
    rw [e, upd_same] at hq; cases hq
   rw [upd_other _ _ hqk] at hq
   (repeat (first | refine gO rfl ?_ | (refine gM zM21 fun K1 hK1 => ?_; simp only [go_sem, ↓reduceIte, reduceCtorEq, nA, nB, nC, nD, nE, nF] <;> and_intros <;> first | (apply hK1; clear hK1 K1) | (intros; first | omega | decide) | skip)))
   rw [← hF]
   simp only [Tryz.results187, go_sem, ↓reduceIte, reduceCtorEq, nA, nB, nC, nD, nE, nF]
   refine ⟨_, _, Weak.refl _, Hp.le.refl _, q, rfl, rfl, upd_same _ _ _, fun t ht hn => ?_⟩
   have htq : t ≠ q := fun e => hn (e ▸ hq)
   exact ⟨htq, (upd_other _ _ htq).trans (upd_other _ _ ht)⟩
theorem g_indexS (ns : List ByteArray) (x : ByteArray) (h : Hp) (hl : ns.length ≤ 100000) : ACalls Tryz.prog 109 [.row 1 (ns.map encS) none, .v (.string x)] h (fun r h' => ∃ i : Int, r = .v (.int .i64 i) ∧ h' = h ∧ decide (0 ≤ i) = (ns.any fun y => x == y)) := by
 have hml : (ns.map encS).length = ns.length := List.length_map _
 refine gE Tryz.func109 rfl (by kernel_rfl) 17 rfl fun c => ?_
 (repeat (first | refine gO rfl ?_ | (refine gR fun K1 hK1 => ?_; simp only [go_sem, ↓reduceIte, reduceCtorEq, nA, nB, nC, nD, nE, nF, hml] <;> and_intros <;> first | (apply hK1; clear hK1 K1) | (intros; first | omega | decide | (simp_all <;> omega)) | skip)))
 refine awp_loopC (rl false [0, 2, 5, 2, 10]) 0 (fun g s => ∃ j : Nat, g + j = ns.length ∧ ((ns.drop j).any fun y => x == y) = (ns.any fun y => x == y) ∧
  s = ⟨((.row 1 (ns.map encS) none) :: (.v (.string x)) :: (jnk 5 ((.v (.int .i64 ns.length)) :: (.v (.int .i64 j)) :: (jnk 10 [])))), [], h⟩) ns.length ⟨0, by omega, rfl, rfl⟩ ?_
 rintro g _ ⟨j, hj, hd, rfl⟩
 (repeat (first | refine gO rfl ?_ | (refine gR fun K1 hK1 => ?_; simp only [go_sem, ↓reduceIte, reduceCtorEq, nA, nB, nC, nD, nE, nF] <;> and_intros <;> first | (apply hK1; clear hK1 K1) | (intros; first | omega | decide) | skip)))
 refine awp_cond (t := _) rfl (fun h1 => ?_) (fun h1 => ?_)
 ·simp only [decide_eq_true_eq] at h1
  have hjl : j < ns.length := by omega
  have gx : (ns.map encS).getD j [] = encS (ns.getD j default) := getD_enc encS ns j default hjl
  have hdc := drop_at' ns j default hjl
  rw [hdc, List.any_cons] at hd
  generalize ns.getD j default = y at *
  (repeat (first | refine gO rfl ?_ | (refine gR fun K1 hK1 => ?_; simp only [go_sem, ↓reduceIte, reduceCtorEq, nA, nB, nC, nD, nE, nF, hml, Int.toNat_natCast, gx, encS] <;> and_intros <;> first | (apply hK1; clear hK1 K1) | (intros; first | omega | decide) | skip)))
  refine awp_cond (t := _) rfl (fun h2 => ?_) (fun h2 => ?_)
  ·(repeat (first | refine gO rfl ?_ | (refine gR fun K1 hK1 => ?_; simp only [go_sem, ↓reduceIte, reduceCtorEq, nA, nB, nC, nD, nE, nF] <;> and_intros <;> first | (apply hK1; clear hK1 K1) | (intros; first | omega | decide) | skip)))
   simp only [Tryz.results109, go_sem, ↓reduceIte, reduceCtorEq, nA, nB, nC, nD, nE, nF]
   refine ⟨_, _, Weak.refl _, Hp.le.refl _, j, rfl, rfl, ?_⟩
   rw [← hd, h2]; simp
  ·(repeat (first | refine gO rfl ?_ | (refine gR fun K1 hK1 => ?_; simp only [go_sem, ↓reduceIte, reduceCtorEq, nA, nB, nC, nD, nE, nF] <;> and_intros <;> first | (apply hK1; clear hK1 K1) | (intros; first | omega | decide) | skip)))
   refine ⟨g - 1, by omega, j + 1, by omega, ?_, rfl⟩
   rw [← hd, h2, Bool.false_or]
 ·simp only [decide_eq_false_iff_not] at h1
  have hjl : j = ns.length := by omega
  subst hjl
  rw [List.drop_length] at hd
  (repeat (first | refine gO rfl ?_ | (refine gR fun K1 hK1 => ?_; simp only [go_sem, ↓reduceIte, reduceCtorEq, nA, nB, nC, nD, nE, nF] <;> and_intros <;> first | (apply hK1; clear hK1 K1) | (intros; first | omega | decide) | skip)))
  simp only [Tryz.results109, go_sem, ↓reduceIte, reduceCtorEq, nA, nB, nC, nD, nE, nF]
  exact ⟨_, _, Weak.refl _, Hp.le.refl _, -1, rfl, rfl, by rw [← hd]; rfl⟩
theorem g_hasS (ns : List ByteArray) (x : ByteArray) (k : Option Nat) (h : Hp) (hl : ns.length ≤ 100000) : ACalls Tryz.prog 63 [.row 1 (ns.map encS) k, .v (.string x)] h (fun r h' => r = .v (.bool (ns.any fun y => x == y)) ∧ h' = h) := by
 have h1 := fun h => (g_indexS ns x h hl).weakArgs (args' := [.row 1 (ns.map encS) k, .v (.string x)]) rfl (weak2 (Weak.row _ _ _) (Weak.refl _))
 generalize ns.map encS = rw0 at *
 refine gE Tryz.func63 rfl (by kernel_rfl) 7 rfl fun c => ?_
 (repeat (first | refine gO rfl ?_ | (refine gR fun K1 hK1 => ?_; simp only [go_sem, ↓reduceIte, reduceCtorEq, nA, nB, nC, nD, nE, nF] <;> and_intros <;> first | (apply hK1; clear hK1 K1) | (intros; first | omega | decide | (simp_all <;> omega)) | skip)))
 refine (h1 _).mono ?_
 rintro _ _ ⟨i, rfl, rfl, hi⟩
 refine hK1 _ ?_; clear hK1 K1
 rw [← hi]
 (repeat (first | refine gO rfl ?_ | (refine gR fun K1 hK1 => ?_; simp only [go_sem, ↓reduceIte, reduceCtorEq, nA, nB, nC, nD, nE, nF] <;> and_intros <;> first | (apply hK1; clear hK1 K1) | (intros; first | omega | decide | (simp_all <;> omega)) | skip)))
 simp only [Tryz.results63, go_sem, ↓reduceIte, reduceCtorEq, nA, nB, nC, nD, nE, nF]
 exact ⟨_, _, Weak.refl _, Hp.le.refl _, rfl, rfl⟩
theorem z_out (x m : Int) : zinB x m = !(decide (x < 0) || decide (m < x)) := by
 unfold zinB
 rw [Bool.eq_iff_iff]; simp
theorem g_ableFault (p : Ab) (hp : AbOk p) (h : Hp) : ACalls Tryz.prog 58 [.agg (encAb p)] h (fun r h' => r = .v (.int .i64 (ableF p)) ∧ h' = h) := by
 obtain ⟨cs, wide, high, rate, bytes⟩ := p
 have hl : cs.length ≤ 4 := hp.len
 have hcs : ∀ s ∈ cs, s.size ≤ 1000 := fun s hs => by have := hp.codecs s hs; omega
 have hml : (cs.map encS).length = cs.length := List.length_map _
 have hR := fun h => g_rising cs none (by omega) hcs h
 have hO1 := fun h => a_outside wide 0 100000 h
 have hO2 := fun h => a_outside high 0 100000 h
 have hO3 := fun h => a_outside rate 0 1000000 h
 have hO4 := fun h => a_outside bytes 0 1000000000000 h
 obtain ⟨E, hE⟩ : ∃ E, ableF ⟨cs, wide, high, rate, bytes⟩ = E := ⟨_, rfl⟩
 rw [hE]
 unfold ableF at hE
 simp only at hE
 obtain ⟨b1, e1⟩ : ∃ b, (decide (wide < 0) || decide (100000 < wide)) = b := ⟨_, rfl⟩
 rw [z_out wide, e1] at hE
 rw [e1] at hO1
 obtain ⟨b2, e2⟩ : ∃ b, (decide (high < 0) || decide (100000 < high)) = b := ⟨_, rfl⟩
 rw [z_out high, e2] at hE
 rw [e2] at hO2
 obtain ⟨b3, e3⟩ : ∃ b, (decide (rate < 0) || decide (1000000 < rate)) = b := ⟨_, rfl⟩
 rw [z_out rate, e3] at hE
 rw [e3] at hO3
 obtain ⟨b4, e4⟩ : ∃ b, (decide (bytes < 0) || decide (1000000000000 < bytes)) = b := ⟨_, rfl⟩
 rw [z_out bytes, e4] at hE
 rw [e4] at hO4
 clear e1 e2 e3 e4
 simp only [encAb]
 refine gE Tryz.func58 rfl (by kernel_rfl) 31 rfl fun c => ?_
 (repeat (first | refine gO rfl ?_ | (refine gR fun K1 hK1 => ?_; simp only [go_sem, ↓reduceIte, reduceCtorEq, nA, nB, nC, nD, nE, nF, hml] <;> and_intros <;> first | (apply hK1; clear hK1 K1) | (intros; first | omega | decide) | skip)))
 refine awp_cond (t := _) rfl (fun h5 => absurd (of_decide_eq_true h5) (by omega)) (fun _ => ?_)
 (repeat (first | refine gO rfl ?_ | (refine gR fun K1 hK1 => ?_; simp only [go_sem, ↓reduceIte, reduceCtorEq, nA, nB, nC, nD, nE, nF, hml] <;> and_intros <;> first | (apply hK1; clear hK1 K1) | (intros; first | omega | decide) | skip)))
 refine (hR _).mono ?_; rintro _ hz ⟨rfl, hh⟩; apply hK1; clear hK1 K1; rw [hh]; clear hh hz
 generalize riseF cs none = rf at *
 by_cases hz : rf = 0
 case neg =>
  have hne : (rf != 0) = true := by simpa using hz
  rw [if_neg hz] at hE
  (repeat (first | refine gO rfl ?_ | (refine gR fun K1 hK1 => ?_; simp only [go_sem, ↓reduceIte, reduceCtorEq, nA, nB, nC, nD, nE, nF] <;> and_intros <;> first | (apply hK1; clear hK1 K1) | (intros; first | omega | decide) | skip)))
  refine awp_cond (t := _) rfl (fun _ => ?_) (fun h9 => by rw [hne] at h9; cases h9)
  (repeat (first | refine gO rfl ?_ | (refine gR fun K1 hK1 => ?_; simp only [go_sem, ↓reduceIte, reduceCtorEq, nA, nB, nC, nD, nE, nF] <;> and_intros <;> first | (apply hK1; clear hK1 K1) | (intros; first | omega | decide) | skip)))
  simp only [Tryz.results58, go_sem, ↓reduceIte, reduceCtorEq, nA, nB, nC, nD, nE, nF]
  exact ⟨_, _, Weak.refl _, Hp.le.refl _, by rw [← hE], rfl⟩
 subst hz
 rw [if_pos rfl] at hE
 (repeat (first | refine gO rfl ?_ | (refine gR fun K1 hK1 => ?_; simp only [go_sem, ↓reduceIte, reduceCtorEq, nA, nB, nC, nD, nE, nF] <;> and_intros <;> first | (apply hK1; clear hK1 K1) | (intros; first | omega | decide) | skip)))
 refine awp_cond (t := _) rfl (fun h9 => by cases h9) (fun _ => ?_)
 (repeat (first | refine gO rfl ?_ | (refine gR fun K1 hK1 => ?_; simp only [go_sem, ↓reduceIte, reduceCtorEq, nA, nB, nC, nD, nE, nF] <;> and_intros <;> first | (apply hK1; clear hK1 K1) | (intros; first | omega | decide) | skip)))
 refine (hO1 _).mono ?_; rintro _ hz ⟨rfl, hh⟩; apply hK1; clear hK1 K1; rw [hh]; clear hh hz
 cases b1
 case true =>
  (repeat (first | refine gO rfl ?_ | (refine gR fun K1 hK1 => ?_; simp only [go_sem, ↓reduceIte, reduceCtorEq, nA, nB, nC, nD, nE, nF] <;> and_intros <;> first | (apply hK1; clear hK1 K1) | (intros; first | omega | decide) | skip)))
  refine awp_cond (t := _) rfl (fun _ => ?_) (fun h9 => by cases h9)
  (repeat (first | refine gO rfl ?_ | (refine gR fun K1 hK1 => ?_; simp only [go_sem, ↓reduceIte, reduceCtorEq, nA, nB, nC, nD, nE, nF] <;> and_intros <;> first | (apply hK1; clear hK1 K1) | (intros; first | omega | decide) | skip)))
  simp only [Tryz.results58, go_sem, ↓reduceIte, reduceCtorEq, nA, nB, nC, nD, nE, nF]
  exact ⟨_, _, Weak.refl _, Hp.le.refl _, by rw [← hE]; simp, rfl⟩
 (repeat (first | refine gO rfl ?_ | (refine gR fun K1 hK1 => ?_; simp only [go_sem, ↓reduceIte, reduceCtorEq, nA, nB, nC, nD, nE, nF] <;> and_intros <;> first | (apply hK1; clear hK1 K1) | (intros; first | omega | decide) | skip)))
 rotate_left
 ·exact fun h9 => h9.elim
 refine (hO2 _).mono ?_
 rintro _ hz9 ⟨rfl, hh9⟩
 refine ⟨rfl, ?_⟩
 apply hK1
 rw [hh9]
 clear hK1 K1 hh9 hz9
 cases b2
 case true =>
  (repeat (first | refine gO rfl ?_ | (refine gR fun K1 hK1 => ?_; simp only [go_sem, ↓reduceIte, reduceCtorEq, nA, nB, nC, nD, nE, nF] <;> and_intros <;> first | (apply hK1; clear hK1 K1) | (intros; first | omega | decide) | skip)))
  refine awp_cond (t := _) rfl (fun _ => ?_) (fun h9 => by cases h9)
  (repeat (first | refine gO rfl ?_ | (refine gR fun K1 hK1 => ?_; simp only [go_sem, ↓reduceIte, reduceCtorEq, nA, nB, nC, nD, nE, nF] <;> and_intros <;> first | (apply hK1; clear hK1 K1) | (intros; first | omega | decide) | skip)))
  simp only [Tryz.results58, go_sem, ↓reduceIte, reduceCtorEq, nA, nB, nC, nD, nE, nF]
  exact ⟨_, _, Weak.refl _, Hp.le.refl _, by rw [← hE]; simp, rfl⟩
 (repeat (first | refine gO rfl ?_ | (refine gR fun K1 hK1 => ?_; simp only [go_sem, ↓reduceIte, reduceCtorEq, nA, nB, nC, nD, nE, nF] <;> and_intros <;> first | (apply hK1; clear hK1 K1) | (intros; first | omega | decide) | skip)))
 rotate_left
 ·exact fun h9 => h9.elim
 refine (hO3 _).mono ?_
 rintro _ hz9 ⟨rfl, hh9⟩
 refine ⟨rfl, ?_⟩
 apply hK1
 rw [hh9]
 clear hK1 K1 hh9 hz9
 cases b3
 case true =>
  (repeat (first | refine gO rfl ?_ | (refine gR fun K1 hK1 => ?_; simp only [go_sem, ↓reduceIte, reduceCtorEq, nA, nB, nC, nD, nE, nF] <;> and_intros <;> first | (apply hK1; clear hK1 K1) | (intros; first | omega | decide) | skip)))
  refine awp_cond (t := _) rfl (fun _ => ?_) (fun h9 => by cases h9)
  (repeat (first | refine gO rfl ?_ | (refine gR fun K1 hK1 => ?_; simp only [go_sem, ↓reduceIte, reduceCtorEq, nA, nB, nC, nD, nE, nF] <;> and_intros <;> first | (apply hK1; clear hK1 K1) | (intros; first | omega | decide) | skip)))
  simp only [Tryz.results58, go_sem, ↓reduceIte, reduceCtorEq, nA, nB, nC, nD, nE, nF]
  exact ⟨_, _, Weak.refl _, Hp.le.refl _, by rw [← hE]; simp, rfl⟩
 (repeat (first | refine gO rfl ?_ | (refine gR fun K1 hK1 => ?_; simp only [go_sem, ↓reduceIte, reduceCtorEq, nA, nB, nC, nD, nE, nF] <;> and_intros <;> first | (apply hK1; clear hK1 K1) | (intros; first | omega | decide) | skip)))
 rotate_left
 ·exact fun h9 => h9.elim
 refine (hO4 _).mono ?_
 rintro _ hz9 ⟨rfl, hh9⟩
 refine ⟨rfl, ?_⟩
 apply hK1
 rw [hh9]
 clear hK1 K1 hh9 hz9
 cases b4
 case true =>
  (repeat (first | refine gO rfl ?_ | (refine gR fun K1 hK1 => ?_; simp only [go_sem, ↓reduceIte, reduceCtorEq, nA, nB, nC, nD, nE, nF] <;> and_intros <;> first | (apply hK1; clear hK1 K1) | (intros; first | omega | decide) | skip)))
  refine awp_cond (t := _) rfl (fun _ => ?_) (fun h9 => by cases h9)
  (repeat (first | refine gO rfl ?_ | (refine gR fun K1 hK1 => ?_; simp only [go_sem, ↓reduceIte, reduceCtorEq, nA, nB, nC, nD, nE, nF] <;> and_intros <;> first | (apply hK1; clear hK1 K1) | (intros; first | omega | decide) | skip)))
  simp only [Tryz.results58, go_sem, ↓reduceIte, reduceCtorEq, nA, nB, nC, nD, nE, nF]
  exact ⟨_, _, Weak.refl _, Hp.le.refl _, by rw [← hE]; simp, rfl⟩
 (repeat (first | refine gO rfl ?_ | (refine gR fun K1 hK1 => ?_; simp only [go_sem, ↓reduceIte, reduceCtorEq, nA, nB, nC, nD, nE, nF] <;> and_intros <;> first | (apply hK1; clear hK1 K1) | (intros; first | omega | decide) | skip)))
 refine awp_cond (t := _) rfl (fun h9 => by cases h9) (fun _ => ?_)
 (repeat (first | refine gO rfl ?_ | (refine gR fun K1 hK1 => ?_; simp only [go_sem, ↓reduceIte, reduceCtorEq, nA, nB, nC, nD, nE, nF] <;> and_intros <;> first | (apply hK1; clear hK1 K1) | (intros; first | omega | decide) | skip)))
 simp only [Tryz.results58, go_sem, ↓reduceIte, reduceCtorEq, nA, nB, nC, nD, nE, nF]
 exact ⟨_, _, Weak.refl _, Hp.le.refl _, by rw [← hE]; simp, rfl⟩
theorem g_ableFaultR (p : Ab) (hp : AbOk p) (h : Hp) : ACalls Tryz.prog 14 [.agg (encAb p)] h (fun r h' => r = .v (.int .i64 (ableF p)) ∧ h' = h) := by
 obtain ⟨cs, wide, high, rate, bytes⟩ := p
 have hl : cs.length ≤ 4 := hp.len
 have hcs : ∀ s ∈ cs, s.size ≤ 1000 := fun s hs => by have := hp.codecs s hs; omega
 have hml : (cs.map encS).length = cs.length := List.length_map _
 have hR := fun h => g_keysF cs none 20 (by omega) hcs h
 have hO1 := fun h => g_in wide 0 100000 h
 have hO2 := fun h => g_in high 0 100000 h
 have hO3 := fun h => g_in rate 0 1000000 h
 have hO4 := fun h => g_in bytes 0 1000000000000 h
 obtain ⟨E, hE⟩ : ∃ E, ableF ⟨cs, wide, high, rate, bytes⟩ = E := ⟨_, rfl⟩
 rw [hE]
 unfold ableF at hE
 simp only at hE
 obtain ⟨b1, e1⟩ : ∃ b, (decide (0 ≤ wide) && decide (wide ≤ 100000)) = b := ⟨_, rfl⟩
 rw [show zinB wide 100000 = b1 from e1] at hE
 rw [e1] at hO1
 obtain ⟨b2, e2⟩ : ∃ b, (decide (0 ≤ high) && decide (high ≤ 100000)) = b := ⟨_, rfl⟩
 rw [show zinB high 100000 = b2 from e2] at hE
 rw [e2] at hO2
 obtain ⟨b3, e3⟩ : ∃ b, (decide (0 ≤ rate) && decide (rate ≤ 1000000)) = b := ⟨_, rfl⟩
 rw [show zinB rate 1000000 = b3 from e3] at hE
 rw [e3] at hO3
 obtain ⟨b4, e4⟩ : ∃ b, (decide (0 ≤ bytes) && decide (bytes ≤ 1000000000000)) = b := ⟨_, rfl⟩
 rw [show zinB bytes 1000000000000 = b4 from e4] at hE
 rw [e4] at hO4
 clear e1 e2 e3 e4
 simp only [encAb]
 refine gE Tryz.func14 rfl (by kernel_rfl) 31 rfl fun c => ?_
 (repeat (first | refine gO rfl ?_ | (refine gR fun K1 hK1 => ?_; simp only [go_sem, ↓reduceIte, reduceCtorEq, nA, nB, nC, nD, nE, nF, hml] <;> and_intros <;> first | (apply hK1; clear hK1 K1) | (intros; first | omega | decide) | skip)))
 refine (hR _).mono ?_; rintro _ hz ⟨rfl, hh⟩; apply hK1; clear hK1 K1; rw [hh]; clear hh hz
 generalize riseF cs none = rf at *
 by_cases hz : rf = 0
 case neg =>
  have hne : (rf != 0) = true := by simpa using hz
  rw [if_neg hz] at hE
  (repeat (first | refine gO rfl ?_ | (refine gR fun K1 hK1 => ?_; simp only [go_sem, ↓reduceIte, reduceCtorEq, nA, nB, nC, nD, nE, nF] <;> and_intros <;> first | (apply hK1; clear hK1 K1) | (intros; first | omega | decide) | skip)))
  refine awp_cond (t := _) rfl (fun _ => ?_) (fun h9 => by rw [hne] at h9; cases h9)
  (repeat (first | refine gO rfl ?_ | (refine gR fun K1 hK1 => ?_; simp only [go_sem, ↓reduceIte, reduceCtorEq, nA, nB, nC, nD, nE, nF] <;> and_intros <;> first | (apply hK1; clear hK1 K1) | (intros; first | omega | decide) | skip)))
  simp only [Tryz.results14, go_sem, ↓reduceIte, reduceCtorEq, nA, nB, nC, nD, nE, nF]
  exact ⟨_, _, Weak.refl _, Hp.le.refl _, by rw [← hE], rfl⟩
 subst hz
 rw [if_pos rfl] at hE
 (repeat (first | refine gO rfl ?_ | (refine gR fun K1 hK1 => ?_; simp only [go_sem, ↓reduceIte, reduceCtorEq, nA, nB, nC, nD, nE, nF] <;> and_intros <;> first | (apply hK1; clear hK1 K1) | (intros; first | omega | decide) | skip)))
 refine awp_cond (t := _) rfl (fun h9 => by cases h9) (fun _ => ?_)
 (repeat (first | refine gO rfl ?_ | (refine gR fun K1 hK1 => ?_; simp only [go_sem, ↓reduceIte, reduceCtorEq, nA, nB, nC, nD, nE, nF] <;> and_intros <;> first | (apply hK1; clear hK1 K1) | (intros; first | omega | decide) | skip)))
 refine (hO1 _).mono ?_; rintro _ hz ⟨rfl, hh⟩; apply hK1; clear hK1 K1; rw [hh]; clear hh hz
 cases b1
 case false =>
  (repeat (first | refine gO rfl ?_ | (refine gR fun K1 hK1 => ?_; simp only [go_sem, ↓reduceIte, reduceCtorEq, nA, nB, nC, nD, nE, nF, Bool.not_false] <;> and_intros <;> first | (apply hK1; clear hK1 K1) | (intros; first | omega | decide) | skip)))
  refine awp_cond (t := _) rfl (fun _ => ?_) (fun h9 => by cases h9)
  (repeat (first | refine gO rfl ?_ | (refine gR fun K1 hK1 => ?_; simp only [go_sem, ↓reduceIte, reduceCtorEq, nA, nB, nC, nD, nE, nF] <;> and_intros <;> first | (apply hK1; clear hK1 K1) | (intros; first | omega | decide) | skip)))
  simp only [Tryz.results14, go_sem, ↓reduceIte, reduceCtorEq, nA, nB, nC, nD, nE, nF]
  exact ⟨_, _, Weak.refl _, Hp.le.refl _, by rw [← hE]; simp, rfl⟩
 (repeat (first | refine gO rfl ?_ | (refine gR fun K1 hK1 => ?_; simp only [go_sem, ↓reduceIte, reduceCtorEq, nA, nB, nC, nD, nE, nF, Bool.not_true] <;> and_intros <;> first | (apply hK1; clear hK1 K1) | (intros; first | omega | decide) | skip)))
 rotate_left
 ·exact fun h9 => h9.elim
 refine (hO2 _).mono ?_
 rintro _ hz9 ⟨rfl, hh9⟩
 refine ⟨rfl, ?_⟩
 apply hK1
 rw [hh9]
 clear hK1 K1 hh9 hz9
 cases b2
 case false =>
  (repeat (first | refine gO rfl ?_ | (refine gR fun K1 hK1 => ?_; simp only [go_sem, ↓reduceIte, reduceCtorEq, nA, nB, nC, nD, nE, nF, Bool.not_false] <;> and_intros <;> first | (apply hK1; clear hK1 K1) | (intros; first | omega | decide) | skip)))
  refine awp_cond (t := _) rfl (fun _ => ?_) (fun h9 => by cases h9)
  (repeat (first | refine gO rfl ?_ | (refine gR fun K1 hK1 => ?_; simp only [go_sem, ↓reduceIte, reduceCtorEq, nA, nB, nC, nD, nE, nF] <;> and_intros <;> first | (apply hK1; clear hK1 K1) | (intros; first | omega | decide) | skip)))
  simp only [Tryz.results14, go_sem, ↓reduceIte, reduceCtorEq, nA, nB, nC, nD, nE, nF]
  exact ⟨_, _, Weak.refl _, Hp.le.refl _, by rw [← hE]; simp, rfl⟩
 (repeat (first | refine gO rfl ?_ | (refine gR fun K1 hK1 => ?_; simp only [go_sem, ↓reduceIte, reduceCtorEq, nA, nB, nC, nD, nE, nF, Bool.not_true] <;> and_intros <;> first | (apply hK1; clear hK1 K1) | (intros; first | omega | decide) | skip)))
 rotate_left
 ·exact fun h9 => h9.elim
 refine (hO3 _).mono ?_
 rintro _ hz9 ⟨rfl, hh9⟩
 refine ⟨rfl, ?_⟩
 apply hK1
 rw [hh9]
 clear hK1 K1 hh9 hz9
 cases b3
 case false =>
  (repeat (first | refine gO rfl ?_ | (refine gR fun K1 hK1 => ?_; simp only [go_sem, ↓reduceIte, reduceCtorEq, nA, nB, nC, nD, nE, nF, Bool.not_false] <;> and_intros <;> first | (apply hK1; clear hK1 K1) | (intros; first | omega | decide) | skip)))
  refine awp_cond (t := _) rfl (fun _ => ?_) (fun h9 => by cases h9)
  (repeat (first | refine gO rfl ?_ | (refine gR fun K1 hK1 => ?_; simp only [go_sem, ↓reduceIte, reduceCtorEq, nA, nB, nC, nD, nE, nF] <;> and_intros <;> first | (apply hK1; clear hK1 K1) | (intros; first | omega | decide) | skip)))
  simp only [Tryz.results14, go_sem, ↓reduceIte, reduceCtorEq, nA, nB, nC, nD, nE, nF]
  exact ⟨_, _, Weak.refl _, Hp.le.refl _, by rw [← hE]; simp, rfl⟩
 (repeat (first | refine gO rfl ?_ | (refine gR fun K1 hK1 => ?_; simp only [go_sem, ↓reduceIte, reduceCtorEq, nA, nB, nC, nD, nE, nF, Bool.not_true] <;> and_intros <;> first | (apply hK1; clear hK1 K1) | (intros; first | omega | decide) | skip)))
 rotate_left
 ·exact fun h9 => h9.elim
 refine (hO4 _).mono ?_
 rintro _ hz9 ⟨rfl, hh9⟩
 refine ⟨rfl, ?_⟩
 apply hK1
 rw [hh9]
 clear hK1 K1 hh9 hz9
 cases b4
 case false =>
  (repeat (first | refine gO rfl ?_ | (refine gR fun K1 hK1 => ?_; simp only [go_sem, ↓reduceIte, reduceCtorEq, nA, nB, nC, nD, nE, nF, Bool.not_false] <;> and_intros <;> first | (apply hK1; clear hK1 K1) | (intros; first | omega | decide) | skip)))
  refine awp_cond (t := _) rfl (fun _ => ?_) (fun h9 => by cases h9)
  (repeat (first | refine gO rfl ?_ | (refine gR fun K1 hK1 => ?_; simp only [go_sem, ↓reduceIte, reduceCtorEq, nA, nB, nC, nD, nE, nF] <;> and_intros <;> first | (apply hK1; clear hK1 K1) | (intros; first | omega | decide) | skip)))
  simp only [Tryz.results14, go_sem, ↓reduceIte, reduceCtorEq, nA, nB, nC, nD, nE, nF]
  exact ⟨_, _, Weak.refl _, Hp.le.refl _, by rw [← hE]; simp, rfl⟩
 (repeat (first | refine gO rfl ?_ | (refine gR fun K1 hK1 => ?_; simp only [go_sem, ↓reduceIte, reduceCtorEq, nA, nB, nC, nD, nE, nF, Bool.not_true] <;> and_intros <;> first | (apply hK1; clear hK1 K1) | (intros; first | omega | decide) | skip)))
 refine awp_cond (t := _) rfl (fun h9 => by cases h9) (fun _ => ?_)
 (repeat (first | refine gO rfl ?_ | (refine gR fun K1 hK1 => ?_; simp only [go_sem, ↓reduceIte, reduceCtorEq, nA, nB, nC, nD, nE, nF] <;> and_intros <;> first | (apply hK1; clear hK1 K1) | (intros; first | omega | decide) | skip)))
 simp only [Tryz.results14, go_sem, ↓reduceIte, reduceCtorEq, nA, nB, nC, nD, nE, nF]
 exact ⟨_, _, Weak.refl _, Hp.le.refl _, by rw [← hE]; simp, rfl⟩
theorem g_shows (p : Ab) (hp : AbOk p) (f : Fm) (h : Hp) : ACalls Tryz.prog 60 [.agg (encAb p), .agg (encFm f)] h (fun r h' => r = .v (.bool (showB p f)) ∧ h' = h) := by
 obtain ⟨cs, wide, high, rate, bytes⟩ := p
 obtain ⟨f1, f2, f3, f4, f5, f6, f7⟩ := f
 have hl : cs.length ≤ 4 := hp.len
 have hC := fun h => g_hasS cs f2 none h (by omega)
 obtain ⟨E, hE⟩ : ∃ E, showB ⟨cs, wide, high, rate, bytes⟩ ⟨f1, f2, f3, f4, f5, f6, f7⟩ = E := ⟨_, rfl⟩
 rw [hE]
 unfold showB at hE
 simp only at hE
 obtain ⟨b0, e0⟩ : ∃ b, (cs.any fun y => f2 == y) = b := ⟨_, rfl⟩
 obtain ⟨b1, e1⟩ : ∃ b, decide (f3 ≤ wide) = b := ⟨_, rfl⟩
 obtain ⟨b2, e2⟩ : ∃ b, decide (f4 ≤ high) = b := ⟨_, rfl⟩
 obtain ⟨b3, e3⟩ : ∃ b, decide (f6 ≤ rate) = b := ⟨_, rfl⟩
 obtain ⟨b4, e4⟩ : ∃ b, decide (f7 ≤ bytes) = b := ⟨_, rfl⟩
 rw [e0] at hC
 rw [e0, e1, e2, e3, e4] at hE
 simp only [encAb, encFm]
 refine gE Tryz.func60 rfl (by kernel_rfl) 36 rfl fun c => ?_
 (repeat (first | refine gO rfl ?_ | (refine gR fun K1 hK1 => ?_; simp only [go_sem, ↓reduceIte, reduceCtorEq, nA, nB, nC, nD, nE, nF] <;> and_intros <;> first | (apply hK1; clear hK1 K1) | (intros; first | omega | decide) | skip)))
 refine (hC _).mono ?_; rintro _ hz ⟨rfl, hh⟩; apply hK1; clear hK1 K1; rw [hh]; clear hh hz
 cases b0
 case false =>
  (repeat (first | refine gO rfl ?_ | (refine gR fun K1 hK1 => ?_; simp only [go_sem, ↓reduceIte, reduceCtorEq, nA, nB, nC, nD, nE, nF] <;> and_intros <;> first | (apply hK1; clear hK1 K1) | (intros; first | omega | decide) | skip)))
  simp only [Tryz.results60, go_sem, ↓reduceIte, reduceCtorEq, nA, nB, nC, nD, nE, nF]
  exact ⟨_, _, Weak.refl _, Hp.le.refl _, by rw [← hE]; rfl, rfl⟩
 cases b1
 case false =>
  (repeat (first | refine gO rfl ?_ | (refine gR fun K1 hK1 => ?_; simp only [go_sem, ↓reduceIte, reduceCtorEq, nA, nB, nC, nD, nE, nF, e1] <;> and_intros <;> first | (apply hK1; clear hK1 K1) | (intros; first | omega | decide) | skip)))
  simp only [Tryz.results60, go_sem, ↓reduceIte, reduceCtorEq, nA, nB, nC, nD, nE, nF]
  exact ⟨_, _, Weak.refl _, Hp.le.refl _, by rw [← hE]; rfl, rfl⟩
 cases b2
 case false =>
  (repeat (first | refine gO rfl ?_ | (refine gR fun K1 hK1 => ?_; simp only [go_sem, ↓reduceIte, reduceCtorEq, nA, nB, nC, nD, nE, nF, e1, e2] <;> and_intros <;> first | (apply hK1; clear hK1 K1) | (intros; first | omega | decide) | skip)))
  simp only [Tryz.results60, go_sem, ↓reduceIte, reduceCtorEq, nA, nB, nC, nD, nE, nF]
  exact ⟨_, _, Weak.refl _, Hp.le.refl _, by rw [← hE]; rfl, rfl⟩
 cases b3
 case false =>
  (repeat (first | refine gO rfl ?_ | (refine gR fun K1 hK1 => ?_; simp only [go_sem, ↓reduceIte, reduceCtorEq, nA, nB, nC, nD, nE, nF, e1, e2, e3] <;> and_intros <;> first | (apply hK1; clear hK1 K1) | (intros; first | omega | decide) | skip)))
  simp only [Tryz.results60, go_sem, ↓reduceIte, reduceCtorEq, nA, nB, nC, nD, nE, nF]
  exact ⟨_, _, Weak.refl _, Hp.le.refl _, by rw [← hE]; rfl, rfl⟩
 (repeat (first | refine gO rfl ?_ | (refine gR fun K1 hK1 => ?_; simp only [go_sem, ↓reduceIte, reduceCtorEq, nA, nB, nC, nD, nE, nF, e1, e2, e3, e4] <;> and_intros <;> first | (apply hK1; clear hK1 K1) | (intros; first | omega | decide) | skip)))
 simp only [Tryz.results60, go_sem, ↓reduceIte, reduceCtorEq, nA, nB, nC, nD, nE, nF]
 exact ⟨_, _, Weak.refl _, Hp.le.refl _, by rw [← hE]; simp, rfl⟩
theorem g_showsForm (p : Ab) (hp : AbOk p) (f : Fm) (h : Hp) : ACalls Tryz.prog 18 [.agg (encAb p), .agg (encFm f)] h (fun r h' => r = .v (.bool (showB p f)) ∧ h' = h) := by
 obtain ⟨cs, wide, high, rate, bytes⟩ := p
 obtain ⟨f1, f2, f3, f4, f5, f6, f7⟩ := f
 have hl : cs.length ≤ 4 := hp.len
 have hC := fun h => g_hasS cs f2 none h (by omega)
 obtain ⟨E, hE⟩ : ∃ E, showB ⟨cs, wide, high, rate, bytes⟩ ⟨f1, f2, f3, f4, f5, f6, f7⟩ = E := ⟨_, rfl⟩
 rw [hE]
 unfold showB at hE
 simp only at hE
 obtain ⟨b0, e0⟩ : ∃ b, (cs.any fun y => f2 == y) = b := ⟨_, rfl⟩
 obtain ⟨b1, e1⟩ : ∃ b, decide (f3 ≤ wide) = b := ⟨_, rfl⟩
 obtain ⟨b2, e2⟩ : ∃ b, decide (f4 ≤ high) = b := ⟨_, rfl⟩
 obtain ⟨b3, e3⟩ : ∃ b, decide (f6 ≤ rate) = b := ⟨_, rfl⟩
 obtain ⟨b4, e4⟩ : ∃ b, decide (f7 ≤ bytes) = b := ⟨_, rfl⟩
 rw [e0] at hC
 rw [e0, e1, e2, e3, e4] at hE
 simp only [encAb, encFm]
 refine gE Tryz.func18 rfl (by kernel_rfl) 36 rfl fun c => ?_
 (repeat (first | refine gO rfl ?_ | (refine gR fun K1 hK1 => ?_; simp only [go_sem, ↓reduceIte, reduceCtorEq, nA, nB, nC, nD, nE, nF] <;> and_intros <;> first | (apply hK1; clear hK1 K1) | (intros; first | omega | decide) | skip)))
 refine (hC _).mono ?_; rintro _ hz ⟨rfl, hh⟩; apply hK1; clear hK1 K1; rw [hh]; clear hh hz
 cases b0
 case false =>
  (repeat (first | refine gO rfl ?_ | (refine gR fun K1 hK1 => ?_; simp only [go_sem, ↓reduceIte, reduceCtorEq, nA, nB, nC, nD, nE, nF] <;> and_intros <;> first | (apply hK1; clear hK1 K1) | (intros; first | omega | decide) | skip)))
  simp only [Tryz.results18, go_sem, ↓reduceIte, reduceCtorEq, nA, nB, nC, nD, nE, nF]
  exact ⟨_, _, Weak.refl _, Hp.le.refl _, by rw [← hE]; rfl, rfl⟩
 cases b1
 case false =>
  (repeat (first | refine gO rfl ?_ | (refine gR fun K1 hK1 => ?_; simp only [go_sem, ↓reduceIte, reduceCtorEq, nA, nB, nC, nD, nE, nF, e1] <;> and_intros <;> first | (apply hK1; clear hK1 K1) | (intros; first | omega | decide) | skip)))
  simp only [Tryz.results18, go_sem, ↓reduceIte, reduceCtorEq, nA, nB, nC, nD, nE, nF]
  exact ⟨_, _, Weak.refl _, Hp.le.refl _, by rw [← hE]; rfl, rfl⟩
 cases b2
 case false =>
  (repeat (first | refine gO rfl ?_ | (refine gR fun K1 hK1 => ?_; simp only [go_sem, ↓reduceIte, reduceCtorEq, nA, nB, nC, nD, nE, nF, e1, e2] <;> and_intros <;> first | (apply hK1; clear hK1 K1) | (intros; first | omega | decide) | skip)))
  simp only [Tryz.results18, go_sem, ↓reduceIte, reduceCtorEq, nA, nB, nC, nD, nE, nF]
  exact ⟨_, _, Weak.refl _, Hp.le.refl _, by rw [← hE]; rfl, rfl⟩
 cases b3
 case false =>
  (repeat (first | refine gO rfl ?_ | (refine gR fun K1 hK1 => ?_; simp only [go_sem, ↓reduceIte, reduceCtorEq, nA, nB, nC, nD, nE, nF, e1, e2, e3] <;> and_intros <;> first | (apply hK1; clear hK1 K1) | (intros; first | omega | decide) | skip)))
  simp only [Tryz.results18, go_sem, ↓reduceIte, reduceCtorEq, nA, nB, nC, nD, nE, nF]
  exact ⟨_, _, Weak.refl _, Hp.le.refl _, by rw [← hE]; rfl, rfl⟩
 (repeat (first | refine gO rfl ?_ | (refine gR fun K1 hK1 => ?_; simp only [go_sem, ↓reduceIte, reduceCtorEq, nA, nB, nC, nD, nE, nF, e1, e2, e3, e4] <;> and_intros <;> first | (apply hK1; clear hK1 K1) | (intros; first | omega | decide) | skip)))
 simp only [Tryz.results18, go_sem, ↓reduceIte, reduceCtorEq, nA, nB, nC, nD, nE, nF]
 exact ⟨_, _, Weak.refl _, Hp.le.refl _, by rw [← hE]; simp, rfl⟩
theorem g_Shows (p : Ab) (hp : AbOk p) (f : Fm) (hf : FmOk f) (h : Hp) : ACalls Tryz.prog 15 [.agg (encAb p), .agg (encFm f)] h
  (fun r h' => r = .tup [.v (.bool (decide (ableF p = 0) && decide (formF f = 0) && showB p f)), .v (.int .i64 (if ableF p = 0 then formF f else ableF p))] ∧ h' = h) := by
 have hA := fun h => g_ableFault p hp h
 have hF := fun h => g_formFault f hf h
 have hS := fun h => g_shows p hp f h
 obtain ⟨aF, haF⟩ : ∃ x, ableF p = x := ⟨_, rfl⟩
 obtain ⟨fF, hfF⟩ : ∃ x, formF f = x := ⟨_, rfl⟩
 obtain ⟨sB, hsB⟩ : ∃ x, showB p f = x := ⟨_, rfl⟩
 rw [haF] at hA ⊢
 rw [hfF] at hF ⊢
 rw [hsB] at hS ⊢
 clear haF hfF hsB
 obtain ⟨cs, wide, high, rate, bytes⟩ := p
 obtain ⟨f1, f2, f3, f4, f5, f6, f7⟩ := f
 simp only [encAb, encFm] at hA hF hS ⊢
 refine gE Tryz.func15 rfl (by kernel_rfl) 19 rfl fun c => ?_
 (repeat (first | refine gO rfl ?_ | (refine gR fun K1 hK1 => ?_; simp only [go_sem, ↓reduceIte, reduceCtorEq, nA, nB, nC, nD, nE, nF] <;> and_intros <;> first | (apply hK1; clear hK1 K1) | (intros; first | omega | decide) | skip)))
 refine (hA _).mono ?_; rintro _ hz ⟨rfl, hh⟩; apply hK1; clear hK1 K1; rw [hh]; clear hh hz
 generalize aF = a at *
 by_cases ha : a = 0
 case neg =>
  have hne : (a != 0) = true := by simpa using ha
  (repeat (first | refine gO rfl ?_ | (refine gR fun K1 hK1 => ?_; simp only [go_sem, ↓reduceIte, reduceCtorEq, nA, nB, nC, nD, nE, nF] <;> and_intros <;> first | (apply hK1; clear hK1 K1) | (intros; first | omega | decide) | skip)))
  refine awp_cond (t := _) rfl (fun _ => ?_) (fun h9 => by rw [hne] at h9; cases h9)
  (repeat (first | refine gO rfl ?_ | (refine gR fun K1 hK1 => ?_; simp only [go_sem, ↓reduceIte, reduceCtorEq, nA, nB, nC, nD, nE, nF] <;> and_intros <;> first | (apply hK1; clear hK1 K1) | (intros; first | omega | decide) | skip)))
  simp only [Tryz.results15, go_sem, ↓reduceIte, reduceCtorEq, nA, nB, nC, nD, nE, nF]
  exact ⟨_, _, Weak.refl _, Hp.le.refl _, by rw [decide_eq_false ha, if_neg ha]; rfl, rfl⟩
 subst ha
 (repeat (first | refine gO rfl ?_ | (refine gR fun K1 hK1 => ?_; simp only [go_sem, ↓reduceIte, reduceCtorEq, nA, nB, nC, nD, nE, nF] <;> and_intros <;> first | (apply hK1; clear hK1 K1) | (intros; first | omega | decide) | skip)))
 refine awp_cond (t := _) rfl (fun h9 => by cases h9) (fun _ => ?_)
 (repeat (first | refine gO rfl ?_ | (refine gR fun K1 hK1 => ?_; simp only [go_sem, ↓reduceIte, reduceCtorEq, nA, nB, nC, nD, nE, nF] <;> and_intros <;> first | (apply hK1; clear hK1 K1) | (intros; first | omega | decide) | skip)))
 refine (hF _).mono ?_; rintro _ hz ⟨rfl, hh⟩; apply hK1; clear hK1 K1; rw [hh]; clear hh hz
 generalize fF = a at *
 by_cases ha : a = 0
 case neg =>
  have hne : (a != 0) = true := by simpa using ha
  (repeat (first | refine gO rfl ?_ | (refine gR fun K1 hK1 => ?_; simp only [go_sem, ↓reduceIte, reduceCtorEq, nA, nB, nC, nD, nE, nF] <;> and_intros <;> first | (apply hK1; clear hK1 K1) | (intros; first | omega | decide) | skip)))
  refine awp_cond (t := _) rfl (fun _ => ?_) (fun h9 => by rw [hne] at h9; cases h9)
  (repeat (first | refine gO rfl ?_ | (refine gR fun K1 hK1 => ?_; simp only [go_sem, ↓reduceIte, reduceCtorEq, nA, nB, nC, nD, nE, nF] <;> and_intros <;> first | (apply hK1; clear hK1 K1) | (intros; first | omega | decide) | skip)))
  simp only [Tryz.results15, go_sem, ↓reduceIte, reduceCtorEq, nA, nB, nC, nD, nE, nF]
  exact ⟨_, _, Weak.refl _, Hp.le.refl _, by simp [ha], rfl⟩
 subst ha
 (repeat (first | refine gO rfl ?_ | (refine gR fun K1 hK1 => ?_; simp only [go_sem, ↓reduceIte, reduceCtorEq, nA, nB, nC, nD, nE, nF] <;> and_intros <;> first | (apply hK1; clear hK1 K1) | (intros; first | omega | decide) | skip)))
 refine awp_cond (t := _) rfl (fun h9 => by cases h9) (fun _ => ?_)
 (repeat (first | refine gO rfl ?_ | (refine gR fun K1 hK1 => ?_; simp only [go_sem, ↓reduceIte, reduceCtorEq, nA, nB, nC, nD, nE, nF] <;> and_intros <;> first | (apply hK1; clear hK1 K1) | (intros; first | omega | decide) | skip)))
 refine (hS _).mono ?_; rintro _ hz ⟨rfl, hh⟩; apply hK1; clear hK1 K1; rw [hh]; clear hh hz
 (repeat (first | refine gO rfl ?_ | (refine gR fun K1 hK1 => ?_; simp only [go_sem, ↓reduceIte, reduceCtorEq, nA, nB, nC, nD, nE, nF] <;> and_intros <;> first | (apply hK1; clear hK1 K1) | (intros; first | omega | decide) | skip)))
 simp only [Tryz.results15, go_sem, ↓reduceIte, reduceCtorEq, nA, nB, nC, nD, nE, nF]
 exact ⟨_, _, Weak.refl _, Hp.le.refl _, by simp, rfl⟩
abbrev zP8E : List Nat := [0, 1, 2, 3, 4, 5, 6]
abbrev zP8P : List (Nat × List Nat × List Nat) := []
attribute [go_sem] zP8E zP8P
def CacheH (h : Hp) (K : Nat → Kp) (ps : List Nat) : Prop := ∀ p ∈ ps, h.H p = some (.cells (encKp (K p)))
def encCa (room rule now : Int) (k n : Nat) : List AV := [.v (.int .i64 room), .v (.int .i64 rule), .v (.int .i64 now), .arr 1 k n]
def nilP : AV := .v (Value.pointer none)
def findF (item : ByteArray) (K : Nat → Kp) (ps : List Nat) : AV := match ps.find? (fun p => (K p).1 == item) with
 | some p => .ptr p 0
 | none => nilP
theorem g_find1 {item : ByteArray} {x : Kp} {p : Nat} {h : Hp} (hp : h.H p = some (.cells (encKp x))) :
  ACalls Tryz.prog 185 ([.ptr p 0] ++ [.ref [.v (.string item)] 0]) h (fun r h' => r = .v (.bool (x.1 == item)) ∧ h' = h) := by
 obtain ⟨k, b, pi, ca, la, ma⟩ := x
 refine gE Tryz.func185 rfl (by kernel_rfl) 8 rfl fun c => ?_
 (repeat (first | refine gO rfl ?_ | ((first | refine gR ?_ | (with_reducible refine wM ?_ ?_) | ((with_reducible refine xS ?_); refine uD 1 zM22 zP8E zP8P 10 rfl (by kernel_rfl) ?_)) <;> ((try with_reducible intro K1 hK1); simp only [go_sem, ↓reduceIte, reduceCtorEq, nA, nB, nC, nD, nE, nF, hp, encKp] <;> and_intros <;> first | (apply hK1; clear hK1 K1) | (intros; first | omega | decide | (simp_all <;> omega)) | skip))))
 simp only [Tryz.results185, go_sem, ↓reduceIte, reduceCtorEq, nA, nB, nC, nD, nE, nF]
 exact ⟨_, _, Weak.refl _, Hp.le.refl _, rfl, rfl⟩
theorem g_find {item : ByteArray} (K : Nat → Kp) (ci k : Nat) (room rule now : Int) (ps : List Nat) (h : Hp) (hC : h.H ci = some (.cells (encCa room rule now k ps.length))) (hT : h.T k = some (.cont 1 (ps.map encR))) (hl : ps.length ≤ 100000) (hK : CacheH h K ps) :
  ACalls Tryz.prog 134 [.ptr ci 0, .v (.string item)] h (fun r h' => r = findF item K ps ∧ h' = h) := by
 have hix := g_idxK (fun p => (K p).1 == item) k ps h hT hl (fun p hp => g_find1 (item := item) (hK p hp))
 have hml : (ps.map encR).length = ps.length := List.length_map _
 refine gE Tryz.func134 rfl (by kernel_rfl) 19 rfl fun c => ?_
 (repeat (first | refine gO rfl ?_ | (refine gR fun K1 hK1 => ?_; simp only [go_sem, ↓reduceIte, reduceCtorEq, nA, nB, nC, nD, nE, nF, hC, encCa] <;> and_intros <;> first | (apply hK1; clear hK1 K1) | (intros; first | omega | decide | (simp_all <;> omega)) | skip)))
 refine hix.mono ?_; rintro _ hz ⟨rfl, hh⟩; apply hK1; clear hK1 K1; rw [hh]; clear hh hz
 clear hix
 rcases idxR_cases (fun p => (K p).1 == item) ps with ⟨hno, e⟩ | ⟨j0, hj0, e, hp0, hn0⟩
 ·rw [e]
  have ef : findF item K ps = nilP := by
   rw [findF, List.find?_eq_none.2 fun p hp => by simp only [hno p hp]; decide]
  (repeat (first | refine gO rfl ?_ | (refine gR fun K1 hK1 => ?_; simp only [go_sem, ↓reduceIte, reduceCtorEq, nA, nB, nC, nD, nE, nF] <;> and_intros <;> first | (apply hK1; clear hK1 K1) | (intros; first | omega | decide) | skip)))
  refine awp_cond (t := _) rfl (fun _ => ?_) (fun h9 => by simp at h9)
  (repeat (first | refine gO rfl ?_ | (refine gR fun K1 hK1 => ?_; simp only [go_sem, ↓reduceIte, reduceCtorEq, nA, nB, nC, nD, nE, nF] <;> and_intros <;> first | (apply hK1; clear hK1 K1) | (intros; first | omega | decide) | skip)))
  simp only [Tryz.results134, go_sem, ↓reduceIte, reduceCtorEq, nA, nB, nC, nD, nE, nF]
  exact ⟨_, _, Weak.refl _, Hp.le.refl _, by rw [ef]; rfl, rfl⟩
 ·rw [e]
  have ef : findF item K ps = .ptr (ps.getD j0 default) 0 := by
   have hfd : ps.find? (fun p => (K p).1 == item) = some (ps.getD j0 default) := List.find?_eq_some_iff_getElem.2 ⟨hp0, j0, hj0, by rw [List.getD_eq_getElem?_getD, List.getElem?_eq_getElem hj0]; rfl, fun i hi => by
    have := hn0 i hi
    rw [List.getD_eq_getElem?_getD, List.getElem?_eq_getElem (by omega)] at this
    simpa using this⟩
   rw [findF, hfd]
  have gx : (ps.map encR).getD j0 [] = encR (ps.getD j0 default) := getD_enc encR ps j0 default hj0
  (repeat (first | refine gO rfl ?_ | (refine gR fun K1 hK1 => ?_; simp only [go_sem, ↓reduceIte, reduceCtorEq, nA, nB, nC, nD, nE, nF] <;> and_intros <;> first | (apply hK1; clear hK1 K1) | (intros; first | omega | decide) | skip)))
  refine awp_cond (t := _) rfl (fun h9 => by simp at h9; omega) (fun _ => ?_)
  (repeat (first | refine gO rfl ?_ | (refine gR fun K1 hK1 => ?_; simp only [go_sem, ↓reduceIte, reduceCtorEq, nA, nB, nC, nD, nE, nF, hC, encCa, hT, hml, Int.toNat_natCast, gx, encR] <;> and_intros <;> first | (apply hK1; clear hK1 K1) | (intros; first | omega | decide) | skip)))
  simp only [Tryz.results134, go_sem, ↓reduceIte, reduceCtorEq, nA, nB, nC, nD, nE, nF]
  exact ⟨_, _, Weak.refl _, Hp.le.refl _, ef.symm, rfl⟩
def orderL (rule : Int) (L : List Kp) : List Kp := sortI (cmpK rule) (L.filter fun x => !x.2.2.1)
def overL (item : ByteArray) : List Kp → Int → Int
  | [], o => o
  | x :: l, o => overL item l (if x.1 = item then o else o + x.2.1)
def goL (item : ByteArray) : List Kp → Int → List Kp × Int
  | [], o => ([], o)
  | x :: l, o => if o ≤ 0 then ([], o) else if x.1 = item then goL item l o else (x :: (goL item l (o - x.2.1)).1, (goL item l (o - x.2.1)).2)
def goingL (item : ByteArray) (bytes room rule : Int) (L : List Kp) : List Kp × Int := goL item (orderL rule L) (overL item L (bytes - room))
theorem insR_map {α β : Type} (f : α → β) (c : β → β → Int) : ∀ (r : List α) (x : α), (insR (fun a b => c (f a) (f b)) r x).map f = insR c (r.map f) (f x)
  | [], _ => rfl
  | y :: r, x => by
    unfold insR
    simp only [List.map_cons]
    split
    · rw [List.map_cons, insR_map f c r x]
    · simp
theorem foldI_map {α β : Type} (f : α → β) (c : β → β → Int) : ∀ (xs r : List α), (xs.foldl (insR (fun a b => c (f a) (f b))) r).map f = (xs.map f).foldl (insR c) (r.map f)
  | [], _ => rfl
  | x :: xs, r => by rw [List.foldl_cons, foldI_map f c xs, insR_map, List.map_cons, List.foldl_cons]
theorem sortI_map {α β : Type} (f : α → β) (c : β → β → Int) (xs : List α) : (sortI (fun a b => c (f a) (f b)) xs).map f = sortI c (xs.map f) := by
  unfold sortI insS
  rw [List.map_reverse, foldI_map]; rfl
theorem orderF_map (rule : Int) (K : Nat → Kp) (ps : List Nat) : (orderF rule K ps).map K = orderL rule (ps.map K) := by
  unfold orderF orderL
  rw [sortI_map, List.filter_map]; rfl
theorem overF_map (item : ByteArray) (K : Nat → Kp) : ∀ (ps : List Nat) (o : Int), overF item K ps o = overL item (ps.map K) o
  | [], _ => rfl
  | p :: ps, o => by rw [overF, List.map_cons, overL, overF_map item K ps]
theorem goF_map (item : ByteArray) (K : Nat → Kp) : ∀ (ps : List Nat) (o : Int), ((goF item K ps o).1.map K, (goF item K ps o).2) = goL item (ps.map K) o
  | [], _ => rfl
  | p :: ps, o => by
    rw [List.map_cons, goF, goL]
    split
    · rfl
    · split
      · exact goF_map item K ps o
      · have := goF_map item K ps (o - (K p).2.1)
        rw [Prod.ext_iff] at this
        rw [← this.1, ← this.2]; rfl
theorem goingF_map (item : ByteArray) (bytes room rule : Int) (K : Nat → Kp) (ps : List Nat) : ((goingF item bytes room rule K ps).1.map K, (goingF item bytes room rule K ps).2) = goingL item bytes room rule (ps.map K) := by
  unfold goingF goingL
  rw [goF_map, orderF_map, overF_map]
def newK (item : ByteArray) (bytes now : Int) : Kp := (item, bytes, false, now + 1, now + 1, 1)
def askF (t : Int) (x : Kp) : Kp := (x.1, x.2.1, x.2.2.1, x.2.2.2.1, t, x.2.2.2.2.2 + 1)
def setB (b : Int) (x : Kp) : Kp := (x.1, b, x.2.2.1, x.2.2.2.1, x.2.2.2.2.1, x.2.2.2.2.2)
def hasL (item : ByteArray) (L : List Kp) : Bool := L.any fun x => x.1 == item
def atK (item : ByteArray) (f : Kp → Kp) (L : List Kp) : List Kp := L.map fun x => if x.1 = item then f x else x
def leftL (gone L : List Kp) : List Kp := L.filter fun x => !gone.any fun y => y.1 == x.1
def putL (room rule now : Int) (L : List Kp) (item : ByteArray) (bytes : Int) : Option (List Kp × List Kp) :=
  if (goingL item bytes room rule L).2 ≤ 0 then some (if hasL item L then atK item (fun x => askF (now + 1) (setB bytes x)) (leftL (goingL item bytes room rule L).1 L) else leftL (goingL item bytes room rule L).1 L ++ [newK item bytes now], (goingL item bytes room rule L).1) else none
def missL (room rule : Int) : List ByteArray → Int → List Kp → Int → Option Int
  | [], _, _, n => some n
  | s :: l, now, L, n => if hasL s L then missL room rule l (now + 1) (atK s (askF (now + 1)) L) n else
    match putL room rule now L s 1 with
    | some (L', _) => missL room rule l (now + 1) L' (n + 1)
    | none => none
theorem hasL_iff {item : ByteArray} {L : List Kp} : hasL item L = true ↔ ∃ x ∈ L, x.1 = item := by
  unfold hasL
  rw [List.any_eq_true]
  constructor
  · rintro ⟨x, hx, h⟩; exact ⟨x, hx, by rw [ba_beq] at h; simpa using h⟩
  · rintro ⟨x, hx, h⟩; exact ⟨x, hx, by rw [ba_beq]; simpa using h⟩
def KeysOne (L : List Kp) : Prop := L.Pairwise fun x y => x.1 ≠ y.1
theorem keysOne_map {K : Nat → Kp} {ps : List Nat} (h : KeysOne (ps.map K)) {p q : Nat} (hp : p ∈ ps) (hq : q ∈ ps) (e : (K p).1 = (K q).1) : p = q := by
  induction ps with
  | nil => cases hp
  | cons z l ih =>
    rw [List.map_cons] at h
    obtain ⟨h1, h2⟩ := List.pairwise_cons.1 h
    have h1' : ∀ y ∈ l, (K z).1 ≠ (K y).1 := fun y hy => h1 _ (List.mem_map_of_mem hy)
    rcases List.mem_cons.1 hp with ep | hp
    · rcases List.mem_cons.1 hq with eq | hq
      · rw [ep, eq]
      · exact absurd (ep ▸ e) (h1' q hq)
    · rcases List.mem_cons.1 hq with eq | hq
      · exact absurd (eq ▸ e.symm) (h1' p hp)
      · exact ih h2 hp hq
theorem stayF_map {K : Nat → Kp} {gone ps : List Nat} (h : KeysOne (ps.map K)) (hg : ∀ p ∈ gone, p ∈ ps) : (stayF gone ps).map K = leftL (gone.map K) (ps.map K) := by
  unfold stayF leftL
  rw [List.filter_map]
  congr 1
  refine List.filter_congr fun p hp => ?_
  simp only [Function.comp, List.any_map]
  congr 1
  rw [Bool.eq_iff_iff, List.contains_iff_mem, List.any_eq_true]
  constructor
  · intro hm; exact ⟨p, hm, by show ((K p).1 == (K p).1) = true; rw [ba_beq]; simp⟩
  · rintro ⟨q, hq, e⟩
    have e2 : (K q).1 = (K p).1 := by
      have e3 : ((K q).1 == (K p).1) = true := e
      rw [ba_beq] at e3; simpa using e3
    rwa [keysOne_map h (hg q hq) hp e2] at hq
theorem keysOne_filter {L : List Kp} (h : KeysOne L) (p : Kp → Bool) : KeysOne (L.filter p) := h.filter p
theorem atK_map {K : Nat → Kp} {ps : List Nat} {p : Nat} {item : ByteArray} (f : Kp → Kp) (h : KeysOne (ps.map K)) (hp : p ∈ ps) (hk : (K p).1 = item) : ps.map (fun q => if q = p then f (K p) else K q) = atK item f (ps.map K) := by
  unfold atK
  rw [List.map_map]
  refine List.map_congr_left fun q hq => ?_
  simp only [Function.comp]
  by_cases e : q = p
  · subst e; rw [if_pos rfl, if_pos hk]
  · rw [if_neg e, if_neg fun e2 => e (keysOne_map h hq hp (e2.trans hk.symm))]
theorem atK_keys (item : ByteArray) (f : Kp → Kp) (hf : ∀ x, (f x).1 = x.1) (L : List Kp) : (atK item f L).map (·.1) = L.map (·.1) := by
  unfold atK
  rw [List.map_map]
  refine List.map_congr_left fun x _ => ?_
  simp only [Function.comp]
  split <;> simp [hf]
theorem keysOne_iff (L : List Kp) : KeysOne L ↔ (L.map (·.1)).Pairwise (· ≠ ·) := by rw [List.pairwise_map]; rfl
theorem atK_one {item : ByteArray} {f : Kp → Kp} (hf : ∀ x, (f x).1 = x.1) {L : List Kp} (h : KeysOne L) : KeysOne (atK item f L) := by
  rw [keysOne_iff, atK_keys item f hf, ← keysOne_iff]; exact h
theorem leftL_sub {gone L : List Kp} {x : Kp} (h : x ∈ leftL gone L) : x ∈ L := (List.mem_filter.1 h).1
theorem putL_one {room rule now bytes : Int} {L L' g : List Kp} {item : ByteArray} (h : putL room rule now L item bytes = some (L', g)) (h1 : KeysOne L) : KeysOne L' := by
  unfold putL at h
  split at h
  · simp only [Option.some.injEq, Prod.mk.injEq] at h
    obtain ⟨rfl, _⟩ := h
    split
    · exact atK_one (f := fun x => askF (now + 1) (setB bytes x)) (fun _ => rfl) (keysOne_filter h1 _)
    · rename_i hh
      refine List.pairwise_append.2 ⟨keysOne_filter h1 _, by simp, fun x hx y hy => ?_⟩
      simp only [List.mem_singleton] at hy
      subst hy
      intro e
      exact hh (hasL_iff.2 ⟨x, leftL_sub hx, e⟩)
  · cases h
theorem g_ask {x : Kp} {ci p k n : Nat} {room rule now : Int} {h : Hp} (hC : h.H ci = some (.cells (encCa room rule now k n))) (hp : h.H p = some (.cells (encKp x))) (hcp : ci ≠ p)
  (h1 : 0 ≤ now ∧ now ≤ 1000000000) (h2 : 0 ≤ x.2.2.2.2.2 ∧ x.2.2.2.2.2 ≤ 1000000000) :
  ACalls Tryz.prog 135 [.ptr ci 0, .ptr p 0] h (fun r h' => r = .tup [] ∧ h' = ⟨upd (upd h.H ci (some (.cells (encCa room rule (now + 1) k n)))) p (some (.cells (encKp (askF (now + 1) x)))), h.T⟩) := by
 obtain ⟨ke, b, pi, ca, la, ma⟩ := x
 have hpc : p ≠ ci := fun e => hcp e.symm
 refine gE Tryz.func135 rfl (by kernel_rfl) 23 rfl fun c => ?_
 (repeat (first | refine gO rfl ?_ | (refine gR fun K1 hK1 => ?_; simp only [go_sem, ↓reduceIte, reduceCtorEq, nA, nB, nC, nD, nE, nF, hC, hp, encKp, encCa, upd_same, upd_other _ _ hpc, upd_other _ _ hcp] <;> and_intros <;> first | (apply hK1; clear hK1 K1) | (intros; first | omega | decide | (simp_all <;> omega)) | skip)))
 simp only [Tryz.results135, go_sem, ↓reduceIte, reduceCtorEq, nA, nB, nC, nD, nE, nF]
 exact ⟨_, _, Weak.refl _, Hp.le.refl _, rfl, rfl⟩
theorem idxR_contains (p : Nat) (ps : List Nat) : decide (0 ≤ idxR (fun q => p == q) ps) = ps.contains p := by
 rcases idxR_cases (fun q => p == q) ps with ⟨hno, e⟩ | ⟨j, hj, e, hp, _⟩
 ·rw [e]
  cases hc : ps.contains p with
  | false => rfl
  | true => have := hno p (List.contains_iff_mem.1 hc); simp at this
 ·rw [e]
  have hm : ps.contains p = true := by
   rw [List.contains_iff_mem]
   have e1 : p = ps.getD j default := eq_of_beq hp
   rw [e1, List.getD_eq_getElem?_getD, List.getElem?_eq_getElem hj]
   exact List.getElem_mem _
  rw [hm]; simp
theorem g_indexK {K : Nat → Kp} (p k : Nat) (ps : List Nat) (h : Hp) (hp : h.H p = some (.cells (encKp (K p)))) (hK : CacheH h K ps) (hl : ps.length ≤ 100000) :
  ACalls Tryz.prog 242 [.row 1 (ps.map encR) (some k), .ptr p 0] h (fun r h' => r = .v (.int .i64 (idxR (fun q => p == q) ps)) ∧ h' = h) := by
 have hml : (ps.map encR).length = ps.length := List.length_map _
 refine gE Tryz.func242 rfl (by kernel_rfl) 17 rfl fun c => ?_
 (repeat (first | refine gO rfl ?_ | (refine gM zM23 fun K1 hK1 => ?_; simp only [go_sem, ↓reduceIte, reduceCtorEq, nA, nB, nC, nD, nE, nF] <;> and_intros <;> first | (apply hK1; clear hK1 K1) | (intros; first | omega | decide | (simp_all <;> omega)) | skip)))
 refine awp_loopC (rl false [0, 2, 5, 2, 10]) 0 (fun g s => ∃ j : Nat, g + j = ps.length ∧ (∀ i, i < j → (p == ps.getD i default) = false) ∧
  s = ⟨((.row 1 (ps.map encR) (some k)) :: (.ptr p 0) :: (jnk 5 ((.v (.int .i64 ps.length)) :: (.v (.int .i64 j)) :: (jnk 10 [])))), [], h⟩) ps.length ⟨0, by omega, fun i hi => by omega, by rw [← hml]; rfl⟩ ?_
 rintro g _ ⟨j, hj, hn, rfl⟩
 (repeat (first | refine gO rfl ?_ | (refine gM zM23 fun K1 hK1 => ?_; simp only [go_sem, ↓reduceIte, reduceCtorEq, nA, nB, nC, nD, nE, nF] <;> and_intros <;> first | (apply hK1; clear hK1 K1) | (intros; first | omega | decide) | skip)))
 refine awp_cond (t := _) rfl (fun h1 => ?_) (fun h1 => ?_)
 ·simp only [decide_eq_true_eq] at h1
  have hjl : j < ps.length := by omega
  have gx : (ps.map encR).getD j [] = encR (ps.getD j default) := getD_enc encR ps j default hjl
  obtain ⟨q, hq⟩ : ∃ q, ps.getD j default = q := ⟨_, rfl⟩
  have hhq : h.H q = some (.cells (encKp (K q))) := hK q (by rw [← hq, List.getD_eq_getElem?_getD, List.getElem?_eq_getElem hjl]; exact List.getElem_mem _)
  rw [hq] at gx
  (repeat (first | refine gO rfl ?_ | (refine gM zM23 fun K1 hK1 => ?_; simp only [go_sem, ↓reduceIte, reduceCtorEq, nA, nB, nC, nD, nE, nF, hml, Int.toNat_natCast, gx, encR, hp, hhq] <;> and_intros <;> first | (apply hK1; clear hK1 K1) | (intros; first | omega | decide) | skip)))
  cases hb : (p == q) with
  | true =>
   refine awp_cond (t := _) rfl (fun _ => ?_) (fun h9 => by cases h9)
   (repeat (first | refine gO rfl ?_ | (refine gM zM23 fun K1 hK1 => ?_; simp only [go_sem, ↓reduceIte, reduceCtorEq, nA, nB, nC, nD, nE, nF] <;> and_intros <;> first | (apply hK1; clear hK1 K1) | (intros; first | omega | decide) | skip)))
   simp only [Tryz.results242, go_sem, ↓reduceIte, reduceCtorEq, nA, nB, nC, nD, nE, nF]
   exact ⟨_, _, Weak.refl _, Hp.le.refl _, by rw [idxR_at hjl (by rw [hq]; exact hb) hn], rfl⟩
  | false =>
   refine awp_cond (t := _) rfl (fun h9 => by cases h9) (fun _ => ?_)
   (repeat (first | refine gO rfl ?_ | (refine gM zM23 fun K1 hK1 => ?_; simp only [go_sem, ↓reduceIte, reduceCtorEq, nA, nB, nC, nD, nE, nF] <;> and_intros <;> first | (apply hK1; clear hK1 K1) | (intros; first | omega | decide) | skip)))
   refine ⟨g - 1, by omega, j + 1, by omega, fun i hi => ?_, rfl⟩
   rcases Nat.lt_succ_iff_lt_or_eq.1 hi with h9 | rfl
   ·exact hn i h9
   ·rw [hq]; exact hb
 ·simp only [decide_eq_false_iff_not] at h1
  (repeat (first | refine gO rfl ?_ | (refine gM zM23 fun K1 hK1 => ?_; simp only [go_sem, ↓reduceIte, reduceCtorEq, nA, nB, nC, nD, nE, nF] <;> and_intros <;> first | (apply hK1; clear hK1 K1) | (intros; first | omega | decide) | skip)))
  simp only [Tryz.results242, go_sem, ↓reduceIte, reduceCtorEq, nA, nB, nC, nD, nE, nF]
  exact ⟨_, _, Weak.refl _, Hp.le.refl _, by rw [idxR_no (fun i hi => hn i (by omega))], rfl⟩
theorem g_hasK {K : Nat → Kp} (p k : Nat) (ps : List Nat) (h : Hp) (hp : h.H p = some (.cells (encKp (K p)))) (hK : CacheH h K ps) (hl : ps.length ≤ 100000) :
  ACalls Tryz.prog 189 [.row 1 (ps.map encR) (some k), .ptr p 0] h (fun r h' => r = .v (.bool (ps.contains p)) ∧ h' = h) := by
 have hix := g_indexK p k ps h hp hK hl
 rw [← idxR_contains]
 generalize idxR (fun q => p == q) ps = ix at *
 generalize ps.map encR = rw0 at *
 refine gE Tryz.func189 rfl (by kernel_rfl) 7 rfl fun c => ?_
 (repeat (first | refine gO rfl ?_ | (refine gR fun K1 hK1 => ?_; simp only [go_sem, ↓reduceIte, reduceCtorEq, nA, nB, nC, nD, nE, nF] <;> and_intros <;> first | (apply hK1; clear hK1 K1) | (intros; first | omega | decide | (simp_all <;> omega)) | skip)))
 refine hix.mono ?_; rintro _ hz ⟨rfl, hh⟩; apply hK1; clear hK1 K1; rw [hh]; clear hh hz
 (repeat (first | refine gO rfl ?_ | (refine gR fun K1 hK1 => ?_; simp only [go_sem, ↓reduceIte, reduceCtorEq, nA, nB, nC, nD, nE, nF] <;> and_intros <;> first | (apply hK1; clear hK1 K1) | (intros; first | omega | decide) | skip)))
 simp only [Tryz.results189, go_sem, ↓reduceIte, reduceCtorEq, nA, nB, nC, nD, nE, nF]
 exact ⟨_, _, Weak.refl _, Hp.le.refl _, rfl, rfl⟩
theorem g_put1 {K : Nat → Kp} (p k g : Nat) (ps : List Nat) (h : Hp) (hg : h.H g = some (.cells [.row 1 (ps.map encR) (some k)])) (hp : h.H p = some (.cells (encKp (K p)))) (hK : CacheH h K ps) (hl : ps.length ≤ 100000) :
  ACalls Tryz.prog 188 ([.ptr p 0] ++ [.ptr g 0]) h (fun r h' => r = .v (.bool (ps.contains p)) ∧ h' = h) := by
 have hix := g_hasK p k ps h hp hK hl
 generalize ps.contains p = ix at *
 generalize ps.map encR = rw0 at *
 refine gE Tryz.func188 rfl (by kernel_rfl) 5 rfl fun c => ?_
 (repeat (first | refine gO rfl ?_ | (refine gR fun K1 hK1 => ?_; simp only [go_sem, ↓reduceIte, reduceCtorEq, nA, nB, nC, nD, nE, nF, hg] <;> and_intros <;> first | (apply hK1; clear hK1 K1) | (intros; first | omega | decide | (simp_all <;> omega)) | skip)))
 refine hix.mono ?_; rintro _ hz ⟨rfl, hh⟩; apply hK1; clear hK1 K1; rw [hh]; clear hh hz
 (repeat (first | refine gO rfl ?_ | (refine gR fun K1 hK1 => ?_; simp only [go_sem, ↓reduceIte, reduceCtorEq, nA, nB, nC, nD, nE, nF] <;> and_intros <;> first | (apply hK1; clear hK1 K1) | (intros; first | omega | decide) | skip)))
 simp only [Tryz.results188, go_sem, ↓reduceIte, reduceCtorEq, nA, nB, nC, nD, nE, nF]
 exact ⟨_, _, Weak.refl _, Hp.le.refl _, rfl, rfl⟩
theorem g_nan (x : Int) (h : Hp) : ACalls Tryz.prog 131 [.v (.int .i64 x)] h (fun r h' => r = .v (.bool false) ∧ h' = h) := by
 refine gE Tryz.func131 rfl (by kernel_rfl) 5 rfl fun c => ?_
 (repeat (first | refine gO rfl ?_ | (refine gR fun K1 hK1 => ?_; simp only [go_sem, ↓reduceIte, reduceCtorEq, nA, nB, nC, nD, nE, nF] <;> and_intros <;> first | (apply hK1; clear hK1 K1) | (intros; first | omega | decide | (simp_all <;> omega)) | skip)))
 simp only [Tryz.results131, go_sem, ↓reduceIte, reduceCtorEq, nA, nB, nC, nD, nE, nF]
 exact ⟨_, _, Weak.refl _, Hp.le.refl _, by simp, rfl⟩
theorem g_cmpI (x y : Int) (h : Hp) : ACalls Tryz.prog 68 [.v (.int .i64 x), .v (.int .i64 y)] h (fun r h' => r = .v (.int .i64 (cmpI x y)) ∧ h' = h) := by
 have n1 := g_nan x h
 have n2 := g_nan y h
 refine gE Tryz.func68 rfl (by kernel_rfl) 18 rfl fun c => ?_
 (repeat (first | refine gO rfl ?_ | (refine gR fun K1 hK1 => ?_; simp only [go_sem, ↓reduceIte, reduceCtorEq, nA, nB, nC, nD, nE, nF] <;> and_intros <;> first | (apply hK1; clear hK1 K1) | (intros; first | omega | decide | (simp_all <;> omega)) | skip)))
 refine n1.mono ?_; rintro _ hz ⟨rfl, hh⟩; apply hK1; clear hK1 K1; rw [hh]; clear hh hz
 (repeat (first | refine gO rfl ?_ | (refine gR fun K1 hK1 => ?_; simp only [go_sem, ↓reduceIte, reduceCtorEq, nA, nB, nC, nD, nE, nF] <;> and_intros <;> first | (apply hK1; clear hK1 K1) | (intros; first | omega | decide) | skip)))
 refine n2.mono ?_; rintro _ hz ⟨rfl, hh⟩; apply hK1; clear hK1 K1; rw [hh]; clear hh hz
 (repeat (first | refine gO rfl ?_ | (refine gR fun K1 hK1 => ?_; simp only [go_sem, ↓reduceIte, reduceCtorEq, nA, nB, nC, nD, nE, nF] <;> and_intros <;> first | (apply hK1; clear hK1 K1) | (intros; first | omega | decide) | skip)))
 refine awp_cond (t := _) rfl (fun h9 => by cases h9) (fun _ => ?_)
 (repeat (first | refine gO rfl ?_ | (refine gR fun K1 hK1 => ?_; simp only [go_sem, ↓reduceIte, reduceCtorEq, nA, nB, nC, nD, nE, nF] <;> and_intros <;> first | (apply hK1; clear hK1 K1) | (intros; first | omega | decide) | skip)))
 refine awp_cond (t := _) rfl (fun h9 => by cases h9) (fun _ => ?_)
 (repeat (first | refine gO rfl ?_ | (refine gR fun K1 hK1 => ?_; simp only [go_sem, ↓reduceIte, reduceCtorEq, nA, nB, nC, nD, nE, nF] <;> and_intros <;> first | (apply hK1; clear hK1 K1) | (intros; first | omega | decide) | skip)))
 refine awp_cond (t := _) rfl (fun h1 => ?_) (fun h1 => ?_)
 ·simp only [decide_eq_true_eq] at h1
  (repeat (first | refine gO rfl ?_ | (refine gR fun K1 hK1 => ?_; simp only [go_sem, ↓reduceIte, reduceCtorEq, nA, nB, nC, nD, nE, nF] <;> and_intros <;> first | (apply hK1; clear hK1 K1) | (intros; first | omega | decide) | skip)))
  simp only [Tryz.results68, go_sem, ↓reduceIte, reduceCtorEq, nA, nB, nC, nD, nE, nF]
  exact ⟨_, _, Weak.refl _, Hp.le.refl _, by rw [cmpI, if_pos h1], rfl⟩
 ·simp only [decide_eq_false_iff_not] at h1
  (repeat (first | refine gO rfl ?_ | (refine gR fun K1 hK1 => ?_; simp only [go_sem, ↓reduceIte, reduceCtorEq, nA, nB, nC, nD, nE, nF] <;> and_intros <;> first | (apply hK1; clear hK1 K1) | (intros; first | omega | decide) | skip)))
  refine awp_cond (t := _) rfl (fun h2 => ?_) (fun h2 => ?_)
  ·simp only [decide_eq_true_eq] at h2
   (repeat (first | refine gO rfl ?_ | (refine gR fun K1 hK1 => ?_; simp only [go_sem, ↓reduceIte, reduceCtorEq, nA, nB, nC, nD, nE, nF] <;> and_intros <;> first | (apply hK1; clear hK1 K1) | (intros; first | omega | decide) | skip)))
   simp only [Tryz.results68, go_sem, ↓reduceIte, reduceCtorEq, nA, nB, nC, nD, nE, nF]
   exact ⟨_, _, Weak.refl _, Hp.le.refl _, by rw [cmpI, if_neg h1, if_pos (by omega)], rfl⟩
  ·simp only [decide_eq_false_iff_not] at h2
   (repeat (first | refine gO rfl ?_ | (refine gR fun K1 hK1 => ?_; simp only [go_sem, ↓reduceIte, reduceCtorEq, nA, nB, nC, nD, nE, nF] <;> and_intros <;> first | (apply hK1; clear hK1 K1) | (intros; first | omega | decide) | skip)))
   simp only [Tryz.results68, go_sem, ↓reduceIte, reduceCtorEq, nA, nB, nC, nD, nE, nF]
   exact ⟨_, _, Weak.refl _, Hp.le.refl _, by rw [cmpI, if_neg h1, if_neg (by omega)], rfl⟩
theorem g_order1 {x : Kp} {p : Nat} {h : Hp} (hp : h.H p = some (.cells (encKp x))) :
  ACalls Tryz.prog 305 ([.ptr p 0] ++ []) h (fun r h' => r = .v (.bool x.2.2.1) ∧ h' = h) := by
 obtain ⟨k, b, pi, ca, la, ma⟩ := x
 refine gE Tryz.func305 rfl (by kernel_rfl) 6 rfl fun c => ?_
 (repeat (first | refine gO rfl ?_ | (refine gR fun K1 hK1 => ?_; simp only [go_sem, ↓reduceIte, reduceCtorEq, nA, nB, nC, nD, nE, nF, hp, encKp] <;> and_intros <;> first | (apply hK1; clear hK1 K1) | (intros; first | omega | decide | (simp_all <;> omega)) | skip)))
 simp only [Tryz.results305, go_sem, ↓reduceIte, reduceCtorEq, nA, nB, nC, nD, nE, nF]
 exact ⟨_, _, Weak.refl _, Hp.le.refl _, rfl, rfl⟩
theorem g_cloneK (k : Nat) (ps : List Nat) (h : Hp) (hT : h.T k = some (.cont 1 (ps.map encR))) (hl : ps.length ≤ 100000) :
  ACalls Tryz.prog 304 [.arr 1 k ps.length] h (fun r h' => ∃ q, r = .arr 1 q ps.length ∧ h.T q = none ∧ h' = ⟨h.H, upd h.T q (some (.cont 1 (ps.map encR)))⟩) := by
 have hml : (ps.map encR).length = ps.length := List.length_map _
 refine gE Tryz.func304 rfl (by kernel_rfl) 7 rfl fun c => ?_
 (repeat (first | refine gO rfl ?_ | (refine gM zM24 fun K1 hK1 => ?_; simp only [go_sem, ↓reduceIte, reduceCtorEq, nA, nB, nC, nD, nE, nF] <;> and_intros <;> first | (apply hK1; clear hK1 K1) | (intros; first | omega | decide | (simp_all <;> omega)) | skip)))
 ·intro h0
  refine hK1 _ ?_; clear hK1 K1
  (repeat (first | refine gO rfl ?_ | (refine gM zM24 fun K1 hK1 => ?_; simp only [go_sem, ↓reduceIte, reduceCtorEq, nA, nB, nC, nD, nE, nF] <;> and_intros <;> first | (apply hK1; clear hK1 K1) | (intros; first | omega | decide) | skip)))
  refine awp_cond (t := _) rfl (fun _ => ?_) (fun h9 => by cases h9)
  (repeat refine gO rfl ?_)
  refine awp_seq ?_
  refine awp_AL ?_
  refine AL.cons rfl (Quiet.aop (q_move (.inr rfl)) ?_)
  refine AL.nil ?_
  refine awp_ownA 2 1 rfl ⟨rfl, rfl⟩ (fun q hq => ?_)
  refine awp_cut (rl false [2, 1, 5]) 0 (?_ : Awp _ _ _ _ ⟨(AV.junk :: AV.junk :: ((.arr 1 q 0) :: (jnk 5 []))), [], ⟨h.H, upd h.T q (some (.cont 1 []))⟩⟩)
  obtain rfl := List.eq_nil_of_length_eq_zero h0
  (repeat (first | refine gO rfl ?_ | (refine gM zM24 fun K1 hK1 => ?_; simp only [go_sem, ↓reduceIte, reduceCtorEq, nA, nB, nC, nD, nE, nF] <;> and_intros <;> first | (apply hK1; clear hK1 K1) | (intros; first | omega | decide) | skip)))
  simp only [Tryz.results304, go_sem, ↓reduceIte, reduceCtorEq, nA, nB, nC, nD, nE, nF]
  exact ⟨_, _, Weak.refl _, Hp.le.refl _, q, rfl, hq, rfl⟩
 ·(repeat (first | refine gO rfl ?_ | (refine gM zM24 fun K1 hK1 => ?_; simp only [go_sem, ↓reduceIte, reduceCtorEq, nA, nB, nC, nD, nE, nF] <;> and_intros <;> first | (apply hK1; clear hK1 K1) | (intros; first | omega | decide) | skip)))
  refine awp_cond (t := _) rfl (fun h9 => by cases h9) (fun _ => ?_)
  (repeat (first | refine gO rfl ?_ | (refine gM zM24 fun K1 hK1 => ?_; simp only [go_sem, ↓reduceIte, reduceCtorEq, nA, nB, nC, nD, nE, nF, hT, hml] <;> and_intros <;> first | (apply hK1; clear hK1 K1) | (intros; first | omega | decide) | skip)))
  intro q hq
  have hqk : k ≠ q := by rintro rfl; rw [hT] at hq; cases hq
  simp only [upd_other _ _ hqk, hT, hml, and_self, if_true]
  refine ⟨⟨trivial, rfl, .inl trivial⟩, ⟨by simp; omega, by simp; omega⟩, hK1 _ ?_⟩; clear hK1 K1
  (repeat (first | refine gO rfl ?_ | (refine gM zM24 fun K1 hK1 => ?_; simp only [go_sem, ↓reduceIte, reduceCtorEq, nA, nB, nC, nD, nE, nF] <;> and_intros <;> first | (apply hK1; clear hK1 K1) | (intros; first | omega | decide) | skip)))
  simp only [Tryz.results304, go_sem, ↓reduceIte, reduceCtorEq, nA, nB, nC, nD, nE, nF]
  exact ⟨_, _, Weak.refl _, Hp.le.refl _, q, rfl, hq, rfl⟩
abbrev zP9E : List Nat := [0, 1, 2, 3, 4, 5, 6, 7]
abbrev zP9P : List (Nat × List Nat × List Nat) := [(8, [], [9])]
abbrev zPAE : List Nat := [0, 1, 2, 3, 4, 5, 6, 7]
abbrev zPAP : List (Nat × List Nat × List Nat) := [(8, [], [9])]
abbrev zPBE : List Nat := [0, 1, 2, 3, 4, 5, 6, 7]
abbrev zPBP : List (Nat × List Nat × List Nat) := [(8, [], [9])]
abbrev zPCE : List Nat := [0, 1, 2, 3, 4, 5, 6, 7, 8]
abbrev zPCP : List (Nat × List Nat × List Nat) := [(9, [], [10]), (11, [], [12])]
attribute [go_sem] zP9E zP9P zPAE zPAP zPBE zPBP zPCE zPCP
def encJ (x : Int) : List AV := [.v (.int .i64 x)]
def orJ : List Int → Int
 | [] => 0
 | x :: l => if x = 0 then orJ l else x
theorem orJ_at (l : List Int) (j : Nat) (h : j < l.length) (h0 : ∀ i, i < j → l.getD i 0 = 0) (hn : l.getD j 0 ≠ 0) : orJ l = l.getD j 0 := by
 induction l generalizing j with
 | nil => simp at h
 | cons x l ih =>
  cases j with
  | zero => rw [orJ, if_neg (by simpa using hn)]; rfl
  | succ j =>
   have hx := h0 0 (by omega)
   simp only [List.getD_cons_zero] at hx
   rw [orJ, if_pos hx, List.getD_cons_succ]
   exact ih j (by simpa using h) (fun i hi => by simpa using h0 (i + 1) (by omega)) (by simpa using hn)
theorem orJ_zero (l : List Int) (h : ∀ i, i < l.length → l.getD i 0 = 0) : orJ l = 0 := by
 induction l with
 | nil => rfl
 | cons x l ih =>
  have hx := h 0 (by simp)
  simp only [List.getD_cons_zero] at hx
  rw [orJ, if_pos hx]
  exact ih fun i hi => by simpa using h (i + 1) (by simpa using hi)
theorem g_orK (l : List Int) (h : Hp) (hl : l.length ≤ 1000) : ACalls Tryz.prog 67 [.row 1 (l.map encJ) none] h (fun r h' => r = .v (.int .i64 (orJ l)) ∧ h' = h) := by
 refine gE Tryz.func67 rfl (by kernel_rfl) 17 rfl fun c => ?_
 (repeat (first | refine gO rfl ?_ | (refine gR fun K1 hK1 => ?_; simp only [go_sem, ↓reduceIte, reduceCtorEq, nA, nB, nC, nD, nE, nF] <;> and_intros <;> first | (apply hK1; clear hK1 K1) | (intros; first | omega | decide | (simp_all <;> omega)) | skip)))
 refine awp_loopC (rl false [3, 1, 2, 3, 9]) 0 (fun g s => ∃ j : Nat, g + j = l.length ∧ (∀ i, i < j → l.getD i 0 = 0) ∧
  s = ⟨((jnk 3 ((.v (.int .i64 0)) :: AV.junk :: AV.junk :: ((.row 1 (l.map encJ) none) :: (.v (.int .i64 l.length)) :: (.v (.int .i64 j)) :: (jnk 9 []))))), [], h⟩) l.length ⟨0, by omega, by omega, rfl⟩ ?_
 rintro g _ ⟨j, hj, h0, rfl⟩
 (repeat (first | refine gO rfl ?_ | (refine gR fun K1 hK1 => ?_; simp only [go_sem, ↓reduceIte, reduceCtorEq, nA, nB, nC, nD, nE, nF] <;> and_intros <;> first | (apply hK1; clear hK1 K1) | (intros; first | omega | decide | (simp_all <;> omega)) | skip)))
 refine awp_cond (t := _) rfl (fun h3 => ?_) (fun h3 => ?_)
 ·simp only [decide_eq_true_eq] at h3
  have hjl : j < l.length := by omega
  have hgx : (l.map encJ).getD j [] = [.v (.int .i64 (l.getD j 0))] := getD_enc encJ l j 0 hjl
  have hat := orJ_at l j hjl h0
  obtain ⟨x, hx⟩ : ∃ x, x = l.getD j 0 := ⟨_, rfl⟩
  rw [← hx] at hgx hat
  (repeat (first | refine gO rfl ?_ | (refine gR fun K1 hK1 => ?_; simp only [go_sem, ↓reduceIte, reduceCtorEq, nA, nB, nC, nD, nE, nF, Int.toNat_natCast, hgx] <;> and_intros <;> first | (apply hK1; clear hK1 K1) | (intros; first | omega | decide | (simp_all <;> omega)) | skip)))
  refine awp_cond (t := _) rfl (fun h4 => ?_) (fun h4 => ?_)
  ·have h4' : x ≠ 0 := by simpa using h4
   (repeat (first | refine gO rfl ?_ | (refine gR fun K1 hK1 => ?_; simp only [go_sem, ↓reduceIte, reduceCtorEq, nA, nB, nC, nD, nE, nF] <;> and_intros <;> first | (apply hK1; clear hK1 K1) | (intros; first | omega | decide | (simp_all <;> omega)) | skip)))
   simp only [Tryz.results67, go_sem, ↓reduceIte, reduceCtorEq, nA, nB, nC, nD, nE, nF]
   exact ⟨_, _, Weak.refl _, Hp.le.refl _, by rw [hat h4'], rfl⟩
  ·have h4' : x = 0 := by simpa using h4
   (repeat (first | refine gO rfl ?_ | (refine gR fun K1 hK1 => ?_; simp only [go_sem, ↓reduceIte, reduceCtorEq, nA, nB, nC, nD, nE, nF] <;> and_intros <;> first | (apply hK1; clear hK1 K1) | (intros; first | omega | decide | (simp_all <;> omega)) | skip)))
   exact ⟨g - 1, by omega, j + 1, by omega, fun i hi => by
    by_cases e : i = j
    ·rw [e, ← hx]; exact h4'
    ·exact h0 i (by omega), rfl⟩
 ·simp only [decide_eq_false_iff_not] at h3
  have hjl : j = l.length := by omega
  subst hjl
  (repeat (first | refine gO rfl ?_ | (refine gR fun K1 hK1 => ?_; simp only [go_sem, ↓reduceIte, reduceCtorEq, nA, nB, nC, nD, nE, nF] <;> and_intros <;> first | (apply hK1; clear hK1 K1) | (intros; first | omega | decide | (simp_all <;> omega)) | skip)))
  simp only [Tryz.results67, go_sem, ↓reduceIte, reduceCtorEq, nA, nB, nC, nD, nE, nF]
  exact ⟨_, _, Weak.refl _, Hp.le.refl _, by rw [orJ_zero l h0], rfl⟩
theorem g_or2 (x y : Int) (h : Hp) : ACalls Tryz.prog 67 [.row 1 [[.v (.int .i64 x)], [.v (.int .i64 y)]] none] h (fun r h' => r = .v (.int .i64 (if x = 0 then y else x)) ∧ h' = h) := by
 refine (g_orK [x, y] h (by simp)).mono ?_
 rintro _ _ ⟨rfl, rfl⟩
 refine ⟨?_, rfl⟩
 by_cases e : x = 0
 ·rw [orJ, if_pos e, if_pos e, orJ]
  by_cases e2 : y = 0
  ·rw [if_pos e2, orJ, e2]
  ·rw [if_neg e2]
 ·rw [orJ, if_neg e, if_neg e]
theorem g_compK {ci k n a b : Nat} {room rule now : Int} {x y : Kp} {h : Hp} (hC : h.H ci = some (.cells (encCa room rule now k n))) (ha : h.H a = some (.cells (encKp x))) (hb : h.H b = some (.cells (encKp y))) :
  ACalls Tryz.prog 307 ([.ptr ci 0] ++ [.ptr a 0, .ptr b 0]) h (fun r h' => r = .v (.int .i64 (cmpK rule x y)) ∧ h' = h) := by
 obtain ⟨ke, by1, pi, ca, la, ma⟩ := x
 obtain ⟨ke', by2, pi', ca', la', ma'⟩ := y
 have c1 := fun x y => g_cmpI x y h
 have c2 := fun x y => g_or2 x y h
 refine gE Tryz.func307 rfl (by kernel_rfl) 54 rfl fun c => ?_
 (repeat (first | refine gO rfl ?_ | ((first | refine gR ?_ | (with_reducible refine wM ?_ ?_) | ((with_reducible refine xR ?_); refine uE 4 zM22 zP9E zP9P 57 rfl (by kernel_rfl) ?_) | ((with_reducible refine xR ?_); refine uE 6 zM22 zPAE zPAP 57 rfl (by kernel_rfl) ?_) | ((with_reducible refine xR ?_); refine uE 8 zM22 zPBE zPBP 57 rfl (by kernel_rfl) ?_) | ((with_reducible refine xS ?_); refine uD 9 zM22 zPCE zPCP 57 rfl (by kernel_rfl) ?_)) <;> ((try with_reducible intro K1 hK1); simp only [go_sem, ↓reduceIte, reduceCtorEq, nA, nB, nC, nD, nE, nF, hC, encCa] <;> and_intros <;> first | (apply hK1; clear hK1 K1) | (intros; first | omega | decide | (simp_all <;> omega)) | skip))))
 by_cases r2 : rule = 2
 ·subst r2
  refine awp_cond (t := _) rfl (fun _ => ?_) (fun h9 => by simp at h9)
  (repeat (first | refine gO rfl ?_ | ((first | refine gR ?_ | (with_reducible refine wM ?_ ?_) | ((with_reducible refine xR ?_); refine uE 4 zM22 zP9E zP9P 57 rfl (by kernel_rfl) ?_) | ((with_reducible refine xR ?_); refine uE 6 zM22 zPAE zPAP 57 rfl (by kernel_rfl) ?_) | ((with_reducible refine xR ?_); refine uE 8 zM22 zPBE zPBP 57 rfl (by kernel_rfl) ?_) | ((with_reducible refine xS ?_); refine uD 9 zM22 zPCE zPCP 57 rfl (by kernel_rfl) ?_)) <;> ((try with_reducible intro K1 hK1); simp only [go_sem, ↓reduceIte, reduceCtorEq, nA, nB, nC, nD, nE, nF, ha, hb, encKp] <;> and_intros <;> first | (apply hK1; clear hK1 K1) | (intros; first | omega | decide) | skip))))
  refine (c1 _ _).mono ?_; rintro _ hz ⟨rfl, hh⟩; apply hK1; clear hK1 K1; rw [hh]; clear hh hz
  (repeat (first | refine gO rfl ?_ | ((first | refine gR ?_ | (with_reducible refine wM ?_ ?_) | ((with_reducible refine xR ?_); refine uE 4 zM22 zP9E zP9P 57 rfl (by kernel_rfl) ?_) | ((with_reducible refine xR ?_); refine uE 6 zM22 zPAE zPAP 57 rfl (by kernel_rfl) ?_) | ((with_reducible refine xR ?_); refine uE 8 zM22 zPBE zPBP 57 rfl (by kernel_rfl) ?_) | ((with_reducible refine xS ?_); refine uD 9 zM22 zPCE zPCP 57 rfl (by kernel_rfl) ?_)) <;> ((try with_reducible intro K1 hK1); simp only [go_sem, ↓reduceIte, reduceCtorEq, nA, nB, nC, nD, nE, nF, ha, hb, encKp] <;> and_intros <;> first | (apply hK1; clear hK1 K1) | (intros; first | omega | decide) | skip))))
  refine (c1 _ _).mono ?_; rintro _ hz ⟨rfl, hh⟩; apply hK1; clear hK1 K1; rw [hh]; clear hh hz
  (repeat (first | refine gO rfl ?_ | ((first | refine gR ?_ | (with_reducible refine wM ?_ ?_) | ((with_reducible refine xR ?_); refine uE 4 zM22 zP9E zP9P 57 rfl (by kernel_rfl) ?_) | ((with_reducible refine xR ?_); refine uE 6 zM22 zPAE zPAP 57 rfl (by kernel_rfl) ?_) | ((with_reducible refine xR ?_); refine uE 8 zM22 zPBE zPBP 57 rfl (by kernel_rfl) ?_) | ((with_reducible refine xS ?_); refine uD 9 zM22 zPCE zPCP 57 rfl (by kernel_rfl) ?_)) <;> ((try with_reducible intro K1 hK1); simp only [go_sem, ↓reduceIte, reduceCtorEq, nA, nB, nC, nD, nE, nF] <;> and_intros <;> first | (apply hK1; clear hK1 K1) | (intros; first | omega | decide) | skip))))
  refine (c2 _ _).mono ?_; rintro _ hz ⟨rfl, hh⟩; apply hK1; clear hK1 K1; rw [hh]; clear hh hz
  (repeat (first | refine gO rfl ?_ | ((first | refine gR ?_ | (with_reducible refine wM ?_ ?_) | ((with_reducible refine xR ?_); refine uE 4 zM22 zP9E zP9P 57 rfl (by kernel_rfl) ?_) | ((with_reducible refine xR ?_); refine uE 6 zM22 zPAE zPAP 57 rfl (by kernel_rfl) ?_) | ((with_reducible refine xR ?_); refine uE 8 zM22 zPBE zPBP 57 rfl (by kernel_rfl) ?_) | ((with_reducible refine xS ?_); refine uD 9 zM22 zPCE zPCP 57 rfl (by kernel_rfl) ?_)) <;> ((try with_reducible intro K1 hK1); simp only [go_sem, ↓reduceIte, reduceCtorEq, nA, nB, nC, nD, nE, nF] <;> and_intros <;> first | (apply hK1; clear hK1 K1) | (intros; first | omega | decide) | skip))))
  simp only [Tryz.results307, go_sem, ↓reduceIte, reduceCtorEq, nA, nB, nC, nD, nE, nF]
  exact ⟨_, _, Weak.refl _, Hp.le.refl _, by rw [cmpK, if_pos rfl], rfl⟩
 ·refine awp_cond (t := _) rfl (fun h9 => absurd (by simpa using h9) r2) (fun _ => ?_)
  (repeat (first | refine gO rfl ?_ | ((first | refine gR ?_ | (with_reducible refine wM ?_ ?_) | ((with_reducible refine xR ?_); refine uE 4 zM22 zP9E zP9P 57 rfl (by kernel_rfl) ?_) | ((with_reducible refine xR ?_); refine uE 6 zM22 zPAE zPAP 57 rfl (by kernel_rfl) ?_) | ((with_reducible refine xR ?_); refine uE 8 zM22 zPBE zPBP 57 rfl (by kernel_rfl) ?_) | ((with_reducible refine xS ?_); refine uD 9 zM22 zPCE zPCP 57 rfl (by kernel_rfl) ?_)) <;> ((try with_reducible intro K1 hK1); simp only [go_sem, ↓reduceIte, reduceCtorEq, nA, nB, nC, nD, nE, nF] <;> and_intros <;> first | (apply hK1; clear hK1 K1) | (intros; first | omega | decide) | skip))))
  by_cases r3 : rule = 3
  ·subst r3
   refine awp_cond (t := _) rfl (fun _ => ?_) (fun h9 => by simp at h9)
   (repeat (first | refine gO rfl ?_ | ((first | refine gR ?_ | (with_reducible refine wM ?_ ?_) | ((with_reducible refine xR ?_); refine uE 4 zM22 zP9E zP9P 57 rfl (by kernel_rfl) ?_) | ((with_reducible refine xR ?_); refine uE 6 zM22 zPAE zPAP 57 rfl (by kernel_rfl) ?_) | ((with_reducible refine xR ?_); refine uE 8 zM22 zPBE zPBP 57 rfl (by kernel_rfl) ?_) | ((with_reducible refine xS ?_); refine uD 9 zM22 zPCE zPCP 57 rfl (by kernel_rfl) ?_)) <;> ((try with_reducible intro K1 hK1); simp only [go_sem, ↓reduceIte, reduceCtorEq, nA, nB, nC, nD, nE, nF, ha, hb, encKp] <;> and_intros <;> first | (apply hK1; clear hK1 K1) | (intros; first | omega | decide) | skip))))
   refine (c1 _ _).mono ?_; rintro _ hz ⟨rfl, hh⟩; apply hK1; clear hK1 K1; rw [hh]; clear hh hz
   (repeat (first | refine gO rfl ?_ | ((first | refine gR ?_ | (with_reducible refine wM ?_ ?_) | ((with_reducible refine xR ?_); refine uE 4 zM22 zP9E zP9P 57 rfl (by kernel_rfl) ?_) | ((with_reducible refine xR ?_); refine uE 6 zM22 zPAE zPAP 57 rfl (by kernel_rfl) ?_) | ((with_reducible refine xR ?_); refine uE 8 zM22 zPBE zPBP 57 rfl (by kernel_rfl) ?_) | ((with_reducible refine xS ?_); refine uD 9 zM22 zPCE zPCP 57 rfl (by kernel_rfl) ?_)) <;> ((try with_reducible intro K1 hK1); simp only [go_sem, ↓reduceIte, reduceCtorEq, nA, nB, nC, nD, nE, nF, ha, hb, encKp] <;> and_intros <;> first | (apply hK1; clear hK1 K1) | (intros; first | omega | decide) | skip))))
   refine (c1 _ _).mono ?_; rintro _ hz ⟨rfl, hh⟩; apply hK1; clear hK1 K1; rw [hh]; clear hh hz
   (repeat (first | refine gO rfl ?_ | ((first | refine gR ?_ | (with_reducible refine wM ?_ ?_) | ((with_reducible refine xR ?_); refine uE 4 zM22 zP9E zP9P 57 rfl (by kernel_rfl) ?_) | ((with_reducible refine xR ?_); refine uE 6 zM22 zPAE zPAP 57 rfl (by kernel_rfl) ?_) | ((with_reducible refine xR ?_); refine uE 8 zM22 zPBE zPBP 57 rfl (by kernel_rfl) ?_) | ((with_reducible refine xS ?_); refine uD 9 zM22 zPCE zPCP 57 rfl (by kernel_rfl) ?_)) <;> ((try with_reducible intro K1 hK1); simp only [go_sem, ↓reduceIte, reduceCtorEq, nA, nB, nC, nD, nE, nF] <;> and_intros <;> first | (apply hK1; clear hK1 K1) | (intros; first | omega | decide) | skip))))
   refine (c2 _ _).mono ?_; rintro _ hz ⟨rfl, hh⟩; apply hK1; clear hK1 K1; rw [hh]; clear hh hz
   (repeat (first | refine gO rfl ?_ | ((first | refine gR ?_ | (with_reducible refine wM ?_ ?_) | ((with_reducible refine xR ?_); refine uE 4 zM22 zP9E zP9P 57 rfl (by kernel_rfl) ?_) | ((with_reducible refine xR ?_); refine uE 6 zM22 zPAE zPAP 57 rfl (by kernel_rfl) ?_) | ((with_reducible refine xR ?_); refine uE 8 zM22 zPBE zPBP 57 rfl (by kernel_rfl) ?_) | ((with_reducible refine xS ?_); refine uD 9 zM22 zPCE zPCP 57 rfl (by kernel_rfl) ?_)) <;> ((try with_reducible intro K1 hK1); simp only [go_sem, ↓reduceIte, reduceCtorEq, nA, nB, nC, nD, nE, nF] <;> and_intros <;> first | (apply hK1; clear hK1 K1) | (intros; first | omega | decide) | skip))))
   simp only [Tryz.results307, go_sem, ↓reduceIte, reduceCtorEq, nA, nB, nC, nD, nE, nF]
   exact ⟨_, _, Weak.refl _, Hp.le.refl _, by rw [cmpK, if_neg r2, if_pos rfl], rfl⟩
  ·refine awp_cond (t := _) rfl (fun h9 => absurd (by simpa using h9) r3) (fun _ => ?_)
   (repeat (first | refine gO rfl ?_ | ((first | refine gR ?_ | (with_reducible refine wM ?_ ?_) | ((with_reducible refine xR ?_); refine uE 4 zM22 zP9E zP9P 57 rfl (by kernel_rfl) ?_) | ((with_reducible refine xR ?_); refine uE 6 zM22 zPAE zPAP 57 rfl (by kernel_rfl) ?_) | ((with_reducible refine xR ?_); refine uE 8 zM22 zPBE zPBP 57 rfl (by kernel_rfl) ?_) | ((with_reducible refine xS ?_); refine uD 9 zM22 zPCE zPCP 57 rfl (by kernel_rfl) ?_)) <;> ((try with_reducible intro K1 hK1); simp only [go_sem, ↓reduceIte, reduceCtorEq, nA, nB, nC, nD, nE, nF] <;> and_intros <;> first | (apply hK1; clear hK1 K1) | (intros; first | omega | decide) | skip))))
   by_cases r4 : rule = 4
   ·subst r4
    refine awp_cond (t := _) rfl (fun _ => ?_) (fun h9 => by simp at h9)
    (repeat (first | refine gO rfl ?_ | ((first | refine gR ?_ | (with_reducible refine wM ?_ ?_) | ((with_reducible refine xR ?_); refine uE 4 zM22 zP9E zP9P 57 rfl (by kernel_rfl) ?_) | ((with_reducible refine xR ?_); refine uE 6 zM22 zPAE zPAP 57 rfl (by kernel_rfl) ?_) | ((with_reducible refine xR ?_); refine uE 8 zM22 zPBE zPBP 57 rfl (by kernel_rfl) ?_) | ((with_reducible refine xS ?_); refine uD 9 zM22 zPCE zPCP 57 rfl (by kernel_rfl) ?_)) <;> ((try with_reducible intro K1 hK1); simp only [go_sem, ↓reduceIte, reduceCtorEq, nA, nB, nC, nD, nE, nF, ha, hb, encKp] <;> and_intros <;> first | (apply hK1; clear hK1 K1) | (intros; first | omega | decide) | skip))))
    refine (c1 _ _).mono ?_; rintro _ hz ⟨rfl, hh⟩; apply hK1; clear hK1 K1; rw [hh]; clear hh hz
    (repeat (first | refine gO rfl ?_ | ((first | refine gR ?_ | (with_reducible refine wM ?_ ?_) | ((with_reducible refine xR ?_); refine uE 4 zM22 zP9E zP9P 57 rfl (by kernel_rfl) ?_) | ((with_reducible refine xR ?_); refine uE 6 zM22 zPAE zPAP 57 rfl (by kernel_rfl) ?_) | ((with_reducible refine xR ?_); refine uE 8 zM22 zPBE zPBP 57 rfl (by kernel_rfl) ?_) | ((with_reducible refine xS ?_); refine uD 9 zM22 zPCE zPCP 57 rfl (by kernel_rfl) ?_)) <;> ((try with_reducible intro K1 hK1); simp only [go_sem, ↓reduceIte, reduceCtorEq, nA, nB, nC, nD, nE, nF, ha, hb, encKp] <;> and_intros <;> first | (apply hK1; clear hK1 K1) | (intros; first | omega | decide) | skip))))
    refine (c1 _ _).mono ?_; rintro _ hz ⟨rfl, hh⟩; apply hK1; clear hK1 K1; rw [hh]; clear hh hz
    (repeat (first | refine gO rfl ?_ | ((first | refine gR ?_ | (with_reducible refine wM ?_ ?_) | ((with_reducible refine xR ?_); refine uE 4 zM22 zP9E zP9P 57 rfl (by kernel_rfl) ?_) | ((with_reducible refine xR ?_); refine uE 6 zM22 zPAE zPAP 57 rfl (by kernel_rfl) ?_) | ((with_reducible refine xR ?_); refine uE 8 zM22 zPBE zPBP 57 rfl (by kernel_rfl) ?_) | ((with_reducible refine xS ?_); refine uD 9 zM22 zPCE zPCP 57 rfl (by kernel_rfl) ?_)) <;> ((try with_reducible intro K1 hK1); simp only [go_sem, ↓reduceIte, reduceCtorEq, nA, nB, nC, nD, nE, nF] <;> and_intros <;> first | (apply hK1; clear hK1 K1) | (intros; first | omega | decide) | skip))))
    refine (c2 _ _).mono ?_; rintro _ hz ⟨rfl, hh⟩; apply hK1; clear hK1 K1; rw [hh]; clear hh hz
    (repeat (first | refine gO rfl ?_ | ((first | refine gR ?_ | (with_reducible refine wM ?_ ?_) | ((with_reducible refine xR ?_); refine uE 4 zM22 zP9E zP9P 57 rfl (by kernel_rfl) ?_) | ((with_reducible refine xR ?_); refine uE 6 zM22 zPAE zPAP 57 rfl (by kernel_rfl) ?_) | ((with_reducible refine xR ?_); refine uE 8 zM22 zPBE zPBP 57 rfl (by kernel_rfl) ?_) | ((with_reducible refine xS ?_); refine uD 9 zM22 zPCE zPCP 57 rfl (by kernel_rfl) ?_)) <;> ((try with_reducible intro K1 hK1); simp only [go_sem, ↓reduceIte, reduceCtorEq, nA, nB, nC, nD, nE, nF] <;> and_intros <;> first | (apply hK1; clear hK1 K1) | (intros; first | omega | decide) | skip))))
    simp only [Tryz.results307, go_sem, ↓reduceIte, reduceCtorEq, nA, nB, nC, nD, nE, nF]
    exact ⟨_, _, Weak.refl _, Hp.le.refl _, by rw [cmpK, if_neg r2, if_neg r3, if_pos rfl], rfl⟩
   ·refine awp_cond (t := _) rfl (fun h9 => absurd (by simpa using h9) r4) (fun _ => ?_)
    (repeat (first | refine gO rfl ?_ | ((first | refine gR ?_ | (with_reducible refine wM ?_ ?_) | ((with_reducible refine xR ?_); refine uE 4 zM22 zP9E zP9P 57 rfl (by kernel_rfl) ?_) | ((with_reducible refine xR ?_); refine uE 6 zM22 zPAE zPAP 57 rfl (by kernel_rfl) ?_) | ((with_reducible refine xR ?_); refine uE 8 zM22 zPBE zPBP 57 rfl (by kernel_rfl) ?_) | ((with_reducible refine xS ?_); refine uD 9 zM22 zPCE zPCP 57 rfl (by kernel_rfl) ?_)) <;> ((try with_reducible intro K1 hK1); simp only [go_sem, ↓reduceIte, reduceCtorEq, nA, nB, nC, nD, nE, nF, ha, hb, encKp] <;> and_intros <;> first | (apply hK1; clear hK1 K1) | (intros; first | omega | decide) | skip))))
    refine (c1 _ _).mono ?_; rintro _ hz ⟨rfl, hh⟩; apply hK1; clear hK1 K1; rw [hh]; clear hh hz
    (repeat (first | refine gO rfl ?_ | ((first | refine gR ?_ | (with_reducible refine wM ?_ ?_) | ((with_reducible refine xR ?_); refine uE 4 zM22 zP9E zP9P 57 rfl (by kernel_rfl) ?_) | ((with_reducible refine xR ?_); refine uE 6 zM22 zPAE zPAP 57 rfl (by kernel_rfl) ?_) | ((with_reducible refine xR ?_); refine uE 8 zM22 zPBE zPBP 57 rfl (by kernel_rfl) ?_) | ((with_reducible refine xS ?_); refine uD 9 zM22 zPCE zPCP 57 rfl (by kernel_rfl) ?_)) <;> ((try with_reducible intro K1 hK1); simp only [go_sem, ↓reduceIte, reduceCtorEq, nA, nB, nC, nD, nE, nF] <;> and_intros <;> first | (apply hK1; clear hK1 K1) | (intros; first | omega | decide) | skip))))
    refine (c2 _ _).mono ?_; rintro _ hz ⟨rfl, hh⟩; apply hK1; clear hK1 K1; rw [hh]; clear hh hz
    (repeat (first | refine gO rfl ?_ | ((first | refine gR ?_ | (with_reducible refine wM ?_ ?_) | ((with_reducible refine xR ?_); refine uE 4 zM22 zP9E zP9P 57 rfl (by kernel_rfl) ?_) | ((with_reducible refine xR ?_); refine uE 6 zM22 zPAE zPAP 57 rfl (by kernel_rfl) ?_) | ((with_reducible refine xR ?_); refine uE 8 zM22 zPBE zPBP 57 rfl (by kernel_rfl) ?_) | ((with_reducible refine xS ?_); refine uD 9 zM22 zPCE zPCP 57 rfl (by kernel_rfl) ?_)) <;> ((try with_reducible intro K1 hK1); simp only [go_sem, ↓reduceIte, reduceCtorEq, nA, nB, nC, nD, nE, nF] <;> and_intros <;> first | (apply hK1; clear hK1 K1) | (intros; first | omega | decide) | skip))))
    simp only [Tryz.results307, go_sem, ↓reduceIte, reduceCtorEq, nA, nB, nC, nD, nE, nF]
    exact ⟨_, _, Weak.refl _, Hp.le.refl _, by rw [cmpK, if_neg r2, if_neg r3, if_neg r4, if_pos rfl], rfl⟩
abbrev zPDE : List Nat := [0, 1, 2, 3, 4, 5, 6, 7, 8, 9, 11, 12, 13, 14, 16, 17, 18, 19]
abbrev zPDP : List (Nat × List Nat × List Nat) := [(10, [12, 14, 17, 19], []), (15, [17, 19], []), (20, [], [21]), (22, [], [23, 24])]
abbrev zPEE : List Nat := [0, 1]
abbrev zPEP : List (Nat × List Nat × List Nat) := [(2, [], [3, 4, 5, 6, 7, 8, 9, 10, 11, 12]), (13, [], [14, 15])]
abbrev zPFE : List Nat := [0, 1, 2, 3, 4, 5, 6, 7, 8, 9, 11, 12, 13, 14, 16, 17, 18, 19]
abbrev zPFP : List (Nat × List Nat × List Nat) := [(10, [12, 14, 17, 19], []), (15, [17, 19], []), (20, [], [21]), (22, [], [23])]
attribute [go_sem] zPDE zPDP zPEE zPEP zPFE zPFP
def FmIn (f : Fm) : Prop := (0 ≤ f.wide ∧ f.wide ≤ 100000) ∧ (0 ≤ f.high ∧ f.high ≤ 100000)
theorem span_in {n m : Int} {u : Bool} (hm : 0 ≤ m) (h : spanB n u m = true) : 0 ≤ n ∧ n ≤ m := by
 unfold spanB at h
 cases u
 ·simp at h; omega
 ·simp at h; omega
theorem form_in {f : Fm} (h : formF f = 0) : FmIn f := by
 unfold formF at h
 split at h
 ·split at h
  ·split at h
   ·rename_i h3
    unfold fitB at h3
    simp only [Bool.and_eq_true] at h3
    exact ⟨span_in (by decide) h3.1.1.1.1, span_in (by decide) h3.1.1.1.2⟩
   ·cases h
  ·cases h
 ·cases h
theorem mul_in {x y : Int} (h1 : 0 ≤ x ∧ x ≤ 100000) (h2 : 0 ≤ y ∧ y ≤ 100000) : 0 ≤ x * y ∧ x * y ≤ 10000000000 :=
 ⟨Int.mul_nonneg h1.1 h2.1, by
  have := Int.mul_le_mul h1.2 h2.2 h2.1 (by decide : (0 : Int) ≤ 100000)
  simpa using this⟩
theorem orJ3 (a b c : Int) : orJ [a, b, c] = or3 a b c := by
 unfold or3
 rw [orJ]
 split
 ·rw [orJ]
  split
  ·rename_i e; rw [orJ]; split
   ·rename_i e2; rw [e2]; rfl
   ·rfl
  ·rfl
 ·rfl
theorem g_better (f o : Fm) (hf : FmIn f) (ho : FmIn o) (h : Hp) : ACalls Tryz.prog 130 [.agg (encFm f), .agg (encFm o)] h (fun r h' => r = .v (.bool (betB f o)) ∧ h' = h) := by
 obtain ⟨f1, f2, f3, f4, f5, f6, f7⟩ := f
 obtain ⟨o1, o2, o3, o4, o5, o6, o7⟩ := o
 obtain ⟨hf1, hf2⟩ := hf
 obtain ⟨ho1, ho2⟩ := ho
 simp only at hf1 hf2 ho1 ho2
 have m1 := mul_in hf1 hf2
 have m2 := mul_in ho1 ho2
 have c1 := fun h => g_cmpI (f3 * f4) (o3 * o4) h
 have c2 := fun h => g_cmpI f6 o6 h
 have c3 := fun h => g_cmpI o7 f7 h
 have hO := fun h => g_orK [cmpI (f3 * f4) (o3 * o4), cmpI f6 o6, cmpI o7 f7] h (by simp)
 have hor : orJ [cmpI (f3 * f4) (o3 * o4), cmpI f6 o6, cmpI o7 f7] = cmp3 ⟨f1, f2, f3, f4, f5, f6, f7⟩ ⟨o1, o2, o3, o4, o5, o6, o7⟩ := orJ3 _ _ _
 rw [hor] at hO
 clear hor
 unfold betB
 generalize cmp3 ⟨f1, f2, f3, f4, f5, f6, f7⟩ ⟨o1, o2, o3, o4, o5, o6, o7⟩ = z at *
 generalize cmpI (f3 * f4) (o3 * o4) = z1 at *
 generalize cmpI f6 o6 = z2 at *
 generalize cmpI o7 f7 = z3 at *
 simp only [List.map_cons, List.map_nil, encJ] at hO
 simp only [encFm]
 refine gE Tryz.func130 rfl (by kernel_rfl) 27 rfl fun c => ?_
 (repeat (first | refine gO rfl ?_ | ((first | refine gR ?_ | (with_reducible refine wM ?_ ?_) | ((with_reducible refine xS ?_); refine uD 1 zM22 zPDE zPDP 29 rfl (by kernel_rfl) ?_)) <;> ((try with_reducible intro K1 hK1); simp only [go_sem, ↓reduceIte, reduceCtorEq, nA, nB, nC, nD, nE, nF] <;> and_intros <;> first | (apply hK1; clear hK1 K1) | (intros; first | omega | decide) | skip))))
 refine (c1 _).mono ?_; rintro _ hz ⟨rfl, hh⟩; apply hK1; clear hK1 K1; rw [hh]; clear hh hz
 (repeat (first | refine gO rfl ?_ | ((first | refine gR ?_ | (with_reducible refine wM ?_ ?_) | ((with_reducible refine xS ?_); refine uD 1 zM22 zPDE zPDP 29 rfl (by kernel_rfl) ?_)) <;> ((try with_reducible intro K1 hK1); simp only [go_sem, ↓reduceIte, reduceCtorEq, nA, nB, nC, nD, nE, nF] <;> and_intros <;> first | (apply hK1; clear hK1 K1) | (intros; first | omega | decide) | skip))))
 all_goals try with_reducible rfl
 (repeat (first | refine gO rfl ?_ | ((first | refine gR ?_ | (with_reducible refine wM ?_ ?_) | ((with_reducible refine xS ?_); refine uD 1 zM22 zPDE zPDP 29 rfl (by kernel_rfl) ?_)) <;> ((try with_reducible intro K1 hK1); simp only [go_sem, ↓reduceIte, reduceCtorEq, nA, nB, nC, nD, nE, nF] <;> and_intros <;> first | (apply hK1; clear hK1 K1) | (intros; first | omega | decide) | skip))))
 refine (c2 _).mono ?_; rintro _ hz ⟨rfl, hh⟩; apply hK1; clear hK1 K1; rw [hh]; clear hh hz
 (repeat (first | refine gO rfl ?_ | ((first | refine gR ?_ | (with_reducible refine wM ?_ ?_) | ((with_reducible refine xS ?_); refine uD 1 zM22 zPDE zPDP 29 rfl (by kernel_rfl) ?_)) <;> ((try with_reducible intro K1 hK1); simp only [go_sem, ↓reduceIte, reduceCtorEq, nA, nB, nC, nD, nE, nF] <;> and_intros <;> first | (apply hK1; clear hK1 K1) | (intros; first | omega | decide) | skip))))
 all_goals try with_reducible rfl
 (repeat (first | refine gO rfl ?_ | ((first | refine gR ?_ | (with_reducible refine wM ?_ ?_) | ((with_reducible refine xS ?_); refine uD 1 zM22 zPDE zPDP 29 rfl (by kernel_rfl) ?_)) <;> ((try with_reducible intro K1 hK1); simp only [go_sem, ↓reduceIte, reduceCtorEq, nA, nB, nC, nD, nE, nF] <;> and_intros <;> first | (apply hK1; clear hK1 K1) | (intros; first | omega | decide) | skip))))
 refine (c3 _).mono ?_; rintro _ hz ⟨rfl, hh⟩; apply hK1; clear hK1 K1; rw [hh]; clear hh hz
 (repeat (first | refine gO rfl ?_ | ((first | refine gR ?_ | (with_reducible refine wM ?_ ?_) | ((with_reducible refine xS ?_); refine uD 1 zM22 zPDE zPDP 29 rfl (by kernel_rfl) ?_)) <;> ((try with_reducible intro K1 hK1); simp only [go_sem, ↓reduceIte, reduceCtorEq, nA, nB, nC, nD, nE, nF] <;> and_intros <;> first | (apply hK1; clear hK1 K1) | (intros; first | omega | decide) | skip))))
 all_goals try with_reducible rfl
 (repeat (first | refine gO rfl ?_ | ((first | refine gR ?_ | (with_reducible refine wM ?_ ?_) | ((with_reducible refine xS ?_); refine uD 1 zM22 zPDE zPDP 29 rfl (by kernel_rfl) ?_)) <;> ((try with_reducible intro K1 hK1); simp only [go_sem, ↓reduceIte, reduceCtorEq, nA, nB, nC, nD, nE, nF] <;> and_intros <;> first | (apply hK1; clear hK1 K1) | (intros; first | omega | decide) | skip))))
 refine (hO _).mono ?_; rintro _ hz ⟨rfl, hh⟩; apply hK1; clear hK1 K1; rw [hh]; clear hh hz
 (repeat (first | refine gO rfl ?_ | ((first | refine gR ?_ | (with_reducible refine wM ?_ ?_) | ((with_reducible refine xS ?_); refine uD 1 zM22 zPDE zPDP 29 rfl (by kernel_rfl) ?_)) <;> ((try with_reducible intro K1 hK1); simp only [go_sem, ↓reduceIte, reduceCtorEq, nA, nB, nC, nD, nE, nF] <;> and_intros <;> first | (apply hK1; clear hK1 K1) | (intros; first | omega | decide) | skip))))
 all_goals try with_reducible rfl
 (repeat (first | refine gO rfl ?_ | ((first | refine gR ?_ | (with_reducible refine wM ?_ ?_) | ((with_reducible refine xS ?_); refine uD 1 zM22 zPDE zPDP 29 rfl (by kernel_rfl) ?_)) <;> ((try with_reducible intro K1 hK1); simp only [go_sem, ↓reduceIte, reduceCtorEq, nA, nB, nC, nD, nE, nF] <;> and_intros <;> first | (apply hK1; clear hK1 K1) | (intros; first | omega | decide) | skip))))
 simp only [Tryz.results130, go_sem, ↓reduceIte, reduceCtorEq, nA, nB, nC, nD, nE, nF]
 exact ⟨_, _, Weak.refl _, Hp.le.refl _, rfl, rfl⟩
theorem g_best (p : Ab) (hp : AbOk p) (no since : Int) (fs : List Fm) (hl : fs.length ≤ 1000) (hin : ∀ f ∈ fs, FmIn f) (h : Hp) :
  ACalls Tryz.prog 65 [.agg (encAb p), .agg [.v (.int .i64 no), .v (.int .i64 since), .row 7 (fs.map encFm) none]] h (fun r h' => r = .v (.int .i64 (bestF p fs)) ∧ h' = h) := by
 have hml : (fs.map encFm).length = fs.length := List.length_map _
 have hS := fun f h => g_shows p hp f h
 obtain ⟨pv, hpv⟩ : ∃ x, encAb p = x := ⟨_, rfl⟩
 have hpl : ∃ a b c d e, pv = [a, b, c, d, e] := ⟨_, _, _, _, _, hpv.symm⟩
 rw [hpv] at hS ⊢
 obtain ⟨pa, pb, pc, pd, pe, rfl⟩ := hpl
 have hcut : cutLoc 0 pa = pa ∧ cutLoc 0 pb = pb ∧ cutLoc 0 pc = pc ∧ cutLoc 0 pd = pd ∧ cutLoc 0 pe = pe := by
  unfold encAb at hpv
  simp only [List.cons.injEq, and_true] at hpv
  obtain ⟨rfl, rfl, rfl, rfl, rfl⟩ := hpv
  exact ⟨rfl, rfl, rfl, rfl, rfl⟩
 clear hpv
 unfold bestF
 refine gE Tryz.func65 rfl (by kernel_rfl) 33 rfl fun c => ?_
 (repeat (first | refine gO rfl ?_ | ((first | refine gM zM25 ?_ | (with_reducible refine wM ?_ ?_) | ((with_reducible refine xS ?_); refine uD 5 zM25 zPEE zPEP 35 rfl (by kernel_rfl) ?_)) <;> ((try with_reducible intro K1 hK1); simp only [go_sem, ↓reduceIte, reduceCtorEq, nA, nB, nC, nD, nE, nF, hml] <;> and_intros <;> first | (apply hK1; clear hK1 K1) | (intros; first | omega | decide) | skip))))
 refine awp_loopC (rl false [2, 2, 1, 1, 3, 3, 23]) 0 (fun g s => ∃ (j : Nat), g + j = fs.length ∧
  s = ⟨(AV.junk :: AV.junk :: ((.ref [pa, pb, pc, pd, pe] 0) :: (.ref [.v (.int .i64 no), .v (.int .i64 since), .row 7 (fs.map encFm) none] 0) :: AV.junk :: ((.v (.int .i64 (bestL p fs j))) :: (jnk 3 ((.row 7 (fs.map encFm) none) :: (.v (.int .i64 fs.length)) :: (.v (.int .i64 j)) :: (jnk 23 [])))))), [], h⟩) fs.length ⟨0, by omega, rfl⟩ ?_
 rintro g _ ⟨j, hj, rfl⟩
 (repeat (first | refine gO rfl ?_ | ((first | refine gM zM25 ?_ | (with_reducible refine wM ?_ ?_) | ((with_reducible refine xS ?_); refine uD 5 zM25 zPEE zPEP 35 rfl (by kernel_rfl) ?_)) <;> ((try with_reducible intro K1 hK1); simp only [go_sem, ↓reduceIte, reduceCtorEq, nA, nB, nC, nD, nE, nF] <;> and_intros <;> first | (apply hK1; clear hK1 K1) | (intros; first | omega | decide) | skip))))
 refine awp_cond (t := _) rfl (fun h5 => ?_) (fun h5 => ?_)
 ·simp only [decide_eq_true_eq] at h5
  have hjl : j < fs.length := by omega
  have gx : (fs.map encFm).getD j [] = encFm (fs.getD j default) := getD_enc encFm fs j default hjl
  have hst : bestL p fs (j + 1) = if showB p (fs.getD j default) = true ∧ (bestL p fs j < 0 ∨ betB (fs.getD j default) (fs.getD (bestL p fs j).toNat default) = true) then (j : Int) else bestL p fs j := rfl
  have hbd := bestL_bd p fs j
  have hfi : FmIn (fs.getD j default) := hin _ (by rw [List.getD_eq_getElem?_getD, List.getElem?_eq_getElem hjl]; exact List.getElem_mem _)
  generalize bestL p fs j = b at *
  have gb : 0 ≤ b → (fs.map encFm).getD b.toNat [] = encFm (fs.getD b.toNat default) := fun hb => getD_enc encFm fs b.toNat default (by omega)
  have hgi : 0 ≤ b → FmIn (fs.getD b.toNat default) := fun hb => hin _ (by rw [List.getD_eq_getElem?_getD, List.getElem?_eq_getElem (by omega)]; exact List.getElem_mem _)
  generalize fs.getD b.toNat default = o at *
  generalize fs.getD j default = f at *
  have hSf := hS f
  have hBf := fun hb h => g_better f o hfi (hgi hb) h
  obtain ⟨f1, f2, f3, f4, f5, f6, f7⟩ := f
  obtain ⟨o1, o2, o3, o4, o5, o6, o7⟩ := o
  generalize hsB : showB p ⟨f1, f2, f3, f4, f5, f6, f7⟩ = sB at *
  generalize hbB : betB ⟨f1, f2, f3, f4, f5, f6, f7⟩ ⟨o1, o2, o3, o4, o5, o6, o7⟩ = bB at *
  simp only [encFm] at gx gb hSf hBf
  (repeat (first | refine gO rfl ?_ | ((first | refine gM zM25 ?_ | (with_reducible refine wM ?_ ?_) | ((with_reducible refine xS ?_); refine uD 5 zM25 zPEE zPEP 35 rfl (by kernel_rfl) ?_)) <;> ((try with_reducible intro K1 hK1); simp only [go_sem, ↓reduceIte, reduceCtorEq, nA, nB, nC, nD, nE, nF, hml, Int.toNat_natCast, gx] <;> and_intros <;> first | (apply hK1; clear hK1 K1) | (intros; first | omega | decide) | skip))))
  refine (hSf _).mono ?_; rintro _ hz ⟨rfl, hh⟩; apply hK1; clear hK1 K1; rw [hh]; clear hh hz
  cases sB with
  | false =>
   rw [if_neg (fun e => by cases e.1)] at hst
   (repeat (first | refine gO rfl ?_ | ((first | refine gM zM25 ?_ | (with_reducible refine wM ?_ ?_) | ((with_reducible refine xS ?_); refine uD 5 zM25 zPEE zPEP 35 rfl (by kernel_rfl) ?_)) <;> ((try with_reducible intro K1 hK1); simp only [go_sem, ↓reduceIte, reduceCtorEq, nA, nB, nC, nD, nE, nF] <;> and_intros <;> first | (apply hK1; clear hK1 K1) | (intros; first | omega | decide) | skip))))
   refine awp_cond (t := _) rfl (fun h9 => by cases h9) (fun _ => ?_)
   (repeat (first | refine gO rfl ?_ | ((first | refine gM zM25 ?_ | (with_reducible refine wM ?_ ?_) | ((with_reducible refine xS ?_); refine uD 5 zM25 zPEE zPEP 35 rfl (by kernel_rfl) ?_)) <;> ((try with_reducible intro K1 hK1); simp only [go_sem, ↓reduceIte, reduceCtorEq, nA, nB, nC, nD, nE, nF] <;> and_intros <;> first | (apply hK1; clear hK1 K1) | (intros; first | omega | decide) | skip))))
   exact ⟨g - 1, by omega, j + 1, by omega, by rw [hst]; rfl⟩
  | true =>
   by_cases hb : b < 0
   ·have dB : decide (b < 0) = true := decide_eq_true hb
    rw [if_pos ⟨rfl, .inl hb⟩] at hst
    (repeat (first | refine gO rfl ?_ | ((first | refine gM zM25 ?_ | (with_reducible refine wM ?_ ?_) | ((with_reducible refine xS ?_); refine uD 5 zM25 zPEE zPEP 35 rfl (by kernel_rfl) ?_)) <;> ((try with_reducible intro K1 hK1); simp only [go_sem, ↓reduceIte, reduceCtorEq, nA, nB, nC, nD, nE, nF, dB] <;> and_intros <;> first | (apply hK1; clear hK1 K1) | (intros; first | omega | decide) | skip))))
    refine awp_cond (t := _) rfl (fun _ => ?_) (fun h9 => by cases h9)
    (repeat (first | refine gO rfl ?_ | ((first | refine gM zM25 ?_ | (with_reducible refine wM ?_ ?_) | ((with_reducible refine xS ?_); refine uD 5 zM25 zPEE zPEP 35 rfl (by kernel_rfl) ?_)) <;> ((try with_reducible intro K1 hK1); simp only [go_sem, ↓reduceIte, reduceCtorEq, nA, nB, nC, nD, nE, nF] <;> and_intros <;> first | (apply hK1; clear hK1 K1) | (intros; first | omega | decide) | skip))))
    exact ⟨g - 1, by omega, j + 1, by omega, by rw [hst]; rfl⟩
   ·have dB : decide (b < 0) = false := decide_eq_false hb
    have gb2 := gb (by omega)
    have hB2 := hBf (by omega)
    (repeat (first | refine gO rfl ?_ | ((first | refine gM zM25 ?_ | (with_reducible refine wM ?_ ?_) | ((with_reducible refine xS ?_); refine uD 5 zM25 zPEE zPEP 35 rfl (by kernel_rfl) ?_)) <;> ((try with_reducible intro K1 hK1); simp only [go_sem, ↓reduceIte, reduceCtorEq, nA, nB, nC, nD, nE, nF, dB, gb2, hml] <;> and_intros <;> first | (apply hK1; clear hK1 K1) | (intros; first | omega | decide) | skip))))
    rotate_left
    ·exact fun h9 => h9.elim
    refine (hB2 _).mono ?_
    rintro _ hz9 ⟨rfl, hh9⟩
    refine ⟨rfl, ?_⟩
    apply hK1
    rw [hh9]
    clear hK1 K1 hh9 hz9
    cases bB with
    | true =>
     rw [if_pos ⟨rfl, .inr rfl⟩] at hst
     (repeat (first | refine gO rfl ?_ | ((first | refine gM zM25 ?_ | (with_reducible refine wM ?_ ?_) | ((with_reducible refine xS ?_); refine uD 5 zM25 zPEE zPEP 35 rfl (by kernel_rfl) ?_)) <;> ((try with_reducible intro K1 hK1); simp only [go_sem, ↓reduceIte, reduceCtorEq, nA, nB, nC, nD, nE, nF] <;> and_intros <;> first | (apply hK1; clear hK1 K1) | (intros; first | omega | decide) | skip))))
     refine awp_cond (t := _) rfl (fun _ => ?_) (fun h9 => by cases h9)
     (repeat (first | refine gO rfl ?_ | ((first | refine gM zM25 ?_ | (with_reducible refine wM ?_ ?_) | ((with_reducible refine xS ?_); refine uD 5 zM25 zPEE zPEP 35 rfl (by kernel_rfl) ?_)) <;> ((try with_reducible intro K1 hK1); simp only [go_sem, ↓reduceIte, reduceCtorEq, nA, nB, nC, nD, nE, nF] <;> and_intros <;> first | (apply hK1; clear hK1 K1) | (intros; first | omega | decide) | skip))))
     exact ⟨g - 1, by omega, j + 1, by omega, by rw [hst]; rfl⟩
    | false =>
     rw [if_neg (fun e => by rcases e.2 with e | e; exact hb e; cases e)] at hst
     (repeat (first | refine gO rfl ?_ | ((first | refine gM zM25 ?_ | (with_reducible refine wM ?_ ?_) | ((with_reducible refine xS ?_); refine uD 5 zM25 zPEE zPEP 35 rfl (by kernel_rfl) ?_)) <;> ((try with_reducible intro K1 hK1); simp only [go_sem, ↓reduceIte, reduceCtorEq, nA, nB, nC, nD, nE, nF] <;> and_intros <;> first | (apply hK1; clear hK1 K1) | (intros; first | omega | decide) | skip))))
     refine awp_cond (t := _) rfl (fun h9 => by cases h9) (fun _ => ?_)
     (repeat (first | refine gO rfl ?_ | ((first | refine gM zM25 ?_ | (with_reducible refine wM ?_ ?_) | ((with_reducible refine xS ?_); refine uD 5 zM25 zPEE zPEP 35 rfl (by kernel_rfl) ?_)) <;> ((try with_reducible intro K1 hK1); simp only [go_sem, ↓reduceIte, reduceCtorEq, nA, nB, nC, nD, nE, nF] <;> and_intros <;> first | (apply hK1; clear hK1 K1) | (intros; first | omega | decide) | skip))))
     exact ⟨g - 1, by omega, j + 1, by omega, by rw [hst]; rfl⟩
 ·simp only [decide_eq_false_iff_not] at h5
  have hjl : j = fs.length := by omega
  subst hjl
  (repeat (first | refine gO rfl ?_ | ((first | refine gM zM25 ?_ | (with_reducible refine wM ?_ ?_) | ((with_reducible refine xS ?_); refine uD 5 zM25 zPEE zPEP 35 rfl (by kernel_rfl) ?_)) <;> ((try with_reducible intro K1 hK1); simp only [go_sem, ↓reduceIte, reduceCtorEq, nA, nB, nC, nD, nE, nF] <;> and_intros <;> first | (apply hK1; clear hK1 K1) | (intros; first | omega | decide) | skip))))
  simp only [Tryz.results65, go_sem, ↓reduceIte, reduceCtorEq, nA, nB, nC, nD, nE, nF]
  exact ⟨_, _, Weak.refl _, Hp.le.refl _, rfl, rfl⟩
theorem g_bestForm (p : Ab) (hp : AbOk p) (no since : Int) (fs : List Fm) (hl : fs.length ≤ 1000) (hin : ∀ f ∈ fs, FmIn f) (h : Hp) :
  ACalls Tryz.prog 21 [.agg (encAb p), .agg [.v (.int .i64 no), .v (.int .i64 since), .row 7 (fs.map encFm) none]] h (fun r h' => r = .v (.int .i64 (bestF p fs)) ∧ h' = h) := by
 have hml : (fs.map encFm).length = fs.length := List.length_map _
 have hS := fun f h => g_showsForm p hp f h
 obtain ⟨pv, hpv⟩ : ∃ x, encAb p = x := ⟨_, rfl⟩
 have hpl : ∃ a b c d e, pv = [a, b, c, d, e] := ⟨_, _, _, _, _, hpv.symm⟩
 rw [hpv] at hS ⊢
 obtain ⟨pa, pb, pc, pd, pe, rfl⟩ := hpl
 have hcut : cutLoc 0 pa = pa ∧ cutLoc 0 pb = pb ∧ cutLoc 0 pc = pc ∧ cutLoc 0 pd = pd ∧ cutLoc 0 pe = pe := by
  unfold encAb at hpv
  simp only [List.cons.injEq, and_true] at hpv
  obtain ⟨rfl, rfl, rfl, rfl, rfl⟩ := hpv
  exact ⟨rfl, rfl, rfl, rfl, rfl⟩
 clear hpv
 unfold bestF
 refine gE Tryz.func21 rfl (by kernel_rfl) 54 rfl fun c => ?_
 (repeat (first | refine gO rfl ?_ | ((first | refine gM zM26 ?_ | (with_reducible refine wM ?_ ?_) | ((with_reducible refine xS ?_); refine uD 9 zM26 zPFE zPFP 56 rfl (by kernel_rfl) ?_)) <;> ((try with_reducible intro K1 hK1); simp only [go_sem, ↓reduceIte, reduceCtorEq, nA, nB, nC, nD, nE, nF, hml] <;> and_intros <;> first | (apply hK1; clear hK1 K1) | (intros; first | omega | decide) | skip))))
 refine awp_loopC (rl false [2, 2, 1, 1, 4, 3, 43]) 0 (fun g s => ∃ (j : Nat), g + j = fs.length ∧
  s = ⟨(AV.junk :: AV.junk :: ((.ref [pa, pb, pc, pd, pe] 0) :: (.ref [.v (.int .i64 no), .v (.int .i64 since), .row 7 (fs.map encFm) none] 0) :: AV.junk :: ((.v (.int .i64 (bestL p fs j))) :: (jnk 4 ((.row 7 (fs.map encFm) none) :: (.v (.int .i64 fs.length)) :: (.v (.int .i64 j)) :: (jnk 43 [])))))), [], h⟩) fs.length ⟨0, by omega, rfl⟩ ?_
 rintro g _ ⟨j, hj, rfl⟩
 (repeat (first | refine gO rfl ?_ | ((first | refine gM zM26 ?_ | (with_reducible refine wM ?_ ?_) | ((with_reducible refine xS ?_); refine uD 9 zM26 zPFE zPFP 56 rfl (by kernel_rfl) ?_)) <;> ((try with_reducible intro K1 hK1); simp only [go_sem, ↓reduceIte, reduceCtorEq, nA, nB, nC, nD, nE, nF] <;> and_intros <;> first | (apply hK1; clear hK1 K1) | (intros; first | omega | decide) | skip))))
 refine awp_cond (t := _) rfl (fun h5 => ?_) (fun h5 => ?_)
 ·simp only [decide_eq_true_eq] at h5
  have hjl : j < fs.length := by omega
  have gx : (fs.map encFm).getD j [] = encFm (fs.getD j default) := getD_enc encFm fs j default hjl
  have hst : bestL p fs (j + 1) = if showB p (fs.getD j default) = true ∧ (bestL p fs j < 0 ∨ betB (fs.getD j default) (fs.getD (bestL p fs j).toNat default) = true) then (j : Int) else bestL p fs j := rfl
  have hbd := bestL_bd p fs j
  have hfi : FmIn (fs.getD j default) := hin _ (by rw [List.getD_eq_getElem?_getD, List.getElem?_eq_getElem hjl]; exact List.getElem_mem _)
  generalize bestL p fs j = b at *
  have gb : 0 ≤ b → (fs.map encFm).getD b.toNat [] = encFm (fs.getD b.toNat default) := fun hb => getD_enc encFm fs b.toNat default (by omega)
  have hgi : 0 ≤ b → FmIn (fs.getD b.toNat default) := fun hb => hin _ (by rw [List.getD_eq_getElem?_getD, List.getElem?_eq_getElem (by omega)]; exact List.getElem_mem _)
  generalize fs.getD b.toNat default = o at *
  generalize fs.getD j default = f at *
  have hSf := hS f
  obtain ⟨f1, f2, f3, f4, f5, f6, f7⟩ := f
  obtain ⟨o1, o2, o3, o4, o5, o6, o7⟩ := o
  generalize hsB : showB p ⟨f1, f2, f3, f4, f5, f6, f7⟩ = sB at *
  generalize hbB : betB ⟨f1, f2, f3, f4, f5, f6, f7⟩ ⟨o1, o2, o3, o4, o5, o6, o7⟩ = bB at *
  simp only [encFm] at gx gb hSf hfi hgi
  (repeat (first | refine gO rfl ?_ | ((first | refine gM zM26 ?_ | (with_reducible refine wM ?_ ?_) | ((with_reducible refine xS ?_); refine uD 9 zM26 zPFE zPFP 56 rfl (by kernel_rfl) ?_)) <;> ((try with_reducible intro K1 hK1); simp only [go_sem, ↓reduceIte, reduceCtorEq, nA, nB, nC, nD, nE, nF, hml, Int.toNat_natCast, gx] <;> and_intros <;> first | (apply hK1; clear hK1 K1) | (intros; first | omega | decide) | skip))))
  refine (hSf _).mono ?_; rintro _ hz ⟨rfl, hh⟩; apply hK1; clear hK1 K1; rw [hh]; clear hh hz
  cases sB with
  | false =>
   rw [if_neg (fun e => by cases e.1)] at hst
   (repeat (first | refine gO rfl ?_ | ((first | refine gM zM26 ?_ | (with_reducible refine wM ?_ ?_) | ((with_reducible refine xS ?_); refine uD 9 zM26 zPFE zPFP 56 rfl (by kernel_rfl) ?_)) <;> ((try with_reducible intro K1 hK1); simp only [go_sem, ↓reduceIte, reduceCtorEq, nA, nB, nC, nD, nE, nF, Bool.not_false] <;> and_intros <;> first | (apply hK1; clear hK1 K1) | (intros; first | omega | decide) | skip))))
   refine awp_cond (t := _) rfl (fun _ => ?_) (fun h9 => by cases h9)
   (repeat (first | refine gO rfl ?_ | ((first | refine gM zM26 ?_ | (with_reducible refine wM ?_ ?_) | ((with_reducible refine xS ?_); refine uD 9 zM26 zPFE zPFP 56 rfl (by kernel_rfl) ?_)) <;> ((try with_reducible intro K1 hK1); simp only [go_sem, ↓reduceIte, reduceCtorEq, nA, nB, nC, nD, nE, nF] <;> and_intros <;> first | (apply hK1; clear hK1 K1) | (intros; first | omega | decide) | skip))))
   exact ⟨g - 1, by omega, j + 1, by omega, by rw [hst]; rfl⟩
  | true =>
   (repeat (first | refine gO rfl ?_ | ((first | refine gM zM26 ?_ | (with_reducible refine wM ?_ ?_) | ((with_reducible refine xS ?_); refine uD 9 zM26 zPFE zPFP 56 rfl (by kernel_rfl) ?_)) <;> ((try with_reducible intro K1 hK1); simp only [go_sem, ↓reduceIte, reduceCtorEq, nA, nB, nC, nD, nE, nF, Bool.not_true] <;> and_intros <;> first | (apply hK1; clear hK1 K1) | (intros; first | omega | decide) | skip))))
   refine awp_cond (t := _) rfl (fun h9 => by cases h9) (fun _ => ?_)
   by_cases hb : b < 0
   ·have dB : decide (b < 0) = true := decide_eq_true hb
    rw [if_pos ⟨rfl, .inl hb⟩] at hst
    (repeat (first | refine gO rfl ?_ | ((first | refine gM zM26 ?_ | (with_reducible refine wM ?_ ?_) | ((with_reducible refine xS ?_); refine uD 9 zM26 zPFE zPFP 56 rfl (by kernel_rfl) ?_)) <;> ((try with_reducible intro K1 hK1); simp only [go_sem, ↓reduceIte, reduceCtorEq, nA, nB, nC, nD, nE, nF, dB] <;> and_intros <;> first | (apply hK1; clear hK1 K1) | (intros; first | omega | decide) | skip))))
    refine awp_cond (t := _) rfl (fun _ => ?_) (fun h9 => by cases h9)
    (repeat (first | refine gO rfl ?_ | ((first | refine gM zM26 ?_ | (with_reducible refine wM ?_ ?_) | ((with_reducible refine xS ?_); refine uD 9 zM26 zPFE zPFP 56 rfl (by kernel_rfl) ?_)) <;> ((try with_reducible intro K1 hK1); simp only [go_sem, ↓reduceIte, reduceCtorEq, nA, nB, nC, nD, nE, nF] <;> and_intros <;> first | (apply hK1; clear hK1 K1) | (intros; first | omega | decide) | skip))))
    exact ⟨g - 1, by omega, j + 1, by omega, by rw [hst]; rfl⟩
   ·have dB : decide (b < 0) = false := decide_eq_false hb
    have gb2 := gb (by omega)
    obtain ⟨hf1, hf2⟩ := hfi
    obtain ⟨ho1, ho2⟩ := hgi (by omega)
    simp only at hf1 hf2 ho1 ho2
    have m1 := mul_in hf1 hf2
    have m2 := mul_in ho1 ho2
    have c1 := fun h => g_cmpI (f3 * f4) (o3 * o4) h
    have c2 := fun h => g_cmpI f6 o6 h
    have c3 := fun h => g_cmpI o7 f7 h
    have hO := fun h => g_orK [cmpI (f3 * f4) (o3 * o4), cmpI f6 o6, cmpI o7 f7] h (by simp)
    have hor : orJ [cmpI (f3 * f4) (o3 * o4), cmpI f6 o6, cmpI o7 f7] = cmp3 ⟨f1, f2, f3, f4, f5, f6, f7⟩ ⟨o1, o2, o3, o4, o5, o6, o7⟩ := orJ3 _ _ _
    rw [hor] at hO
    clear hor
    unfold betB at hbB
    generalize cmp3 ⟨f1, f2, f3, f4, f5, f6, f7⟩ ⟨o1, o2, o3, o4, o5, o6, o7⟩ = z at *
    generalize cmpI (f3 * f4) (o3 * o4) = z1 at *
    generalize cmpI f6 o6 = z2 at *
    generalize cmpI o7 f7 = z3 at *
    simp only [List.map_cons, List.map_nil, encJ] at hO
    (repeat (first | refine gO rfl ?_ | ((first | refine gM zM26 ?_ | (with_reducible refine wM ?_ ?_) | ((with_reducible refine xS ?_); refine uD 9 zM26 zPFE zPFP 56 rfl (by kernel_rfl) ?_)) <;> ((try with_reducible intro K1 hK1); simp only [go_sem, ↓reduceIte, reduceCtorEq, nA, nB, nC, nD, nE, nF, dB] <;> and_intros <;> first | (apply hK1; clear hK1 K1) | (intros; first | omega | decide) | skip))))
    refine awp_cond (t := _) rfl (fun h9 => by cases h9) (fun _ => ?_)
    (repeat (first | refine gO rfl ?_ | ((first | refine gM zM26 ?_ | (with_reducible refine wM ?_ ?_) | ((with_reducible refine xS ?_); refine uD 9 zM26 zPFE zPFP 56 rfl (by kernel_rfl) ?_)) <;> ((try with_reducible intro K1 hK1); simp only [go_sem, ↓reduceIte, reduceCtorEq, nA, nB, nC, nD, nE, nF, gb2, hml] <;> and_intros <;> first | (apply hK1; clear hK1 K1) | (intros; first | omega | decide) | skip))))
    refine (c1 _).mono ?_; rintro _ hz ⟨rfl, hh⟩; apply hK1; clear hK1 K1; rw [hh]; clear hh hz
    (repeat (first | refine gO rfl ?_ | ((first | refine gM zM26 ?_ | (with_reducible refine wM ?_ ?_) | ((with_reducible refine xS ?_); refine uD 9 zM26 zPFE zPFP 56 rfl (by kernel_rfl) ?_)) <;> ((try with_reducible intro K1 hK1); simp only [go_sem, ↓reduceIte, reduceCtorEq, nA, nB, nC, nD, nE, nF] <;> and_intros <;> first | (apply hK1; clear hK1 K1) | (intros; first | omega | decide) | skip))))
    all_goals try with_reducible rfl
    (repeat (first | refine gO rfl ?_ | ((first | refine gM zM26 ?_ | (with_reducible refine wM ?_ ?_) | ((with_reducible refine xS ?_); refine uD 9 zM26 zPFE zPFP 56 rfl (by kernel_rfl) ?_)) <;> ((try with_reducible intro K1 hK1); simp only [go_sem, ↓reduceIte, reduceCtorEq, nA, nB, nC, nD, nE, nF] <;> and_intros <;> first | (apply hK1; clear hK1 K1) | (intros; first | omega | decide) | skip))))
    refine (c2 _).mono ?_; rintro _ hz ⟨rfl, hh⟩; apply hK1; clear hK1 K1; rw [hh]; clear hh hz
    (repeat (first | refine gO rfl ?_ | ((first | refine gM zM26 ?_ | (with_reducible refine wM ?_ ?_) | ((with_reducible refine xS ?_); refine uD 9 zM26 zPFE zPFP 56 rfl (by kernel_rfl) ?_)) <;> ((try with_reducible intro K1 hK1); simp only [go_sem, ↓reduceIte, reduceCtorEq, nA, nB, nC, nD, nE, nF] <;> and_intros <;> first | (apply hK1; clear hK1 K1) | (intros; first | omega | decide) | skip))))
    all_goals try with_reducible rfl
    (repeat (first | refine gO rfl ?_ | ((first | refine gM zM26 ?_ | (with_reducible refine wM ?_ ?_) | ((with_reducible refine xS ?_); refine uD 9 zM26 zPFE zPFP 56 rfl (by kernel_rfl) ?_)) <;> ((try with_reducible intro K1 hK1); simp only [go_sem, ↓reduceIte, reduceCtorEq, nA, nB, nC, nD, nE, nF] <;> and_intros <;> first | (apply hK1; clear hK1 K1) | (intros; first | omega | decide) | skip))))
    refine (c3 _).mono ?_; rintro _ hz ⟨rfl, hh⟩; apply hK1; clear hK1 K1; rw [hh]; clear hh hz
    (repeat (first | refine gO rfl ?_ | ((first | refine gM zM26 ?_ | (with_reducible refine wM ?_ ?_) | ((with_reducible refine xS ?_); refine uD 9 zM26 zPFE zPFP 56 rfl (by kernel_rfl) ?_)) <;> ((try with_reducible intro K1 hK1); simp only [go_sem, ↓reduceIte, reduceCtorEq, nA, nB, nC, nD, nE, nF] <;> and_intros <;> first | (apply hK1; clear hK1 K1) | (intros; first | omega | decide) | skip))))
    all_goals try with_reducible rfl
    (repeat (first | refine gO rfl ?_ | ((first | refine gM zM26 ?_ | (with_reducible refine wM ?_ ?_) | ((with_reducible refine xS ?_); refine uD 9 zM26 zPFE zPFP 56 rfl (by kernel_rfl) ?_)) <;> ((try with_reducible intro K1 hK1); simp only [go_sem, ↓reduceIte, reduceCtorEq, nA, nB, nC, nD, nE, nF] <;> and_intros <;> first | (apply hK1; clear hK1 K1) | (intros; first | omega | decide) | skip))))
    refine (hO _).mono ?_; rintro _ hz ⟨rfl, hh⟩; apply hK1; clear hK1 K1; rw [hh]; clear hh hz
    (repeat (first | refine gO rfl ?_ | ((first | refine gM zM26 ?_ | (with_reducible refine wM ?_ ?_) | ((with_reducible refine xS ?_); refine uD 9 zM26 zPFE zPFP 56 rfl (by kernel_rfl) ?_)) <;> ((try with_reducible intro K1 hK1); simp only [go_sem, ↓reduceIte, reduceCtorEq, nA, nB, nC, nD, nE, nF] <;> and_intros <;> first | (apply hK1; clear hK1 K1) | (intros; first | omega | decide) | skip))))
    all_goals try with_reducible rfl
    (repeat (first | refine gO rfl ?_ | ((first | refine gM zM26 ?_ | (with_reducible refine wM ?_ ?_) | ((with_reducible refine xS ?_); refine uD 9 zM26 zPFE zPFP 56 rfl (by kernel_rfl) ?_)) <;> ((try with_reducible intro K1 hK1); simp only [go_sem, ↓reduceIte, reduceCtorEq, nA, nB, nC, nD, nE, nF] <;> and_intros <;> first | (apply hK1; clear hK1 K1) | (intros; first | omega | decide) | skip))))
    cases bB with
    | true =>
     rw [if_pos ⟨rfl, .inr rfl⟩] at hst
     refine awp_cond (t := _) rfl (fun _ => ?_) (fun h9 => by rw [hbB] at h9; cases h9)
     (repeat (first | refine gO rfl ?_ | ((first | refine gM zM26 ?_ | (with_reducible refine wM ?_ ?_) | ((with_reducible refine xS ?_); refine uD 9 zM26 zPFE zPFP 56 rfl (by kernel_rfl) ?_)) <;> ((try with_reducible intro K1 hK1); simp only [go_sem, ↓reduceIte, reduceCtorEq, nA, nB, nC, nD, nE, nF] <;> and_intros <;> first | (apply hK1; clear hK1 K1) | (intros; first | omega | decide) | skip))))
     exact ⟨g - 1, by omega, j + 1, by omega, by rw [hst]; rfl⟩
    | false =>
     rw [if_neg (fun e => by rcases e.2 with e | e; exact hb e; cases e)] at hst
     refine awp_cond (t := _) rfl (fun h9 => by rw [hbB] at h9; cases h9) (fun _ => ?_)
     (repeat (first | refine gO rfl ?_ | ((first | refine gM zM26 ?_ | (with_reducible refine wM ?_ ?_) | ((with_reducible refine xS ?_); refine uD 9 zM26 zPFE zPFP 56 rfl (by kernel_rfl) ?_)) <;> ((try with_reducible intro K1 hK1); simp only [go_sem, ↓reduceIte, reduceCtorEq, nA, nB, nC, nD, nE, nF] <;> and_intros <;> first | (apply hK1; clear hK1 K1) | (intros; first | omega | decide) | skip))))
     exact ⟨g - 1, by omega, j + 1, by omega, by rw [hst]; rfl⟩
 ·simp only [decide_eq_false_iff_not] at h5
  have hjl : j = fs.length := by omega
  subst hjl
  (repeat (first | refine gO rfl ?_ | ((first | refine gM zM26 ?_ | (with_reducible refine wM ?_ ?_) | ((with_reducible refine xS ?_); refine uD 9 zM26 zPFE zPFP 56 rfl (by kernel_rfl) ?_)) <;> ((try with_reducible intro K1 hK1); simp only [go_sem, ↓reduceIte, reduceCtorEq, nA, nB, nC, nD, nE, nF] <;> and_intros <;> first | (apply hK1; clear hK1 K1) | (intros; first | omega | decide) | skip))))
  simp only [Tryz.results21, go_sem, ↓reduceIte, reduceCtorEq, nA, nB, nC, nD, nE, nF]
  exact ⟨_, _, Weak.refl _, Hp.le.refl _, rfl, rfl⟩
open Go Go.RowKit Go.Shelf
section
attribute [local go_sem] Oper.semAt_some
def uptoB {α : Type} (f : Nat → α) (k : Nat) : List α := (List.range k).map f
theorem uptoB_succ {α : Type} (f : Nat → α) (k : Nat) : uptoB f (k + 1) = uptoB f k ++ [f k] := by simp [uptoB, List.range_succ]
theorem uptoB_length {α : Type} (f : Nat → α) (k : Nat) : (uptoB f k).length = k := by simp [uptoB]
abbrev IV := Int × (Int × Int × (Option Addr × Nat × Nat))
def svV (p : Option Addr × Nat × Nat) : Value := .slice p.1 p.2.1 p.2.2
def ivF (z : Nat → Int × Int × (Option Addr × Nat × Nat)) (len j : Nat) : IV := (((len - 1 - j : Nat) : Int), z (len - 1 - j))
set_option maxRecDepth 100000 in
set_option maxHeartbeats 2000000 in
theorem back1_in (F : Fence) (n : Nat) (hF : F.fn 212) (hro : F.round = none) (hn : 1 ≤ n) (l Bs n₀ b off len cap : Nat) (z : Nat → Int × Int × (Option Addr × Nat × Nat)) (hreach : len ≤ 1000000) (hb : b < n₀) (J Jx : List IV → World → Prop)
  (hY : ∀ pre x W, J pre W → pre.length < len → YieldAt F (n - 1) Tryz.prog l #[.int .i64 x.1, .agg #[.int .i64 x.2.1, .int .i64 x.2.2.1, .slice x.2.2.2.1 x.2.2.2.2.1 x.2.2.2.2.2]] W fun e W' =>
   (e = .returned (.bool true) ∧ J (pre ++ [x]) W' ∧ Below n₀ W W') ∨ (e = .returned (.bool false) ∧ Jx (pre ++ [x]) W'))
  (W : World) (hBs : W.cell? ⟨Bs, 0, none⟩ = some (.slice (some ⟨b, off, none⟩) len cap)) (hBn : Bs < n₀) (hc : ∀ j, j < len → W.cell? ⟨b, off + j * 3, none⟩ = some (.int .i64 (z j).1) ∧ W.cell? ⟨b, off + j * 3 + 1, none⟩ = some (.int .i64 (z j).2.1) ∧ W.cell? ⟨b, off + j * 3 + 2, none⟩ = some (.slice (z j).2.2.1 (z j).2.2.2.1 (z j).2.2.2.2)) (h0 : J [] W) :
  CallsIn F n Tryz.prog 212 #[.func (.yield l) #[] #[], .pointer (some ⟨Bs, 0, none⟩)] W fun e W' => (∃ v, e = .returned v) ∧
   ((∃ ys, ys = uptoB (ivF z len) len ∧ J ys W') ∨ (∃ pre, (∃ k, k ≤ len ∧ pre = uptoB (ivF z len) k) ∧ Jx pre W')) := by
 refine callsIn_of_wp Tryz.func212 rfl hF ?_ hro
 simp only [Tryz.ntmps212, List.size_toArray, List.length_cons, List.length_nil, Nat.reduceAdd, Nat.reduceSub, Array.replicate_succ, Array.replicate_zero, List.push_toArray, List.append_toArray, List.nil_append, List.cons_append]
 gi_wp2
 gi_loopw [3] (fun i wr => ∃ k : Nat, k ≤ len ∧ i = .int .i64 ((len : Int) - 1 - k) ∧ J (uptoB (ivF z len) k) wr ∧ Below n₀ W wr)
  (fun i _ => (intOf i + 1).toNat)
 case atStart => exact ⟨0, Nat.zero_le _, by simp, h0, Below.refl _ _⟩
 case round =>
  obtain ⟨k, hk, rfl, hJs, hnx⟩ := hrel
  have hBw := (hnx.cell (p := ⟨Bs, 0, none⟩) hBn).trans hBs
  by_cases hlt : k < len
  ·obtain ⟨m, hm⟩ : ∃ m : Nat, len - 1 - k = m := ⟨_, rfl⟩
   have em : (len : Int) - 1 - k = m := by omega
   have hml : m < len := by omega
   obtain ⟨c0, c1, c2⟩ := hc m hml
   have d0 := (hnx.cell (p := ⟨b, off + m * 3, none⟩) hb).trans c0
   have d1 := (hnx.cell (p := ⟨b, off + m * 3 + 1, none⟩) hb).trans c1
   have d2 := (hnx.cell (p := ⟨b, off + m * 3 + 2, none⟩) hb).trans c2
   have ez : ivF z len k = ((m : Int), z m) := by unfold ivF; rw [hm]
   obtain ⟨fn, tmps, assign, body, hy, hR⟩ := hY _ (ivF z len k) wr hJs (by rw [uptoB_length]; exact hlt)
   rw [ez] at hy
   dsimp only at hy
   simp only [em]
   clear c0 c1 c2 hm
   gi_wp2
   refine hR.mono ?_
   rintro e W3 (⟨rfl, hJ3, hk3⟩ | ⟨rfl, hJx3⟩)
   ·gi_wp2
    go_roundw
    case rel => exact ⟨k + 1, by omega, by congr 1; omega, by rw [uptoB_succ]; exact hJ3, hnx.trans hk3⟩
    case measure => simp [intOf]
   ·gi_wp2
    refine bodyPost_ret (results_none rfl _ _ _) rfl ?_
    exact ⟨⟨_, rfl⟩, .inr ⟨_, ⟨k + 1, by omega, (uptoB_succ _ _).symm⟩, hJx3⟩⟩
  ·obtain rfl : k = len := by omega
   have em : (k : Int) - 1 - k = -1 := by omega
   simp only [em]
   gi_wp2
   go_end0
   exact ⟨⟨_, rfl⟩, .inl ⟨_, rfl, hJs⟩⟩
set_option maxRecDepth 100000 in
set_option maxHeartbeats 1000000 in
theorem back1_nil (F : Fence) (n : Nat) (hF : F.fn 212) (hro : F.round = none) (l Bs cap : Nat) (A : Option Addr) (J : List IV → World → Prop) (W : World) (hBs : W.cell? ⟨Bs, 0, none⟩ = some (.slice A 0 cap)) (h0 : J [] W) :
  CallsIn F n Tryz.prog 212 #[.func (.yield l) #[] #[], .pointer (some ⟨Bs, 0, none⟩)] W fun e W' => (∃ v, e = .returned v) ∧ J [] W' := by
 refine callsIn_of_wp Tryz.func212 rfl hF ?_ hro
 simp only [Tryz.ntmps212, List.size_toArray, List.length_cons, List.length_nil, Nat.reduceAdd, Nat.reduceSub, Array.replicate_succ, Array.replicate_zero, List.push_toArray, List.append_toArray, List.nil_append, List.cons_append]
 gi_wp2
 gi_loopw [3] (fun i wr => i = .int .i64 (-1) ∧ J [] wr) (fun _ _ => 0)
 case atStart => exact ⟨rfl, h0⟩
 case round =>
  obtain ⟨rfl, hJs⟩ := hrel
  gi_wp2
  go_end0
  exact ⟨⟨_, rfl⟩, hJs⟩
set_option maxHeartbeats 1000000 in
theorem back_in (F : Fence) (n : Nat) (hF : F.fn 149) (hro : F.round = none) (a : Option Addr) (len cap : Nat) (w : World) :
  CallsIn F n Tryz.prog 149 #[.slice a len cap] w fun e w' => e = .returned (.func (.func 212) #[] #[.pointer (some ⟨w.heap.size, 0, none⟩)]) ∧ w' = w.alloc (.cells #[.slice a len cap] 50) := by
 refine callsIn_of_wp Tryz.func149 rfl hF ?_ hro
 simp only [Tryz.ntmps149, List.size_toArray, List.length_cons, List.length_nil, Nat.reduceAdd, Nat.reduceSub, Array.replicate_succ, Array.replicate_zero, List.push_toArray, List.append_toArray, List.nil_append, List.cons_append]
 gi_wp2
 go_ret
 exact ⟨rfl, rfl⟩
def VnAt (n₀ : Nat) (W : World) (A : Option Addr) (len : Nat) (z : Nat → Int × Int × (Option Addr × Nat × Nat)) : Prop :=
 len = 0 ∨ ∃ b off, A = some ⟨b, off, none⟩ ∧ b < n₀ ∧ ∀ j, j < len → W.cell? ⟨b, off + j * 3, none⟩ = some (.int .i64 (z j).1) ∧ W.cell? ⟨b, off + j * 3 + 1, none⟩ = some (.int .i64 (z j).2.1) ∧ W.cell? ⟨b, off + j * 3 + 2, none⟩ = some (.slice (z j).2.2.1 (z j).2.2.2.1 (z j).2.2.2.2)
theorem VnAt.below {n₀ : Nat} {U W : World} (h : Below n₀ U W) {A : Option Addr} {len : Nat} {z : Nat → Int × Int × (Option Addr × Nat × Nat)} : VnAt n₀ U A len z → VnAt n₀ W A len z
 | .inl e => .inl e
 | .inr ⟨b, off, e, hb, hc⟩ => .inr ⟨b, off, e, hb, fun j hj => ⟨(h.cell (p := ⟨b, off + j * 3, none⟩) hb).trans (hc j hj).1, (h.cell (p := ⟨b, off + j * 3 + 1, none⟩) hb).trans (hc j hj).2.1, (h.cell (p := ⟨b, off + j * 3 + 2, none⟩) hb).trans (hc j hj).2.2⟩⟩
theorem back_stops (F : Fence) (n : Nat) (hF : F.fn 212) (hro : F.round = none) (hn : 1 ≤ n) (Bs n₀ : Nat) (A : Option Addr) (len cap : Nat) (z : Nat → Int × Int × (Option Addr × Nat × Nat)) (hreach : len ≤ 1000000) (w : World) (hBs : Bs < n₀) (hn₀ : n₀ ≤ w.heap.size)
  (hc : w.cell? ⟨Bs, 0, none⟩ = some (.slice A len cap)) (hI : VnAt n₀ w A len z) :
  SeqStopsK F n Tryz.prog 212 #[.pointer (some ⟨Bs, 0, none⟩)] (fun x : IV => #[Value.int .i64 x.1, .agg #[.int .i64 x.2.1, .int .i64 x.2.2.1, .slice x.2.2.2.1 x.2.2.2.2.1 x.2.2.2.2.2]]) (Below n₀) (fun ys => ys = uptoB (ivF z len) len)
   (fun pre => ∃ k, k ≤ len ∧ pre = uptoB (ivF z len) k) len w := fun l J Jx W hW _ _ hY h0 => by
 have hc' := (hW.cell (p := ⟨Bs, 0, none⟩) (Nat.lt_of_lt_of_le hBs hn₀)).trans hc
 rcases hI.below (hW.mono hn₀) with rfl | ⟨b, off, rfl, hb, hcs⟩
 ·exact (back1_nil F n hF hro l Bs cap A J W hc' h0).mono fun e W' ⟨he, hj⟩ => ⟨he, .inl ⟨_, rfl, hj⟩⟩
 ·exact back1_in F n hF hro hn l Bs n₀ b off len cap z hreach hb J Jx hY W hc' hBs hcs h0
def RC (s : Nat) (at0 : Int) (x y v : Value) (bl : Bool) (W : World) : Prop :=
 W.cell? ⟨s + 1, 0, none⟩ = some (.int .i64 at0) ∧ (W.cell? ⟨s + 1 + 1, 0, none⟩ = some x ∧ W.cell? ⟨s + 1 + 1, 1, none⟩ = some y ∧ W.cell? ⟨s + 1 + 1, 2, none⟩ = some v) ∧
  (W.frozen? ⟨s + 1 + 1, 0, none⟩ = false ∧ W.frozen? ⟨s + 1 + 1, 1, none⟩ = false ∧ W.frozen? ⟨s + 1 + 1, 2, none⟩ = false) ∧ W.cell? ⟨s + 1 + 1 + 1, 0, none⟩ = some (.bool bl) ∧ W.frozen? ⟨s + 1 + 1 + 1, 0, none⟩ = false
theorem rc_kept {s : Nat} {at0 : Int} {x y v : Value} {bl : Bool} {U W : World} {row : Option Nat} (h : RC s at0 x y v bl U) (hg : U.grownBy W row) (hr : ∀ r, row = some r → ∃ o : Obj, U.heap[r]? = some o ∧ o.isCells = false) : RC s at0 x y v bl W :=
 ⟨cell_kept h.1 hg hr, ⟨cell_kept h.2.1.1 hg hr, cell_kept h.2.1.2.1 hg hr, cell_kept h.2.1.2.2 hg hr⟩,
  ⟨(frozen_kept h.2.1.1 hg hr).trans h.2.2.1.1, (frozen_kept h.2.1.2.1 hg hr).trans h.2.2.1.2.1, (frozen_kept h.2.1.2.2 hg hr).trans h.2.2.1.2.2⟩, cell_kept h.2.2.2.1 hg hr, (frozen_kept h.2.2.2.1 hg hr).trans h.2.2.2.2⟩
theorem cvn_new (w : World) (cs : Array Value) (t : TypeId) (i : Nat) (v : Value) (h : cs[i]? = some v) : (w.alloc (.cells cs t)).cell? ⟨w.heap.size, i, none⟩ = some v := by
 rw [World.cell?_alloc_at _ _ _ _ rfl, h]
theorem fvn_new (w : World) (cs : Array Value) (t : TypeId) (i : Nat) : (w.alloc (.cells cs t)).frozen? ⟨w.heap.size, i, none⟩ = false := by
 unfold World.frozen?
 simp only
 rw [World.alloc_heap_new]
 simp
theorem vca {W : World} {a : Addr} {v : Value} (o : Obj) (h : W.cell? a = some v) : (W.alloc o).cell? a = some v := cell_kept h (World.grownBy_alloc W o none) (fun r e => by cases e)
theorem vfa {W : World} {a : Addr} {v : Value} (o : Obj) (h : W.cell? a = some v) (hf : W.frozen? a = false) : (W.alloc o).frozen? a = false := (frozen_kept h (World.grownBy_alloc W o none) (fun r e => by cases e)).trans hf
theorem rc_alloc {s : Nat} {at0 : Int} {x y v : Value} {bl : Bool} {W : World} (o : Obj) (h : RC s at0 x y v bl W) : RC s at0 x y v bl (W.alloc o) := rc_kept h (World.grownBy_alloc W o none) (fun r e => by cases e)
theorem rc_new (U : World) (at0 : Int) (t : TypeId) (s : Nat) (hs : U.heap.size = s + 1) : RC s at0 (.int .i64 0) (.int .i64 0) (.slice none 0 0) false (((U.alloc (.cells #[.int .i64 at0] 3)).alloc (.cells #[.int .i64 0, .int .i64 0, .slice none 0 0] t)).alloc (.cells #[.bool false] 4)) := by
 have a1 := cvn_new U #[.int .i64 at0] 3 0 _ rfl
 generalize hU2 : U.alloc (.cells #[.int .i64 at0] 3) = U2 at *
 have s2 : U2.heap.size = s + 1 + 1 := by rw [← hU2, World.size_alloc, hs]
 have b0 := cvn_new U2 #[.int .i64 0, .int .i64 0, .slice none 0 0] t 0 _ rfl
 have b1 := cvn_new U2 #[.int .i64 0, .int .i64 0, .slice none 0 0] t 1 _ rfl
 have b2 := cvn_new U2 #[.int .i64 0, .int .i64 0, .slice none 0 0] t 2 _ rfl
 have g0 := fvn_new U2 #[.int .i64 0, .int .i64 0, .slice none 0 0] t 0
 have g1 := fvn_new U2 #[.int .i64 0, .int .i64 0, .slice none 0 0] t 1
 have g2 := fvn_new U2 #[.int .i64 0, .int .i64 0, .slice none 0 0] t 2
 have a1' := vca (.cells #[.int .i64 0, .int .i64 0, .slice none 0 0] t) a1
 generalize hU3 : U2.alloc (.cells #[.int .i64 0, .int .i64 0, .slice none 0 0] t) = U3 at *
 have s3 : U3.heap.size = s + 1 + 1 + 1 := by rw [← hU3, World.size_alloc, s2]
 have d0 := cvn_new U3 #[.bool false] 4 0 _ rfl
 have e0 := fvn_new U3 #[.bool false] 4 0
 rw [s3] at d0 e0
 rw [s2] at b0 b1 b2 g0 g1 g2
 rw [hs] at a1'
 exact ⟨vca _ a1', ⟨vca _ b0, vca _ b1, vca _ b2⟩, ⟨vfa _ b0 g0, vfa _ b1 g1, vfa _ b2 g2⟩, d0, e0⟩
def VB (B : Nat) (x : IV) (W : World) : Prop := W.cell? ⟨B, 0, none⟩ = some (.int .i64 x.2.1) ∧ W.cell? ⟨B, 1, none⟩ = some (.int .i64 x.2.2.1) ∧ W.cell? ⟨B, 2, none⟩ = some (.slice x.2.2.2.1 x.2.2.2.2.1 x.2.2.2.2.2)
theorem vb_kept {B : Nat} {x : IV} {U W : World} {row : Option Nat} (h : VB B x U) (hg : U.grownBy W row) (hr : ∀ r, row = some r → ∃ o : Obj, U.heap[r]? = some o ∧ o.isCells = false) : VB B x W :=
 ⟨cell_kept h.1 hg hr, cell_kept h.2.1 hg hr, cell_kept h.2.2 hg hr⟩
set_option maxRecDepth 100000 in
set_option maxHeartbeats 2000000 in
theorem verAt_in (F : Fence) (n : Nat) (hF : F.fn 89) (hB : F.fn 149) (hB1 : F.fn 212) (hro : F.round = none) (hn : 3 ≤ n) (key : ByteArray) (A : Option Addr) (len cap : Nat) (at0 : Int) (z : Nat → Int × Int × (Option Addr × Nat × Nat)) (hreach : len ≤ 1000000) (w : World) (hI : VnAt w.heap.size w A len z) :
  CallsIn F n Tryz.prog 89 #[.agg #[.string key, .slice A len cap], .int .i64 at0] w fun e W' => ((e = .returned (.tuple #[.agg #[.int .i64 0, .int .i64 0, .slice none 0 0], .bool false]) ∧ ∀ j, j < len → at0 < (z j).2.1) ∨ (∃ j, j < len ∧ e = .returned (.tuple #[.agg #[.int .i64 (z j).1, .int .i64 (z j).2.1, svV (z j).2.2], .bool true]) ∧ (z j).2.1 ≤ at0 ∧ ∀ i, j < i → i < len → at0 < (z i).2.1)) ∧ Below w.heap.size w W' := by
 have h1 : 1 ≤ n := by omega
 refine callsIn_of_wp_marks Tryz.func89 rfl hF ?_ hro
 simp only [Tryz.ntmps89, List.size_toArray, List.length_cons, List.length_nil, Nat.reduceAdd, Nat.reduceSub, Array.replicate_succ, Array.replicate_zero, List.push_toArray, List.append_toArray, List.nil_append, List.cons_append]
 gi_wp2_with (gi_at_call 149; refine (back_in F (n - 1) hB hro _ _ _ _).mono ?_; rintro e w' ⟨rfl, rfl⟩)
 obtain ⟨s, hs⟩ : ∃ s, s = w.heap.size := ⟨_, rfl⟩
 rw [← hs] at hI ⊢
 obtain ⟨W0, hW0⟩ : ∃ W0, W0 = (((((w.alloc (Obj.cells #[Value.string key, Value.slice A len cap] 52)).alloc (Obj.cells #[Value.int IntKind.i64 at0] 3)).alloc (Obj.cells #[Value.int IntKind.i64 0, Value.int IntKind.i64 0, Value.slice none 0 0] 39)).alloc (Obj.cells #[Value.bool false] 4)).alloc (Obj.cells #[Value.slice A len cap] 50)) := ⟨_, rfl⟩
 have hsz : W0.heap.size = s + 1 + 1 + 1 + 1 + 1 := by rw [hW0]; simp [hs]
 have hB0 : Below s w W0 := by
  rw [hW0, hs]
  exact (((((Below.refl _ w).alloc (Nat.le_refl _) _).alloc (by simp) _).alloc (by simp; omega) _).alloc (by simp; omega) _).alloc (by simp; omega) _
 have hRC : RC s at0 (.int .i64 0) (.int .i64 0) (.slice none 0 0) false W0 := by
  rw [hW0, hs]
  exact rc_alloc _ (rc_new _ _ _ _ (World.size_alloc _ _))
 have hcB : W0.cell? ⟨s + 1 + 1 + 1 + 1, 0, none⟩ = some (.slice A len cap) := by
  rw [hW0, hs]
  have a1 := cvn_new ((((w.alloc (Obj.cells #[Value.string key, Value.slice A len cap] 52)).alloc (Obj.cells #[Value.int IntKind.i64 at0] 3)).alloc (Obj.cells #[Value.int IntKind.i64 0, Value.int IntKind.i64 0, Value.slice none 0 0] 39)).alloc (Obj.cells #[Value.bool false] 4)) #[Value.slice A len cap] 50 0 _ rfl
  simp only [World.size_alloc] at a1
  exact a1
 have hI0 : VnAt (s + 1 + 1 + 1 + 1 + 1) W0 A len z := by
  rcases hI with e | ⟨b, off, e, hb, hc⟩
  ·exact .inl e
  ·exact .inr ⟨b, off, e, by omega, fun j hj => ⟨(hB0.cell (p := ⟨b, off + j * 3, none⟩) hb).trans (hc j hj).1, (hB0.cell (p := ⟨b, off + j * 3 + 1, none⟩) hb).trans (hc j hj).2.1, (hB0.cell (p := ⟨b, off + j * 3 + 2, none⟩) hb).trans (hc j hj).2.2⟩⟩
 rw [← hW0]
 clear hW0
 have hws : w.heap.size = s := hs.symm
 clear hs
 refine wpIn_rangeFunc_ownH hro h1 (gf := 212) (lb := #[.pointer (some ⟨s + 1 + 1 + 1 + 1, 0, none⟩)]) rfl hB1 (enters_of Tryz.func212 (by kernel_rfl) rfl)
  (back_stops F (n - 1) hB1 hro (by omega) (s + 1 + 1 + 1 + 1) (s + 1 + 1 + 1 + 1 + 1) A len cap z hreach W0 (by omega) (by omega) hcB hI0) belowK_t (belowK_b (by omega)) (Below.refl _ _) (fun _ => rfl)
  (fun pre W => ((∀ p ∈ pre, at0 < p.2.2.1) ∧ RC s at0 (.int .i64 0) (.int .i64 0) (.slice none 0 0) false W ∧ s + 1 + 1 + 1 + 1 + 1 ≤ W.heap.size) ∧ Below s w W)
  (fun c pre W => (c = .ret ∧ ∃ (ini : List IV) (last : IV), pre = ini ++ [last] ∧ (∀ p ∈ ini, at0 < p.2.2.1) ∧ last.2.2.1 ≤ at0 ∧ RC s at0 (.int .i64 last.2.1) (.int .i64 last.2.2.1) (svV last.2.2.2) true W) ∧ Below s w W)
  (OwnFrom.and (Own.from (fun s A B row hs hg hr => ⟨hs.1, rc_kept hs.2.1 hg hr, Nat.le_trans hs.2.2 hg.size⟩) _) (ownFrom_below (by omega) (by omega)))
  (fun c => OwnFrom.and (Own.from (fun s A B row hs hg hr => by obtain ⟨hc, ini, last, e1, e2, e3, e4⟩ := hs; exact ⟨hc, ini, last, e1, e2, e3, rc_kept e4 hg hr⟩) _) (ownFrom_below (by omega) (by omega)))
  ⟨⟨by simp, hRC, by omega⟩, hB0⟩
  (fun x a' W => ∃ Bx, s + 1 + 1 + 1 + 1 < Bx ∧ VB Bx x W ∧ a' = { tmps := #[Value.agg #[Value.string key, Value.slice A len cap], Value.int IntKind.i64 at0, Value.pointer (some { block := s, off := 0 }), Value.pointer (some { block := s + 1, off := 0 }), Value.pointer (some { block := s + 1 + 1, off := 0 }), Value.pointer (some { block := s + 1 + 1 + 1, off := 0 }), undef, Value.pointer (some { block := Bx, off := 0 }), Value.pointer (some { block := s, off := 1 }), Value.slice A len cap, Value.func (Fn.func 212) #[] #[Value.pointer (some { block := s + 1 + 1 + 1 + 1, off := 0 })], .int .i64 x.1, .agg #[.int .i64 x.2.1, .int .i64 x.2.2.1, .slice x.2.2.2.1 x.2.2.2.2.1 x.2.2.2.2.2], undef, undef, undef, undef, undef, undef], defers := [] })
  (fun x a' => Own.from (fun _ A B row hs hg hr => by obtain ⟨Bx, h1, h2, h3⟩ := hs; exact ⟨Bx, h1, vb_kept h2 hg hr, h3⟩) _) ?assign ?body ?done ?stop
 case assign =>
  rintro l pre x W K ⟨⟨hp, hrc, hWs⟩, hB⟩ hK
  gi_wp2
  exact hK _ _ ((KeepsOthers.alloc _ _).from _) ((Below.refl _ W).alloc hWs _) ⟨⟨hp, rc_alloc _ hrc, by rw [World.size_alloc]; omega⟩, hB.alloc (by omega) _⟩
   ⟨W.heap.size, by omega, ⟨cvn_new _ _ _ 0 _ rfl, cvn_new _ _ _ 1 _ rfl, cvn_new _ _ _ 2 _ rfl⟩, rfl⟩
 case body =>
  rintro l pre x a' W hl ⟨r, hr⟩ ⟨⟨hp, hrc, hWs⟩, hB⟩ ⟨Bx, hBx, bX, rfl⟩ hlt
  obtain ⟨c1, ⟨c2, c3, c4⟩, ⟨f2, f3, f4⟩, c5, f5⟩ := id hrc
  obtain ⟨v0, v1, v2⟩ := bX
  gi_wp2
  ·refine ⟨((((KeepsOthers.setCell _ _ _).trans (KeepsOthers.setCell _ _ _)).trans (KeepsOthers.setCell _ _ _)).trans (KeepsOthers.setCell _ _ _)).from _, ⟨rfl, pre, x, rfl, hp, ?_, ?_⟩, ?_⟩
   ·assumption
   ·refine ⟨?_, ⟨?_, ?_, ?_⟩, ⟨?_, ?_, ?_⟩, ?_, ?_⟩
    all_goals simp [go_sem, svV, c1, c2, c3, c4, c5, f2, f3, f4, f5]
   ·exact (((hB.setCell (p := ⟨s + 1 + 1, 0, none⟩) (by show s ≤ s + 1 + 1; omega) _).setCell (p := ⟨s + 1 + 1, 1, none⟩) (by show s ≤ s + 1 + 1; omega) _).setCell (p := ⟨s + 1 + 1, 2, none⟩) (by show s ≤ s + 1 + 1; omega) _).setCell (p := ⟨s + 1 + 1 + 1, 0, none⟩) (by show s ≤ s + 1 + 1 + 1; omega) _
  ·refine ⟨KeepsFrom.refl _ _, Below.refl _ _, ⟨fun p hp' => (List.mem_append.1 hp').elim (hp p) (fun e => by simp at e; subst e; assumption), hrc, hWs⟩, hB⟩
 case done =>
  rintro D ys W hD rfl ⟨⟨hp, hrc, hWs⟩, hB⟩ hK
  obtain ⟨c1, ⟨c2, c3, c4⟩, ⟨f2, f3, f4⟩, c5, f5⟩ := id hrc
  gi_wp2
  have hkk : KeepsOthers W ((((W.setCell ⟨s + 1 + 1, 0, none⟩ (.int .i64 0)).setCell ⟨s + 1 + 1, 1, none⟩ (.int .i64 0)).setCell ⟨s + 1 + 1, 2, none⟩ (.slice none 0 0)).setCell ⟨s + 1 + 1 + 1, 0, none⟩ (.bool false)) :=
   (((KeepsOthers.setCell _ _ _).trans (KeepsOthers.setCell _ _ _)).trans (KeepsOthers.setCell _ _ _)).trans (KeepsOthers.setCell _ _ _)
  have hrc4 : RC s at0 (.int .i64 0) (.int .i64 0) (.slice none 0 0) false ((((W.setCell ⟨s + 1 + 1, 0, none⟩ (.int .i64 0)).setCell ⟨s + 1 + 1, 1, none⟩ (.int .i64 0)).setCell ⟨s + 1 + 1, 2, none⟩ (.slice none 0 0)).setCell ⟨s + 1 + 1 + 1, 0, none⟩ (.bool false)) := by
   refine ⟨?_, ⟨?_, ?_, ?_⟩, ⟨?_, ?_, ?_⟩, ?_, ?_⟩
   all_goals simp [go_sem, svV, c1, c2, c3, c4, c5, f2, f3, f4, f5]
  have hB4 := (((hB.setCell (p := ⟨s + 1 + 1, 0, none⟩) (by show s ≤ s + 1 + 1; omega) (.int .i64 0)).setCell (p := ⟨s + 1 + 1, 1, none⟩) (by show s ≤ s + 1 + 1; omega) (.int .i64 0)).setCell (p := ⟨s + 1 + 1, 2, none⟩) (by show s ≤ s + 1 + 1; omega) (.slice none 0 0)).setCell (p := ⟨s + 1 + 1 + 1, 0, none⟩) (by show s ≤ s + 1 + 1 + 1; omega) (.bool false)
  generalize ((((W.setCell ⟨s + 1 + 1, 0, none⟩ (.int .i64 0)).setCell ⟨s + 1 + 1, 1, none⟩ (.int .i64 0)).setCell ⟨s + 1 + 1, 2, none⟩ (.slice none 0 0)).setCell ⟨s + 1 + 1 + 1, 0, none⟩ (.bool false)) = W4 at *
  have hK' := hkk.same D _ hK rfl
  refine ⟨by simp, .inl ⟨_, _, rfl, run_takeDeferred hK', ?_⟩⟩
  obtain ⟨k1, ⟨k2, k3, k4⟩, _, k5, _⟩ := rc_kept hrc4 (grownBy_putObj' _ D (.deferred none)) (fun r e => by cases e; exact ⟨_, hK', rfl⟩)
  refine ⟨.tuple #[.agg #[.int .i64 0, .int .i64 0, .slice none 0 0], .bool false], ?_, .inl ⟨rfl, fun j hj => ?_⟩, ?_⟩
  ·simp [results, Tryz.f89, go_sem, k2, k3, k4, k5]
  ·have := hp (ivF z len (len - 1 - j)) (List.mem_map.2 ⟨len - 1 - j, List.mem_range.2 (by omega), rfl⟩)
   unfold ivF at this
   rwa [show len - 1 - (len - 1 - j) = j by omega] at this
  ·rw [hws]
   exact hB4.trans (belowK_b (w := w) (Nat.le_of_eq hws.symm) _ D _ _ (by omega) hK' rfl rfl)
 case stop =>
  rintro D c pre W hD ⟨k, hk, rfl⟩ ⟨⟨rfl, ini, last, e1, e2, e3, hrc⟩, hB⟩ hK
  obtain ⟨c1, ⟨c2, c3, c4⟩, ⟨f2, f3, f4⟩, c5, f5⟩ := id hrc
  gi_wp2
  refine ⟨by simp, .inl ⟨_, _, rfl, run_takeDeferred hK, ?_⟩⟩
  obtain ⟨k1, ⟨k2, k3, k4⟩, _, k5, _⟩ := rc_kept hrc (grownBy_putObj' _ D (.deferred none)) (fun r e => by cases e; exact ⟨_, hK, rfl⟩)
  obtain ⟨k', rfl⟩ : ∃ k', k = k' + 1 := by
   cases k with
   | zero => simp [uptoB] at e1
   | succ k' => exact ⟨k', rfl⟩
  rw [uptoB_succ] at e1
  obtain ⟨rfl, e5⟩ := List.append_inj' e1 rfl
  obtain rfl : ivF z len k' = last := by simpa using e5
  refine ⟨.tuple #[.agg #[.int .i64 (z (len - 1 - k')).1, .int .i64 (z (len - 1 - k')).2.1, svV (z (len - 1 - k')).2.2], .bool true], ?_, .inr ⟨len - 1 - k', by omega, rfl, e3, fun i hi hil => ?_⟩, ?_⟩
  ·simp [results, Tryz.f89, go_sem, k2, k3, k4, k5, ivF, svV]
  ·have := e2 (ivF z len (len - 1 - i)) (List.mem_map.2 ⟨len - 1 - i, List.mem_range.2 (by omega), rfl⟩)
   unfold ivF at this
   rwa [show len - 1 - (len - 1 - i) = i by omega] at this
  ·rw [hws]
   exact hB.trans (belowK_b (w := w) (Nat.le_of_eq hws.symm) _ D _ _ (by omega) hK rfl rfl)
end
open Go
set_option linter.unusedVariables false
set_option linter.unusedSimpArgs false
set_option maxRecDepth 100000
theorem verAt_none {l : List Vn} {at0 : Int} (h : ∀ j (hj : j < l.length), at0 < l[j].since) : verAt l at0 = none := by
 unfold verAt
 rw [List.find?_eq_none]
 intro v hv
 obtain ⟨j, hj, rfl⟩ := List.getElem_of_mem (List.mem_reverse.1 hv)
 have := h j hj
 simp; omega
theorem verAt_some {l : List Vn} {at0 : Int} {j : Nat} (hj : j < l.length) (h1 : l[j].since ≤ at0) (h : ∀ i (hi : i < l.length), j < i → at0 < l[i].since) : verAt l at0 = some l[j] := by
 unfold verAt
 rw [List.find?_eq_some_iff_getElem]
 refine ⟨by simpa using h1, l.length - 1 - j, by simp; omega, ?_, fun k hk => ?_⟩
 ·rw [List.getElem_reverse]; congr 1; omega
 ·rw [List.getElem_reverse]
  have := h (l.length - 1 - k) (by omega) (by omega)
  simp; omega
theorem rep_agg3 {G : Gh} {a b c : AV} {x y z : Value} (ha : Rep G a x) (hb : Rep G b y) (hc : Rep G c z) (h1 : x.oneCell' = true) (h2 : y.oneCell' = true) (h3 : z.oneCell' = true) : Rep G (.agg [a, b, c]) (.agg #[x, y, z]) := by
 refine .agg _ _ (fun j => #[x, y, z].getD j undef) rfl (fun j hj => ?_) (fun j hj => ?_) (fun j hj => ?_)
 all_goals
  simp only [List.length_cons, List.length_nil] at hj
  match j, hj with
  | 0, _ => first | rfl | assumption
  | 1, _ => first | rfl | assumption
  | 2, _ => first | rfl | assumption
theorem rep_tup2 {G : Gh} {a b : AV} {x y : Value} (ha : Rep G a x) (hb : Rep G b y) : Rep G (.tup [a, b]) (.tuple #[x, y]) := by
 refine .tup _ _ (fun j => #[x, y].getD j undef) rfl (fun j hj => ?_) (fun j hj => ?_)
 all_goals
  simp only [List.length_cons, List.length_nil] at hj
  match j, hj with
  | 0, _ => first | rfl | assumption
  | 1, _ => first | rfl | assumption
theorem rep_vn {G : Gh} {vs : List Vn} {us : List Value} (hr : RepL G (vs.map encVn).flatten us) {i : Nat} (hi : i < vs.length) :
  us[i * 3]? = some (.int .i64 vs[i].no) ∧ us[i * 3 + 1]? = some (.int .i64 vs[i].since) ∧ ∃ a l c, us[i * 3 + 2]? = some (.slice a l c) ∧ Rep G (.row 7 (vs[i].forms.map encFm) none) (.slice a l c) := by
 have hz : ∀ x ∈ vs.map encVn, x.length = 3 := fun x hx => by obtain ⟨v, _, rfl⟩ := List.mem_map.1 hx; rfl
 have hi' : i < (vs.map encVn).length := by simpa using hi
 have get : ∀ j (_ : j < 3) a, (encVn vs[i])[j]? = some a → ∃ x, us[i * 3 + j]? = some x ∧ Rep G a x := fun j hj a ha => by
  have e1 := flatten_at hz hi' hj
  rw [List.getElem_map, ha] at e1
  have hlt := (List.getElem?_eq_some_iff.1 e1).1
  have hlu : i * 3 + j < us.length := by rw [hr.1]; exact hlt
  have h2 := (hr.2 _ hlt hlu).1
  rw [(List.getElem?_eq_some_iff.1 e1).2] at h2
  exact ⟨_, List.getElem?_eq_getElem hlu, h2⟩
 obtain ⟨x0, e0, r0⟩ := get 0 (by omega) _ rfl
 obtain ⟨x1, e1, r1⟩ := get 1 (by omega) _ rfl
 obtain ⟨x2, e2, r2⟩ := get 2 (by omega) _ rfl
 cases r0; cases r1
 refine ⟨e0, e1, ?_⟩
 rcases Rep.row_inv r2 with ⟨a, rfl, _⟩ | ⟨g, o, c, us2, rfl, _⟩
 ·exact ⟨_, _, _, e2, r2⟩
 ·exact ⟨_, _, _, e2, r2⟩
def zV (us : List Value) (i : Nat) : Option Addr × Nat × Nat := match us[i * 3 + 2]? with
 | some (.slice a l c) => (a, l, c)
 | _ => (none, 0, 0)
theorem g_versionAt (a : As) (at0 : Int) (hl : a.vs.length ≤ 1000) (h : Hp) :
  ACalls Tryz.prog 89 [.agg (encAs a), .v (.int .i64 at0)] h (fun r h' => r = .tup [.agg (encVn ((verAt a.vs at0).getD default)), .v (.bool (verAt a.vs at0).isSome)] ∧ h' = h) := by
 obtain ⟨key, vs⟩ := a
 simp only at hl ⊢
 refine acalls_mk (by kernel_rfl) fun G w ws hs hv ha => ?_
 have r0 := ha 0 (by simp)
 have r1 := ha 1 (by simp)
 have hws : ws = #[ws.getD 0 undef, ws.getD 1 undef] := by
  have hv2 : ws.size = 2 := hv
  apply Array.ext (by simpa using hv2)
  intro j hj hj'
  simp only [List.size_toArray, List.length_cons, List.length_nil] at hj'
  match j, hj' with
  | 0, _ => simp [Array.getD, hv2]
  | 1, _ => simp [Array.getD, hv2]
  | j + 2, h => omega
 rw [hws]
 generalize ws.getD 0 undef = v0 at *
 generalize ws.getD 1 undef = v1 at *
 simp only [List.getElem_cons_zero, List.getElem_cons_succ] at r0 r1
 cases r1
 cases r0 with
 | agg _ us u hul hu hr h1 =>
 simp only [encAs, List.length_cons, List.length_nil] at hul hu hr
 have q0 := hr 0 (by omega)
 have q1 := hr 1 (by omega)
 have hus : us = #[u 0, u 1] := by
  apply Array.ext (by simpa using hul)
  intro j hj hj'
  simp only [List.size_toArray, List.length_cons, List.length_nil] at hj'
  have := hu j (by omega)
  rw [Array.getElem?_eq_getElem hj] at this
  match j, hj' with
  | 0, _ => simpa using this
  | 1, _ => simpa using this
  | j + 2, h => omega
 rw [hus]
 generalize u 0 = x0 at *
 generalize u 1 = x1 at *
 simp only [List.getElem_cons_zero, List.getElem_cons_succ] at q0 q1
 cases q0
 have key : ∃ (A : Option Addr) (cap : Nat) (vals : List Value), x1 = .slice A vs.length cap ∧ VnAt w.heap.size w A vs.length (fun i => ((vs.getD i default).no, (vs.getD i default).since, zV vals i)) ∧ ∀ i (hi : i < vs.length), Rep G (.row 7 (vs[i].forms.map encFm) none) (svV (zV vals i)) := by
  rcases Rep.row_inv q1 with ⟨a, rfl, e⟩ | ⟨g, o, c, vals, rfl, hc, hz, hrr, hval⟩
  ·have hn : vs = [] := by simpa using e
   subst hn
   exact ⟨a, 0, [], rfl, .inl rfl, fun i hi => by simp at hi⟩
  ·rw [List.length_map]
   refine ⟨_, c, vals, rfl, ?_, fun i hi => ?_⟩
   ·by_cases h0 : vs.length = 0
    ·exact .inl h0
    ·obtain ⟨e0, _, _⟩ := rep_vn hrr (Nat.pos_of_ne_zero h0)
     refine .inr ⟨g, o, rfl, hs.val_lt (hval _ _ e0), fun j hj => ?_⟩
     obtain ⟨e0, e1, a, l, c', e2, _⟩ := rep_vn hrr hj
     have gj : vs.getD j default = vs[j] := by rw [List.getD_eq_getElem?_getD, List.getElem?_eq_getElem hj]; rfl
     have hzv : zV vals j = (a, l, c') := by unfold zV; rw [e2]
     simp only [gj, hzv]
     exact ⟨hs.cell _ _ _ (hval _ _ e0), hs.cell _ _ _ (hval _ _ e1), hs.cell _ _ _ (hval _ _ e2)⟩
   ·obtain ⟨_, _, a, l, c', e2, r2⟩ := rep_vn hrr hi
    have hzv : zV vals i = (a, l, c') := by unfold zV; rw [e2]
    rw [hzv]; exact r2
 obtain ⟨A, cap, vals, rfl, hV, hF⟩ := key
 refine ((callsIn_wide (n := 3)).1 (verAt_in Fence.wide 3 trivial trivial trivial rfl (Nat.le_refl _) _ A vs.length cap at0 _ (by omega) w hV)).mono ?_
 rintro e w' ⟨⟨rfl, hno⟩ | ⟨j, hj, rfl, hle, hno⟩, hb⟩
 ·have hn : verAt vs at0 = none := verAt_none fun j hj => by
   have := hno j hj
   simpa [List.getD_eq_getElem?_getD, List.getElem?_eq_getElem hj] using this
  rw [hn]
  exact ⟨_, rfl, _, h, G, ⟨rfl, rfl⟩, GLe.refl _, Fr.of_below hb, hs.below hb.block, rep_tup2 (rep_agg3 (.v _ rfl) (.v _ rfl) (.nil 7 none trivial) rfl rfl rfl) (.v _ rfl)⟩
 ·have gj : vs.getD j default = vs[j] := by rw [List.getD_eq_getElem?_getD, List.getElem?_eq_getElem hj]; rfl
  simp only [gj] at hle ⊢
  have hn : verAt vs at0 = some vs[j] := verAt_some hj hle fun i hi hji => by
   have := hno i hji hi
   simpa [List.getD_eq_getElem?_getD, List.getElem?_eq_getElem hi] using this
  rw [hn]
  exact ⟨_, rfl, _, h, G, ⟨rfl, rfl⟩, GLe.refl _, Fr.of_below hb, hs.below hb.block, rep_tup2 (rep_agg3 (.v _ rfl) (.v _ rfl) (hF j hj) rfl rfl rfl) (.v _ rfl)⟩
end Go.Proofs.YtpnfkfbapfnboaaGreatDoor
