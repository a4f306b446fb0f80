/- The numbers that a stream hands out. -/
import Derived.Test.YtgnknjlgcinboaaGreatDoorAvRun
import Derived.Test.YtgnknjlgcinboaaGreatDoorAvTy
import Derived.Test.YtgnknjlgcinboaaGreatDoorAvFz
import Derived.WalkKit
import Derived.WalkSpells
import Derived.WalkLawsBesides
import Derived.Deep.QuietTactic
import Derived.BigQuiet
import Derived.Lib.Hide
import Derived.Test.YtgnknjlgcinboaaGreatDoorProg
import Derived.Test.YtgnknjlgcinboaaGreatDoorShelf
import Derived.Deep.DeepCutAuto
import Derived.Deep.LoopGhost
import Derived.Shelf.Strings.SlTrimAscii
import Derived.Test.YtgnknjlgcinboaaGreatDoorAvUn
import Derived.Shelf.GgClosure.Gives
import Derived.Test.YtgnknjlgcinboaaGreatDoorAvOld
import Derived.Shelf.Strings.Builder1
import Derived.Test.YtgnknjlgcinboaaGreatDoorAvOwn
import Derived.Test.YtgnknjlgcinboaaGreatDoorAvClr
import Derived.Test.YtgnknjlgcinboaaGreatDoorAvMap
namespace Go.Proofs.YtgnknjlgcinboaaGreatDoor
open Go
set_option linter.unusedVariables false
set_option linter.unusedSimpArgs false
open Nat renaming reduceAdd → nA, reduceSub → nB, reduceMul → nC, reduceLT → nD, reduceLeDiff → nE, reduceEqDiff → nF, reduceMod → nG, reduceDiv → nH, reducePow → nI
abbrev zM10 : Option Tmp → Nat := mdL []
abbrev zM11 : Option Tmp → Nat := mdL [(65, 1)]
abbrev zM12 : Option Tmp → Nat := mdL [(4, 2)]
abbrev zM13 : Option Tmp → Nat := mdL [(6, 1), (8, 1), (11, 1)]
abbrev zM14 : Option Tmp → Nat := mdL [(7, 2)]
abbrev zM15 : Option Tmp → Nat := mdL [(11, 2)]
abbrev zM16 : Option Tmp → Nat := mdL [(6, 1)]
abbrev zM17 : Option Tmp → Nat := mdL [(4, 2), (6, 1), (8, 1), (9, 1)]
abbrev zM18 : Option Tmp → Nat := mdL [(5, 1), (9, 1)]
abbrev zM19 : Option Tmp → Nat := mdL [(28, 2)]
abbrev zM1A : Option Tmp → Nat := mdL [(41, 1)]
abbrev zM1B : Option Tmp → Nat := mdL [(16, 3)]
abbrev zM1C : Option Tmp → Nat := mdL [(4, 3), (5, 1)]
attribute [go_sem] zM10 zM11 zM12 zM13 zM14 zM15 zM16 zM17 zM18 zM19 zM1A zM1B zM1C
abbrev zP0E : List Nat := [0, 1, 2, 3, 4, 5, 6, 7, 8, 9, 10, 11]
abbrev zP0P : List (Nat × List Nat × List Nat) := []
abbrev zP1E : List Nat := [0, 1, 2, 3, 4, 5, 6, 7, 8, 9, 10, 11]
abbrev zP1P : List (Nat × List Nat × List Nat) := []
attribute [go_sem] zP0E zP0P zP1E zP1P
set_option maxRecDepth 100000
theorem a_outside (x lo hi : Int) (h : Hp) : ACalls Tryz.prog 48 [.v (.int .i64 x), .v (.int .i64 lo), .v (.int .i64 hi)] h (fun r h' => r = .v (.bool (decide (x < lo) || decide (hi < x))) ∧ h' = h) := by
 refine gE Tryz.func48 rfl (by kernel_rfl) 12 rfl fun c => ?_
 (repeat (first | refine gO rfl ?_ | (refine gR fun K1 hK1 => ?_; simp only [go_sem, ↓reduceIte, reduceCtorEq, nA, nB, nC, nD, nE, nF] <;> and_intros <;> first | (apply hK1; clear hK1 K1) | (intros; first | omega | decide | (simp_all <;> omega)) | skip)))
 simp only [Tryz.results48, go_sem, ↓reduceIte, reduceCtorEq, nA, nB, nC, nD, nE, nF]
 exact ⟨_, _, Weak.refl _, Hp.le.refl _, rfl, rfl⟩
def belowV (x n : Int) : Int := if n < 1 then 0 else x % n
theorem a_below (x n : Int) (h : Hp) (hx : -9223372036854775808 ≤ x ∧ x ≤ 9223372036854775807) (hn : n ≤ 9000000000000000000) : ACalls Tryz.prog 51 [.v (.int .i64 x), .v (.int .i64 n)] h (fun r h' => r = .v (.int .i64 (belowV x n)) ∧ h' = h) := by
 refine gE Tryz.func51 rfl (by kernel_rfl) 14 rfl fun c => ?_
 (repeat (first | refine gO rfl ?_ | (refine gR fun K1 hK1 => ?_; simp only [go_sem, ↓reduceIte, reduceCtorEq, nA, nB, nC, nD, nE, nF] <;> and_intros <;> first | (apply hK1; clear hK1 K1) | (intros; first | omega | decide | (simp_all <;> omega)) | skip)))
 refine awp_cond (t := _) rfl (fun h1 => ?_) (fun h1 => ?_)
 ·(repeat (first | refine gO rfl ?_ | (refine gR fun K1 hK1 => ?_; simp only [go_sem, ↓reduceIte, reduceCtorEq, nA, nB, nC, nD, nE, nF] <;> and_intros <;> first | (apply hK1; clear hK1 K1) | (intros; first | omega | decide | (simp_all <;> omega)) | skip)))
  simp only [Tryz.results51, go_sem, ↓reduceIte, reduceCtorEq, nA, nB, nC, nD, nE, nF]
  exact ⟨_, _, Weak.refl _, Hp.le.refl _, by simp only [belowV]; rw [if_pos (by simpa using h1)], rfl⟩
 ·have h2 : 1 ≤ n := by simpa using h1
  (repeat (first | refine gO rfl ?_ | (refine gR fun K1 hK1 => ?_; simp only [go_sem, ↓reduceIte, reduceCtorEq, nA, nB, nC, nD, nE, nF] <;> and_intros <;> first | (apply hK1; clear hK1 K1) | (intros; first | omega | decide | (simp_all <;> omega)) | skip)))
  have e1 : x.tmod n = if 0 ≤ x ∨ n ∣ x then x % n else x % n - n := by rw [Int.tmod_eq_emod]; split <;> omega
  have m0 := Int.emod_nonneg x (show n ≠ 0 by omega)
  have m1 := Int.emod_lt_of_pos x (show 0 < n by omega)
  refine awp_cond (t := _) rfl (fun h3 => ?_) (fun h3 => ?_)
  ·(repeat (first | refine gO rfl ?_ | (refine gR fun K1 hK1 => ?_; simp only [go_sem, ↓reduceIte, reduceCtorEq, nA, nB, nC, nD, nE, nF] <;> and_intros <;> first | (apply hK1; clear hK1 K1) | (intros; first | omega | decide | (simp_all <;> omega)) | skip)))
   simp only [Tryz.results51, go_sem, ↓reduceIte, reduceCtorEq, nA, nB, nC, nD, nE, nF]
   exact ⟨_, _, Weak.refl _, Hp.le.refl _, by
    simp only [decide_eq_true_eq] at h3
    simp only [belowV]; rw [if_neg (by omega)]
    congr 3; rw [e1] at h3 ⊢; split at h3 <;> simp_all <;> omega, rfl⟩
  ·(repeat (first | refine gO rfl ?_ | (refine gR fun K1 hK1 => ?_; simp only [go_sem, ↓reduceIte, reduceCtorEq, nA, nB, nC, nD, nE, nF] <;> and_intros <;> first | (apply hK1; clear hK1 K1) | (intros; first | omega | decide | (simp_all <;> omega)) | skip)))
   simp only [Tryz.results51, go_sem, ↓reduceIte, reduceCtorEq, nA, nB, nC, nD, nE, nF]
   exact ⟨_, _, Weak.refl _, Hp.le.refl _, by
    simp only [decide_eq_false_iff_not] at h3
    simp only [belowV]; rw [if_neg (by omega)]
    congr 3; rw [e1] at h3 ⊢; split at h3 <;> simp_all <;> omega, rfl⟩
theorem belowV_bd {x n : Int} (hn : 1 ≤ n) : 0 ≤ belowV x n ∧ belowV x n < n := by
 unfold belowV; rw [if_neg (by omega)]
 exact ⟨Int.emod_nonneg x (by omega), Int.emod_lt_of_pos x (by omega)⟩
def encI (x : Int) : List AV := [.v (.int .i64 x)]
def rowI (l : List Int) : AV := .row 1 (l.map encI) none
def strm (l : List Int) (a : Int) : AO := .cells [rowI l, .v (.int .i64 a)]
def nextV (l : List Int) (a n : Int) : Int := if l.length = 0 then belowV ((a + 1) * 7919) n else belowV (belowV (l.getD (a % l.length).toNat 0) 1073741824 + (a / l.length) * (7919 + a % l.length)) n
theorem a_next (i : Nat) (l : List Int) (a n : Int) (h : Hp) (hi : h.H i = some (strm l a)) (ha : 0 ≤ a ∧ a ≤ 1000000000) (hn : n ≤ 9000000000000000000) (hl : l.length ≤ 9223372036854775807) (hv : ∀ x ∈ l, -9223372036854775808 ≤ x ∧ x ≤ 9223372036854775807) :
  ACalls Tryz.prog 16 [.ptr i 0, .v (.int .i64 n)] h (fun r h' => r = .v (.int .i64 (nextV l a n)) ∧ h' = { h with H := upd h.H i (some (strm l (a + 1))) }) := by
 refine gE Tryz.func16 rfl (by kernel_rfl) 62 rfl fun c => ?_
 (repeat (first | refine gO rfl ?_ | ((first | refine gR ?_ | (with_reducible refine wM ?_ ?_) | ((with_reducible refine xS ?_); refine uD 4 zM10 zP0E zP0P 64 rfl (by kernel_rfl) ?_) | ((with_reducible refine xS ?_); refine uD 5 zM10 zP1E zP1P 64 rfl (by kernel_rfl) ?_)) <;> ((try with_reducible intro K1 hK1); simp only [go_sem, ↓reduceIte, reduceCtorEq, nA, nB, nC, nD, nE, nF, hi, strm, rowI] <;> and_intros <;> first | (apply hK1; clear hK1 K1) | (intros; first | omega | decide | (simp_all <;> omega)) | skip))))
 refine awp_cond (t := _) rfl (fun h1 => ?_) (fun h1 => ?_)
 ·have h0 : l.length = 0 := by simpa using h1
  (repeat (first | refine gO rfl ?_ | ((first | refine gR ?_ | (with_reducible refine wM ?_ ?_) | ((with_reducible refine xS ?_); refine uD 4 zM10 zP0E zP0P 64 rfl (by kernel_rfl) ?_) | ((with_reducible refine xS ?_); refine uD 5 zM10 zP1E zP1P 64 rfl (by kernel_rfl) ?_)) <;> ((try with_reducible intro K1 hK1); simp only [go_sem, ↓reduceIte, reduceCtorEq, nA, nB, nC, nD, nE, nF] <;> and_intros <;> first | (apply hK1; clear hK1 K1) | (intros; first | omega | decide | (simp_all <;> omega)) | skip))))
  refine (a_below ((a + 1) * 7919) n _ (by omega) hn).mono ?_; rintro _ _ ⟨rfl, rfl⟩; apply hK1; clear hK1 K1
  (repeat (first | refine gO rfl ?_ | ((first | refine gR ?_ | (with_reducible refine wM ?_ ?_) | ((with_reducible refine xS ?_); refine uD 4 zM10 zP0E zP0P 64 rfl (by kernel_rfl) ?_) | ((with_reducible refine xS ?_); refine uD 5 zM10 zP1E zP1P 64 rfl (by kernel_rfl) ?_)) <;> ((try with_reducible intro K1 hK1); simp only [go_sem, ↓reduceIte, reduceCtorEq, nA, nB, nC, nD, nE, nF] <;> and_intros <;> first | (apply hK1; clear hK1 K1) | (intros; first | omega | decide | (simp_all <;> omega)) | skip))))
  simp only [Tryz.results16, go_sem, ↓reduceIte, reduceCtorEq, nA, nB, nC, nD, nE, nF]
  exact ⟨_, _, Weak.refl _, Hp.le.refl _, by simp only [nextV]; rw [if_pos h0], rfl⟩
 ·have h0 : l.length ≠ 0 := by simpa using h1
  have hq : a.tdiv l.length = a / l.length := Int.tdiv_eq_ediv_of_nonneg ha.1
  have hr : a.tmod l.length = a % l.length := Int.tmod_eq_emod_of_nonneg ha.1
  have q0 : 0 ≤ a / (l.length : Int) := Int.ediv_nonneg ha.1 (by omega)
  have q1 : a / (l.length : Int) ≤ a := Int.ediv_le_self _ ha.1
  have r0 := Int.emod_nonneg a (show (l.length : Int) ≠ 0 by omega)
  have r1 := Int.emod_lt_of_pos a (show (0 : Int) < l.length by omega)
  have r2 : a % (l.length : Int) ≤ a := by
   have := Int.emod_add_mul_ediv a l.length
   have := Int.mul_nonneg (show (0 : Int) ≤ l.length by omega) q0
   omega
  have hg := getD_enc encI l (a % (l.length : Int)).toNat 0 (by omega)
  have hx : -9223372036854775808 ≤ l.getD (a % (l.length : Int)).toNat 0 ∧ l.getD (a % (l.length : Int)).toNat 0 ≤ 9223372036854775807 := by
   rw [List.getD_eq_getElem?_getD, List.getElem?_eq_getElem (show (a % (l.length : Int)).toNat < l.length by omega)]
   exact hv _ (List.getElem_mem _)
  have hm0 : 0 ≤ a / (l.length : Int) * (7919 + a % l.length) := Int.mul_nonneg q0 (by omega)
  have hm1 : a / (l.length : Int) * (7919 + a % l.length) ≤ 7920 * a := by
   have e1 : a / (l.length : Int) * (7919 + a % l.length) = 7919 * (a / l.length) + a / l.length * (a % l.length) := by rw [Int.mul_add, Int.mul_comm _ 7919]
   have e2 : a / (l.length : Int) * (a % l.length) ≤ a / l.length * l.length := Int.mul_le_mul_of_nonneg_left (by omega) q0
   have e3 : a / (l.length : Int) * l.length ≤ a := Int.ediv_mul_le a (by omega)
   omega
  have hb := belowV_bd (x := l.getD (a % (l.length : Int)).toNat 0) (n := 1073741824) (by omega)
  (repeat (first | refine gO rfl ?_ | ((first | refine gR ?_ | (with_reducible refine wM ?_ ?_) | ((with_reducible refine xS ?_); refine uD 4 zM10 zP0E zP0P 64 rfl (by kernel_rfl) ?_) | ((with_reducible refine xS ?_); refine uD 5 zM10 zP1E zP1P 64 rfl (by kernel_rfl) ?_)) <;> ((try with_reducible intro K1 hK1); simp only [go_sem, ↓reduceIte, reduceCtorEq, nA, nB, nC, nD, nE, nF, hq, hr, hg, encI] <;> and_intros <;> first | (apply hK1; clear hK1 K1) | (intros; first | omega | decide | (simp_all <;> omega)) | skip))))
  refine (a_below _ _ _ hx (by omega)).mono ?_; rintro _ _ ⟨rfl, rfl⟩; apply hK1; clear hK1 K1
  (repeat (first | refine gO rfl ?_ | ((first | refine gR ?_ | (with_reducible refine wM ?_ ?_) | ((with_reducible refine xS ?_); refine uD 4 zM10 zP0E zP0P 64 rfl (by kernel_rfl) ?_) | ((with_reducible refine xS ?_); refine uD 5 zM10 zP1E zP1P 64 rfl (by kernel_rfl) ?_)) <;> ((try with_reducible intro K1 hK1); simp only [go_sem, ↓reduceIte, reduceCtorEq, nA, nB, nC, nD, nE, nF] <;> and_intros <;> first | (apply hK1; clear hK1 K1) | (intros; first | omega | decide | (simp_all <;> omega)) | skip))))
  refine (a_below _ _ _ (by omega) hn).mono ?_; rintro _ _ ⟨rfl, rfl⟩; apply hK1; clear hK1 K1
  (repeat (first | refine gO rfl ?_ | ((first | refine gR ?_ | (with_reducible refine wM ?_ ?_) | ((with_reducible refine xS ?_); refine uD 4 zM10 zP0E zP0P 64 rfl (by kernel_rfl) ?_) | ((with_reducible refine xS ?_); refine uD 5 zM10 zP1E zP1P 64 rfl (by kernel_rfl) ?_)) <;> ((try with_reducible intro K1 hK1); simp only [go_sem, ↓reduceIte, reduceCtorEq, nA, nB, nC, nD, nE, nF] <;> and_intros <;> first | (apply hK1; clear hK1 K1) | (intros; first | omega | decide | (simp_all <;> omega)) | skip))))
  simp only [Tryz.results16, go_sem, ↓reduceIte, reduceCtorEq, nA, nB, nC, nD, nE, nF]
  exact ⟨_, _, Weak.refl _, Hp.le.refl _, by simp only [nextV]; rw [if_neg h0], rfl⟩
def SOk (l : List Int) : Prop := l.length ≤ 9223372036854775807 ∧ ∀ x ∈ l, -9223372036854775808 ≤ x ∧ x ≤ 9223372036854775807
def Hp.st (h : Hp) (i : Nat) (l : List Int) (a : Int) : Hp := { h with H := upd h.H i (some (strm l a)) }
theorem st_at (h : Hp) (i : Nat) (l : List Int) (a : Int) : (h.st i l a).H i = some (strm l a) := upd_same _ _ _
theorem st_st (h : Hp) (i : Nat) (l : List Int) (a b : Int) : (h.st i l a).st i l b = h.st i l b := by
 simp only [Hp.st]
 congr 1
 exact upd_upd _ _ _ _
theorem st_of {h : Hp} {i : Nat} {l : List Int} {a : Int} (e : h.H i = some (strm l a)) : h = h.st i l a := by
 cases h with
 | mk H T =>
  simp only [Hp.st]
  congr 1
  funext j
  by_cases hj : j = i
  ·subst hj; rw [upd_same]; exact e
  ·rw [upd_other _ _ hj]
theorem nextV_bd {l : List Int} {a n : Int} (hn : 1 ≤ n) : 0 ≤ nextV l a n ∧ nextV l a n < n := by
 unfold nextV; split <;> exact belowV_bd hn
theorem g_next (i : Nat) (l : List Int) (a n : Int) (h : Hp) (hl : SOk l) (ha : 0 ≤ a ∧ a ≤ 1000000000) (hn : 1 ≤ n ∧ n ≤ 9000000000000000000) :
  ACalls Tryz.prog 16 [.ptr i 0, .v (.int .i64 n)] (h.st i l a) (fun r h' => ∃ x : Int, (0 ≤ x ∧ x < n) ∧ r = .v (.int .i64 x) ∧ h' = h.st i l (a + 1)) :=
 (a_next i l a n (h.st i l a) (st_at _ _ _ _) ha hn.2 hl.1 hl.2).mono fun r h' ⟨e, e2⟩ => ⟨nextV l a n, nextV_bd hn.1, e, e2.trans (st_st _ _ _ _ _)⟩
theorem g_flip (i : Nat) (l : List Int) (a n : Int) (h : Hp) (hl : SOk l) (ha : 0 ≤ a ∧ a ≤ 1000000000) (hn : 1 ≤ n ∧ n ≤ 9000000000000000000) :
  ACalls Tryz.prog 22 [.ptr i 0, .v (.int .i64 n)] (h.st i l a) (fun r h' => ∃ b : Bool, r = .v (.bool b) ∧ h' = h.st i l (a + 1)) := by
 refine gE Tryz.func22 rfl (by kernel_rfl) 7 rfl fun c => ?_
 (repeat (first | refine gO rfl ?_ | (refine gR fun K1 hK1 => ?_; simp only [go_sem, ↓reduceIte, reduceCtorEq, nA, nB, nC, nD, nE, nF] <;> and_intros <;> first | (apply hK1; clear hK1 K1) | (intros; first | omega | decide | (simp_all <;> omega)) | skip)))
 refine (g_next i l a n h hl ha hn).mono ?_; rintro _ _ ⟨x, hx, rfl, rfl⟩; apply hK1; clear hK1 K1
 (repeat (first | refine gO rfl ?_ | (refine gR fun K1 hK1 => ?_; simp only [go_sem, ↓reduceIte, reduceCtorEq, nA, nB, nC, nD, nE, nF] <;> and_intros <;> first | (apply hK1; clear hK1 K1) | (intros; first | omega | decide | (simp_all <;> omega)) | skip)))
 simp only [Tryz.results22, go_sem, ↓reduceIte, reduceCtorEq, nA, nB, nC, nD, nE, nF]
 exact ⟨_, _, Weak.refl _, Hp.le.refl _, _, rfl, rfl⟩
theorem g_range (i : Nat) (l : List Int) (a lo hi : Int) (h : Hp) (hl : SOk l) (ha : 0 ≤ a ∧ a ≤ 1000000000) (h1 : -4000000000000000000 ≤ lo) (h2 : lo ≤ hi) (h3 : hi ≤ 4000000000000000000) :
  ACalls Tryz.prog 14 [.ptr i 0, .v (.int .i64 lo), .v (.int .i64 hi)] (h.st i l a) (fun r h' => ∃ x : Int, (lo ≤ x ∧ x ≤ hi) ∧ r = .v (.int .i64 x) ∧ h' = h.st i l (a + 1)) := by
 refine gE Tryz.func14 rfl (by kernel_rfl) 16 rfl fun c => ?_
 (repeat (first | refine gO rfl ?_ | (refine gR fun K1 hK1 => ?_; simp only [go_sem, ↓reduceIte, reduceCtorEq, nA, nB, nC, nD, nE, nF] <;> and_intros <;> first | (apply hK1; clear hK1 K1) | (intros; first | omega | decide | (simp_all <;> omega)) | skip)))
 refine awp_cond (t := _) rfl (fun h4 => ?_) (fun h4 => ?_)
 ·exfalso; simp only [decide_eq_true_eq] at h4; omega
 ·(repeat (first | refine gO rfl ?_ | (refine gR fun K1 hK1 => ?_; simp only [go_sem, ↓reduceIte, reduceCtorEq, nA, nB, nC, nD, nE, nF] <;> and_intros <;> first | (apply hK1; clear hK1 K1) | (intros; first | omega | decide | (simp_all <;> omega)) | skip)))
  refine (g_next i l a (hi - lo + 1) h hl ha (by omega)).mono ?_; rintro _ _ ⟨x, hx, rfl, rfl⟩; apply hK1; clear hK1 K1
  (repeat (first | refine gO rfl ?_ | (refine gR fun K1 hK1 => ?_; simp only [go_sem, ↓reduceIte, reduceCtorEq, nA, nB, nC, nD, nE, nF] <;> and_intros <;> first | (apply hK1; clear hK1 K1) | (intros; first | omega | decide | (simp_all <;> omega)) | skip)))
  simp only [Tryz.results14, go_sem, ↓reduceIte, reduceCtorEq, nA, nB, nC, nD, nE, nF]
  exact ⟨_, _, Weak.refl _, Hp.le.refl _, lo + x, by omega, rfl, rfl⟩
theorem getD_mem {l : List Int} {x : Int} (h : 0 ≤ x ∧ x < l.length) : l.getD x.toNat 0 ∈ l := by
 rw [List.getD_eq_getElem?_getD, List.getElem?_eq_getElem (show x.toNat < l.length by omega)]
 exact List.getElem_mem _
theorem g_pick (i : Nat) (l : List Int) (a : Int) (ps : List Int) (k : Option Nat) (h : Hp) (hl : SOk l) (ha : 0 ≤ a ∧ a ≤ 1000000000) (hp : 1 ≤ ps.length ∧ ps.length ≤ 100) :
  ACalls Tryz.prog 8 [.ptr i 0, .row 1 (ps.map encI) k] (h.st i l a) (fun r h' => ∃ x ∈ ps, r = .v (.int .i64 x) ∧ h' = h.st i l (a + 1)) := by
 refine gE Tryz.func8 rfl (by kernel_rfl) 10 rfl fun c => ?_
 (repeat (first | refine gO rfl ?_ | (refine gR fun K1 hK1 => ?_; simp only [go_sem, ↓reduceIte, reduceCtorEq, nA, nB, nC, nD, nE, nF] <;> and_intros <;> first | (apply hK1; clear hK1 K1) | (intros; first | omega | decide | (simp_all <;> omega)) | skip)))
 refine (g_next i l a ps.length h hl ha (by omega)).mono ?_; rintro _ _ ⟨x, hx, rfl, rfl⟩; apply hK1; clear hK1 K1
 have hg := getD_enc encI ps x.toNat 0 (by omega)
 (repeat (first | refine gO rfl ?_ | (refine gR fun K1 hK1 => ?_; simp only [go_sem, ↓reduceIte, reduceCtorEq, nA, nB, nC, nD, nE, nF, hg, encI] <;> and_intros <;> first | (apply hK1; clear hK1 K1) | (intros; first | omega | decide | (simp_all <;> omega)) | skip)))
 simp only [Tryz.results8, go_sem, ↓reduceIte, reduceCtorEq, nA, nB, nC, nD, nE, nF]
 exact ⟨_, _, Weak.refl _, Hp.le.refl _, _, getD_mem hx, rfl, rfl⟩
def encS (x : ByteArray) : List AV := [.v (.string x)]
theorem getD_memS {l : List ByteArray} {x : Int} (h : 0 ≤ x ∧ x < l.length) (d : ByteArray) : l.getD x.toNat d ∈ l := by
 rw [List.getD_eq_getElem?_getD, List.getElem?_eq_getElem (show x.toNat < l.length by omega)]
 exact List.getElem_mem _
theorem g_some (i : Nat) (l : List Int) (a : Int) (ps : List ByteArray) (k : Option Nat) (h : Hp) (hl : SOk l) (ha : 0 ≤ a ∧ a ≤ 1000000000) (hp : 1 ≤ ps.length ∧ ps.length ≤ 100) :
  ACalls Tryz.prog 15 [.ptr i 0, .row 1 (ps.map encS) k] (h.st i l a) (fun r h' => ∃ x ∈ ps, r = .v (.string x) ∧ h' = h.st i l (a + 1)) := by
 refine gE Tryz.func15 rfl (by kernel_rfl) 10 rfl fun c => ?_
 (repeat (first | refine gO rfl ?_ | (refine gR fun K1 hK1 => ?_; simp only [go_sem, ↓reduceIte, reduceCtorEq, nA, nB, nC, nD, nE, nF] <;> and_intros <;> first | (apply hK1; clear hK1 K1) | (intros; first | omega | decide | (simp_all <;> omega)) | skip)))
 refine (g_next i l a ps.length h hl ha (by omega)).mono ?_; rintro _ _ ⟨x, hx, rfl, rfl⟩; apply hK1; clear hK1 K1
 have hg := getD_enc encS ps x.toNat default (by omega)
 (repeat (first | refine gO rfl ?_ | (refine gR fun K1 hK1 => ?_; simp only [go_sem, ↓reduceIte, reduceCtorEq, nA, nB, nC, nD, nE, nF, hg, encS] <;> and_intros <;> first | (apply hK1; clear hK1 K1) | (intros; first | omega | decide | (simp_all <;> omega)) | skip)))
 simp only [Tryz.results15, go_sem, ↓reduceIte, reduceCtorEq, nA, nB, nC, nD, nE, nF]
 exact ⟨_, _, Weak.refl _, Hp.le.refl _, _, getD_memS hx _, rfl, rfl⟩
inductive LT where
 | mk (kind : Int) (item : ByteArray) (long many : Int) (kids : List LT) (shares : List Int)
instance : Inhabited LT := ⟨.mk 0 default 0 0 [] []⟩
def encL : LT → List AV
 | .mk kind item long many kids shares => [.v (.int .i64 kind), .v (.string item), .v (.int .i64 long), .v (.int .i64 many), .row 6 (kids.map encL) none, .row 1 (shares.map encI) none]
theorem encL_eq (kind : Int) (item : ByteArray) (long many : Int) (kids : List LT) (shares : List Int) : encL (.mk kind item long many kids shares) = [.v (.int .i64 kind), .v (.string item), .v (.int .i64 long), .v (.int .i64 many), .row 6 (kids.map encL) none, .row 1 (shares.map encI) none] := by rw [encL]
theorem encL_len (t : LT) : (encL t).length = 6 := by cases t; rw [encL_eq]; rfl
def WL (cs ds : List AV) : Prop := cs.length = ds.length ∧ ∀ j, Weak (cs.getD j .junk) (ds.getD j .junk)
theorem WL.nil : WL [] [] := ⟨rfl, fun _ => Weak.refl _⟩
theorem WL.cons {a b : AV} {cs ds : List AV} (h : Weak a b) (k : WL cs ds) : WL (a :: cs) (b :: ds) := ⟨by simp [k.1], fun j => by
 cases j with
 | zero => exact h
 | succ j => exact k.2 j⟩
theorem Weak.agg {cs ds : List AV} (h : WL cs ds) : Weak (.agg cs) (.agg ds) := fun G v hr => by
 cases hr with
 | agg _ vs u hl hu hr h1 =>
  refine .agg _ vs u (by rw [hl, h.1]) (fun j hj => hu j (by rw [h.1]; exact hj)) (fun j hj => ?_) (fun j hj => h1 j (by rw [h.1]; exact hj))
  have hj' : j < cs.length := by rw [h.1]; exact hj
  have := h.2 j G _ (by rw [List.getD_eq_getElem?_getD, List.getElem?_eq_getElem hj']; exact hr j hj')
  rwa [List.getD_eq_getElem?_getD, List.getElem?_eq_getElem hj] at this
def NB (x : Int) : Prop := -5000000000000000 ≤ x ∧ x ≤ 5000000000000000
def LB : Nat → LT → Prop
 | 0, _ => False
 | d + 1, .mk kind item long many kids shares => NB kind ∧ item.size ≤ 2 ∧ NB long ∧ NB many ∧ kids.length ≤ 3 ∧ shares.length ≤ 4 ∧ (∀ x ∈ shares, NB x) ∧ ∀ k ∈ kids, LB d k
theorem LB.mono : ∀ {d e : Nat} {t : LT}, LB d t → d ≤ e → LB e t
 | 0, _, _, h, _ => h.elim
 | d + 1, 0, _, _, h => by omega
 | d + 1, e + 1, .mk .., h, hd => ⟨h.1, h.2.1, h.2.2.1, h.2.2.2.1, h.2.2.2.2.1, h.2.2.2.2.2.1, h.2.2.2.2.2.2.1, fun k hk => (h.2.2.2.2.2.2.2 k hk).mono (by omega)⟩
def OLd (b : Bool) (T : Nat → Option TO) (S : Nat → Prop) : Nat → List AV → Prop
 | 0, _ => False
 | d + 1, cs => ∃ (kind : Int) (item : ByteArray) (long many : Int) (K Sh : AV), cs = [.v (.int .i64 kind), .v (.string item), .v (.int .i64 long), .v (.int .i64 many), K, Sh] ∧
   (NB kind ∧ item.size ≤ 2 ∧ NB long ∧ NB many) ∧
   (K = .v (.slice none 0 0) ∨ (∃ q css, S q ∧ T q = some (.cont 6 css) ∧ K = .arr 6 q css.length ∧ 0 < css.length ∧ css.length ≤ 3 ∧ ∀ c ∈ css, OLd b T S d c) ∨ (b = false ∧ ∃ css, K = .row 6 css none ∧ css.length ≤ 3 ∧ ∀ c ∈ css, OLd b T S d c)) ∧
   (Sh = .v (.slice none 0 0) ∨ ∃ (xs : List Int) (k : Nat), Sh = .row 1 (xs.map encI) (some k) ∧ xs.length ≤ 5 ∧ (∀ x ∈ xs, NB x) ∧ (b = true → S k ∧ T k = some (.tail xs.length) ∧ xs.length ≤ 4))
theorem OLd.len {b : Bool} {T : Nat → Option TO} {S : Nat → Prop} {d : Nat} {cs : List AV} (h : OLd b T S d cs) : cs.length = 6 := by
 cases d with
 | zero => exact h.elim
 | succ d => obtain ⟨_, _, _, _, _, _, rfl, _⟩ := h; rfl
theorem OLd.keep {b : Bool} {T T' : Nat → Option TO} {S : Nat → Prop} (hT : ∀ k, S k → (∃ x, T k = some (.cont 6 x)) → T' k = T k) (hs : b = true → ∀ k n, T k = some (.tail n) → T' k = some (.tail n)) : ∀ {d : Nat} {cs : List AV}, OLd b T S d cs → OLd b T' S d cs
 | 0, _, h => h.elim
 | d + 1, cs, ⟨kind, item, long, many, K, Sh, e, h1, h2, h3⟩ => by
  refine ⟨kind, item, long, many, K, Sh, e, h1, ?_, ?_⟩
  ·rcases h2 with h2 | ⟨q, css, hq, hTq, hK, hp, hl, hc⟩ | ⟨hbf, css, hK, hl, hc⟩
   ·exact .inl h2
   ·exact .inr (.inl ⟨q, css, hq, by rw [hT q hq ⟨css, hTq⟩]; exact hTq, hK, hp, hl, fun c hc' => (hc c hc').keep hT hs⟩)
   ·exact .inr (.inr ⟨hbf, css, hK, hl, fun c hc' => (hc c hc').keep hT hs⟩)
  ·rcases h3 with h3 | ⟨xs, k, h3, hl, hx, hb⟩
   ·exact .inl h3
   ·exact .inr ⟨xs, k, h3, hl, hx, fun hb' => ⟨(hb hb').1, hs hb' k _ (hb hb').2.1, (hb hb').2.2⟩⟩
theorem OLd.more {b : Bool} {T : Nat → Option TO} {S S' : Nat → Prop} (hS : ∀ k, S k → S' k) : ∀ {d : Nat} {cs : List AV}, OLd b T S d cs → OLd b T S' d cs
 | 0, _, h => h.elim
 | d + 1, cs, ⟨kind, item, long, many, K, Sh, e, h1, h2, h3⟩ => by
  have h3' : Sh = .v (.slice none 0 0) ∨ ∃ (xs : List Int) (k : Nat), Sh = .row 1 (xs.map encI) (some k) ∧ xs.length ≤ 5 ∧ (∀ x ∈ xs, NB x) ∧ (b = true → S' k ∧ T k = some (.tail xs.length) ∧ xs.length ≤ 4) := by
   rcases h3 with h3 | ⟨xs, k, h3, h4, h5, h6⟩
   ·exact .inl h3
   ·exact .inr ⟨xs, k, h3, h4, h5, fun hb => ⟨hS k (h6 hb).1, (h6 hb).2⟩⟩
  refine ⟨kind, item, long, many, K, Sh, e, h1, ?_, h3'⟩
  rcases h2 with h2 | ⟨q, css, hq, hTq, hK, hp, hl, hc⟩ | ⟨hbf, css, hK, hl, hc⟩
  ·exact .inl h2
  ·exact .inr (.inl ⟨q, css, hS q hq, hTq, hK, hp, hl, fun c hc' => (hc c hc').more hS⟩)
  ·exact .inr (.inr ⟨hbf, css, hK, hl, fun c hc' => (hc c hc').more hS⟩)
theorem RepL.of6 {G G' : Gh} {a b c d e f a' b' c' d' e' f' : AV} {us : List Value} (h : RepL G [a, b, c, d, e, f] us) (h0 : ∀ x, Rep G a x → Rep G' a' x) (h1 : ∀ x, Rep G b x → Rep G' b' x) (h2 : ∀ x, Rep G c x → Rep G' c' x) (h3 : ∀ x, Rep G d x → Rep G' d' x)
  (h4 : ∀ x, Rep G e x → Rep G' e' x) (h5 : ∀ x, Rep G f x → Rep G' f' x) : RepL G' [a', b', c', d', e', f'] us := by
 refine ⟨h.1, fun j hj hj' => ⟨?_, (h.2 j hj hj').2⟩⟩
 have h9 := (h.2 j hj hj').1
 match j, hj with
 | 0, _ => exact h0 _ h9
 | 1, _ => exact h1 _ h9
 | 2, _ => exact h2 _ h9
 | 3, _ => exact h3 _ h9
 | 4, _ => exact h4 _ h9
 | 5, _ => exact h5 _ h9
 | j + 6, hj => simp at hj; omega
def LC : Nat → LT → Prop
 | 0, _ => False
 | d + 1, .mk kind item long many kids shares => NB kind ∧ item.size ≤ 2 ∧ NB long ∧ NB many ∧ kids.length ≤ 3 ∧ shares.length ≤ 5 ∧ (∀ x ∈ shares, NB x) ∧ ∀ k ∈ kids, LC d k
theorem LC.mono : ∀ {d e : Nat} {t : LT}, LC d t → d ≤ e → LC e t
 | 0, _, _, h, _ => h.elim
 | d + 1, 0, _, _, h => by omega
 | d + 1, e + 1, .mk .., h, hd => ⟨h.1, h.2.1, h.2.2.1, h.2.2.2.1, h.2.2.2.2.1, h.2.2.2.2.2.1, h.2.2.2.2.2.2.1, fun k hk => (h.2.2.2.2.2.2.2 k hk).mono (by omega)⟩
theorem OLd.list {b : Bool} {T : Nat → Option TO} {S : Nat → Prop} {G G' : Gh} {d : Nat} (ih : ∀ cs, OLd b T S d cs → ∃ t, LC d t ∧ ∀ us, RepL G cs us → RepL G' (encL t) us) : ∀ (css : List (List AV)) (_ : ∀ c ∈ css, OLd b T S d c),
  ∃ ts : List LT, ts.length = css.length ∧ (∀ t ∈ ts, LC d t) ∧ ∀ us, RepL G css.flatten us → RepL G' (ts.map encL).flatten us
 | [], _ => ⟨[], rfl, by simp, fun us h => by cases us with | nil => exact RepL.nil _ | cons => have := h.1; simp at this⟩
 | c :: css, h => by
  obtain ⟨t, ht, hr⟩ := ih c (h c (by simp))
  obtain ⟨ts, hl, hts, hrs⟩ := OLd.list ih css fun c hc => h c (by simp [hc])
  refine ⟨t :: ts, by simp [hl], by simpa using ⟨ht, hts⟩, fun us hu => ?_⟩
  have h1 := hu.take c.length
  have h2 := hu.drop c.length
  simp only [List.flatten_cons, List.take_left, List.drop_left] at h1 h2
  have := (hr _ h1).append (hrs _ h2)
  rw [List.take_append_drop] at this
  exact this
theorem OLd.freeze {b : Bool} {T : Nat → Option TO} {S : Nat → Prop} {G G' : Gh} (hle : GLe G G') (hf : Fzs T S G G') : ∀ (d : Nat) (cs : List AV), OLd b T S d cs → ∃ t, LC d t ∧ ∀ us, RepL G cs us → RepL G' (encL t) us
 | 0, _, h => h.elim
 | d + 1, cs, ⟨kind, item, long, many, K, Sh, e, ⟨b1, b2, b3, b4⟩, h2, h3⟩ => by
  subst e
  have hK : ∃ ts : List LT, ts.length ≤ 3 ∧ (∀ t ∈ ts, LC d t) ∧ ∀ x, Rep G K x → Rep G' (.row 6 (ts.map encL) none) x := by
   have hz : ∀ ts : List LT, ∀ y ∈ ts.map encL, y.length = 6 := fun ts y hy => by
    obtain ⟨t, _, rfl⟩ := List.mem_map.1 hy
    exact encL_len t
   rcases h2 with rfl | ⟨q, css, hq, hT, rfl, _, hl, hc⟩ | ⟨_, css, rfl, hl, hc⟩
   ·exact ⟨[], by simp, by simp, fun x hx => Weak.nil 6 0 0 ⟨rfl, rfl⟩ G' x (hx.mono hle)⟩
   ·obtain ⟨ts, htl, htb, hts⟩ := OLd.list (OLd.freeze hle hf d) css hc
    exact ⟨ts, by omega, htb, fun x hx => hf q 6 css x hq hT hx _ (by simpa using htl) (hz ts) hts⟩
   ·obtain ⟨ts, htl, htb, hts⟩ := OLd.list (OLd.freeze hle hf d) css hc
    exact ⟨ts, by omega, htb, fun x hx => hx.rowFlat hle (by simpa using htl) (hz ts) hts⟩
  have hS : ∃ xs : List Int, xs.length ≤ 5 ∧ (∀ x ∈ xs, NB x) ∧ ∀ x, Rep G Sh x → Rep G' (.row 1 (xs.map encI) none) x := by
   rcases h3 with rfl | ⟨xs, k, rfl, hl, hx, _⟩
   ·exact ⟨[], by simp, by simp, fun x hx => Weak.nil 1 0 0 ⟨rfl, rfl⟩ G' x (hx.mono hle)⟩
   ·exact ⟨xs, hl, hx, fun x hx => Weak.row _ _ _ G' x (hx.mono hle)⟩
  obtain ⟨ts, hl, htb, hts⟩ := hK
  obtain ⟨xs, hxl, hxb, hxs⟩ := hS
  refine ⟨.mk kind item long many ts xs, ⟨b1, b2, b3, b4, hl, hxl, hxb, htb⟩, fun us hu => ?_⟩
  rw [encL_eq]
  exact hu.of6 (fun x hx => hx.mono hle) (fun x hx => hx.mono hle) (fun x hx => hx.mono hle) (fun x hx => hx.mono hle) hts hxs
open Go.RowKit
theorem gb_refl (w : World) (r : Option Nat) : w.grownBy w r := ⟨rfl, rfl, rfl, Nat.le_refl _, fun _ _ _ => rfl⟩
theorem gb_trans {a b c : World} {r : Option Nat} (h : a.grownBy b r) (k : b.grownBy c r) : a.grownBy c r :=
  ⟨k.os.trans h.os, k.tape.trans h.tape, k.output.trans h.output, Nat.le_trans h.size k.size, fun i hi hn => (k.block i (Nat.lt_of_lt_of_le hi h.size) hn).trans (h.block i hi hn)⟩
theorem gb_alloc {a w : World} {r : Option Nat} (h : a.grownBy w r) (o : Obj) : a.grownBy (w.alloc o) r :=
  ⟨h.os, h.tape, h.output, Nat.le_trans h.size (by simp), fun i hi hne => (Below.heap_alloc w o i (Nat.lt_of_lt_of_le hi h.size)).trans (h.block i hi hne)⟩
theorem gb_below {a w : World} (h : Below a.heap.size a w) (r : Option Nat) : a.grownBy w r := ⟨h.os, h.tape, h.output, h.size, fun i hi _ => h.block i hi⟩
def Lst (w : World) (lo size : Nat) (v : Value) (xs : List Value) : Prop :=
  ∃ (A : Option Addr) (n c : Nat), v = .slice A n c ∧ n ≤ c ∧ c ≤ maxLen ∧ xs.length = n * size ∧
    (0 < n → ∃ g o, A = some ⟨g, o, none⟩ ∧ lo ≤ g ∧ g < w.heap.size ∧ ∀ j u, xs[j]? = some u → w.cell? ⟨g, o + j, none⟩ = some u)
theorem Lst.mono {w : World} {lo lo' size : Nat} {v : Value} {xs : List Value} (h : Lst w lo size v xs) (hl : lo' ≤ lo) : Lst w lo' size v xs := by
  obtain ⟨A, n, c, hv, hn, hc, hx, hr⟩ := h
  exact ⟨A, n, c, hv, hn, hc, hx, fun h0 => let ⟨g, o, hA, hg, hlt, hcell⟩ := hr h0; ⟨g, o, hA, Nat.le_trans hl hg, hlt, hcell⟩⟩
theorem Lst.keep {w w' : World} {lo size : Nat} {v : Value} {xs : List Value} (h : Lst w lo size v xs) (hs : w.heap.size ≤ w'.heap.size)
    (hk : ∀ k, lo ≤ k → k < w.heap.size → w'.heap[k]? = w.heap[k]?) : Lst w' lo size v xs := by
  obtain ⟨A, n, c, hv, hn, hc, hx, hr⟩ := h
  refine ⟨A, n, c, hv, hn, hc, hx, fun h0 => ?_⟩
  obtain ⟨g, o, hA, hg, hlt, hcell⟩ := hr h0
  exact ⟨g, o, hA, hg, Nat.lt_of_lt_of_le hlt hs, fun j u hu => (World.cell?_of_block (w := w) (hk g hg hlt)).trans (hcell j u hu)⟩
theorem Lst.below {w w' : World} {lo size : Nat} {v : Value} {xs : List Value} (h : Lst w lo size v xs) (hb : Below w.heap.size w w') : Lst w' lo size v xs :=
  h.keep hb.size fun k _ hk => hb.block k hk
theorem Lst.nil (w : World) (lo size : Nat) : Lst w lo size (.slice none 0 0) [] := ⟨none, 0, 0, rfl, Nat.le_refl _, Nat.zero_le _, by simp, fun h => absurd h (by omega)⟩
theorem Lst.at_ {w : World} {lo n c k : Nat} {A : Option Addr} {xs : List Value} (h : Lst w lo 1 (.slice A n c) xs) (hk : k < n) :
    ∃ g o u, A = some ⟨g, o, none⟩ ∧ lo ≤ g ∧ g < w.heap.size ∧ xs[k]? = some u ∧ w.cell? ⟨g, o + k, none⟩ = some u := by
  obtain ⟨A', n', c', hv, hn, hc, hx, hr⟩ := h
  simp only [Value.slice.injEq] at hv
  obtain ⟨rfl, rfl, rfl⟩ := hv
  obtain ⟨g, o, hA, hg, hlt, hcell⟩ := hr (by omega)
  have hl : k < xs.length := by omega
  exact ⟨g, o, xs[k], hA, hg, hlt, List.getElem?_eq_getElem hl, hcell k _ (List.getElem?_eq_getElem hl)⟩
def IsStream (ts : TypeId) (w : World) (b M : Nat) : Prop :=
  ∃ (a : Option Addr) (len cap : Nat) (at_ : Nat), w.heap[b]? = some (.cells #[.slice a len cap, .int .i64 (at_ : Int)] ts (0, 0)) ∧ at_ ≤ M ∧ len ≤ 9223372036854775807 ∧
    (0 < len → ∃ x, a = some x ∧ x.block < b ∧ x.spot = none ∧ ∀ i, i < len → ∃ z : Int, w.cell? ⟨x.block, x.off + i, none⟩ = some (.int .i64 z))
theorem block_lt {w : World} {b : Nat} {o : Obj} (h : w.heap[b]? = some o) : b < w.heap.size := by
  rcases Nat.lt_or_ge b w.heap.size with hl | hl
  · exact hl
  · rw [Array.getElem?_eq_none hl] at h; cases h
theorem IsStream.lt {ts : TypeId} {w : World} {b M : Nat} (h : IsStream ts w b M) : b < w.heap.size := by
  obtain ⟨_, _, _, _, hh, _⟩ := h
  exact block_lt hh
theorem IsStream.below {ts : TypeId} {w w' : World} {b M : Nat} (h : IsStream ts w b M) (hb : Below w.heap.size w w') : IsStream ts w' b M := by
  have hlt := h.lt
  obtain ⟨a, len, cap, at_, hh, h1, h2, h3⟩ := h
  refine ⟨a, len, cap, at_, (hb.block b hlt).trans hh, h1, h2, fun h0 => ?_⟩
  obtain ⟨x, hx, hxb, hs, hc⟩ := h3 h0
  refine ⟨x, hx, hxb, hs, fun i hi => ?_⟩
  obtain ⟨z, hz⟩ := hc i hi
  exact ⟨z, (hb.cell (p := ⟨x.block, x.off + i, none⟩) (by show x.block < _; omega)).trans hz⟩
theorem IsStream.mono {ts : TypeId} {w : World} {b M M' : Nat} (h : IsStream ts w b M) (hM : M ≤ M') : IsStream ts w b M' := by
  obtain ⟨a, len, cap, at_, hh, h1, h2⟩ := h
  exact ⟨a, len, cap, at_, hh, by omega, h2⟩
theorem IsStream.alloc {ts : TypeId} {w : World} {b M : Nat} (h : IsStream ts w b M) (o : Obj) : IsStream ts (w.alloc o) b M :=
  h.below ((Below.refl _ _).alloc (Nat.le_refl _) o)
structure Goes (ts : TypeId) (b M k : Nat) (w w' : World) : Prop where
  is : IsStream ts w' b (M + k)
  gb : w.grownBy w' (some b)
theorem Goes.refl {ts : TypeId} {b M k : Nat} {w : World} (h : IsStream ts w b M) : Goes ts b M k w w := ⟨h.mono (by omega), gb_refl _ _⟩
theorem Goes.trans {ts : TypeId} {b M k j m : Nat} {w w1 w2 : World} (h : Goes ts b M k w w1) (h' : Goes ts b (M + k) j w1 w2) (hm : k + j ≤ m) : Goes ts b M m w w2 :=
  ⟨h'.is.mono (by omega), gb_trans h.gb h'.gb⟩
theorem Goes.more {ts : TypeId} {b M k k' : Nat} {w w1 : World} (h : Goes ts b M k w w1) (hk : k ≤ k') : Goes ts b M k' w w1 := ⟨h.is.mono (by omega), h.gb⟩
theorem Goes.below {ts : TypeId} {b M k : Nat} {w w1 w2 : World} (h : Goes ts b M k w w1) (hb : Below w1.heap.size w1 w2) : Goes ts b M k w w2 :=
  ⟨h.is.below hb, gb_trans h.gb (gb_below hb _)⟩
theorem Goes.alloc {ts : TypeId} {b M k : Nat} {w w1 : World} (h : Goes ts b M k w w1) (o : Obj) : Goes ts b M k w (w1.alloc o) := ⟨h.is.alloc o, gb_alloc h.gb o⟩
def keyByte (i n : Nat) : Bool := (decide (97 ≤ n) && decide (n ≤ 122)) || (decide (0 < i) && ((decide (48 ≤ n) && decide (n ≤ 57)) || n == 45 || n == 95))
def keyTo (s : ByteArray) : Nat → Bool
  | 0 => true
  | k + 1 => keyTo s k && keyByte k (s.data.toList.getD k 0).toNat
def keyB (s : ByteArray) : Bool := keyTo s s.size && decide (1 ≤ s.size) && decide (s.size ≤ 40)
theorem keyTo_le (s : ByteArray) {k m : Nat} (h : k ≤ m) (hm : keyTo s m = true) : keyTo s k = true := by
  induction m with
  | zero => obtain rfl : k = 0 := by omega
            rfl
  | succ m ih =>
    by_cases e : k = m + 1
    · rw [e]; exact hm
    · rw [keyTo, Bool.and_eq_true] at hm
      exact ih (by omega) hm.1
theorem keyB_no (s : ByteArray) {k : Nat} (h : k ≤ s.size) (hk : keyTo s k = false) : keyB s = false := by
  have h2 : keyTo s s.size = false := by
    cases h3 : keyTo s s.size with
    | false => rfl
    | true => rw [keyTo_le s h h3] at hk; cases hk
  simp [keyB, h2]
theorem getD_byte (s : ByteArray) (k : Nat) (h : k < s.size) : s.data.toList.getD k 0 = s[k] := by
  have h' : k < s.data.toList.length := h
  simp [List.getD, List.getElem?_eq_getElem h']; rfl
set_option maxRecDepth 100000 in
set_option maxHeartbeats 2000000 in
theorem isKey_any (s : ByteArray) (hsz : s.size ≤ 1000000000000) (w : World) :
    Calls Tryz.prog 52 #[.string s] w fun e w' => e = .returned (.bool (keyB s)) ∧ w = w' := by
  go_enter Tryz.func52, Tryz.ntmps52
  go_wp2_with fail
  go_loopg [3, 4] s.size (fun g i _ wr => ∃ k : Nat, k + g = s.size ∧ i = .int .i64 k ∧ keyTo s k = true ∧ w = wr)
  case atStart => exact ⟨0, by omega, rfl, rfl, rfl⟩
  case round =>
    obtain ⟨k, hk, rfl, hkey, rfl⟩ := hrel
    have HK := Lib.hid hkey
    clear hkey
    by_cases hg : gk = 0
    · obtain rfl : k = s.size := by omega
      by_cases h0 : s.size = 0
      · have e0 : s = ⟨#[]⟩ := by
          obtain ⟨⟨l⟩⟩ := s
          have : l = [] := List.eq_nil_of_length_eq_zero h0
          rw [this]
        subst e0
        go_wp2_with fail
        go_ret
        exact ⟨rfl, rfl⟩
      · have hne : s.toList.isEmpty = false := by
          rw [ByteArray.toList_eq]
          cases hl : s.data.toList with
          | nil => exact absurd (show s.data.toList.length = 0 by rw [hl]; rfl) h0
          | cons _ _ => rfl
        go_wp2_with fail
        go_ret
        refine ⟨?_, rfl⟩
        have e1 : keyB s = decide ((s.size : Int) ≤ 40) := by
          have h1 : decide (1 ≤ s.size) = true := by simp; omega
          rw [keyB, HK.out, h1, Bool.true_and, Bool.true_and, Bool.eq_iff_iff]; simp; omega
        rw [e1]; rfl
    · have hlt : k < s.size := by omega
      have HG := Lib.hid (show keyTo s (k + 1) = (keyTo s k && keyByte k s[k].toNat) by rw [keyTo, getD_byte s k hlt])
      go_upto_region 5 with fail
      generalize s[k].toNat = n at *
      go_cut [40] (fun s40 wx => s40 = .bool (!keyByte k n) ∧ w = wx)
      case first =>
        by_cases c1 : n < 97
        · by_cases ck : k ≤ 0
          · have HV := Lib.hid (show keyByte k n = false by simp [keyByte]; omega)
            go_wp2_with fail
            go_meet
            exact ⟨by rw [HV.out]; first | rfl | (simp; omega), rfl⟩
          · have ck' : 0 < k := by omega
            by_cases c2 : n < 48
            · by_cases c3 : n = 45
              · have b3 : ((n : Int) == 45) = true := by simp; omega
                have HV := Lib.hid (show keyByte k n = true by simp [keyByte]; omega)
                go_wp2_with fail
                go_meet
                exact ⟨by rw [HV.out]; first | rfl | (simp; omega), rfl⟩
              · have b3 : ((n : Int) == 45) = false := by simp; omega
                have b4 : ((n : Int) == 95) = false := by simp; omega
                have HV := Lib.hid (show keyByte k n = false by simp [keyByte]; omega)
                go_wp2_with fail
                go_meet
                exact ⟨by rw [HV.out]; first | rfl | (simp; omega), rfl⟩
            · by_cases c3 : n ≤ 57
              · have HV := Lib.hid (show keyByte k n = true by simp [keyByte]; omega)
                go_wp2_with fail
                go_meet
                exact ⟨by rw [HV.out]; first | rfl | (simp; omega), rfl⟩
              · have b3 : ((n : Int) == 45) = false := by simp; omega
                by_cases c4 : n = 95
                · have b4 : ((n : Int) == 95) = true := by simp; omega
                  have HV := Lib.hid (show keyByte k n = true by simp [keyByte]; omega)
                  go_wp2_with fail
                  go_meet
                  exact ⟨by rw [HV.out]; first | rfl | (simp; omega), rfl⟩
                · have b4 : ((n : Int) == 95) = false := by simp; omega
                  have HV := Lib.hid (show keyByte k n = false by simp [keyByte]; omega)
                  go_wp2_with fail
                  go_meet
                  exact ⟨by rw [HV.out]; first | rfl | (simp; omega), rfl⟩
        · by_cases c2 : n ≤ 122
          · have HV := Lib.hid (show keyByte k n = true by simp [keyByte]; omega)
            go_wp2_with fail
            go_meet
            exact ⟨by rw [HV.out]; first | rfl | (simp; omega), rfl⟩
          · by_cases ck : k ≤ 0
            · have HV := Lib.hid (show keyByte k n = false by simp [keyByte]; omega)
              go_wp2_with fail
              go_meet
              exact ⟨by rw [HV.out]; first | rfl | (simp; omega), rfl⟩
            · have ck' : 0 < k := by omega
              have b3 : ((n : Int) == 45) = false := by simp; omega
              have b4 : ((n : Int) == 95) = false := by simp; omega
              have HV := Lib.hid (show keyByte k n = false by simp [keyByte]; omega)
              go_wp2_with fail
              go_meet
              exact ⟨by rw [HV.out]; first | rfl | (simp; omega), rfl⟩
      case rest =>
        obtain ⟨rfl, rfl⟩ := hcut
        rcases Bool.eq_false_or_eq_true (keyByte k n) with c | c
        · rw [c]
          go_wp2_with fail
          go_roundg (gk - 1)
          case measure => omega
          case rel => exact ⟨k + 1, by omega, by go_num, by rw [HG.out, HK.out, c]; rfl, rfl⟩
        · rw [c]
          go_wp2_with fail
          go_ret
          refine ⟨?_, rfl⟩
          have : keyB s = false := keyB_no s (show k + 1 ≤ s.size by omega) (by rw [HG.out, c, Bool.and_false])
          rw [this]; rfl
theorem acalls_pure {P : Program} {f : Nat} (hok : fnOk P f = true) (xs : List Value) {v : Value} (h1 : v.oneCell' = true) (hc : ∀ w, Calls P f xs.toArray w fun e w' => e = .returned v ∧ RowKit.Below w.heap.size w w') (h : Hp) : ACalls P f (xs.map .v) h (fun r h' => r = .v v ∧ h' = h) := by
 refine ⟨hok, fun G w vs hs hl ha => ?_⟩
 have e : vs = xs.toArray := by
  apply Array.ext
  ·simpa using hl
  ·intro j hj hj'
   have hjx : j < (xs.map AV.v).length := by rw [← hl]; exact hj
   have := ha j hjx
   simp only [List.getElem_map] at this
   have h2 : vs.getD j undef = vs[j] := by simp [Array.getD, hj]
   rw [h2] at this
   simp only [List.getElem_toArray]
   generalize vs[j] = y at this
   cases this
   rfl
 subst e
 refine (hc w).mono ?_
 rintro _ w' ⟨rfl, hb⟩
 have hb' : ∀ b, b < w.heap.size → w'.heap[b]? = w.heap[b]? := fun b hb2 => hb.block b hb2
 exact ⟨_, h, G, v, rfl, ⟨rfl, rfl⟩, GLe.refl _, Fr.below (Fr.refl _ _ _) hb' hb.os hb.tape hb.output hb.size, hs.below hb', .v _ h1⟩
theorem a_isKey (s : ByteArray) (hs : s.size ≤ 1000000000000) (h : Hp) : ACalls Tryz.prog 52 [.v (.string s)] h (fun r h' => r = .v (.bool (keyB s)) ∧ h' = h) :=
 acalls_pure (by kernel_rfl) [.string s] rfl (fun w => (isKey_any s hs w).mono fun e w' ⟨h1, h2⟩ => ⟨h1, by subst h2; exact ⟨rfl, rfl, rfl, Nat.le_refl _, fun _ _ => rfl⟩⟩) h
inductive AT where
 | mk (i c : Nat) (kids : List AT)
instance : Inhabited AT := ⟨.mk 0 0 []⟩
inductive PS where
 | mk (had : Int) (of : List Int) (kids : List PS)
instance : Inhabited PS := ⟨.mk 0 [] []⟩
def AT.id : AT → Nat
 | .mk i _ _ => i
def idsT : AT → List Nat
 | .mk i _ ks => i :: (ks.map idsT).flatten
def toksT : AT → List Nat
 | .mk _ c ks => c :: (ks.map toksT).flatten
theorem idsT_eq (i c : Nat) (ks : List AT) : idsT (.mk i c ks) = i :: (ks.map idsT).flatten := by rw [idsT]
theorem toksT_eq (i c : Nat) (ks : List AT) : toksT (.mk i c ks) = c :: (ks.map toksT).flatten := by rw [toksT]
theorem idsT_kid {i c : Nat} {ks : List AT} {j : Nat} (h : j < ks.length) {x : Nat} (hx : x ∈ idsT (ks.getD j default)) : x ∈ idsT (.mk i c ks) := by
 rw [idsT_eq]
 refine List.mem_cons_of_mem _ (List.mem_flatten.2 ⟨_, List.mem_map.2 ⟨_, ?_, rfl⟩, hx⟩)
 rw [List.getD_eq_getElem?_getD, List.getElem?_eq_getElem h]; exact List.getElem_mem _
theorem toksT_kid {i c : Nat} {ks : List AT} {j : Nat} (h : j < ks.length) {x : Nat} (hx : x ∈ toksT (ks.getD j default)) : x ∈ toksT (.mk i c ks) := by
 rw [toksT_eq]
 refine List.mem_cons_of_mem _ (List.mem_flatten.2 ⟨_, List.mem_map.2 ⟨_, ?_, rfl⟩, hx⟩)
 rw [List.getD_eq_getElem?_getD, List.getElem?_eq_getElem h]; exact List.getElem_mem _
structure RK where
 ex : LT → List AV
 cf : Int → List Int → List Int
def kidsC (az : List AT) (K : AV) : Prop := az = [] ∧ K = .v (.slice none 0 0) ∨ ∃ tk, K = .row 1 (az.map fun a => [.ptr a.id 0]) tk
def RAt (X : RK) (h : Hp) : Nat → LT → AT → PS → Prop
 | 0, _, _, _ => False
 | d + 1, .mk kind item long many kids shares, .mk i c az, .mk p cs ks =>
  (∃ K, h.H i = some (.cells ([.v (.int .i64 kind), .v (.string item), .v (.int .i64 long), .v (.int .i64 many), .row 6 (kids.map encL) none, .row 1 (shares.map encI) none, K, .v (.int .i64 p), .arr 1 c kids.length] ++ X.ex (.mk kind item long many kids shares))) ∧ kidsC az K) ∧
  h.T c = some (.cont 1 ((X.cf kind cs).map encI)) ∧ ((X.cf kind cs).length = kids.length ∧ cs.length = kids.length ∧ az.length = kids.length ∧ ks.length = kids.length) ∧
  ∀ j, j < kids.length → RAt X h d (kids.getD j default) (az.getD j default) (ks.getD j default)
theorem RAt.frame {X : RK} {h h' : Hp} : ∀ {d : Nat} {t : LT} {a : AT} {s : PS}, RAt X h d t a s → (∀ i ∈ idsT a, h'.H i = h.H i) → (∀ c ∈ toksT a, h'.T c = h.T c) → RAt X h' d t a s
 | 0, _, _, _, h, _, _ => h.elim
 | d + 1, .mk kind item long many kids shares, .mk i c az, .mk p cs ks, ⟨⟨K, h1, hK⟩, h2, h3, h4⟩, hi, hc =>
  ⟨⟨K, by rw [hi i (by rw [idsT_eq]; simp)]; exact h1, hK⟩, by rw [hc c (by rw [toksT_eq]; simp)]; exact h2, h3, fun j hj =>
   (h4 j hj).frame (fun x hx => hi x (idsT_kid (by omega) hx)) (fun x hx => hc x (toksT_kid (by omega) hx))⟩
def PSB : Nat → LT → PS → Int → Prop
 | 0, _, _, _ => True
 | d + 1, .mk _ _ _ _ kids _, .mk p cs ks, n => (0 ≤ p ∧ p ≤ n) ∧ (∀ x ∈ cs, 0 ≤ x ∧ x ≤ n) ∧ ∀ j, j < kids.length → PSB d (kids.getD j default) (ks.getD j default) n
theorem PSB.mono {n m : Int} (hnm : n ≤ m) : ∀ {d : Nat} {t : LT} {s : PS}, PSB d t s n → PSB d t s m
 | 0, _, _, _ => trivial
 | d + 1, .mk .., .mk p cs ks, ⟨h1, h2, h3⟩ => ⟨by omega, fun x hx => by have := h2 x hx; omega, fun j hj => (h3 j hj).mono hnm⟩
section
variable {P : Program} {c : Cx} {Q : Exit → St → Prop} {s : St}
end
open Go
set_option linter.unusedVariables false
set_option linter.unusedSimpArgs false
open Nat renaming reduceAdd → nA, reduceSub → nB, reduceMul → nC, reduceLT → nD, reduceLeDiff → nE, reduceEqDiff → nF, reduceMod → nG, reduceDiv → nH, reducePow → nI
abbrev zP2E : List Nat := [0, 1, 2, 3, 4, 5, 6, 7, 8, 9, 10, 11]
abbrev zP2P : List (Nat × List Nat × List Nat) := []
attribute [go_sem] zP2E zP2P
set_option maxRecDepth 100000
set_option maxHeartbeats 8000000
theorem acalls_pureT {P : Program} {f : Nat} (hok : fnOk P f = true) (xs rs : List Value) (h1 : ∀ v ∈ rs, v.oneCell' = true) (hc : ∀ w, Calls P f xs.toArray w fun e w' => e = .returned (.tuple rs.toArray) ∧ RowKit.Below w.heap.size w w') (h : Hp) : ACalls P f (xs.map .v) h (fun r h' => r = .tup (rs.map .v) ∧ h' = h) := by
 refine ⟨hok, fun G w vs hs hl ha => ?_⟩
 have e : vs = xs.toArray := by
  apply Array.ext
  ·simpa using hl
  ·intro j hj hj'
   have hjx : j < (xs.map AV.v).length := by rw [← hl]; exact hj
   have := ha j hjx
   simp only [List.getElem_map] at this
   have h2 : vs.getD j undef = vs[j] := by simp [Array.getD, hj]
   rw [h2] at this
   simp only [List.getElem_toArray]
   generalize vs[j] = y at this
   cases this
   rfl
 subst e
 refine (hc w).mono ?_
 rintro _ w' ⟨rfl, hb⟩
 have hb' : ∀ b, b < w.heap.size → w'.heap[b]? = w.heap[b]? := fun b hb2 => hb.block b hb2
 refine ⟨_, h, G, .tuple rs.toArray, rfl, ⟨rfl, rfl⟩, GLe.refl _, Fr.below (Fr.refl _ _ _) hb' hb.os hb.tape hb.output hb.size, hs.below hb', ?_⟩
 refine .tup _ _ (fun j => rs.getD j undef) (by simp) (fun j hj => ?_) (fun j hj => ?_)
 ·have hj' : j < rs.length := by simpa using hj
  simp [List.getD_eq_getElem?_getD, hj']
 ·have hj' : j < rs.length := by simpa using hj
  simp only [List.getElem_map, List.getD_eq_getElem?_getD, List.getElem?_eq_getElem hj', Option.getD_some]
  exact .v _ (h1 _ (List.getElem_mem _))
theorem ACalls.frz {P : Program} {f : Nat} {args : List AV} {h : Hp} {z : Nat} {xs : List (List AV)} (hc : ACalls P f args h (fun r h' => ∃ k, r = .arr z k xs.length ∧ h'.H = h.H ∧ h.T k = none ∧ h'.T k = some (.cont z xs) ∧ ∀ t, h.T t ≠ none → h'.T t = h.T t)) (hz : ∀ y ∈ xs, y.length = z) :
  ACalls P f args h (fun r h' => r = .row z xs none ∧ h' = h) := by
 refine hc.gup ?_
 rintro _ h' G w v ⟨k, rfl, hH, hk, hT, hold⟩ hs hr
 obtain ⟨G', hle, hfr, hs2, hfz⟩ := hs.freeze (h2 := h) (fun j => h.T j = none) hH.symm (fun j hj => hj) (fun j hj => (hold j hj).symm)
 exact ⟨_, h, G', ⟨rfl, rfl⟩, hle, hfr, hs2, hfz k z xs v hk hT hr xs rfl hz fun us hus => hus.mono hle⟩
theorem bel_id (w : World) : RowKit.Below w.heap.size w w := ⟨rfl, rfl, rfl, Nat.le_refl _, fun _ _ => rfl⟩
def sN : ByteArray := ⟨#[110]⟩
def sT : ByteArray := ⟨#[123, 110, 125]⟩
theorem c_cutPrefix (p : ByteArray) (h : Hp) (hp : Lib.trimPrefix sN.data.toList p.data.toList = [110] ∧ Lib.hasPrefix sN.data.toList p.data.toList = false) : ACalls Tryz.prog 231 [.v (.string sN), .v (.string p)] h (fun r h' => r = .tup [.v (.string sN), .v (.bool false)] ∧ h' = h) :=
 acalls_pureT (by kernel_rfl) [.string sN, .string p] [.string sN, .bool false] (by simp [Value.oneCell']) (fun w => (Tryz.strings_CutPrefix sN p w).mono fun e w' ⟨h1, h2⟩ => ⟨by rw [h1, hp.1, hp.2]; rfl, by rw [h2]; exact bel_id w⟩) h
theorem c_count (h : Hp) : ACalls Tryz.prog 295 [.v (.string sN), .v (.string ⟨#[58]⟩)] h (fun r h' => r = .v (.int .i64 0) ∧ h' = h) :=
 acalls_pure (by kernel_rfl) [.string sN, .string ⟨#[58]⟩] rfl (fun w => (Tryz.strings_Count_one sN 58 w).mono fun e w' ⟨h1, h2⟩ => ⟨by rw [h1]; rfl, by rw [h2]; exact bel_id w⟩) h
theorem c_index (h : Hp) : ACalls Tryz.prog 304 [.v (.string sN), .v (.string ⟨#[46]⟩)] h (fun r h' => r = .v (.int .i64 (-1)) ∧ h' = h) :=
 acalls_pure (by kernel_rfl) [.string sN, .string ⟨#[46]⟩] rfl (fun w => (Tryz.stringslite_Index_one sN 46 w).mono fun e w' ⟨h1, h2⟩ => ⟨by rw [h1]; rfl, by rw [h2]; exact bel_id w⟩) h
theorem c_indexByte (h : Hp) : ACalls Tryz.prog 100 [.v (.string sT), .v (.int .u8 125)] h (fun r h' => r = .v (.int .i64 2) ∧ h' = h) :=
 acalls_pure (by kernel_rfl) [.string sT, .int .u8 125] rfl (fun w => (Tryz.strings_IndexByte sT 125 w).mono fun e w' ⟨h1, h2⟩ => ⟨by rw [h1]; rfl, by rw [h2]; exact bel_id w⟩) h
theorem c_indexAny (h : Hp) : ACalls Tryz.prog 199 [.v (.string sT), .v (.string ⟨#[123, 125]⟩)] h (fun r h' => r = .v (.int .i64 0) ∧ h' = h) :=
 acalls_pure (by kernel_rfl) [.string sT, .string ⟨#[123, 125]⟩] rfl (fun w => (Tryz.strings_IndexAny_short sT ⟨#[123, 125]⟩ w (by decide) (by decide) (fun j b hb => by
  have hm : b ∈ sT.data.toList := List.mem_of_getElem? hb
  have hall : ∀ x ∈ sT.data.toList, x.toNat < 128 := by decide
  exact hall b hm)).mono fun e w' ⟨h1, h2⟩ => ⟨by rw [h1]; rfl, by
   obtain ⟨pos, rfl⟩ := h2
   exact (bel_id w).alloc (Nat.le_refl _) _⟩) h
theorem c_cutL (h : Hp) : ACalls Tryz.prog 293 [.v (.string sN), .v (.string ⟨#[46]⟩)] h (fun r h' => r = .tup [.v (.string sN), .v (.string ⟨#[]⟩), .v (.bool false)] ∧ h' = h) := by
 have h1 := fun h => c_index h
 refine gE Tryz.func293 rfl (by kernel_rfl) 21 rfl fun c => ?_
 (repeat (first | refine gO rfl ?_ | ((first | refine gR ?_ | (with_reducible refine wM ?_ ?_) | ((with_reducible refine xS ?_); refine uD 3 zM10 zP2E zP2P 23 rfl (by kernel_rfl) ?_)) <;> ((try with_reducible intro K1 hK1); simp only [go_sem, ↓reduceIte, reduceCtorEq, nA, nB, nC, nD, nE, nF, Int.reduceBEq, Int.reduceTMod, Int.reduceTDiv, Int.reduceMul, Int.reduceBNe, Int.reduceLT, Int.reduceLE, Int.reduceAdd, Int.reduceSub, Int.reduceNeg, decide_true, decide_false, Bool.true_and, Bool.false_and, Bool.and_true, Bool.and_false, Bool.or_false, Bool.or_true, Bool.true_or, Bool.false_or, Bool.not_true, Bool.not_false, true_implies, false_implies, true_and, and_true, Int.reduceToNat] <;> and_intros <;> first | (apply hK1; clear hK1 K1) | (intros; first | omega | decide) | skip)) | (refine awp_cond (t := _) rfl (fun hq => ?_) (fun hq => ?_) <;> first | (exact absurd hq (by decide)) | (cases hq; done) | (clear hq)) | (refine awp_un 8 ?_) | (with_reducible exact rfl) | (with_reducible exact trivial) | ((with_reducible show uside _); first | exact True.intro | exact rfl) | ((with_reducible show opS _ _); exact True.intro) | (refine ⟨AV.v (.bool true), rfl, hK1 _ ?_⟩; clear hK1 K1) | (refine (h1 _).mono ?_; rintro _ hz ⟨rfl, hh⟩; (first | (refine hK1 _ ?_) | (refine ⟨rfl, hK1 _ ?_⟩)); clear hK1 K1; rw [hh]; clear hh hz)))
 simp only [Tryz.results293, go_sem, ↓reduceIte, reduceCtorEq, nA, nB, nC, nD, nE, nF]
 exact ⟨_, _, Weak.refl _, Hp.le.refl _, rfl, rfl⟩
theorem c_cut (h : Hp) : ACalls Tryz.prog 282 [.v (.string sN), .v (.string ⟨#[46]⟩)] h (fun r h' => r = .tup [.v (.string sN), .v (.string ⟨#[]⟩), .v (.bool false)] ∧ h' = h) := by
 have h1 := fun h => c_cutL h
 refine gE Tryz.func282 rfl (by kernel_rfl) 11 rfl fun c => ?_
 (repeat (first | refine gO rfl ?_ | (refine gR fun K1 hK1 => ?_; simp only [go_sem, ↓reduceIte, reduceCtorEq, nA, nB, nC, nD, nE, nF, Int.reduceBEq, Int.reduceTMod, Int.reduceTDiv, Int.reduceMul, Int.reduceBNe, Int.reduceLT, Int.reduceLE, Int.reduceAdd, Int.reduceSub, Int.reduceNeg, decide_true, decide_false, Bool.true_and, Bool.false_and, Bool.and_true, Bool.and_false, Bool.or_false, Bool.or_true, Bool.true_or, Bool.false_or, Bool.not_true, Bool.not_false, true_implies, false_implies, true_and, and_true, Int.reduceToNat] <;> and_intros <;> first | (apply hK1; clear hK1 K1) | (intros; first | omega | decide) | skip) | (refine awp_cond (t := _) rfl (fun hq => ?_) (fun hq => ?_) <;> first | (exact absurd hq (by decide)) | (cases hq; done) | (clear hq)) | (refine awp_un 8 ?_) | (with_reducible exact rfl) | (with_reducible exact trivial) | ((with_reducible show uside _); first | exact True.intro | exact rfl) | ((with_reducible show opS _ _); exact True.intro) | (refine ⟨AV.v (.bool true), rfl, hK1 _ ?_⟩; clear hK1 K1) | (refine (h1 _).mono ?_; rintro _ hz ⟨rfl, hh⟩; (first | (refine hK1 _ ?_) | (refine ⟨rfl, hK1 _ ?_⟩)); clear hK1 K1; rw [hh]; clear hh hz)))
 simp only [Tryz.results282, go_sem, ↓reduceIte, reduceCtorEq, nA, nB, nC, nD, nE, nF]
 exact ⟨_, _, Weak.refl _, Hp.le.refl _, rfl, rfl⟩
theorem c_genSplit (h : Hp) : ACalls Tryz.prog 283 [.v (.string sN), .v (.string ⟨#[58]⟩), .v (.int .i64 0), .v (.int .i64 (-1))] h (fun r h' => r = .row 1 [[.v (.string sN)]] none ∧ h' = h) := by
 refine ACalls.frz ?_ (by simp)
 have h1 := fun h => c_count h
 have hs : (sN.size : Int) = 1 := rfl
 have e2 : min (1 : Int) (1 + 1) = 1 := by decide
 have e3 : min (1 : Int) 2 = 1 := by decide
 have e1 : ((⟨#[58]⟩ : ByteArray) == ⟨#[]⟩) = false := by decide
 refine gE Tryz.func283 rfl (by kernel_rfl) 62 rfl fun c => ?_
 (repeat (first | refine gO rfl ?_ | (refine gM zM11 fun K1 hK1 => ?_; simp only [go_sem, ↓reduceIte, reduceCtorEq, nA, nB, nC, nD, nE, nF, Int.reduceBEq, Int.reduceTMod, Int.reduceTDiv, Int.reduceMul, Int.reduceBNe, Int.reduceLT, Int.reduceLE, Int.reduceAdd, Int.reduceSub, Int.reduceNeg, decide_true, decide_false, Bool.true_and, Bool.false_and, Bool.and_true, Bool.and_false, Bool.or_false, Bool.or_true, Bool.true_or, Bool.false_or, Bool.not_true, Bool.not_false, true_implies, false_implies, true_and, and_true, Int.reduceToNat, e1, hs, e2, e3] <;> and_intros <;> first | (apply hK1; clear hK1 K1) | (intros; first | omega | decide) | skip) | (refine awp_cond (t := _) rfl (fun hq => ?_) (fun hq => ?_) <;> first | (exact absurd hq (by decide)) | (cases hq; done) | (clear hq)) | (refine awp_un 8 ?_) | (with_reducible exact rfl) | (with_reducible exact trivial) | ((with_reducible show uside _); first | exact True.intro | exact rfl) | ((with_reducible show opS _ _); exact True.intro) | (refine ⟨AV.v (.bool true), rfl, hK1 _ ?_⟩; clear hK1 K1) | (refine (h1 _).mono ?_; rintro _ hz ⟨rfl, hh⟩; (first | (refine hK1 _ ?_) | (refine ⟨rfl, hK1 _ ?_⟩)); clear hK1 K1; rw [hh]; clear hh hz)))
 intro k hk
 refine hK1 _ ?_; clear hK1 K1
 (repeat (first | refine gO rfl ?_ | (refine gM zM11 fun K1 hK1 => ?_; simp only [go_sem, ↓reduceIte, reduceCtorEq, nA, nB, nC, nD, nE, nF, Int.reduceBEq, Int.reduceTMod, Int.reduceTDiv, Int.reduceMul, Int.reduceBNe, Int.reduceLT, Int.reduceLE, Int.reduceAdd, Int.reduceSub, Int.reduceNeg, decide_true, decide_false, Bool.true_and, Bool.false_and, Bool.and_true, Bool.and_false, Bool.or_false, Bool.or_true, Bool.true_or, Bool.false_or, Bool.not_true, Bool.not_false, true_implies, false_implies, true_and, and_true, Int.reduceToNat, upd_same, List.replicate] <;> and_intros <;> first | (apply hK1; clear hK1 K1) | (intros; first | omega | decide) | skip) | (refine awp_cond (t := _) rfl (fun hq => ?_) (fun hq => ?_) <;> first | (exact absurd hq (by decide)) | (cases hq; done) | (clear hq)) | (refine awp_un 8 ?_) | (with_reducible exact rfl) | (with_reducible exact trivial) | ((with_reducible show uside _); first | exact True.intro | exact rfl) | ((with_reducible show opS _ _); exact True.intro) | (refine ⟨AV.v (.bool true), rfl, hK1 _ ?_⟩; clear hK1 K1)))
 all_goals first | exact True.intro | exact rfl | skip
 intro q hq
 refine hK1 _ ?_; clear hK1 K1
 (repeat (first | refine gO rfl ?_ | (refine gM zM11 fun K1 hK1 => ?_; simp only [go_sem, ↓reduceIte, reduceCtorEq, nA, nB, nC, nD, nE, nF, Int.reduceBEq, Int.reduceTMod, Int.reduceTDiv, Int.reduceMul, Int.reduceBNe, Int.reduceLT, Int.reduceLE, Int.reduceAdd, Int.reduceSub, Int.reduceNeg, decide_true, decide_false, Bool.true_and, Bool.false_and, Bool.and_true, Bool.and_false, Bool.or_false, Bool.or_true, Bool.true_or, Bool.false_or, Bool.not_true, Bool.not_false, true_implies, false_implies, true_and, and_true, Int.reduceToNat] <;> and_intros <;> first | (apply hK1; clear hK1 K1) | (intros; first | omega | decide) | skip) | (refine awp_cond (t := _) rfl (fun hq => ?_) (fun hq => ?_) <;> first | (exact absurd hq (by decide)) | (cases hq; done) | (clear hq)) | (refine awp_un 8 ?_) | (with_reducible exact rfl) | (with_reducible exact trivial) | ((with_reducible show uside _); first | exact True.intro | exact rfl) | ((with_reducible show opS _ _); exact True.intro) | (refine ⟨AV.v (.bool true), rfl, hK1 _ ?_⟩; clear hK1 K1)))
 simp only [Tryz.results283, go_sem, ↓reduceIte, reduceCtorEq, nA, nB, nC, nD, nE, nF]
 replace hk : h.T k = none := hk
 have hq2 : h.T q = none := by
  replace hq : upd h.T k (some (TO.cont 1 [[.v (.string sN)]])) q = none := hq
  by_cases e : q = k
  ·rw [e, upd_same] at hq; cases hq
  ·rwa [upd_other _ _ e] at hq
 refine ⟨_, _, Weak.refl _, Hp.le.refl _, q, rfl, rfl, hq2, upd_same _ _ _, fun t ht => ?_⟩
 have tq : t ≠ q := by rintro rfl; exact ht hq2
 have tk : t ≠ k := by rintro rfl; exact ht hk
 show upd (upd h.T k none) q _ t = _
 rw [upd_other _ _ tq, upd_other _ _ tk]
theorem c_split (h : Hp) : ACalls Tryz.prog 264 [.v (.string sN), .v (.string ⟨#[58]⟩)] h (fun r h' => r = .row 1 [[.v (.string sN)]] none ∧ h' = h) := by
 have h1 := fun h => c_genSplit h
 refine gE Tryz.func264 rfl (by kernel_rfl) 6 rfl fun c => ?_
 (repeat (first | refine gO rfl ?_ | (refine gR fun K1 hK1 => ?_; simp only [go_sem, ↓reduceIte, reduceCtorEq, nA, nB, nC, nD, nE, nF, Int.reduceBEq, Int.reduceTMod, Int.reduceTDiv, Int.reduceMul, Int.reduceBNe, Int.reduceLT, Int.reduceLE, Int.reduceAdd, Int.reduceSub, Int.reduceNeg, decide_true, decide_false, Bool.true_and, Bool.false_and, Bool.and_true, Bool.and_false, Bool.or_false, Bool.or_true, Bool.true_or, Bool.false_or, Bool.not_true, Bool.not_false, true_implies, false_implies, true_and, and_true, Int.reduceToNat] <;> and_intros <;> first | (apply hK1; clear hK1 K1) | (intros; first | omega | decide) | skip) | (refine awp_cond (t := _) rfl (fun hq => ?_) (fun hq => ?_) <;> first | (exact absurd hq (by decide)) | (cases hq; done) | (clear hq)) | (refine awp_un 8 ?_) | (with_reducible exact rfl) | (with_reducible exact trivial) | ((with_reducible show uside _); first | exact True.intro | exact rfl) | ((with_reducible show opS _ _); exact True.intro) | (refine ⟨AV.v (.bool true), rfl, hK1 _ ?_⟩; clear hK1 K1) | (refine (h1 _).mono ?_; rintro _ hz ⟨rfl, hh⟩; (first | (refine hK1 _ ?_) | (refine ⟨rfl, hK1 _ ?_⟩)); clear hK1 K1; rw [hh]; clear hh hz)))
 simp only [Tryz.results264, go_sem, ↓reduceIte, reduceCtorEq, nA, nB, nC, nD, nE, nF]
 exact ⟨_, _, Weak.refl _, Hp.le.refl _, rfl, rfl⟩
theorem c_ixNil (s : ByteArray) (h : Hp) : ACalls Tryz.prog 81 [.v (.slice none 0 0), .v (.string s)] h (fun r h' => r = .v (.int .i64 (-1)) ∧ h' = h) := by
 refine gE Tryz.func81 rfl (by kernel_rfl) 17 rfl fun c => ?_
 (repeat (first | refine gO rfl ?_ | (refine gR fun K1 hK1 => ?_; simp only [go_sem, ↓reduceIte, reduceCtorEq, nA, nB, nC, nD, nE, nF, Int.reduceBEq, Int.reduceTMod, Int.reduceTDiv, Int.reduceMul, Int.reduceBNe, Int.reduceLT, Int.reduceLE, Int.reduceAdd, Int.reduceSub, Int.reduceNeg, decide_true, decide_false, Bool.true_and, Bool.false_and, Bool.and_true, Bool.and_false, Bool.or_false, Bool.or_true, Bool.true_or, Bool.false_or, Bool.not_true, Bool.not_false, true_implies, false_implies, true_and, and_true, Int.reduceToNat] <;> and_intros <;> first | (apply hK1; clear hK1 K1) | (intros; first | omega | decide) | skip) | (refine awp_cond (t := _) rfl (fun hq => ?_) (fun hq => ?_) <;> first | (exact absurd hq (by decide)) | (cases hq; done) | (clear hq)) | (refine awp_un 8 ?_) | (with_reducible exact rfl) | (with_reducible exact trivial) | ((with_reducible show uside _); first | exact True.intro | exact rfl) | ((with_reducible show opS _ _); exact True.intro) | (refine ⟨AV.v (.bool true), rfl, hK1 _ ?_⟩; clear hK1 K1)))
 simp only [Tryz.results81, go_sem, ↓reduceIte, reduceCtorEq, nA, nB, nC, nD, nE, nF]
 exact ⟨_, _, Weak.refl _, Hp.le.refl _, rfl, rfl⟩
theorem c_hasNil (s : ByteArray) (h : Hp) : ACalls Tryz.prog 36 [.v (.slice none 0 0), .v (.string s)] h (fun r h' => r = .v (.bool false) ∧ h' = h) := by
 have h1 := fun h => c_ixNil s h
 refine gE Tryz.func36 rfl (by kernel_rfl) 7 rfl fun c => ?_
 (repeat (first | refine gO rfl ?_ | (refine gR fun K1 hK1 => ?_; simp only [go_sem, ↓reduceIte, reduceCtorEq, nA, nB, nC, nD, nE, nF, Int.reduceBEq, Int.reduceTMod, Int.reduceTDiv, Int.reduceMul, Int.reduceBNe, Int.reduceLT, Int.reduceLE, Int.reduceAdd, Int.reduceSub, Int.reduceNeg, decide_true, decide_false, Bool.true_and, Bool.false_and, Bool.and_true, Bool.and_false, Bool.or_false, Bool.or_true, Bool.true_or, Bool.false_or, Bool.not_true, Bool.not_false, true_implies, false_implies, true_and, and_true, Int.reduceToNat] <;> and_intros <;> first | (apply hK1; clear hK1 K1) | (intros; first | omega | decide) | skip) | (refine awp_cond (t := _) rfl (fun hq => ?_) (fun hq => ?_) <;> first | (exact absurd hq (by decide)) | (cases hq; done) | (clear hq)) | (refine awp_un 8 ?_) | (with_reducible exact rfl) | (with_reducible exact trivial) | ((with_reducible show uside _); first | exact True.intro | exact rfl) | ((with_reducible show opS _ _); exact True.intro) | (refine ⟨AV.v (.bool true), rfl, hK1 _ ?_⟩; clear hK1 K1) | (refine (h1 _).mono ?_; rintro _ hz ⟨rfl, hh⟩; (first | (refine hK1 _ ?_) | (refine ⟨rfl, hK1 _ ?_⟩)); clear hK1 K1; rw [hh]; clear hh hz)))
 simp only [Tryz.results36, go_sem, ↓reduceIte, reduceCtorEq, nA, nB, nC, nD, nE, nF]
 exact ⟨_, _, Weak.refl _, Hp.le.refl _, rfl, rfl⟩
theorem g_ixNo (s : ByteArray) (l : List ByteArray) (h : Hp) (hl : l.length ≤ 100000) (hn : ∀ x ∈ l, (s == x) = false) : ACalls Tryz.prog 81 [.row 1 (l.map fun x => [.v (.string x)]) none, .v (.string s)] h (fun r h' => r = .v (.int .i64 (-1)) ∧ h' = h) := by
 obtain ⟨en, hen⟩ : ∃ en : ByteArray → List AV, en = fun x => [.v (.string x)] := ⟨_, rfl⟩
 rw [← hen]
 have hml : (l.map en).length = l.length := List.length_map _
 refine gE Tryz.func81 rfl (by kernel_rfl) 17 rfl fun c => ?_
 (repeat (first | refine gO rfl ?_ | (refine gR fun K1 hK1 => ?_; simp only [go_sem, ↓reduceIte, reduceCtorEq, nA, nB, nC, nD, nE, nF, hml] <;> and_intros <;> first | (apply hK1; clear hK1 K1) | (intros; first | omega | decide | (simp_all <;> omega)) | skip)))
 refine awp_loopC (rl false [0, 2, 5, 2, 10]) 0 (fun g s' => ∃ j : Nat, g + j = l.length ∧
  s' = ⟨((.row 1 (l.map en) none) :: (.v (.string s)) :: (jnk 5 ((.v (.int .i64 l.length)) :: (.v (.int .i64 j)) :: (jnk 10 [])))), [], h⟩) l.length ⟨0, by omega, rfl⟩ ?_
 rintro g _ ⟨j, hj, rfl⟩
 (repeat (first | refine gO rfl ?_ | (refine gR fun K1 hK1 => ?_; simp only [go_sem, ↓reduceIte, reduceCtorEq, nA, nB, nC, nD, nE, nF] <;> and_intros <;> first | (apply hK1; clear hK1 K1) | (intros; first | omega | decide) | skip)))
 refine awp_cond (t := _) rfl (fun h1 => ?_) (fun h1 => ?_)
 ·simp only [decide_eq_true_eq] at h1
  have hjl : j < l.length := by omega
  have gx : (l.map en).getD j [] = en (l.getD j default) := getD_enc en l j default hjl
  have hno := hn (l.getD j default) (by rw [List.getD_eq_getElem?_getD, List.getElem?_eq_getElem hjl]; exact List.getElem_mem _)
  generalize l.getD j default = y at *
  have gx2 : (l.map en).getD j [] = [.v (.string y)] := by rw [gx, hen]
  (repeat (first | refine gO rfl ?_ | (refine gR fun K1 hK1 => ?_; simp only [go_sem, ↓reduceIte, reduceCtorEq, nA, nB, nC, nD, nE, nF, hml, Int.toNat_natCast, gx2] <;> and_intros <;> first | (apply hK1; clear hK1 K1) | (intros; first | omega | decide) | skip)))
  refine awp_cond (t := _) rfl (fun h9 => by rw [hno] at h9; cases h9) (fun _ => ?_)
  (repeat (first | refine gO rfl ?_ | (refine gR fun K1 hK1 => ?_; simp only [go_sem, ↓reduceIte, reduceCtorEq, nA, nB, nC, nD, nE, nF] <;> and_intros <;> first | (apply hK1; clear hK1 K1) | (intros; first | omega | decide) | skip)))
  exact ⟨g - 1, by omega, j + 1, by omega, rfl⟩
 ·(repeat (first | refine gO rfl ?_ | (refine gR fun K1 hK1 => ?_; simp only [go_sem, ↓reduceIte, reduceCtorEq, nA, nB, nC, nD, nE, nF] <;> and_intros <;> first | (apply hK1; clear hK1 K1) | (intros; first | omega | decide) | skip)))
  simp only [Tryz.results81, go_sem, ↓reduceIte, reduceCtorEq, nA, nB, nC, nD, nE, nF]
  exact ⟨_, _, Weak.refl _, Hp.le.refl _, rfl, rfl⟩
theorem g_hasNo (s : ByteArray) (l : List ByteArray) (h : Hp) (hl : l.length ≤ 100000) (hn : ∀ x ∈ l, (s == x) = false) : ACalls Tryz.prog 36 [.row 1 (l.map fun x => [.v (.string x)]) none, .v (.string s)] h (fun r h' => r = .v (.bool false) ∧ h' = h) := by
 have h1 := fun h => g_ixNo s l h hl hn
 generalize (l.map fun x => [AV.v (.string x)]) = rw0 at *
 refine gE Tryz.func36 rfl (by kernel_rfl) 7 rfl fun c => ?_
 (repeat (first | refine gO rfl ?_ | (refine gR fun K1 hK1 => ?_; simp only [go_sem, ↓reduceIte, reduceCtorEq, nA, nB, nC, nD, nE, nF, Int.reduceBEq, Int.reduceTMod, Int.reduceTDiv, Int.reduceMul, Int.reduceBNe, Int.reduceLT, Int.reduceLE, Int.reduceAdd, Int.reduceSub, Int.reduceNeg, decide_true, decide_false, Bool.true_and, Bool.false_and, Bool.and_true, Bool.and_false, Bool.or_false, Bool.or_true, Bool.true_or, Bool.false_or, Bool.not_true, Bool.not_false, true_implies, false_implies, true_and, and_true, Int.reduceToNat] <;> and_intros <;> first | (apply hK1; clear hK1 K1) | (intros; first | omega | decide) | skip) | (refine awp_cond (t := _) rfl (fun hq => ?_) (fun hq => ?_) <;> first | (exact absurd hq (by decide)) | (cases hq; done) | (clear hq)) | (refine awp_un 8 ?_) | (with_reducible exact rfl) | (with_reducible exact trivial) | ((with_reducible show uside _); first | exact True.intro | exact rfl) | ((with_reducible show opS _ _); exact True.intro) | (refine ⟨AV.v (.bool true), rfl, hK1 _ ?_⟩; clear hK1 K1) | (refine (h1 _).mono ?_; rintro _ hz ⟨rfl, hh⟩; (first | (refine hK1 _ ?_) | (refine ⟨rfl, hK1 _ ?_⟩)); clear hK1 K1; rw [hh]; clear hh hz)))
 simp only [Tryz.results36, go_sem, ↓reduceIte, reduceCtorEq, nA, nB, nC, nD, nE, nF]
 exact ⟨_, _, Weak.refl _, Hp.le.refl _, rfl, rfl⟩
abbrev zP3E : List Nat := [0, 1, 2, 3, 4, 5, 6, 7, 8, 9, 10, 11, 12]
abbrev zP3P : List (Nat × List Nat × List Nat) := []
abbrev zP4E : List Nat := [0, 2, 7, 8]
abbrev zP4P : List (Nat × List Nat × List Nat) := [(1, [7], []), (3, [7], [4, 5, 6]), (9, [], [10, 11]), (12, [], [])]
abbrev zP5E : List Nat := [0, 1, 2, 3]
abbrev zP5P : List (Nat × List Nat × List Nat) := [(4, [2], []), (5, [], [6, 7, 8]), (10, [], [11])]
abbrev zP6E : List Nat := [0, 1, 2, 3, 4, 5, 6, 7, 8, 9]
abbrev zP6P : List (Nat × List Nat × List Nat) := []
abbrev zP7E : List Nat := [0, 1, 2, 3, 4, 5, 6, 7, 8]
abbrev zP7P : List (Nat × List Nat × List Nat) := [(9, [], [10])]
abbrev zP8E : List Nat := [0, 1, 2, 3, 4, 5, 6, 7, 8, 9, 10]
abbrev zP8P : List (Nat × List Nat × List Nat) := []
abbrev zP9E : List Nat := [0, 1, 2, 3, 4, 5, 6, 7, 8, 9, 10, 11, 12, 13, 14, 15, 16]
abbrev zP9P : List (Nat × List Nat × List Nat) := [(17, [], [])]
abbrev zPAE : List Nat := [0, 1, 2, 3, 4, 5, 6, 7, 8]
abbrev zPAP : List (Nat × List Nat × List Nat) := [(9, [], [10])]
abbrev zPBE : List Nat := [0, 1, 2, 3, 4, 5, 6, 7, 8, 9, 10, 11, 12, 13, 14, 15, 16, 17, 18, 19, 20, 21, 22, 23, 24, 25, 26, 27, 28, 29, 30, 31]
abbrev zPBP : List (Nat × List Nat × List Nat) := [(32, [], [33, 34])]
abbrev zPCE : List Nat := [0, 1, 2, 3, 4, 5, 6]
abbrev zPCP : List (Nat × List Nat × List Nat) := []
attribute [go_sem] zP3E zP3P zP4E zP4P zP5E zP5P zP6E zP6P zP7E zP7P zP8E zP8P zP9E zP9P zPAE zPAP zPBE zPBP zPCE zPCP
def vI (n : Int) : AV := .v (.int .i64 n)
def vS (s : ByteArray) : AV := .v (.string s)
def vB (b : Bool) : AV := .v (.bool b)
def nl : AV := .v (.slice none 0 0)
def s0 : ByteArray := ⟨#[]⟩
def ndCp (kind : Int) (name : ByteArray) : List AV := [vI kind, vS s0, vS s0, vS name, nl, vI 0, nl, vS s0, vS s0, vS s0, vI 0, vS s0, vI 0, vB false, vS s0, vS s0, vS s0, nl, nl]
def bkC (part : AV) : List AV := ndCp 0 s0 ++ [part, vB false]
def rdrC (i : Int) (b : Nat) : List AV := [vS sT, vI i, .row 1 [[.ptr b 0]] none, vB false]
theorem hle_obj {h : Hp} {b : Nat} {o : AO} (hb : h.H b = none) : Hp.le h ⟨upd h.H b (some o), h.T⟩ :=
 ⟨fun i => by
  by_cases e : i = b
  ·exact .inl (by rw [e]; exact hb)
  ·exact .inr (upd_other _ _ e).symm, fun _ => .inr rfl⟩
theorem Weak.tupW {a a' : AV} {xs : List AV} (ha : Weak a a') : Weak (.tup (a :: xs)) (.tup (a' :: xs)) := fun G v hr => by
 cases hr with
 | tup _ vs u hl hu hr =>
  refine .tup _ vs u (by simpa using hl) (fun j hj => hu j (by simpa using hj)) (fun j hj => ?_)
  rcases j with _ | j
  ·exact ha G _ (hr 0 (by simp))
  ·exact hr (j + 1) (by simpa using hj)
theorem nc1 : ((1 : Nat) : Int) = 1 := rfl
theorem c_top (r b : Nat) (i : Int) (h : Hp) (hr : h.H r = some (.cells (rdrC i b))) : ACalls Tryz.prog 228 [.ptr r 0] h (fun x h' => x = .ptr b 0 ∧ h' = h) := by
 unfold rdrC vS vI vB at hr
 refine gE Tryz.func228 rfl (by kernel_rfl) 14 rfl fun c => ?_
 (repeat (first | refine gO rfl ?_ | ((first | refine gR ?_ | (with_reducible refine wM ?_ ?_) | ((with_reducible refine xS ?_); refine uD 1 zM10 zP3E zP3P 15 rfl (by kernel_rfl) ?_)) <;> ((try with_reducible intro K1 hK1); simp only [go_sem, ↓reduceIte, reduceCtorEq, nA, nB, nC, nD, nE, nF, Int.reduceBEq, Int.reduceTMod, Int.reduceTDiv, Int.reduceMul, Int.reduceBNe, Int.reduceLT, Int.reduceLE, Int.reduceAdd, Int.reduceSub, Int.reduceNeg, decide_true, decide_false, Bool.true_and, Bool.false_and, Bool.and_true, Bool.and_false, Bool.or_false, Bool.or_true, Bool.true_or, Bool.false_or, Bool.not_true, Bool.not_false, true_implies, false_implies, true_and, and_true, Int.reduceToNat, hr, nc1] <;> and_intros <;> first | (apply hK1; clear hK1 K1) | (intros; first | omega | decide) | skip)) | (refine awp_cond (t := _) rfl (fun hq => ?_) (fun hq => ?_) <;> first | (exact absurd hq (by decide)) | (cases hq; done) | (clear hq)) | (refine awp_un 8 ?_) | (with_reducible exact rfl) | (with_reducible exact trivial) | ((with_reducible show uside _); first | exact True.intro | exact rfl) | ((with_reducible show opS _ _); exact True.intro) | (refine ⟨AV.v (.bool true), rfl, hK1 _ ?_⟩; clear hK1 K1)))
 simp only [Tryz.results228, go_sem, ↓reduceIte, reduceCtorEq, nA, nB, nC, nD, nE, nF]
 exact ⟨_, _, Weak.refl _, Hp.le.refl _, rfl, rfl⟩
theorem c_add (r b : Nat) (i : Int) (n : List AV) (h : Hp) (hn : n.length = 19) (hr : h.H r = some (.cells (rdrC i b))) (hb : h.H b = some (.cells (bkC nl))) : ACalls Tryz.prog 200 [.ptr r 0, .agg n] h (fun x h' => x = .tup [] ∧ ∃ k, h.T k = none ∧ h' = ⟨upd h.H b (some (.cells (bkC (.row 19 [n] (some k))))), upd h.T k (some (.tail 1))⟩) := by
 have h1 := c_top r b i h hr
 have ht : List.take 19 n = n := List.take_of_length_le (by omega)
 unfold bkC ndCp vS vI vB nl s0 at *
 simp only [List.cons_append, List.nil_append] at *
 refine gE Tryz.func200 rfl (by kernel_rfl) 14 rfl fun c => ?_
 (repeat (first | refine gO rfl ?_ | ((first | refine gR ?_ | (with_reducible refine wM ?_ ?_) | ((with_reducible refine xR ?_); refine uE 1 zM10 zP4E zP4P 16 rfl (by kernel_rfl) ?_)) <;> ((try with_reducible intro K1 hK1); simp only [go_sem, ↓reduceIte, reduceCtorEq, nA, nB, nC, nD, nE, nF, Int.reduceBEq, Int.reduceTMod, Int.reduceTDiv, Int.reduceMul, Int.reduceBNe, Int.reduceLT, Int.reduceLE, Int.reduceAdd, Int.reduceSub, Int.reduceNeg, decide_true, decide_false, Bool.true_and, Bool.false_and, Bool.and_true, Bool.and_false, Bool.or_false, Bool.or_true, Bool.true_or, Bool.false_or, Bool.not_true, Bool.not_false, true_implies, false_implies, true_and, and_true, Int.reduceToNat, hb, hn, ht] <;> and_intros <;> first | (apply hK1; clear hK1 K1) | (intros; first | omega | decide) | skip)) | (refine awp_cond (t := _) rfl (fun hq => ?_) (fun hq => ?_) <;> first | (exact absurd hq (by decide)) | (cases hq; done) | (clear hq)) | (refine awp_un 8 ?_) | (with_reducible exact rfl) | (with_reducible exact trivial) | ((with_reducible show uside _); first | exact True.intro | exact rfl) | ((with_reducible show opS _ _); exact True.intro) | (refine ⟨AV.v (.bool true), rfl, hK1 _ ?_⟩; clear hK1 K1) | (refine (h1).mono ?_; rintro _ hz ⟨rfl, hh⟩; (first | (refine hK1 _ ?_) | (refine ⟨rfl, hK1 _ ?_⟩)); clear hK1 K1; rw [hh]; clear hh hz)))
 intro k hk
 refine hK1 _ ?_; clear hK1 K1
 (repeat (first | refine gO rfl ?_ | ((first | refine gR ?_ | (with_reducible refine wM ?_ ?_) | ((with_reducible refine xR ?_); refine uE 1 zM10 zP4E zP4P 16 rfl (by kernel_rfl) ?_)) <;> ((try with_reducible intro K1 hK1); simp only [go_sem, ↓reduceIte, reduceCtorEq, nA, nB, nC, nD, nE, nF, Int.reduceBEq, Int.reduceTMod, Int.reduceTDiv, Int.reduceMul, Int.reduceBNe, Int.reduceLT, Int.reduceLE, Int.reduceAdd, Int.reduceSub, Int.reduceNeg, decide_true, decide_false, Bool.true_and, Bool.false_and, Bool.and_true, Bool.and_false, Bool.or_false, Bool.or_true, Bool.true_or, Bool.false_or, Bool.not_true, Bool.not_false, true_implies, false_implies, true_and, and_true, Int.reduceToNat, hb] <;> and_intros <;> first | (apply hK1; clear hK1 K1) | (intros; first | omega | decide) | skip)) | (refine awp_cond (t := _) rfl (fun hq => ?_) (fun hq => ?_) <;> first | (exact absurd hq (by decide)) | (cases hq; done) | (clear hq)) | (refine awp_un 8 ?_) | (with_reducible exact rfl) | (with_reducible exact trivial) | ((with_reducible show uside _); first | exact True.intro | exact rfl) | ((with_reducible show opS _ _); exact True.intro) | (refine ⟨AV.v (.bool true), rfl, hK1 _ ?_⟩; clear hK1 K1)))
 simp only [Tryz.results200, go_sem, ↓reduceIte, reduceCtorEq, nA, nB, nC, nD, nE, nF]
 exact ⟨_, _, Weak.refl _, Hp.le.refl _, rfl, k, hk, rfl⟩
theorem c_names (r b : Nat) (i : Int) (part : AV) (h : Hp) (hr : h.H r = some (.cells (rdrC i b))) (hb : h.H b = some (.cells (bkC part))) : ACalls Tryz.prog 260 [.ptr r 0] h (fun x h' => x = nl ∧ h' = h) := by
 unfold rdrC vS vI vB at hr
 unfold bkC ndCp vS vI vB nl s0 at *
 simp only [List.cons_append, List.nil_append] at *
 refine gE Tryz.func260 rfl (by kernel_rfl) 30 rfl fun c => ?_
 (repeat (first | refine gO rfl ?_ | (refine gR fun K1 hK1 => ?_; simp only [go_sem, ↓reduceIte, reduceCtorEq, nA, nB, nC, nD, nE, nF, Int.reduceBEq, Int.reduceTMod, Int.reduceTDiv, Int.reduceMul, Int.reduceBNe, Int.reduceLT, Int.reduceLE, Int.reduceAdd, Int.reduceSub, Int.reduceNeg, decide_true, decide_false, Bool.true_and, Bool.false_and, Bool.and_true, Bool.and_false, Bool.or_false, Bool.or_true, Bool.true_or, Bool.false_or, Bool.not_true, Bool.not_false, true_implies, false_implies, true_and, and_true, Int.reduceToNat, hr, hb, nc1] <;> and_intros <;> first | (apply hK1; clear hK1 K1) | (intros; first | omega | decide) | skip) | (refine awp_cond (t := _) rfl (fun hq => ?_) (fun hq => ?_) <;> first | (exact absurd hq (by decide)) | (cases hq; done) | (clear hq)) | (refine awp_un 8 ?_) | (with_reducible exact rfl) | (with_reducible exact trivial) | ((with_reducible show uside _); first | exact True.intro | exact rfl) | ((with_reducible show opS _ _); exact True.intro) | (refine ⟨AV.v (.bool true), rfl, hK1 _ ?_⟩; clear hK1 K1)))
 simp only [Tryz.results260, go_sem, ↓reduceIte, reduceCtorEq, nA, nB, nC, nD, nE, nF]
 exact ⟨_, _, Weak.refl _, Hp.le.refl _, rfl, rfl⟩
theorem c_isReserved (h : Hp) : ACalls Tryz.prog 235 [.v (.string sN)] h (fun x h' => x = .v (.bool false) ∧ h' = h) := by
 have h1 := fun h => g_hasNo sN [⟨#[111, 112, 101, 110]⟩, ⟨#[99, 108, 111, 115, 101]⟩, ⟨#[105, 102]⟩, ⟨#[101, 108, 115, 101]⟩, ⟨#[101, 110, 100]⟩, ⟨#[101, 97, 99, 104]⟩, ⟨#[97, 115]⟩, ⟨#[97, 110, 100]⟩, ⟨#[111, 114]⟩, ⟨#[110, 111, 116]⟩, ⟨#[116, 114, 117, 101]⟩, ⟨#[102, 97, 108, 115, 101]⟩] h (by decide) (by decide)
 simp only [List.map_cons, List.map_nil] at h1
 refine gE Tryz.func235 rfl (by kernel_rfl) 5 rfl fun c => ?_
 (repeat (first | refine gO rfl ?_ | (refine gR fun K1 hK1 => ?_; simp only [go_sem, ↓reduceIte, reduceCtorEq, nA, nB, nC, nD, nE, nF, Int.reduceBEq, Int.reduceTMod, Int.reduceTDiv, Int.reduceMul, Int.reduceBNe, Int.reduceLT, Int.reduceLE, Int.reduceAdd, Int.reduceSub, Int.reduceNeg, decide_true, decide_false, Bool.true_and, Bool.false_and, Bool.and_true, Bool.and_false, Bool.or_false, Bool.or_true, Bool.true_or, Bool.false_or, Bool.not_true, Bool.not_false, true_implies, false_implies, true_and, and_true, Int.reduceToNat] <;> and_intros <;> first | (apply hK1; clear hK1 K1) | (intros; first | omega | decide) | skip) | (refine awp_cond (t := _) rfl (fun hq => ?_) (fun hq => ?_) <;> first | (exact absurd hq (by decide)) | (cases hq; done) | (clear hq)) | (refine awp_un 8 ?_) | (with_reducible exact rfl) | (with_reducible exact trivial) | ((with_reducible show uside _); first | exact True.intro | exact rfl) | ((with_reducible show opS _ _); exact True.intro) | (refine ⟨AV.v (.bool true), rfl, hK1 _ ?_⟩; clear hK1 K1) | (refine (h1 _).mono ?_; rintro _ hz ⟨rfl, hh⟩; (first | (refine hK1 _ ?_) | (refine ⟨rfl, hK1 _ ?_⟩)); clear hK1 K1; rw [hh]; clear hh hz)))
 simp only [Tryz.results235, go_sem, ↓reduceIte, reduceCtorEq, nA, nB, nC, nD, nE, nF]
 exact ⟨_, _, Weak.refl _, Hp.le.refl _, rfl, rfl⟩
theorem c_isName (h : Hp) : ACalls Tryz.prog 202 [.v (.string sN)] h (fun x h' => x = .v (.bool true) ∧ h' = h) := by
 have h1 := fun h => c_isReserved h
 have h2 := fun h => a_isKey sN (by decide) h
 rw [show keyB sN = true by decide] at h2
 refine gE Tryz.func202 rfl (by kernel_rfl) 9 rfl fun c => ?_
 (repeat (first | refine gO rfl ?_ | (refine gR fun K1 hK1 => ?_; simp only [go_sem, ↓reduceIte, reduceCtorEq, nA, nB, nC, nD, nE, nF, Int.reduceBEq, Int.reduceTMod, Int.reduceTDiv, Int.reduceMul, Int.reduceBNe, Int.reduceLT, Int.reduceLE, Int.reduceAdd, Int.reduceSub, Int.reduceNeg, decide_true, decide_false, Bool.true_and, Bool.false_and, Bool.and_true, Bool.and_false, Bool.or_false, Bool.or_true, Bool.true_or, Bool.false_or, Bool.not_true, Bool.not_false, true_implies, false_implies, true_and, and_true, Int.reduceToNat] <;> and_intros <;> first | (apply hK1; clear hK1 K1) | (intros; first | omega | decide) | skip) | (refine awp_cond (t := _) rfl (fun hq => ?_) (fun hq => ?_) <;> first | (exact absurd hq (by decide)) | (cases hq; done) | (clear hq)) | (refine awp_un 8 ?_) | (with_reducible exact rfl) | (with_reducible exact trivial) | ((with_reducible show uside _); first | exact True.intro | exact rfl) | ((with_reducible show opS _ _); exact True.intro) | (refine ⟨AV.v (.bool true), rfl, hK1 _ ?_⟩; clear hK1 K1) | (refine (h1 _).mono ?_; rintro _ hz ⟨rfl, hh⟩; (first | (refine hK1 _ ?_) | (refine ⟨rfl, hK1 _ ?_⟩)); clear hK1 K1; rw [hh]; clear hh hz) | (refine (h2 _).mono ?_; rintro _ hz ⟨rfl, hh⟩; (first | (refine hK1 _ ?_) | (refine ⟨rfl, hK1 _ ?_⟩)); clear hK1 K1; rw [hh]; clear hh hz)))
 simp only [Tryz.results202, go_sem, ↓reduceIte, reduceCtorEq, nA, nB, nC, nD, nE, nF]
 exact ⟨_, _, Weak.refl _, Hp.le.refl _, rfl, rfl⟩
theorem c_refOf (h : Hp) : ACalls Tryz.prog 263 [.v (.string sN), nl] h (fun x h' => x = .tup [.agg [vS s0, vS sN], .v (.bool true)] ∧ h' = h) := by
 have h1 := fun h => c_cut h
 have h2 := fun h => c_isName h
 have h3 := fun s h => c_hasNil s h
 unfold nl vS s0 at *
 refine gE Tryz.func263 rfl (by kernel_rfl) 35 rfl fun c => ?_
 (repeat (first | refine gO rfl ?_ | (refine gM zM12 fun K1 hK1 => ?_; simp only [go_sem, ↓reduceIte, reduceCtorEq, nA, nB, nC, nD, nE, nF, Int.reduceBEq, Int.reduceTMod, Int.reduceTDiv, Int.reduceMul, Int.reduceBNe, Int.reduceLT, Int.reduceLE, Int.reduceAdd, Int.reduceSub, Int.reduceNeg, decide_true, decide_false, Bool.true_and, Bool.false_and, Bool.and_true, Bool.and_false, Bool.or_false, Bool.or_true, Bool.true_or, Bool.false_or, Bool.not_true, Bool.not_false, true_implies, false_implies, true_and, and_true, Int.reduceToNat] <;> and_intros <;> first | (apply hK1; clear hK1 K1) | (intros; first | omega | decide) | skip) | (refine awp_cond (t := _) rfl (fun hq => ?_) (fun hq => ?_) <;> first | (exact absurd hq (by decide)) | (cases hq; done) | (clear hq)) | (refine awp_un 8 ?_) | (with_reducible exact rfl) | (with_reducible exact trivial) | ((with_reducible show uside _); first | exact True.intro | exact rfl) | ((with_reducible show opS _ _); exact True.intro) | (refine ⟨AV.v (.bool true), rfl, hK1 _ ?_⟩; clear hK1 K1) | (refine (h1 _).mono ?_; rintro _ hz ⟨rfl, hh⟩; (first | (refine hK1 _ ?_) | (refine ⟨rfl, hK1 _ ?_⟩)); clear hK1 K1; rw [hh]; clear hh hz) | (refine (h2 _).mono ?_; rintro _ hz ⟨rfl, hh⟩; (first | (refine hK1 _ ?_) | (refine ⟨rfl, hK1 _ ?_⟩)); clear hK1 K1; rw [hh]; clear hh hz) | (refine (h3 _ _).mono ?_; rintro _ hz ⟨rfl, hh⟩; (first | (refine hK1 _ ?_) | (refine ⟨rfl, hK1 _ ?_⟩)); clear hK1 K1; rw [hh]; clear hh hz)))
 intro p hp
 refine hK1 _ ?_; clear hK1 K1
 (repeat (first | refine gO rfl ?_ | (refine gM zM12 fun K1 hK1 => ?_; simp only [go_sem, ↓reduceIte, reduceCtorEq, nA, nB, nC, nD, nE, nF, Int.reduceBEq, Int.reduceTMod, Int.reduceTDiv, Int.reduceMul, Int.reduceBNe, Int.reduceLT, Int.reduceLE, Int.reduceAdd, Int.reduceSub, Int.reduceNeg, decide_true, decide_false, Bool.true_and, Bool.false_and, Bool.and_true, Bool.and_false, Bool.or_false, Bool.or_true, Bool.true_or, Bool.false_or, Bool.not_true, Bool.not_false, true_implies, false_implies, true_and, and_true, Int.reduceToNat] <;> and_intros <;> first | (apply hK1; clear hK1 K1) | (intros; first | omega | decide) | skip) | (refine awp_cond (t := _) rfl (fun hq => ?_) (fun hq => ?_) <;> first | (exact absurd hq (by decide)) | (cases hq; done) | (clear hq)) | (refine awp_un 8 ?_) | (with_reducible exact rfl) | (with_reducible exact trivial) | ((with_reducible show uside _); first | exact True.intro | exact rfl) | ((with_reducible show opS _ _); exact True.intro) | (refine ⟨AV.v (.bool true), rfl, hK1 _ ?_⟩; clear hK1 K1) | (refine (h1 _).mono ?_; rintro _ hz ⟨rfl, hh⟩; (first | (refine hK1 _ ?_) | (refine ⟨rfl, hK1 _ ?_⟩)); clear hK1 K1; rw [hh]; clear hh hz) | (refine (h2 _).mono ?_; rintro _ hz ⟨rfl, hh⟩; (first | (refine hK1 _ ?_) | (refine ⟨rfl, hK1 _ ?_⟩)); clear hK1 K1; rw [hh]; clear hh hz) | (refine (h3 _ _).mono ?_; rintro _ hz ⟨rfl, hh⟩; (first | (refine hK1 _ ?_) | (refine ⟨rfl, hK1 _ ?_⟩)); clear hK1 K1; rw [hh]; clear hh hz)))
 simp only [Tryz.results263, go_sem, ↓reduceIte, reduceCtorEq, nA, nB, nC, nD, nE, nF]
 exact ⟨_, h, Weak.refl _, hle_obj hp, rfl, rfl⟩
def ndN : List AV := ndCp 1 sN
theorem c_fieldTag (r b : Nat) (i : Int) (h : Hp) (hr : h.H r = some (.cells (rdrC i b))) (hb : h.H b = some (.cells (bkC nl))) : ACalls Tryz.prog 234 [.ptr r 0, .v (.string sN)] h (fun x h' => x = .v (.bool true) ∧ ∃ k, h.T k = none ∧ h' = ⟨upd h.H b (some (.cells (bkC (.row 19 [ndN] (some k))))), upd h.T k (some (.tail 1))⟩) := by
 have h1 := fun h => c_split h
 have h2 := fun h hr hb => c_names r b i nl h hr hb
 have h3 := fun h => c_refOf h
 have h4 := fun h hr hb => c_add r b i ndN h rfl hr hb
 have g2 := h2 h hr hb
 have g4 := h4 h hr hb
 clear h2 h4
 unfold nl at g2
 unfold nl vS s0 at h3
 simp only [ndN, ndCp, vI, vS, vB, nl, s0] at g4
 refine gE Tryz.func234 rfl (by kernel_rfl) 56 rfl fun c => ?_
 (repeat (first | refine gO rfl ?_ | ((first | refine gM zM13 ?_ | (with_reducible refine wM ?_ ?_) | ((with_reducible refine xS ?_); refine uF 2 zM13 9 zP5E zP5P 58 rfl (by kernel_rfl) ?_)) <;> ((try with_reducible intro K1 hK1); simp only [go_sem, ↓reduceIte, reduceCtorEq, nA, nB, nC, nD, nE, nF, Int.reduceBEq, Int.reduceTMod, Int.reduceTDiv, Int.reduceMul, Int.reduceBNe, Int.reduceLT, Int.reduceLE, Int.reduceAdd, Int.reduceSub, Int.reduceNeg, decide_true, decide_false, Bool.true_and, Bool.false_and, Bool.and_true, Bool.and_false, Bool.or_false, Bool.or_true, Bool.true_or, Bool.false_or, Bool.not_true, Bool.not_false, true_implies, false_implies, true_and, and_true, Int.reduceToNat, nc1] <;> and_intros <;> first | (apply hK1; clear hK1 K1) | (intros; first | omega | decide) | skip)) | (refine awp_cond (t := _) rfl (fun hq => ?_) (fun hq => ?_) <;> first | (exact absurd hq (by decide)) | (cases hq; done) | (clear hq)) | (refine awp_un 8 ?_) | (with_reducible exact rfl) | (with_reducible exact trivial) | ((with_reducible show uside _); first | exact True.intro | exact rfl) | ((with_reducible show opS _ _); exact True.intro) | (refine ⟨AV.v (.bool true), rfl, hK1 _ ?_⟩; clear hK1 K1) | (refine (h1 _).mono ?_; rintro _ hz ⟨rfl, hh⟩; (first | (refine hK1 _ ?_) | (refine ⟨rfl, hK1 _ ?_⟩)); clear hK1 K1; rw [hh]; clear hh hz) | (refine (g2).mono ?_; rintro _ hz ⟨rfl, hh⟩; (first | (refine hK1 _ ?_) | (refine ⟨rfl, hK1 _ ?_⟩)); clear hK1 K1; rw [hh]; clear hh hz) | (refine (h3 _).mono ?_; rintro _ hz ⟨rfl, hh⟩; (first | (refine hK1 _ ?_) | (refine ⟨rfl, hK1 _ ?_⟩)); clear hK1 K1; rw [hh]; clear hh hz)))
 refine g4.mono ?_
 rintro _ hz ⟨rfl, k, hk, rfl⟩
 refine hK1 _ ?_; clear hK1 K1
 (repeat (first | refine gO rfl ?_ | ((first | refine gM zM13 ?_ | (with_reducible refine wM ?_ ?_) | ((with_reducible refine xS ?_); refine uF 2 zM13 9 zP5E zP5P 58 rfl (by kernel_rfl) ?_)) <;> ((try with_reducible intro K1 hK1); simp only [go_sem, ↓reduceIte, reduceCtorEq, nA, nB, nC, nD, nE, nF, Int.reduceBEq, Int.reduceTMod, Int.reduceTDiv, Int.reduceMul, Int.reduceBNe, Int.reduceLT, Int.reduceLE, Int.reduceAdd, Int.reduceSub, Int.reduceNeg, decide_true, decide_false, Bool.true_and, Bool.false_and, Bool.and_true, Bool.and_false, Bool.or_false, Bool.or_true, Bool.true_or, Bool.false_or, Bool.not_true, Bool.not_false, true_implies, false_implies, true_and, and_true, Int.reduceToNat] <;> and_intros <;> first | (apply hK1; clear hK1 K1) | (intros; first | omega | decide) | skip)) | (refine awp_cond (t := _) rfl (fun hq => ?_) (fun hq => ?_) <;> first | (exact absurd hq (by decide)) | (cases hq; done) | (clear hq)) | (refine awp_un 8 ?_) | (with_reducible exact rfl) | (with_reducible exact trivial) | ((with_reducible show uside _); first | exact True.intro | exact rfl) | ((with_reducible show opS _ _); exact True.intro) | (refine ⟨AV.v (.bool true), rfl, hK1 _ ?_⟩; clear hK1 K1)))
 simp only [Tryz.results234, go_sem, ↓reduceIte, reduceCtorEq, nA, nB, nC, nD, nE, nF]
 exact ⟨_, _, Weak.refl _, Hp.le.refl _, rfl, k, hk, rfl⟩
theorem c_tag (r b : Nat) (i : Int) (h : Hp) (hr : h.H r = some (.cells (rdrC i b))) (hb : h.H b = some (.cells (bkC nl))) : ACalls Tryz.prog 201 [.ptr r 0, .v (.string sN)] h (fun x h' => x = .v (.bool true) ∧ ∃ k, h.T k = none ∧ h' = ⟨upd h.H b (some (.cells (bkC (.row 19 [ndN] (some k))))), upd h.T k (some (.tail 1))⟩) := by
 have g1 := c_fieldTag r b i h hr hb
 have h2 := fun h => c_cutPrefix ⟨#[105, 102, 32]⟩ h (by decide)
 have h3 := fun h => c_cutPrefix ⟨#[101, 97, 99, 104, 32]⟩ h (by decide)
 have e1 : (sN == ⟨#[111, 112, 101, 110]⟩) = false := by decide
 have e2 : (sN == ⟨#[99, 108, 111, 115, 101]⟩) = false := by decide
 have e3 : (sN == ⟨#[101, 108, 115, 101]⟩) = false := by decide
 have e4 : (sN == ⟨#[101, 110, 100]⟩) = false := by decide
 refine gE Tryz.func201 rfl (by kernel_rfl) 47 rfl fun c => ?_
 (repeat (first | refine gO rfl ?_ | (refine gR fun K1 hK1 => ?_; simp only [go_sem, ↓reduceIte, reduceCtorEq, nA, nB, nC, nD, nE, nF, Int.reduceBEq, Int.reduceTMod, Int.reduceTDiv, Int.reduceMul, Int.reduceBNe, Int.reduceLT, Int.reduceLE, Int.reduceAdd, Int.reduceSub, Int.reduceNeg, decide_true, decide_false, Bool.true_and, Bool.false_and, Bool.and_true, Bool.and_false, Bool.or_false, Bool.or_true, Bool.true_or, Bool.false_or, Bool.not_true, Bool.not_false, true_implies, false_implies, true_and, and_true, Int.reduceToNat, e1, e2, e3, e4] <;> and_intros <;> first | (apply hK1; clear hK1 K1) | (intros; first | omega | decide) | skip) | (refine awp_cond (t := _) rfl (fun hq => ?_) (fun hq => ?_) <;> first | (exact absurd hq (by decide)) | (cases hq; done) | (clear hq)) | (refine awp_un 8 ?_) | (with_reducible exact rfl) | (with_reducible exact trivial) | ((with_reducible show uside _); first | exact True.intro | exact rfl) | ((with_reducible show opS _ _); exact True.intro) | (refine ⟨AV.v (.bool true), rfl, hK1 _ ?_⟩; clear hK1 K1) | (refine (h2 _).mono ?_; rintro _ hz ⟨rfl, hh⟩; (first | (refine hK1 _ ?_) | (refine ⟨rfl, hK1 _ ?_⟩)); clear hK1 K1; rw [hh]; clear hh hz) | (refine (h3 _).mono ?_; rintro _ hz ⟨rfl, hh⟩; (first | (refine hK1 _ ?_) | (refine ⟨rfl, hK1 _ ?_⟩)); clear hK1 K1; rw [hh]; clear hh hz)))
 refine g1.mono ?_
 rintro _ hz ⟨rfl, k, hk, rfl⟩
 refine hK1 _ ?_; clear hK1 K1
 (repeat (first | refine gO rfl ?_ | (refine gR fun K1 hK1 => ?_; simp only [go_sem, ↓reduceIte, reduceCtorEq, nA, nB, nC, nD, nE, nF, Int.reduceBEq, Int.reduceTMod, Int.reduceTDiv, Int.reduceMul, Int.reduceBNe, Int.reduceLT, Int.reduceLE, Int.reduceAdd, Int.reduceSub, Int.reduceNeg, decide_true, decide_false, Bool.true_and, Bool.false_and, Bool.and_true, Bool.and_false, Bool.or_false, Bool.or_true, Bool.true_or, Bool.false_or, Bool.not_true, Bool.not_false, true_implies, false_implies, true_and, and_true, Int.reduceToNat] <;> and_intros <;> first | (apply hK1; clear hK1 K1) | (intros; first | omega | decide) | skip) | (refine awp_cond (t := _) rfl (fun hq => ?_) (fun hq => ?_) <;> first | (exact absurd hq (by decide)) | (cases hq; done) | (clear hq)) | (refine awp_un 8 ?_) | (with_reducible exact rfl) | (with_reducible exact trivial) | ((with_reducible show uside _); first | exact True.intro | exact rfl) | ((with_reducible show opS _ _); exact True.intro) | (refine ⟨AV.v (.bool true), rfl, hK1 _ ?_⟩; clear hK1 K1)))
 simp only [Tryz.results201, go_sem, ↓reduceIte, reduceCtorEq, nA, nB, nC, nD, nE, nF]
 exact ⟨_, _, Weak.refl _, Hp.le.refl _, rfl, k, hk, rfl⟩
theorem c_run (r : Nat) (h : Hp) (hr : h.H r = some (.cells [vS sT, vI 0, nl, vB false])) : ACalls Tryz.prog 161 [.ptr r 0] h (fun x h' => x = .v (.bool true) ∧ ∃ b k, h'.H r = some (.cells (rdrC 3 b)) ∧ h'.H b = some (.cells (bkC (.row 19 [ndN] (some k)))) ∧ h'.T k = some (.tail 1)) := by
 have h1 := fun h => c_indexAny h
 have h2 := fun h => c_indexByte h
 have z1 : (sT.size : Int) = 3 := rfl
 have z2 : ((sT.data.toList.getD 0 0).toNat : Int) = 123 := rfl
 have z3 : sT.extract 0 3 = sT := by decide
 have z4 : sT.extract 1 2 = sN := by decide
 unfold vS vI nl vB at hr
 refine gE Tryz.func161 rfl (by kernel_rfl) 130 rfl fun c => ?_
 (repeat (first | refine gO rfl ?_ | ((first | refine gM zM14 ?_ | (with_reducible refine wM ?_ ?_) | ((with_reducible refine xS ?_); refine uD 2 zM14 zP6E zP6P 131 rfl (by kernel_rfl) ?_) | ((with_reducible refine xS ?_); refine uD 3 zM14 zP7E zP7P 131 rfl (by kernel_rfl) ?_) | ((with_reducible refine xR ?_); refine uE 5 zM14 zP8E zP8P 131 rfl (by kernel_rfl) ?_) | ((with_reducible refine xS ?_); refine uD 7 zM14 zP9E zP9P 131 rfl (by kernel_rfl) ?_) | ((with_reducible refine xS ?_); refine uD 9 zM14 zPAE zPAP 131 rfl (by kernel_rfl) ?_) | ((with_reducible refine xS ?_); refine uD 10 zM14 zPBE zPBP 131 rfl (by kernel_rfl) ?_)) <;> ((try with_reducible intro K1 hK1); simp only [go_sem, ↓reduceIte, reduceCtorEq, nA, nB, nC, nD, nE, nF, Int.reduceBEq, Int.reduceTMod, Int.reduceTDiv, Int.reduceMul, Int.reduceBNe, Int.reduceLT, Int.reduceLE, Int.reduceAdd, Int.reduceSub, Int.reduceNeg, decide_true, decide_false, Bool.true_and, Bool.false_and, Bool.and_true, Bool.and_false, Bool.or_false, Bool.or_true, Bool.true_or, Bool.false_or, Bool.not_true, Bool.not_false, true_implies, false_implies, true_and, and_true, Int.reduceToNat, hr] <;> and_intros <;> first | (apply hK1; clear hK1 K1) | (intros; first | omega | decide) | skip)) | (refine awp_cond (t := _) rfl (fun hq => ?_) (fun hq => ?_) <;> first | (exact absurd hq (by decide)) | (cases hq; done) | (clear hq)) | (refine awp_un 8 ?_) | (with_reducible exact rfl) | (with_reducible exact trivial) | ((with_reducible show uside _); first | exact True.intro | exact rfl) | ((with_reducible show opS _ _); exact True.intro) | (refine ⟨AV.v (.bool true), rfl, hK1 _ ?_⟩; clear hK1 K1) | (refine (h1 _).mono ?_; rintro _ hz ⟨rfl, hh⟩; (first | (refine hK1 _ ?_) | (refine ⟨rfl, hK1 _ ?_⟩)); clear hK1 K1; rw [hh]; clear hh hz) | (refine (h2 _).mono ?_; rintro _ hz ⟨rfl, hh⟩; (first | (refine hK1 _ ?_) | (refine ⟨rfl, hK1 _ ?_⟩)); clear hK1 K1; rw [hh]; clear hh hz)))
 intro b hb
 have hrb : r ≠ b := by rintro rfl; rw [hr] at hb; cases hb
 have hor : ∀ o, upd h.H b o r = some (.cells [.v (.string sT), .v (.int .i64 0), .v (.slice none 0 0), .v (.bool false)]) := fun o => (upd_other _ _ hrb).trans hr
 ((simp only [go_sem, ↓reduceIte, reduceCtorEq, nA, nB, nC, nD, nE, nF, hor]; (try and_intros); all_goals first | (refine hK1 _ ?_; clear hK1 K1) | (intros; first | omega | decide | (simp_all <;> omega)) | skip))
 (repeat (first | refine gO rfl ?_ | ((first | refine gM zM14 ?_ | (with_reducible refine wM ?_ ?_) | ((with_reducible refine xS ?_); refine uD 2 zM14 zP6E zP6P 131 rfl (by kernel_rfl) ?_) | ((with_reducible refine xS ?_); refine uD 3 zM14 zP7E zP7P 131 rfl (by kernel_rfl) ?_) | ((with_reducible refine xR ?_); refine uE 5 zM14 zP8E zP8P 131 rfl (by kernel_rfl) ?_) | ((with_reducible refine xS ?_); refine uD 7 zM14 zP9E zP9P 131 rfl (by kernel_rfl) ?_) | ((with_reducible refine xS ?_); refine uD 9 zM14 zPAE zPAP 131 rfl (by kernel_rfl) ?_) | ((with_reducible refine xS ?_); refine uD 10 zM14 zPBE zPBP 131 rfl (by kernel_rfl) ?_)) <;> ((try with_reducible intro K1 hK1); simp only [go_sem, ↓reduceIte, reduceCtorEq, nA, nB, nC, nD, nE, nF, Int.reduceBEq, Int.reduceTMod, Int.reduceTDiv, Int.reduceMul, Int.reduceBNe, Int.reduceLT, Int.reduceLE, Int.reduceAdd, Int.reduceSub, Int.reduceNeg, decide_true, decide_false, Bool.true_and, Bool.false_and, Bool.and_true, Bool.and_false, Bool.or_false, Bool.or_true, Bool.true_or, Bool.false_or, Bool.not_true, Bool.not_false, true_implies, false_implies, true_and, and_true, Int.reduceToNat, upd_same, z1, z2, z3, z4] <;> and_intros <;> first | (apply hK1; clear hK1 K1) | (intros; first | omega | decide) | skip)) | (refine awp_cond (t := _) rfl (fun hq => ?_) (fun hq => ?_) <;> first | (exact absurd hq (by decide)) | (cases hq; done) | (clear hq)) | (refine awp_un 8 ?_) | (with_reducible exact rfl) | (with_reducible exact trivial) | ((with_reducible show uside _); first | exact True.intro | exact rfl) | ((with_reducible show opS _ _); exact True.intro) | (refine ⟨AV.v (.bool true), rfl, hK1 _ ?_⟩; clear hK1 K1) | (refine (h1 _).mono ?_; rintro _ hz ⟨rfl, hh⟩; (first | (refine hK1 _ ?_) | (refine ⟨rfl, hK1 _ ?_⟩)); clear hK1 K1; rw [hh]; clear hh hz) | (refine (h2 _).mono ?_; rintro _ hz ⟨rfl, hh⟩; (first | (refine hK1 _ ?_) | (refine ⟨rfl, hK1 _ ?_⟩)); clear hK1 K1; rw [hh]; clear hh hz)))
 refine ⟨.v (.string sN), ⟨⟨rfl, rfl, True.intro⟩, ?_⟩, rfl, ?_⟩
 ·unfold qE
  simp only [go_sem, ↓reduceIte, reduceCtorEq, Nat.reduceAdd, Nat.reduceSub, Nat.reduceMul, Nat.reduceLT, Nat.reduceLeDiff, Nat.reduceEqDiff, z1, z4]
  exact ⟨by decide, congrArg (fun s => AV.v (.string s)) z4⟩
 refine hK1 _ ?_; clear hK1 K1
 (repeat (first | refine gO rfl ?_ | ((first | refine gM zM14 ?_ | (with_reducible refine wM ?_ ?_) | ((with_reducible refine xS ?_); refine uD 2 zM14 zP6E zP6P 131 rfl (by kernel_rfl) ?_) | ((with_reducible refine xS ?_); refine uD 3 zM14 zP7E zP7P 131 rfl (by kernel_rfl) ?_) | ((with_reducible refine xR ?_); refine uE 5 zM14 zP8E zP8P 131 rfl (by kernel_rfl) ?_) | ((with_reducible refine xS ?_); refine uD 7 zM14 zP9E zP9P 131 rfl (by kernel_rfl) ?_) | ((with_reducible refine xS ?_); refine uD 9 zM14 zPAE zPAP 131 rfl (by kernel_rfl) ?_) | ((with_reducible refine xS ?_); refine uD 10 zM14 zPBE zPBP 131 rfl (by kernel_rfl) ?_)) <;> ((try with_reducible intro K1 hK1); simp only [go_sem, ↓reduceIte, reduceCtorEq, nA, nB, nC, nD, nE, nF, Int.reduceBEq, Int.reduceTMod, Int.reduceTDiv, Int.reduceMul, Int.reduceBNe, Int.reduceLT, Int.reduceLE, Int.reduceAdd, Int.reduceSub, Int.reduceNeg, decide_true, decide_false, Bool.true_and, Bool.false_and, Bool.and_true, Bool.and_false, Bool.or_false, Bool.or_true, Bool.true_or, Bool.false_or, Bool.not_true, Bool.not_false, true_implies, false_implies, true_and, and_true, Int.reduceToNat] <;> and_intros <;> first | (apply hK1; clear hK1 K1) | (intros; first | omega | decide) | skip)) | (refine awp_cond (t := _) rfl (fun hq => ?_) (fun hq => ?_) <;> first | (exact absurd hq (by decide)) | (cases hq; done) | (clear hq)) | (refine awp_un 8 ?_) | (with_reducible exact rfl) | (with_reducible exact trivial) | ((with_reducible show uside _); first | exact True.intro | exact rfl) | ((with_reducible show opS _ _); exact True.intro) | (refine ⟨AV.v (.bool true), rfl, hK1 _ ?_⟩; clear hK1 K1)))
 have g1 := c_tag r b 0 ⟨upd (upd h.H b (some (.cells (bkC nl)))) r (some (.cells (rdrC 0 b))), h.T⟩ (upd_same _ _ _) ((upd_other _ _ hrb.symm).trans (upd_same _ _ _))
 refine g1.mono ?_
 rintro _ hz ⟨rfl, k, hk, rfl⟩
 refine ⟨rfl, hK1 _ ?_⟩; clear hK1 K1 g1
 generalize hbb : bkC (.row 19 [ndN] (some k)) = bb
 have hor2 : ∀ o, upd (upd (upd h.H b (some (.cells (bkC nl)))) r (some (.cells (rdrC 0 b)))) b o r = some (.cells [.v (.string sT), .v (.int .i64 0), .row 1 [[.ptr b 0]] none, .v (.bool false)]) := fun o => (upd_other _ _ hrb).trans (upd_same _ _ _)
 (repeat (first | refine gO rfl ?_ | ((first | refine gM zM14 ?_ | (with_reducible refine wM ?_ ?_) | ((with_reducible refine xS ?_); refine uD 2 zM14 zP6E zP6P 131 rfl (by kernel_rfl) ?_) | ((with_reducible refine xS ?_); refine uD 3 zM14 zP7E zP7P 131 rfl (by kernel_rfl) ?_) | ((with_reducible refine xR ?_); refine uE 5 zM14 zP8E zP8P 131 rfl (by kernel_rfl) ?_) | ((with_reducible refine xS ?_); refine uD 7 zM14 zP9E zP9P 131 rfl (by kernel_rfl) ?_) | ((with_reducible refine xS ?_); refine uD 9 zM14 zPAE zPAP 131 rfl (by kernel_rfl) ?_) | ((with_reducible refine xS ?_); refine uD 10 zM14 zPBE zPBP 131 rfl (by kernel_rfl) ?_)) <;> ((try with_reducible intro K1 hK1); simp only [go_sem, ↓reduceIte, reduceCtorEq, nA, nB, nC, nD, nE, nF, Int.reduceBEq, Int.reduceTMod, Int.reduceTDiv, Int.reduceMul, Int.reduceBNe, Int.reduceLT, Int.reduceLE, Int.reduceAdd, Int.reduceSub, Int.reduceNeg, decide_true, decide_false, Bool.true_and, Bool.false_and, Bool.and_true, Bool.and_false, Bool.or_false, Bool.or_true, Bool.true_or, Bool.false_or, Bool.not_true, Bool.not_false, true_implies, false_implies, true_and, and_true, Int.reduceToNat, upd_same, z1, hor2, nc1] <;> and_intros <;> first | (apply hK1; clear hK1 K1) | (intros; first | omega | decide) | skip)) | (refine awp_cond (t := _) rfl (fun hq => ?_) (fun hq => ?_) <;> first | (exact absurd hq (by decide)) | (cases hq; done) | (clear hq)) | (refine awp_un 8 ?_) | (with_reducible exact rfl) | (with_reducible exact trivial) | ((with_reducible show uside _); first | exact True.intro | exact rfl) | ((with_reducible show opS _ _); exact True.intro) | (refine ⟨AV.v (.bool true), rfl, hK1 _ ?_⟩; clear hK1 K1)))
 simp only [Tryz.results161, go_sem, ↓reduceIte, reduceCtorEq, nA, nB, nC, nD, nE, nF]
 exact ⟨_, _, Weak.refl _, Hp.le.refl _, rfl, b, k, upd_same _ _ _, ((upd_other _ _ hrb.symm).trans (upd_same _ _ _)).trans (by rw [hbb]), upd_same _ _ _⟩
theorem c_parse (h : Hp) : ACalls Tryz.prog 120 [.v (.string sT)] h (fun x h' => x = .tup [.row 19 [ndN] none, .v (.int .i64 0), .v (.int .i64 0)]) := by
 have h1 := fun r h hr => c_run r h hr
 have z1 : (sT.size : Int) = 3 := rfl
 refine gE Tryz.func120 rfl (by kernel_rfl) 31 rfl fun c => ?_
 (repeat (first | refine gO rfl ?_ | ((first | refine gM zM15 ?_ | (with_reducible refine wM ?_ ?_) | ((with_reducible refine xS ?_); refine uD 5 zM15 zPCE zPCP 32 rfl (by kernel_rfl) ?_)) <;> ((try with_reducible intro K1 hK1); simp only [go_sem, ↓reduceIte, reduceCtorEq, nA, nB, nC, nD, nE, nF, Int.reduceBEq, Int.reduceTMod, Int.reduceTDiv, Int.reduceMul, Int.reduceBNe, Int.reduceLT, Int.reduceLE, Int.reduceAdd, Int.reduceSub, Int.reduceNeg, decide_true, decide_false, Bool.true_and, Bool.false_and, Bool.and_true, Bool.and_false, Bool.or_false, Bool.or_true, Bool.true_or, Bool.false_or, Bool.not_true, Bool.not_false, true_implies, false_implies, true_and, and_true, Int.reduceToNat, z1] <;> and_intros <;> first | (apply hK1; clear hK1 K1) | (intros; first | omega | decide) | skip)) | (refine awp_cond (t := _) rfl (fun hq => ?_) (fun hq => ?_) <;> first | (exact absurd hq (by decide)) | (cases hq; done) | (clear hq)) | (refine awp_un 8 ?_) | (with_reducible exact rfl) | (with_reducible exact trivial) | ((with_reducible show uside _); first | exact True.intro | exact rfl) | ((with_reducible show opS _ _); exact True.intro) | (refine ⟨AV.v (.bool true), rfl, hK1 _ ?_⟩; clear hK1 K1)))
 intro r hr
 refine hK1 _ ?_; clear hK1 K1
 (repeat (first | refine gO rfl ?_ | ((first | refine gM zM15 ?_ | (with_reducible refine wM ?_ ?_) | ((with_reducible refine xS ?_); refine uD 5 zM15 zPCE zPCP 32 rfl (by kernel_rfl) ?_)) <;> ((try with_reducible intro K1 hK1); simp only [go_sem, ↓reduceIte, reduceCtorEq, nA, nB, nC, nD, nE, nF, Int.reduceBEq, Int.reduceTMod, Int.reduceTDiv, Int.reduceMul, Int.reduceBNe, Int.reduceLT, Int.reduceLE, Int.reduceAdd, Int.reduceSub, Int.reduceNeg, decide_true, decide_false, Bool.true_and, Bool.false_and, Bool.and_true, Bool.and_false, Bool.or_false, Bool.or_true, Bool.true_or, Bool.false_or, Bool.not_true, Bool.not_false, true_implies, false_implies, true_and, and_true, Int.reduceToNat] <;> and_intros <;> first | (apply hK1; clear hK1 K1) | (intros; first | omega | decide) | skip)) | (refine awp_cond (t := _) rfl (fun hq => ?_) (fun hq => ?_) <;> first | (exact absurd hq (by decide)) | (cases hq; done) | (clear hq)) | (refine awp_un 8 ?_) | (with_reducible exact rfl) | (with_reducible exact trivial) | ((with_reducible show uside _); first | exact True.intro | exact rfl) | ((with_reducible show opS _ _); exact True.intro) | (refine ⟨AV.v (.bool true), rfl, hK1 _ ?_⟩; clear hK1 K1)))
 refine (h1 r _ (upd_same _ _ _)).mono ?_
 rintro _ ha ⟨rfl, b, k, har, hab, hak⟩
 refine hK1 _ ?_; clear hK1 K1 h1
 unfold rdrC vS vI vB at har
 generalize hnn : ([ndN] : List (List AV)) = nn at *
 unfold bkC ndCp vS vI vB nl s0 at hab
 simp only [List.cons_append, List.nil_append] at hab
 (repeat (first | refine gO rfl ?_ | ((first | refine gM zM15 ?_ | (with_reducible refine wM ?_ ?_) | ((with_reducible refine xS ?_); refine uD 5 zM15 zPCE zPCP 32 rfl (by kernel_rfl) ?_)) <;> ((try with_reducible intro K1 hK1); simp only [go_sem, ↓reduceIte, reduceCtorEq, nA, nB, nC, nD, nE, nF, Int.reduceBEq, Int.reduceTMod, Int.reduceTDiv, Int.reduceMul, Int.reduceBNe, Int.reduceLT, Int.reduceLE, Int.reduceAdd, Int.reduceSub, Int.reduceNeg, decide_true, decide_false, Bool.true_and, Bool.false_and, Bool.and_true, Bool.and_false, Bool.or_false, Bool.or_true, Bool.true_or, Bool.false_or, Bool.not_true, Bool.not_false, true_implies, false_implies, true_and, and_true, Int.reduceToNat, har, hab] <;> and_intros <;> first | (apply hK1; clear hK1 K1) | (intros; first | omega | decide) | skip)) | (refine awp_cond (t := _) rfl (fun hq => ?_) (fun hq => ?_) <;> first | (exact absurd hq (by decide)) | (cases hq; done) | (clear hq)) | (refine awp_un 8 ?_) | (with_reducible exact rfl) | (with_reducible exact trivial) | ((with_reducible show uside _); first | exact True.intro | exact rfl) | ((with_reducible show opS _ _); exact True.intro) | (refine ⟨AV.v (.bool true), rfl, hK1 _ ?_⟩; clear hK1 K1)))
 simp only [Tryz.results120, go_sem, ↓reduceIte, reduceCtorEq, nA, nB, nC, nD, nE, nF]
 exact ⟨_, _, Weak.tupW (Weak.row _ _ _), Hp.le.refl _, rfl⟩
open Go.RowKit
theorem bon {a b c : World} (h : Below a.heap.size a b) (k : Below b.heap.size b c) : Below a.heap.size a c := h.trans (k.mono h.size)
theorem bfirst (a : World) (o : Obj) : Below a.heap.size a (a.alloc o) := (Below.refl _ _).alloc (Nat.le_refl _) o
theorem bold {a b : World} (k : Below a.heap.size a b) {p : Addr} {v : Value} (h : a.cell? p = some v) : b.cell? p = some v :=
  (k.cell (World.block_lt_of_cell? a _ h)).trans h
open Go Go.RowKit
def fV : List Value := [.string sN, .int .i64 2, .string ⟨#[]⟩, .int .i64 5, .bool false, .slice none 0 0]
def fC : List AV := fV.map .v
theorem w_cmp (w : World) : Calls Tryz.prog 269 #[.agg #[.string sN, .int .i64 2, .string ⟨#[]⟩, .int .i64 5, .bool false, .slice none 0 0], .string sN] w fun e w' => e = .returned (.int .i64 0) ∧ Below w.heap.size w w' := by
 have HC := fun w => Tryz.strings_Compare sN sN w
 go_enter Tryz.func269, Tryz.ntmps269
 go_wp2_with fail
 refine (HC _).mono ?_
 rintro e w1 ⟨rfl, rfl⟩
 go_wp2_with fail
 go_ret
 exact ⟨rfl, bfirst _ _⟩
theorem w_search (b o c : Nat) (w : World) (hbl : b < w.heap.size) (h0 : ∀ j (hj : j < fV.length), w.cell? ⟨b, o + j, none⟩ = some fV[j]) :
  Calls Tryz.prog 268 #[.slice (some ⟨b, o, none⟩) 1 c, .string sN, .func (.func 269) #[] #[]] w fun e w' => e = .returned (.tuple #[.int .i64 0, .bool true]) ∧ Below w.heap.size w w' := by
 have c0 := h0 0 (by decide)
 have c1 := h0 1 (by decide)
 have c2 := h0 2 (by decide)
 have c3 := h0 3 (by decide)
 have c4 := h0 4 (by decide)
 have c5 := h0 5 (by decide)
 simp only [fV, List.getElem_cons_zero, List.getElem_cons_succ] at c0 c1 c2 c3 c4 c5
 have hcl : ∀ j v, j < 6 → w.cell? ⟨b, o + j, none⟩ = some v → ∀ wr, Below w.heap.size w wr → wr.cell? ⟨b, o + j, none⟩ = some v := fun j v _ hv wr hb => bold hb hv
 have HC := Lib.hid (show ∀ wr, Below w.heap.size w wr → b < wr.heap.size ∧ wr.cell? ⟨b, o, none⟩ = some (.string sN) ∧ wr.cell? ⟨b, o + 1, none⟩ = some (.int .i64 2) ∧ wr.cell? ⟨b, o + 2, none⟩ = some (.string ⟨#[]⟩) ∧ wr.cell? ⟨b, o + 3, none⟩ = some (.int .i64 5) ∧ wr.cell? ⟨b, o + 4, none⟩ = some (.bool false) ∧ wr.cell? ⟨b, o + 5, none⟩ = some (.slice none 0 0) from fun wr hb => ⟨Nat.lt_of_lt_of_le hbl hb.size, bold hb c0, bold hb c1, bold hb c2, bold hb c3, bold hb c4, bold hb c5⟩)
 have eg := enters_of Tryz.func269 (by kernel_rfl) rfl
 clear h0 c0 c1 c2 c3 c4 c5 hcl hbl
 go_enter Tryz.func268, Tryz.ntmps268
 go_wp2_with fail
 go_loopg [9, 10, 11] 1 (fun g s9 s10 _ wr => ∃ hi : Nat, s9 = .int .i64 0 ∧ s10 = .int .i64 hi ∧ hi ≤ 1 ∧ hi ≤ g ∧ Below w.heap.size w wr)
 case atStart => exact ⟨1, rfl, rfl, by omega, by omega, Below.refl _ _⟩
 case round =>
  obtain ⟨hi, rfl, rfl, h1, hg, hb⟩ := hrel
  obtain ⟨hbl, c0, c1, c2, c3, c4, c5⟩ := HC.out wr hb
  obtain rfl | rfl : hi = 0 ∨ hi = 1 := by omega
  ·go_wp2_with fail
   refine (w_cmp _).mono ?_
   rintro e w1 ⟨rfl, hb1⟩
   go_wp2_with fail
   go_ret2
   exact ⟨rfl, bon hb hb1⟩
  ·have hgk : gk ≠ 0 := by omega
   go_wp2_with fail
   refine (w_cmp _).mono ?_
   rintro e w1 ⟨rfl, hb1⟩
   go_wp2_with fail
   go_roundg 0
   case measure => omega
   case rel => exact ⟨0, rfl, rfl, by omega, by omega, bon hb hb1⟩
theorem sizeBuilder : (Tryz.prog.info? 171).map (·.size) = some 2 := by kernel_rfl
section
variable {P : Program} {c : Cx} {Q : Exit → St → Prop} {s : St} {ty : Nat → Option TyD} {o : Oper}
end
def rowB (l : List UInt8) : List (List AV) := l.map fun x => [.v (.int .u8 (x.toNat : Int))]
theorem rowB_app (l : List UInt8) (s : ByteArray) : rowB l ++ strRow s = rowB (l ++ s.data.toList) := by simp [rowB, strRow]
theorem HSim.other {G : Gh} {h : Hp} {w w' : World} (hs : HSim G h w) {B : Nat} (hb : ∀ b, b ≠ B → w'.heap[b]? = w.heap[b]?) (hv : ∀ o, G.val B o = none) (hn : ¬ Own G h B) : HSim G h w' where
 val b o x e := by
  have hne : b ≠ B := fun e' => by subst e'; rw [hv] at e; cases e
  rw [cellT_at (hb b hne)]; exact hs.val b o x e
 obj j ob e := by
  obtain ⟨b, o', x, y, z⟩ := hs.obj j ob e
  have hne : b ≠ B := fun e' => hn (.inl ⟨j, by rw [e]; simp, by rw [← e']; exact x⟩)
  exact ⟨b, o', x, by rw [hb b hne]; exact y, z⟩
 inj := hs.inj
 tok k m e := by
  refine (hs.tok k m e).move (GLe.refl G) rfl fun t a => ⟨?_, fun _ => rfl⟩
  have hne : t.g ≠ B := fun e' => hn (.inr ⟨k, t, by rw [e]; simp, a, e'⟩)
  rw [hb _ hne]
 tinj := hs.tinj
 tobj := hs.tobj
 fat := hs.fat
 ftl := hs.ftl
theorem repB {G : Gh} {l : List UInt8} {vs : List Value} (h : RepL G (rowB l).flatten vs) : vs = Lib.byteCells l := by
 have hf : (rowB l).flatten = (Lib.byteCells l).map AV.v := by
  unfold rowB Lib.byteCells
  clear h
  induction l with
  | nil => rfl
  | cons x l ih => simp [ih]
 rw [hf] at h
 obtain ⟨h1, h2⟩ := h
 apply List.ext_getElem (by simpa using h1)
 intro j a b
 have h3 := (h2 j (by simpa using b) a).1
 simp only [List.getElem_map] at h3
 generalize vs[j] = y at h3
 cases h3; rfl
open Go
set_option linter.unusedVariables false
set_option linter.unusedSimpArgs false
open Nat renaming reduceAdd → nA, reduceSub → nB, reduceMul → nC, reduceLT → nD, reduceLeDiff → nE, reduceEqDiff → nF, reduceMod → nG, reduceDiv → nH, reducePow → nI
set_option maxRecDepth 100000
set_option maxHeartbeats 8000000
section
variable {P : Program} {c : Cx} {s : St} {ty : Nat → Option TyD} {o : Oper}
theorem a_boxObj {t : Nat} {x : Operand} (ho : o.op = .box t x) {cs : List AV} (hc : (s.ev x).cellsB = some cs) {K : St → Prop}
  (hK : ∀ i, s.h.H i = none → K ({ s with h := { s.h with H := upd s.h.H i (some (.obj t cs)) } }.put o.dst (.ptr i 0))) : Aop P c o s K := by
 rintro a w ⟨G, L, sm, hg, hf, hL⟩ Kc Qc hk
 have hr := cellsB_sound (sm.ev x) hc
 obtain ⟨hn, s1, g1, f1, e1⟩ := sm.newObj (y := .obj t cs) (o := .cells (a.eval x).cells.toList.toArray t) ⟨_, rfl, by simpa using hr⟩
 unfold Oper.wp
 have hrun : (execOp a.eval o).run P w = .ok (.value (.pointer (some ⟨w.heap.size, 0, none⟩))) (w.alloc (.cells (a.eval x).cells.toList.toArray t)) := by
  simp [execOp, ho, Instr.box, newVar, newRow]
 rw [hrun]
 exact hk _ _ _ (hK _ hn) (In.put s1 (hg.trans g1) (hf.trans f1) hL o.dst (RepT.of (.ptr _ 0 _ e1)))
end
open Go.RowKit in
theorem w_ccAt (b : Nat) (w : World) (n : Nat) (h0 : w.cell? ⟨b, 2, none⟩ = some (.pointer none)) (hsh : w.shape? b = some (195, 5)) (hfz : w.frozen? ⟨b, 2, none⟩ = false) :
  Calls Tryz.prog 156 #[.pointer (some ⟨b, 2, none⟩)] w fun e w' => e = .returned (.tuple #[]) ∧ w' = w.setCell ⟨b, 2, none⟩ (.pointer (some ⟨b, 2, none⟩)) := by
 obtain ⟨j, hj, hjs⟩ := Option.map_eq_some_iff.1 sizeBuilder
 go_enter Tryz.func156, Tryz.ntmps156
 go_wp2
 rw [Lib.run_to_unsafe w ⟨b, 2, none⟩ Tryz.underlying168 Tryz.underlying277 hj (by rw [hjs]; decide) hsh (by show 2 < 5; omega)]
 simp only [Result.andThen]
 rw [Oper.upon_value]
 go_wp2
 rw [run_callFunc_extern Tryz.func189 (by kernel_rfl) (by kernel_rfl) (by kernel_rfl) (e := Extern.AbiNoEscape.same) (by kernel_rfl)]
 rw [Lib.run_noEscape]
 simp only [Result.andThen]
 rw [Oper.upon_value]
 go_wp2
 rw [Lib.run_from_unsafe w ⟨b, 2, none⟩ Tryz.underlying277 Tryz.underlying168 hj hsh (by kernel_rfl)]
 simp only [Result.andThen]
 rw [Oper.upon_value]
 go_wp2
 go_end0
 exact ⟨rfl, rfl⟩
theorem five_cells {G : Gh} {A B C D E : AV} {vs : Array Value} (h : RepL G [A, B, C, D, E] vs.toList) : ∃ a b c d e, vs = #[a, b, c, d, e] ∧ Rep G A a ∧ Rep G B b ∧ Rep G C c ∧ Rep G D d ∧ Rep G E e ∧ a.oneCell' = true ∧ b.oneCell' = true ∧ d.oneCell' = true ∧ e.oneCell' = true := by
 obtain ⟨h1, h2⟩ := h
 have hs : vs.size = 5 := by simpa using h1
 refine ⟨vs[0], vs[1], vs[2], vs[3], vs[4], ?_, ?_⟩
 ·apply Array.ext (by simpa using hs)
  intro j a b
  have : j = 0 ∨ j = 1 ∨ j = 2 ∨ j = 3 ∨ j = 4 := by simp at b; omega
  rcases this with rfl | rfl | rfl | rfl | rfl <;> rfl
 ·have a0 := h2 0 (by simp) (by simp; omega)
  have a1 := h2 1 (by simp) (by simp; omega)
  have a2 := h2 2 (by simp) (by simp; omega)
  have a3 := h2 3 (by simp) (by simp; omega)
  have a4 := h2 4 (by simp) (by simp; omega)
  simp only [List.getElem_cons_zero, List.getElem_cons_succ, Array.getElem_toList] at a0 a1 a2 a3 a4
  exact ⟨a0.1, a1.1, a2.1, a3.1, a4.1, a0.2, a1.2, a3.2, a4.2⟩
theorem one_ptrAt {G : Gh} {b o : Nat} {vs : Array Value} (hv : vs.size = 1) (ha : ∀ j (hj : j < [AV.ptr b o].length), Rep G [AV.ptr b o][j] (vs.getD j undef)) : ∃ p, vs = #[.pointer (some ⟨p, o, none⟩)] ∧ G.at_ b = some p := by
 have hr := ha 0 (by simp)
 have hvs : vs = #[vs.getD 0 undef] := by
  apply Array.ext (by simpa using hv)
  intro j hj hj'
  simp only [List.size_toArray, List.length_cons, List.length_nil] at hj'
  obtain rfl : j = 0 := by omega
  simp [Array.getD, hv]
 rw [hvs]
 generalize vs.getD 0 undef = v at hr
 simp only [List.getElem_cons_zero] at hr
 cases hr with
 | ptr _ _ p hat => exact ⟨p, rfl, hat⟩
theorem g_ccAt (b : Nat) (D R Y I : AV) (h : Hp) (hb : h.H b = some (.obj 195 [D, R, .v (.pointer none), Y, I])) :
  ACalls Tryz.prog 156 [.ptr b 2] h (fun r h' => r = .tup [] ∧ h' = { h with H := upd h.H b (some (.obj 195 [D, R, .ptr b 2, Y, I])) }) := by
 refine acalls_mk (by kernel_rfl) fun G w vs hs hv ha => ?_
 obtain ⟨p, rfl, hat⟩ := one_ptrAt hv ha
 obtain ⟨p', ob, e', hh, ⟨us, rfl, hrr⟩, hval⟩ := hs.obj b _ hb
 rw [hat] at e'; cases e'
 obtain ⟨d, r, x, y, i, rfl, hd, hrw, hx, hy, hi, od, orr, oy, oi⟩ := five_cells hrr
 have hO : Own G h p := .inl ⟨b, by rw [hb]; simp, hat⟩
 have hre : RepL G [D, R, .ptr b 2, Y, I] [d, r, .pointer (some ⟨p, 2, none⟩), y, i] :=
  RepL.cons hd od (RepL.cons hrw orr (RepL.cons (.ptr b 2 p hat) rfl (RepL.cons hy oy (RepL.cons hi oi (RepL.nil G)))))
 obtain rfl : x = .pointer none := (RepT.of (L := []) hx).v_inv
 have hc0 : w.cell? ⟨p, 2, none⟩ = some (.pointer none) := by simp [World.cell?, hh]
 refine (w_ccAt p w 0 hc0 (by simp [World.shape?, hh]) (by simp [World.frozen?, hh])).mono ?_
 rintro e w' ⟨rfl, rfl⟩
 have hh' : (w.setCell ⟨p, 2, none⟩ (.pointer (some ⟨p, 2, none⟩))).heap[p]? = some (.cells #[d, r, .pointer (some ⟨p, 2, none⟩), y, i] 195 (0, 0)) := by
  exact heap_setCell_same w p 2 _ _ _ hh
 have hoth : ∀ q, q ≠ p → (w.setCell ⟨p, 2, none⟩ (.pointer (some ⟨p, 2, none⟩))).heap[q]? = w.heap[q]? := fun q hq => heap_setCell_other w _ q _ hq
 refine ⟨_, rfl, .tup [], _, G, ⟨rfl, rfl⟩, GLe.refl _, ?_, hs.setObj hb hat hoth hh' ⟨_, rfl, hre⟩, .tup [] #[] (fun _ => undef) rfl (fun j hj => by simp at hj) (fun j hj => by simp at hj)⟩
 exact ⟨rfl, rfl, rfl, by simp [World.setCell], fun q hlt hn => ⟨hoth q (fun e => hn (e ▸ hO)), fun o' => hn ((own_updH hb).1 o'), fun _ => rfl⟩⟩
theorem g_writeAt (b k : Nat) (D R I : AV) (s : ByteArray) (h : Hp) (hb : h.H b = some (.obj 195 [D, R, .v (.pointer none), .arr 1 k 0, I])) (hT : h.T k = some (.buf 5 (rowB []))) (hbig : s.size ≤ 1000000000) :
  ACalls Tryz.prog 112 [.ptr b 2, .v (.string s)] h (fun r h' => r = .tup [.v (.int .i64 s.size), .v .nilIface] ∧ h' = ⟨upd h.H b (some (.obj 195 [D, R, .ptr b 2, .arr 1 k s.size, I])), upd h.T k (some (.buf 5 (rowB s.data.toList)))⟩) := by
 have hl : (rowB []).length = 0 := rfl
 have ha : rowB [] ++ strRow s = rowB s.data.toList := rowB_app [] s
 rw [← ha]
 generalize rowB [] = bs at *
 refine gE Tryz.func112 rfl (by kernel_rfl) 17 rfl fun c => ?_
 (repeat (first | refine gO rfl ?_ | (refine gR fun K1 hK1 => ?_; simp only [go_sem, ↓reduceIte, reduceCtorEq, nA, nB, nC, nD, nE, nF] <;> and_intros <;> first | (apply hK1; clear hK1 K1) | (intros; first | omega | decide | (simp_all <;> omega)) | skip)))
 refine (g_ccAt b D R _ I h hb).mono ?_; rintro _ hz ⟨rfl, hh⟩; apply hK1; clear hK1 K1; rw [hh]; clear hh hz
 (repeat (first | refine gO rfl ?_ | (refine gR fun K1 hK1 => ?_; simp only [go_sem, ↓reduceIte, reduceCtorEq, nA, nB, nC, nD, nE, nF, upd_same, hT] <;> and_intros <;> first | (apply hK1; clear hK1 K1) | (intros; first | omega | decide | (simp_all <;> omega)) | skip)))
 simp only [Tryz.results112, go_sem, ↓reduceIte, reduceCtorEq, nA, nB, nC, nD, nE, nF]
 exact ⟨_, _, Weak.refl _, Hp.le.refl _, rfl, by simp only [Nat.zero_add]⟩
open Go.RowKit in
theorem w_strAt (b g cap : Nat) (cur : Array Value) (d r p i : Value) (l : List UInt8) (w : World) (h0 : l ≠ []) (hbk : w.heap[b]? = some (.cells #[d, r, p, .slice (some ⟨g, 0, none⟩) l.length cap, i] 195 (0, 0))) (hg : w.heap[g]? = some (.cells cur 5 (0, 0)))
  (hnc : l.length ≤ cap) (hcm : cap ≤ maxLen) (hcs : cur.size = cap) (htake : cur.toList.take l.length = Lib.byteCells l) :
  Calls Tryz.prog 113 #[.pointer (some ⟨b, 2, none⟩)] w fun e w' => e = .returned (.string ⟨l.toArray⟩) ∧ w' = w.drew.freeze ⟨g, 0, none⟩ l.length := by
 have hl0 : l.length ≠ 0 := by simpa using h0
 have c1 : w.drew.cell? ⟨b, 3, none⟩ = some (.slice (some ⟨g, 0, none⟩) l.length cap) := by
  have : w.drew.heap[b]? = some (.cells #[d, r, p, .slice (some ⟨g, 0, none⟩) l.length cap, i] 195 (0, 0)) := hbk
  rw [Lib.cell_of_heap this]; rfl
 have hSD : (Builtin.unsafeSliceData_ #[169] 231 #[.slice (some ⟨g, 0, none⟩) l.length cap]).run Tryz.prog w.drew = .ok (.pointer (some ⟨g, 0, none⟩)) w.drew :=
  Lib.run_unsafeSliceData_row _ _ _ _ _ _ (by omega)
 have hUS : (Builtin.unsafeString_ #[231, 3] 9 #[.pointer (some ⟨g, 0, none⟩), .int .i64 l.length]).run Tryz.prog w.drew = .ok (.string ⟨l.toArray⟩) (w.drew.freeze ⟨g, 0, none⟩ l.length) := by
  refine Lib.run_unsafeString_row w.drew 231 3 9 5 Tryz.underlying231 (by kernel_rfl) g cur.size (by have hg' : w.drew.heap[g]? = some (.cells cur 5 (0, 0)) := hg; simp [World.shape?, hg']) l h0 (by omega) (by unfold maxLen at hcm; omega) ?_
  intro j x hx
  have hg' : w.drew.heap[g]? = some (.cells cur 5 (0, 0)) := hg
  have h1 : (cur.toList.take l.length)[j]? = some (.int .u8 x.toNat) := by rw [htake]; simp [Lib.byteCells, hx]
  rw [Addr.add_lit, Nat.zero_add, Lib.cell_of_heap hg']
  rw [List.getElem?_take] at h1
  split at h1
  ·simpa using h1
  ·cases h1
 have mixed : Tryz.prog.follows .mixedOrders = true := by kernel_rfl
 go_enter Tryz.func113, Tryz.ntmps113
 go_wp2
 go_region_o
 all_goals (go_wp2; go_ret; exact ⟨rfl, rfl⟩)
theorem g_strAt (b k : Nat) (D R X I : AV) (l : List UInt8) (h : Hp) (hb : h.H b = some (.obj 195 [D, R, X, .arr 1 k l.length, I])) (hT : h.T k = some (.buf 5 (rowB l))) (h0 : l ≠ []) :
  ACalls Tryz.prog 113 [.ptr b 2] h (fun r h' => r = .v (.string ⟨l.toArray⟩) ∧ h' = ⟨upd h.H b none, upd h.T k none⟩) := by
 refine acalls_mk (by kernel_rfl) fun G w vs hs hv ha => ?_
 obtain ⟨p, rfl, hat⟩ := one_ptrAt hv ha
 obtain ⟨p', ob, e', hh, ⟨us, rfl, hrr⟩, hval⟩ := hs.obj b _ hb
 rw [hat] at e'; cases e'
 obtain ⟨d, r, x, y, i, rfl, hd, hrw, hx, hy, hi, od, orr, oy, oi⟩ := five_cells hrr
 have hrl : (rowB l).length = l.length := by simp [rowB]
 have hne : rowB l ≠ [] := fun e => h0 (by rw [e] at hrl; exact List.eq_nil_of_length_eq_zero hrl.symm)
 rcases hs.tok k _ hT with ⟨_, e1⟩ | ⟨tt, cur, htl, htm, htp, hth, hts, htc, htcm, htf, htz, hzx, htr⟩
 ·exact absurd e1 hne
 cases hy with
 | arr _ _ _ q m c ho =>
 obtain ⟨_, ⟨q', c', e2, _, _⟩, hm⟩ := ho
 rw [htl] at hm
 obtain ⟨hxe, _⟩ := hm.2 (by rw [htm, hrl])
 simp only [Value.slice.injEq] at hxe e2
 obtain ⟨rfl, rfl, rfl⟩ := hxe
 have hfl : (rowB l).flatten.length = l.length := by rw [flatten_len hzx, hrl, Nat.mul_one]
 rw [hfl] at htr
 refine (w_strAt p tt.g tt.c cur d r x i l w h0 hh hth (by omega) htcm (by rw [hts, htz, Nat.mul_one]) (repB htr)).mono ?_
 rintro e w' ⟨rfl, rfl⟩
 have hbel : RowKit.Below tt.g w (w.drew.freeze ⟨tt.g, 0, none⟩ l.length) := Lib.below_freeze (RowKit.Below.drew (RowKit.Below.refl tt.g w)) (p := ⟨tt.g, 0, none⟩) (Nat.le_refl _) _
 have hoth : ∀ q, q ≠ tt.g → (w.drew.freeze ⟨tt.g, 0, none⟩ l.length).heap[q]? = w.heap[q]? := fun q hq => by
  unfold World.freeze
  split
  ·rfl
  ·show (w.drew.heap.modify tt.g _)[q]? = _
   rw [Array.getElem?_modify, if_neg (fun e => hq e.symm)]; rfl
 have hle : Hp.le ⟨upd h.H b none, upd h.T k none⟩ h := ⟨fun i => by
  by_cases e : i = b
  ·left; rw [e]; exact upd_same _ _ _
  ·right; exact upd_other _ _ e, fun i => by
  by_cases e : i = k
  ·left; rw [e]; exact upd_same _ _ _
  ·right; exact upd_other _ _ e⟩
 have hnO : ¬ Own G ⟨upd h.H b none, upd h.T k none⟩ tt.g := by
  rintro (⟨i, a, e⟩ | ⟨k2, t2, a, e, eg⟩)
  ·exact hs.tobj k i tt (by rw [hT]; simp) (hle.Hne a) htl e
  ·have := hs.tinj k2 k t2 tt (hle.Tne a) (by rw [hT]; simp) e htl eg
   subst this
   exact a (upd_same _ _ _)
 have hO : Own G h tt.g := .inr ⟨k, tt, by rw [hT]; simp, htl, rfl⟩
 refine ⟨_, rfl, .v (.string ⟨l.toArray⟩), _, G, ⟨rfl, rfl⟩, GLe.refl _, ?_, (hs.less hle).other hoth htf hnO, .v _ rfl⟩
 exact ⟨hbel.os, hbel.tape, hbel.output, hbel.size, fun q hlt hn => ⟨hoth q (fun e => hn (e ▸ hO)), fun o' => hn (hle.own o'), fun _ => rfl⟩⟩
open Go
set_option linter.unusedVariables false
set_option linter.unusedSimpArgs false
theorem g_itoa (n : Nat) (hn : n < 100) (h : Hp) : ACalls Tryz.prog 273 [.v (.int .i64 n)] h (fun r h' => r = .v (.string ⟨(Lib.decDigits n).toArray⟩) ∧ h' = h) := by
 refine acalls_mk (by kernel_rfl) fun G w vs hs hv ha => ?_
 have hr := ha 0 (by simp)
 have hvs : vs = #[vs.getD 0 undef] := by
  have hv1 : vs.size = 1 := hv
  apply Array.ext (by simpa using hv1)
  intro j hj hj'
  simp only [List.size_toArray, List.length_cons, List.length_nil] at hj'
  obtain rfl : j = 0 := by omega
  simp [Array.getD, hv1]
 rw [hvs]
 generalize vs.getD 0 undef = v at hr
 simp only [List.getElem_cons_zero] at hr
 cases hr
 refine (Tryz.strconv_Itoa_small n hn w).mono ?_
 rintro e w' ⟨rfl, rfl⟩
 exact ⟨_, rfl, .v (.string ⟨(Lib.decDigits n).toArray⟩), h, G, ⟨rfl, rfl⟩, GLe.refl _, Fr.refl _ _ _, hs, .v _ rfl⟩
open Nat renaming reduceAdd → nA, reduceSub → nB, reduceMul → nC, reduceLT → nD, reduceLeDiff → nE, reduceEqDiff → nF, reduceMod → nG, reduceDiv → nH, reducePow → nI
abbrev zPDE : List Nat := [0, 1, 2, 3, 4, 6, 7]
abbrev zPDP : List (Nat × List Nat × List Nat) := [(5, [], []), (8, [], [9, 10, 11, 12])]
abbrev zPEE : List Nat := [0, 1, 2, 3, 4, 6, 7, 10, 11, 13, 14]
abbrev zPEP : List (Nat × List Nat × List Nat) := [(5, [], []), (8, [], [9]), (12, [], []), (15, [], [16, 17, 18, 19, 20])]
abbrev zPFE : List Nat := [0, 1, 2, 3, 4, 5, 6, 7, 8, 9, 10, 11, 12, 13, 14, 15, 16]
abbrev zPFP : List (Nat × List Nat × List Nat) := []
abbrev zPGE : List Nat := [0, 1, 2, 3, 4, 5, 6, 7, 8, 9, 10, 11, 12, 13, 14, 15, 16, 17, 18, 19, 20, 21, 22, 23, 24, 25, 26]
abbrev zPGP : List (Nat × List Nat × List Nat) := []
abbrev zPHE : List Nat := [0, 1, 2, 3, 4, 5, 6, 7, 8, 9, 10, 11, 12, 13, 14, 15, 16, 17, 18, 19, 20, 21, 22, 23, 24, 25, 26, 27, 28, 29, 30, 31, 32, 33, 34, 35, 36]
abbrev zPHP : List (Nat × List Nat × List Nat) := []
abbrev zPIE : List Nat := [0, 1, 2, 3, 4, 5, 6, 7, 8, 9, 10, 11, 12]
abbrev zPIP : List (Nat × List Nat × List Nat) := []
abbrev zPJE : List Nat := [0, 1, 2, 8]
abbrev zPJP : List (Nat × List Nat × List Nat) := [(3, [1], [4, 5, 6]), (7, [], [9]), (10, [], [])]
attribute [go_sem] zPDE zPDP zPEE zPEP zPFE zPFP zPGE zPGP zPHE zPHP zPIE zPIP zPJE zPJP
set_option maxRecDepth 100000
set_option maxHeartbeats 8000000
theorem repL_v_inv {G : Gh} {l us : List Value} (h : RepL G (l.map AV.v) us) : us = l := by
 obtain ⟨h1, h2⟩ := h
 apply List.ext_getElem (by simpa using h1)
 intro j a b
 have h3 := (h2 j (by simpa using b) a).1
 simp only [List.getElem_map] at h3
 generalize us[j] = y at h3
 cases h3; rfl
theorem c_search (h : Hp) : ACalls Tryz.prog 268 [.row 6 [fC] none, .v (.string sN), .fn 269 []] h (fun r h' => r = .tup [.v (.int .i64 0), .v (.bool true)] ∧ h' = h) := by
 refine acalls_mk (by kernel_rfl) fun G w vs hs hv ha => ?_
 have hv3 : vs.size = 3 := hv
 have r0 := ha 0 (by simp)
 have r1 := ha 1 (by simp)
 have r2 := ha 2 (by simp)
 have hvs : vs = #[vs.getD 0 undef, vs.getD 1 undef, vs.getD 2 undef] := by
  apply Array.ext (by simpa using hv3)
  intro j hj hj'
  simp only [List.size_toArray, List.length_cons, List.length_nil] at hj'
  have : j = 0 ∨ j = 1 ∨ j = 2 := by omega
  rcases this with rfl | rfl | rfl <;> simp [Array.getD, hv3]
 rw [hvs]
 generalize vs.getD 0 undef = v0 at *
 generalize vs.getD 1 undef = v1 at *
 generalize vs.getD 2 undef = v2 at *
 simp only [List.getElem_cons_zero, List.getElem_cons_succ] at r0 r1 r2
 cases r1
 cases r2 with | fn _ _ cvs u hl hu hr =>
 obtain rfl : cvs = #[] := Array.eq_empty_of_size_eq_zero hl
 rcases Rep.row_inv r0 with ⟨a, _, e⟩ | ⟨g, o, c, us, rfl, hc, hz, hru, hu2⟩
 ·cases e
 ·have hus : us = fV := repL_v_inv (by simpa [fC] using hru)
  subst hus
  have hcell : ∀ j (hj : j < fV.length), w.cell? ⟨g, o + j, none⟩ = some fV[j] := fun j hj => hs.cell _ _ _ (hu2 j _ (List.getElem?_eq_getElem hj))
  refine (w_search g o c w (World.block_lt_of_cell? w _ (hcell 0 (by decide))) hcell).mono ?_
  rintro e w' ⟨rfl, hb⟩
  have hb' : ∀ b, b < w.heap.size → w'.heap[b]? = w.heap[b]? := fun b hb2 => hb.block b hb2
  refine ⟨_, rfl, _, h, G, ⟨rfl, rfl⟩, GLe.refl _, Fr.below (Fr.refl _ _ _) hb' hb.os hb.tape hb.output hb.size, hs.below hb', ?_⟩
  refine .tup _ _ (fun j => [Value.int .i64 0, Value.bool true].getD j undef) rfl (fun j hj => ?_) (fun j hj => ?_)
  ·have : j = 0 ∨ j = 1 := by simp at hj; omega
   rcases this with rfl | rfl <;> rfl
  ·have : j = 0 ∨ j = 1 := by simp at hj; omega
   rcases this with rfl | rfl <;> exact .v _ rfl
theorem c_valid0 (h : Hp) : ACalls Tryz.prog 237 [.v (.string ⟨#[]⟩)] h (fun r h' => r = .v (.bool true) ∧ h' = h) := by
 have z : ((⟨#[]⟩ : ByteArray).size : Int) = 0 := rfl
 refine gE Tryz.func237 rfl (by kernel_rfl) 168 rfl fun c => ?_
 (repeat (first | refine gO rfl ?_ | ((first | refine gM zM16 ?_ | (with_reducible refine wM ?_ ?_) | ((with_reducible refine xS ?_); refine uD 7 zM16 zPDE zPDP 169 rfl (by kernel_rfl) ?_) | ((with_reducible refine xS ?_); refine uD 9 zM16 zPEE zPEP 169 rfl (by kernel_rfl) ?_) | ((with_reducible refine xS ?_); refine uD 17 zM16 zPFE zPFP 169 rfl (by kernel_rfl) ?_) | ((with_reducible refine xS ?_); refine uD 21 zM16 zPGE zPGP 169 rfl (by kernel_rfl) ?_) | ((with_reducible refine xS ?_); refine uD 25 zM16 zPHE zPHP 169 rfl (by kernel_rfl) ?_)) <;> ((try with_reducible intro K1 hK1); simp only [go_sem, ↓reduceIte, reduceCtorEq, nA, nB, nC, nD, nE, nF, Int.reduceBEq, Int.reduceTMod, Int.reduceTDiv, Int.reduceMul, Int.reduceBNe, Int.reduceLT, Int.reduceLE, Int.reduceAdd, Int.reduceSub, Int.reduceNeg, decide_true, decide_false, Bool.true_and, Bool.false_and, Bool.and_true, Bool.and_false, Bool.or_false, Bool.or_true, Bool.true_or, Bool.false_or, Bool.not_true, Bool.not_false, true_implies, false_implies, true_and, and_true, Int.reduceToNat, z] <;> and_intros <;> first | (apply hK1; clear hK1 K1) | (intros; first | omega | decide) | skip)) | (refine awp_cond (t := _) rfl (fun hq => ?_) (fun hq => ?_) <;> first | (exact absurd hq (by decide)) | (cases hq; done) | (clear hq)) | (refine awp_un 8 ?_) | (with_reducible exact rfl) | (with_reducible exact trivial) | ((with_reducible show uside _); first | exact True.intro | exact rfl) | ((with_reducible show opS _ _); exact True.intro) | (refine ⟨AV.v (.bool true), rfl, hK1 _ ?_⟩; clear hK1 K1)))
 simp only [Tryz.results237, go_sem, ↓reduceIte, reduceCtorEq, nA, nB, nC, nD, nE, nF]
 exact ⟨_, _, Weak.refl _, Hp.le.refl _, rfl, rfl⟩
theorem fC_eq : fC = [.v (.string sN), .v (.int .i64 2), .v (.string ⟨#[]⟩), .v (.int .i64 5), .v (.bool false), .v (.slice none 0 0)] := rfl
theorem e00 : ((⟨#[]⟩ : ByteArray) == ⟨#[]⟩) = true := by decide
theorem c_idle (h : Hp) : ACalls Tryz.prog 236 [.agg fC] h (fun r h' => r = .v (.bool true) ∧ h' = h) := by
 rw [fC_eq]
 refine gE Tryz.func236 rfl (by kernel_rfl) 41 rfl fun c => ?_
 (repeat (first | refine gO rfl ?_ | (refine gR fun K1 hK1 => ?_; simp only [go_sem, ↓reduceIte, reduceCtorEq, nA, nB, nC, nD, nE, nF, Int.reduceBEq, Int.reduceTMod, Int.reduceTDiv, Int.reduceMul, Int.reduceBNe, Int.reduceLT, Int.reduceLE, Int.reduceAdd, Int.reduceSub, Int.reduceNeg, decide_true, decide_false, Bool.true_and, Bool.false_and, Bool.and_true, Bool.and_false, Bool.or_false, Bool.or_true, Bool.true_or, Bool.false_or, Bool.not_true, Bool.not_false, true_implies, false_implies, true_and, and_true, Int.reduceToNat, e00] <;> and_intros <;> first | (apply hK1; clear hK1 K1) | (intros; first | omega | decide) | skip) | (refine awp_cond (t := _) rfl (fun hq => ?_) (fun hq => ?_) <;> first | (exact absurd hq (by decide)) | (cases hq; done) | (clear hq)) | (refine awp_un 8 ?_) | (with_reducible exact rfl) | (with_reducible exact trivial) | ((with_reducible show uside _); first | exact True.intro | exact rfl) | ((with_reducible show opS _ _); exact True.intro) | (refine ⟨AV.v (.bool true), rfl, hK1 _ ?_⟩; clear hK1 K1)))
 simp only [Tryz.results236, go_sem, ↓reduceIte, reduceCtorEq, nA, nB, nC, nD, nE, nF]
 exact ⟨_, _, Weak.refl _, Hp.le.refl _, rfl, rfl⟩
theorem c_fieldFault (h : Hp) : ACalls Tryz.prog 203 [.agg fC, .v (.int .i64 0)] h (fun r h' => r = .v (.int .i64 0) ∧ h' = h) := by
 have h1 := fun h => a_outside 2 1 4 h
 have h2 := fun h => c_idle h
 have h3 := fun h => c_valid0 h
 have h4 := fun h => a_outside 5 (-1000000000) 1000000000 h
 have z : ((⟨#[]⟩ : ByteArray).size : Int) = 0 := rfl
 have z2 : ((#[] : Array UInt8).size : Int) = 0 := rfl
 rw [fC_eq] at *
 refine gE Tryz.func203 rfl (by kernel_rfl) 59 rfl fun c => ?_
 (repeat (first | refine gO rfl ?_ | (refine gR fun K1 hK1 => ?_; simp only [go_sem, ↓reduceIte, reduceCtorEq, nA, nB, nC, nD, nE, nF, Int.reduceBEq, Int.reduceTMod, Int.reduceTDiv, Int.reduceMul, Int.reduceBNe, Int.reduceLT, Int.reduceLE, Int.reduceAdd, Int.reduceSub, Int.reduceNeg, decide_true, decide_false, Bool.true_and, Bool.false_and, Bool.and_true, Bool.and_false, Bool.or_false, Bool.or_true, Bool.true_or, Bool.false_or, Bool.not_true, Bool.not_false, true_implies, false_implies, true_and, and_true, Int.reduceToNat, z, z2] <;> and_intros <;> first | (apply hK1; clear hK1 K1) | (intros; first | omega | decide) | skip) | (refine awp_cond (t := _) rfl (fun hq => ?_) (fun hq => ?_) <;> first | (exact absurd hq (by decide)) | (cases hq; done) | (clear hq)) | (refine awp_un 8 ?_) | (with_reducible exact rfl) | (with_reducible exact trivial) | ((with_reducible show uside _); first | exact True.intro | exact rfl) | ((with_reducible show opS _ _); exact True.intro) | (refine ⟨AV.v (.bool true), rfl, hK1 _ ?_⟩; clear hK1 K1) | (refine (h1 _).mono ?_; rintro _ hz ⟨rfl, hh⟩; (first | (refine hK1 _ ?_) | (refine ⟨rfl, hK1 _ ?_⟩)); clear hK1 K1; rw [hh]; clear hh hz) | (refine (h2 _).mono ?_; rintro _ hz ⟨rfl, hh⟩; (first | (refine hK1 _ ?_) | (refine ⟨rfl, hK1 _ ?_⟩)); clear hK1 K1; rw [hh]; clear hh hz) | (refine (h3 _).mono ?_; rintro _ hz ⟨rfl, hh⟩; (first | (refine hK1 _ ?_) | (refine ⟨rfl, hK1 _ ?_⟩)); clear hK1 K1; rw [hh]; clear hh hz) | (refine (h4 _).mono ?_; rintro _ hz ⟨rfl, hh⟩; (first | (refine hK1 _ ?_) | (refine ⟨rfl, hK1 _ ?_⟩)); clear hK1 K1; rw [hh]; clear hh hz)))
 simp only [Tryz.results203, go_sem, ↓reduceIte, reduceCtorEq, nA, nB, nC, nD, nE, nF]
 exact ⟨_, _, Weak.refl _, Hp.le.refl _, rfl, rfl⟩
theorem c_dataFault (h : Hp) : ACalls Tryz.prog 162 [.row 6 [fC] none, .v (.int .i64 0)] h (fun r h' => r = .v (.int .i64 0) ∧ h' = h) := by
 have h1 := fun h => c_isName h
 have h2 := fun h => c_fieldFault h
 rw [fC_eq] at *
 refine gE Tryz.func162 rfl (by kernel_rfl) 40 rfl fun c => ?_
 (repeat (first | refine gO rfl ?_ | ((first | refine gM zM16 ?_ | (with_reducible refine wM ?_ ?_) | ((with_reducible refine xS ?_); refine uD 8 zM16 zPIE zPIP 42 rfl (by kernel_rfl) ?_)) <;> ((try with_reducible intro K1 hK1); simp only [go_sem, ↓reduceIte, reduceCtorEq, nA, nB, nC, nD, nE, nF, Int.reduceBEq, Int.reduceTMod, Int.reduceTDiv, Int.reduceMul, Int.reduceBNe, Int.reduceLT, Int.reduceLE, Int.reduceAdd, Int.reduceSub, Int.reduceNeg, decide_true, decide_false, Bool.true_and, Bool.false_and, Bool.and_true, Bool.and_false, Bool.or_false, Bool.or_true, Bool.true_or, Bool.false_or, Bool.not_true, Bool.not_false, true_implies, false_implies, true_and, and_true, Int.reduceToNat] <;> and_intros <;> first | (apply hK1; clear hK1 K1) | (intros; first | omega | decide) | skip)) | (refine awp_cond (t := _) rfl (fun hq => ?_) (fun hq => ?_) <;> first | (exact absurd hq (by decide)) | (cases hq; done) | (clear hq)) | (refine awp_un 8 ?_) | (with_reducible exact rfl) | (with_reducible exact trivial) | ((with_reducible show uside _); first | exact True.intro | exact rfl) | ((with_reducible show opS _ _); exact True.intro) | (refine ⟨AV.v (.bool true), rfl, hK1 _ ?_⟩; clear hK1 K1) | (refine (h1 _).mono ?_; rintro _ hz ⟨rfl, hh⟩; (first | (refine hK1 _ ?_) | (refine ⟨rfl, hK1 _ ?_⟩)); clear hK1 K1; rw [hh]; clear hh hz) | (refine (h2 _).mono ?_; rintro _ hz ⟨rfl, hh⟩; (first | (refine hK1 _ ?_) | (refine ⟨rfl, hK1 _ ?_⟩)); clear hK1 K1; rw [hh]; clear hh hz)))
 simp only [Tryz.results162, go_sem, ↓reduceIte, reduceCtorEq, nA, nB, nC, nD, nE, nF]
 exact ⟨_, _, Weak.refl _, Hp.le.refl _, rfl, rfl⟩
theorem c_checkData (h : Hp) : ACalls Tryz.prog 121 [.row 6 [fC] none] h (fun r h' => r = .v (.int .i64 0) ∧ h' = h) := by
 have h2 := fun h => c_dataFault h
 rw [fC_eq] at *
 refine gE Tryz.func121 rfl (by kernel_rfl) 4 rfl fun c => ?_
 (repeat (first | refine gO rfl ?_ | (refine gR fun K1 hK1 => ?_; simp only [go_sem, ↓reduceIte, reduceCtorEq, nA, nB, nC, nD, nE, nF, Int.reduceBEq, Int.reduceTMod, Int.reduceTDiv, Int.reduceMul, Int.reduceBNe, Int.reduceLT, Int.reduceLE, Int.reduceAdd, Int.reduceSub, Int.reduceNeg, decide_true, decide_false, Bool.true_and, Bool.false_and, Bool.and_true, Bool.and_false, Bool.or_false, Bool.or_true, Bool.true_or, Bool.false_or, Bool.not_true, Bool.not_false, true_implies, false_implies, true_and, and_true, Int.reduceToNat] <;> and_intros <;> first | (apply hK1; clear hK1 K1) | (intros; first | omega | decide) | skip) | (refine awp_cond (t := _) rfl (fun hq => ?_) (fun hq => ?_) <;> first | (exact absurd hq (by decide)) | (cases hq; done) | (clear hq)) | (refine awp_un 8 ?_) | (with_reducible exact rfl) | (with_reducible exact trivial) | ((with_reducible show uside _); first | exact True.intro | exact rfl) | ((with_reducible show opS _ _); exact True.intro) | (refine ⟨AV.v (.bool true), rfl, hK1 _ ?_⟩; clear hK1 K1) | (refine (h2 _).mono ?_; rintro _ hz ⟨rfl, hh⟩; (first | (refine hK1 _ ?_) | (refine ⟨rfl, hK1 _ ?_⟩)); clear hK1 K1; rw [hh]; clear hh hz)))
 simp only [Tryz.results121, go_sem, ↓reduceIte, reduceCtorEq, nA, nB, nC, nD, nE, nF]
 exact ⟨_, _, Weak.refl _, Hp.le.refl _, rfl, rfl⟩
theorem c_fieldAt (h : Hp) : ACalls Tryz.prog 240 [.row 6 [fC] none, .v (.string sN)] h (fun r h' => r = .tup [.agg fC, .v (.bool true)] ∧ h' = h) := by
 have h2 := fun h => c_search h
 rw [fC_eq] at *
 refine gE Tryz.func240 rfl (by kernel_rfl) 19 rfl fun c => ?_
 (repeat (first | refine gO rfl ?_ | (refine gM zM12 fun K1 hK1 => ?_; simp only [go_sem, ↓reduceIte, reduceCtorEq, nA, nB, nC, nD, nE, nF, Int.reduceBEq, Int.reduceTMod, Int.reduceTDiv, Int.reduceMul, Int.reduceBNe, Int.reduceLT, Int.reduceLE, Int.reduceAdd, Int.reduceSub, Int.reduceNeg, decide_true, decide_false, Bool.true_and, Bool.false_and, Bool.and_true, Bool.and_false, Bool.or_false, Bool.or_true, Bool.true_or, Bool.false_or, Bool.not_true, Bool.not_false, true_implies, false_implies, true_and, and_true, Int.reduceToNat] <;> and_intros <;> first | (apply hK1; clear hK1 K1) | (intros; first | omega | decide) | skip) | (refine awp_cond (t := _) rfl (fun hq => ?_) (fun hq => ?_) <;> first | (exact absurd hq (by decide)) | (cases hq; done) | (clear hq)) | (refine awp_un 8 ?_) | (with_reducible exact rfl) | (with_reducible exact trivial) | ((with_reducible show uside _); first | exact True.intro | exact rfl) | ((with_reducible show opS _ _); exact True.intro) | (refine ⟨AV.v (.bool true), rfl, hK1 _ ?_⟩; clear hK1 K1) | (refine (h2 _).mono ?_; rintro _ hz ⟨rfl, hh⟩; (first | (refine hK1 _ ?_) | (refine ⟨rfl, hK1 _ ?_⟩)); clear hK1 K1; rw [hh]; clear hh hz)))
 intro p hp
 refine hK1 _ ?_; clear hK1 K1
 (repeat (first | refine gO rfl ?_ | (refine gM zM12 fun K1 hK1 => ?_; simp only [go_sem, ↓reduceIte, reduceCtorEq, nA, nB, nC, nD, nE, nF, Int.reduceBEq, Int.reduceTMod, Int.reduceTDiv, Int.reduceMul, Int.reduceBNe, Int.reduceLT, Int.reduceLE, Int.reduceAdd, Int.reduceSub, Int.reduceNeg, decide_true, decide_false, Bool.true_and, Bool.false_and, Bool.and_true, Bool.and_false, Bool.or_false, Bool.or_true, Bool.true_or, Bool.false_or, Bool.not_true, Bool.not_false, true_implies, false_implies, true_and, and_true, Int.reduceToNat, upd_same] <;> and_intros <;> first | (apply hK1; clear hK1 K1) | (intros; first | omega | decide) | skip) | (refine awp_cond (t := _) rfl (fun hq => ?_) (fun hq => ?_) <;> first | (exact absurd hq (by decide)) | (cases hq; done) | (clear hq)) | (refine awp_un 8 ?_) | (with_reducible exact rfl) | (with_reducible exact trivial) | ((with_reducible show uside _); first | exact True.intro | exact rfl) | ((with_reducible show opS _ _); exact True.intro) | (refine ⟨AV.v (.bool true), rfl, hK1 _ ?_⟩; clear hK1 K1) | (refine (h2 _).mono ?_; rintro _ hz ⟨rfl, hh⟩; (first | (refine hK1 _ ?_) | (refine ⟨rfl, hK1 _ ?_⟩)); clear hK1 K1; rw [hh]; clear hh hz)))
 simp only [Tryz.results240, go_sem, ↓reduceIte, reduceCtorEq, nA, nB, nC, nD, nE, nF]
 exact ⟨_, h, Weak.refl _, hle_obj hp, rfl, rfl⟩
theorem c_numberText (h : Hp) : ACalls Tryz.prog 246 [.v (.int .i64 5)] h (fun r h' => r = .v (.string ⟨#[53]⟩) ∧ h' = h) := by
 have h2 := fun h => g_itoa 5 (by decide) h
 rw [show (Lib.decDigits 5).toArray = #[53] by unfold Lib.decDigits; rfl] at h2
 refine gE Tryz.func246 rfl (by kernel_rfl) 4 rfl fun c => ?_
 (repeat (first | refine gO rfl ?_ | (refine gR fun K1 hK1 => ?_; simp only [go_sem, ↓reduceIte, reduceCtorEq, nA, nB, nC, nD, nE, nF, Int.reduceBEq, Int.reduceTMod, Int.reduceTDiv, Int.reduceMul, Int.reduceBNe, Int.reduceLT, Int.reduceLE, Int.reduceAdd, Int.reduceSub, Int.reduceNeg, decide_true, decide_false, Bool.true_and, Bool.false_and, Bool.and_true, Bool.and_false, Bool.or_false, Bool.or_true, Bool.true_or, Bool.false_or, Bool.not_true, Bool.not_false, true_implies, false_implies, true_and, and_true, Int.reduceToNat] <;> and_intros <;> first | (apply hK1; clear hK1 K1) | (intros; first | omega | decide) | skip) | (refine awp_cond (t := _) rfl (fun hq => ?_) (fun hq => ?_) <;> first | (exact absurd hq (by decide)) | (cases hq; done) | (clear hq)) | (refine awp_un 8 ?_) | (with_reducible exact rfl) | (with_reducible exact trivial) | ((with_reducible show uside _); first | exact True.intro | exact rfl) | ((with_reducible show opS _ _); exact True.intro) | (refine ⟨AV.v (.bool true), rfl, hK1 _ ?_⟩; clear hK1 K1) | (refine (h2 _).mono ?_; rintro _ hz ⟨rfl, hh⟩; (first | (refine hK1 _ ?_) | (refine ⟨rfl, hK1 _ ?_⟩)); clear hK1 K1; rw [hh]; clear hh hz)))
 simp only [Tryz.results246, go_sem, ↓reduceIte, reduceCtorEq, nA, nB, nC, nD, nE, nF]
 exact ⟨_, _, Weak.refl _, Hp.le.refl _, rfl, rfl⟩
theorem c_said (h : Hp) : ACalls Tryz.prog 207 [.agg fC] h (fun r h' => r = .v (.string ⟨#[53]⟩) ∧ h' = h) := by
 have h2 := fun h => c_numberText h
 rw [fC_eq] at *
 refine gE Tryz.func207 rfl (by kernel_rfl) 16 rfl fun c => ?_
 (repeat (first | refine gO rfl ?_ | (refine gR fun K1 hK1 => ?_; simp only [go_sem, ↓reduceIte, reduceCtorEq, nA, nB, nC, nD, nE, nF, Int.reduceBEq, Int.reduceTMod, Int.reduceTDiv, Int.reduceMul, Int.reduceBNe, Int.reduceLT, Int.reduceLE, Int.reduceAdd, Int.reduceSub, Int.reduceNeg, decide_true, decide_false, Bool.true_and, Bool.false_and, Bool.and_true, Bool.and_false, Bool.or_false, Bool.or_true, Bool.true_or, Bool.false_or, Bool.not_true, Bool.not_false, true_implies, false_implies, true_and, and_true, Int.reduceToNat] <;> and_intros <;> first | (apply hK1; clear hK1 K1) | (intros; first | omega | decide) | skip) | (refine awp_cond (t := _) rfl (fun hq => ?_) (fun hq => ?_) <;> first | (exact absurd hq (by decide)) | (cases hq; done) | (clear hq)) | (refine awp_un 8 ?_) | (with_reducible exact rfl) | (with_reducible exact trivial) | ((with_reducible show uside _); first | exact True.intro | exact rfl) | ((with_reducible show opS _ _); exact True.intro) | (refine ⟨AV.v (.bool true), rfl, hK1 _ ?_⟩; clear hK1 K1) | (refine (h2 _).mono ?_; rintro _ hz ⟨rfl, hh⟩; (first | (refine hK1 _ ?_) | (refine ⟨rfl, hK1 _ ?_⟩)); clear hK1 K1; rw [hh]; clear hh hz)))
 simp only [Tryz.results207, go_sem, ↓reduceIte, reduceCtorEq, nA, nB, nC, nD, nE, nF]
 exact ⟨_, _, Weak.refl _, Hp.le.refl _, rfl, rfl⟩
theorem c_filtered (s : ByteArray) (h : Hp) : ACalls Tryz.prog 206 [.v (.string s), .v (.slice none 0 0)] h (fun r h' => r = .v (.string s) ∧ h' = h) := by
 refine gE Tryz.func206 rfl (by kernel_rfl) 58 rfl fun c => ?_
 (repeat (first | refine gO rfl ?_ | ((first | refine gM zM16 ?_ | (with_reducible refine wM ?_ ?_) | ((with_reducible refine xR ?_); refine uE 5 zM16 zPJE zPJP 60 rfl (by kernel_rfl) ?_)) <;> ((try with_reducible intro K1 hK1); simp only [go_sem, ↓reduceIte, reduceCtorEq, nA, nB, nC, nD, nE, nF, Int.reduceBEq, Int.reduceTMod, Int.reduceTDiv, Int.reduceMul, Int.reduceBNe, Int.reduceLT, Int.reduceLE, Int.reduceAdd, Int.reduceSub, Int.reduceNeg, decide_true, decide_false, Bool.true_and, Bool.false_and, Bool.and_true, Bool.and_false, Bool.or_false, Bool.or_true, Bool.true_or, Bool.false_or, Bool.not_true, Bool.not_false, true_implies, false_implies, true_and, and_true, Int.reduceToNat] <;> and_intros <;> first | (apply hK1; clear hK1 K1) | (intros; first | omega | decide) | skip)) | (refine awp_cond (t := _) rfl (fun hq => ?_) (fun hq => ?_) <;> first | (exact absurd hq (by decide)) | (cases hq; done) | (clear hq)) | (refine awp_un 8 ?_) | (with_reducible exact rfl) | (with_reducible exact trivial) | ((with_reducible show uside _); first | exact True.intro | exact rfl) | ((with_reducible show opS _ _); exact True.intro) | (refine ⟨AV.v (.bool true), rfl, hK1 _ ?_⟩; clear hK1 K1)))
 simp only [Tryz.results206, go_sem, ↓reduceIte, reduceCtorEq, nA, nB, nC, nD, nE, nF]
 exact ⟨_, _, Weak.refl _, Hp.le.refl _, rfl, rfl⟩
abbrev zPKE : List Nat := [0, 1, 3, 4]
abbrev zPKP : List (Nat × List Nat × List Nat) := [(2, [4], []), (5, [], []), (6, [], [7])]
abbrev zPLE : List Nat := [0, 1, 2, 3, 4, 5, 6, 7, 8, 9]
abbrev zPLP : List (Nat × List Nat × List Nat) := [(10, [], [11, 12]), (13, [], [])]
abbrev zPME : List Nat := [0, 1, 2, 3, 4, 5, 6, 7, 8, 9, 10, 11, 12, 13]
abbrev zPMP : List (Nat × List Nat × List Nat) := [(14, [], [])]
attribute [go_sem] zPKE zPKP zPLE zPLP zPME zPMP
def s5 : ByteArray := ⟨#[53]⟩
def bdO (k : Nat) : AO := .obj 195 [.row 6 [fC] none, .v (.slice none 0 0), .v (.pointer none), .arr 1 k 0, .v (.int .i64 0)]
def bdP (b k : Nat) : AO := .obj 195 [.row 6 [fC] none, .v (.slice none 0 0), .ptr b 2, .arr 1 k 1, .v (.int .i64 0)]
def h5 (h : Hp) (b k : Nat) : Hp := ⟨upd h.H b (some (bdP b k)), upd h.T k (some (.buf 5 (rowB [53])))⟩
theorem c_field (b k : Nat) (h : Hp) (hb : h.H b = some (bdO k)) : ACalls Tryz.prog 205 [.ptr b 0, .agg [.v (.string ⟨#[]⟩), .v (.string sN)]] h (fun r h' => r = .tup [.agg fC, .v (.int .i64 0)] ∧ h' = h) := by
 have h1 := fun h => c_fieldAt h
 have e1 : (!((⟨#[]⟩ : ByteArray) == ⟨#[]⟩)) = false := by decide
 unfold bdO at hb
 rw [fC_eq] at *
 refine gE Tryz.func205 rfl (by kernel_rfl) 41 rfl fun c => ?_
 (repeat (first | refine gO rfl ?_ | (refine gM zM17 fun K1 hK1 => ?_; simp only [go_sem, ↓reduceIte, reduceCtorEq, nA, nB, nC, nD, nE, nF, Int.reduceBEq, Int.reduceTMod, Int.reduceTDiv, Int.reduceMul, Int.reduceBNe, Int.reduceLT, Int.reduceLE, Int.reduceAdd, Int.reduceSub, Int.reduceNeg, decide_true, decide_false, Bool.true_and, Bool.false_and, Bool.and_true, Bool.and_false, Bool.or_false, Bool.or_true, Bool.true_or, Bool.false_or, Bool.not_true, Bool.not_false, true_implies, false_implies, true_and, and_true, Int.reduceToNat] <;> and_intros <;> first | (apply hK1; clear hK1 K1) | (intros; first | omega | decide) | skip) | (refine awp_cond (t := _) rfl (fun hq => ?_) (fun hq => ?_) <;> first | (exact absurd hq (by decide)) | (cases hq; done) | (clear hq)) | (refine awp_un 8 ?_) | (with_reducible exact rfl) | (with_reducible exact trivial) | ((with_reducible show uside _); first | exact True.intro | exact rfl) | ((with_reducible show opS _ _); exact True.intro) | (refine ⟨AV.v (.bool true), rfl, hK1 _ ?_⟩; clear hK1 K1)))
 intro p hp
 refine hK1 _ ?_; clear hK1 K1
 have hpb : b ≠ p := by rintro rfl; rw [hp] at hb; cases hb
 have hb2 : ∀ o, upd h.H p o b = h.H b := fun o => upd_other _ _ hpb
 rw [hb] at hb2
 (repeat (first | refine gO rfl ?_ | (refine gM zM17 fun K1 hK1 => ?_; simp only [go_sem, ↓reduceIte, reduceCtorEq, nA, nB, nC, nD, nE, nF, Int.reduceBEq, Int.reduceTMod, Int.reduceTDiv, Int.reduceMul, Int.reduceBNe, Int.reduceLT, Int.reduceLE, Int.reduceAdd, Int.reduceSub, Int.reduceNeg, decide_true, decide_false, Bool.true_and, Bool.false_and, Bool.and_true, Bool.and_false, Bool.or_false, Bool.or_true, Bool.true_or, Bool.false_or, Bool.not_true, Bool.not_false, true_implies, false_implies, true_and, and_true, Int.reduceToNat, hb2, e1, e00, upd_same] <;> and_intros <;> first | (apply hK1; clear hK1 K1) | (intros; first | omega | decide) | skip) | (refine awp_cond (t := _) rfl (fun hq => ?_) (fun hq => ?_) <;> first | (exact absurd hq (by decide)) | (cases hq; done) | (clear hq)) | (refine awp_un 8 ?_) | (with_reducible exact rfl) | (with_reducible exact trivial) | ((with_reducible show uside _); first | exact True.intro | exact rfl) | ((with_reducible show opS _ _); exact True.intro) | (refine ⟨AV.v (.bool true), rfl, hK1 _ ?_⟩; clear hK1 K1) | (refine (h1 _).mono ?_; rintro _ hz ⟨rfl, hh⟩; (first | (refine hK1 _ ?_) | (refine ⟨rfl, hK1 _ ?_⟩)); clear hK1 K1; rw [hh]; clear hh hz)))
 simp only [Tryz.results205, go_sem, ↓reduceIte, reduceCtorEq, nA, nB, nC, nD, nE, nF]
 exact ⟨_, h, Weak.refl _, hle_obj hp, rfl, rfl⟩
theorem c_put (b k : Nat) (h : Hp) (hb : h.H b = some (bdO k)) (hT : h.T k = some (.buf 5 (rowB []))) : ACalls Tryz.prog 204 [.ptr b 0, .v (.string s5)] h (fun r h' => r = .v (.int .i64 0) ∧ h' = h5 h b k) := by
 have h1 : ACalls Tryz.prog 238 [.ptr b 2] h (fun r h' => r = .v (.int .i64 0) ∧ h' = h) := by
  unfold bdO at hb
  refine gE Tryz.func238 rfl (by kernel_rfl) 7 rfl fun c => ?_
  (repeat (first | refine gO rfl ?_ | (refine gR fun K1 hK1 => ?_; simp only [go_sem, ↓reduceIte, reduceCtorEq, nA, nB, nC, nD, nE, nF, Int.reduceBEq, Int.reduceTMod, Int.reduceTDiv, Int.reduceMul, Int.reduceBNe, Int.reduceLT, Int.reduceLE, Int.reduceAdd, Int.reduceSub, Int.reduceNeg, decide_true, decide_false, Bool.true_and, Bool.false_and, Bool.and_true, Bool.and_false, Bool.or_false, Bool.or_true, Bool.true_or, Bool.false_or, Bool.not_true, Bool.not_false, true_implies, false_implies, true_and, and_true, Int.reduceToNat, hb] <;> and_intros <;> first | (apply hK1; clear hK1 K1) | (intros; first | omega | decide) | skip) | (refine awp_cond (t := _) rfl (fun hq => ?_) (fun hq => ?_) <;> first | (exact absurd hq (by decide)) | (cases hq; done) | (clear hq)) | (refine awp_un 8 ?_) | (with_reducible exact rfl) | (with_reducible exact trivial) | ((with_reducible show uside _); first | exact True.intro | exact rfl) | ((with_reducible show opS _ _); exact True.intro) | (refine ⟨AV.v (.bool true), rfl, hK1 _ ?_⟩; clear hK1 K1)))
  simp only [Tryz.results238, go_sem, ↓reduceIte, reduceCtorEq, nA, nB, nC, nD, nE, nF]
  exact ⟨_, _, Weak.refl _, Hp.le.refl _, rfl, rfl⟩
 have h2 := g_writeAt b k _ _ _ s5 h hb hT (by decide)
 have z : (s5.size : Int) = 1 := rfl
 refine gE Tryz.func204 rfl (by kernel_rfl) 16 rfl fun c => ?_
 (repeat (first | refine gO rfl ?_ | (refine gR fun K1 hK1 => ?_; simp only [go_sem, ↓reduceIte, reduceCtorEq, nA, nB, nC, nD, nE, nF, Int.reduceBEq, Int.reduceTMod, Int.reduceTDiv, Int.reduceMul, Int.reduceBNe, Int.reduceLT, Int.reduceLE, Int.reduceAdd, Int.reduceSub, Int.reduceNeg, decide_true, decide_false, Bool.true_and, Bool.false_and, Bool.and_true, Bool.and_false, Bool.or_false, Bool.or_true, Bool.true_or, Bool.false_or, Bool.not_true, Bool.not_false, true_implies, false_implies, true_and, and_true, Int.reduceToNat, z] <;> and_intros <;> first | (apply hK1; clear hK1 K1) | (intros; first | omega | decide) | skip) | (refine awp_cond (t := _) rfl (fun hq => ?_) (fun hq => ?_) <;> first | (exact absurd hq (by decide)) | (cases hq; done) | (clear hq)) | (refine awp_un 8 ?_) | (with_reducible exact rfl) | (with_reducible exact trivial) | ((with_reducible show uside _); first | exact True.intro | exact rfl) | ((with_reducible show opS _ _); exact True.intro) | (refine ⟨AV.v (.bool true), rfl, hK1 _ ?_⟩; clear hK1 K1) | (refine (h1).mono ?_; rintro _ hz ⟨rfl, hh⟩; (first | (refine hK1 _ ?_) | (refine ⟨rfl, hK1 _ ?_⟩)); clear hK1 K1; rw [hh]; clear hh hz) | (refine (h2).mono ?_; rintro _ hz ⟨rfl, hh⟩; (first | (refine hK1 _ ?_) | (refine ⟨rfl, hK1 _ ?_⟩)); clear hK1 K1; rw [hh]; clear hh hz)))
 simp only [Tryz.results204, go_sem, ↓reduceIte, reduceCtorEq, nA, nB, nC, nD, nE, nF]
 exact ⟨_, _, Weak.refl _, Hp.le.refl _, rfl, rfl⟩
theorem c_node (b k : Nat) (h : Hp) (hb : h.H b = some (bdO k)) (hT : h.T k = some (.buf 5 (rowB []))) : ACalls Tryz.prog 163 [.ptr b 0, .agg ndN] h (fun r h' => r = .v (.int .i64 0) ∧ h' = h5 h b k) := by
 have h1 := c_field b k h hb
 have h2 := fun h => c_said h
 have h3 := fun h => c_filtered s5 h
 have h4 := c_put b k h hb hT
 rw [fC_eq] at h1 h2
 unfold s5 at h3 h4
 unfold ndN ndCp vS vI vB nl s0
 refine gE Tryz.func163 rfl (by kernel_rfl) 130 rfl fun c => ?_
 (repeat (first | refine gO rfl ?_ | ((first | refine gM zM18 ?_ | (with_reducible refine wM ?_ ?_) | ((with_reducible refine xS ?_); refine uD 10 zM18 zPKE zPKP 132 rfl (by kernel_rfl) ?_) | ((with_reducible refine xS ?_); refine uD 29 zM18 zPLE zPLP 132 rfl (by kernel_rfl) ?_) | ((with_reducible refine xR ?_); refine uE 33 zM18 zPME zPMP 132 rfl (by kernel_rfl) ?_)) <;> ((try with_reducible intro K1 hK1); simp only [go_sem, ↓reduceIte, reduceCtorEq, nA, nB, nC, nD, nE, nF, Int.reduceBEq, Int.reduceTMod, Int.reduceTDiv, Int.reduceMul, Int.reduceBNe, Int.reduceLT, Int.reduceLE, Int.reduceAdd, Int.reduceSub, Int.reduceNeg, decide_true, decide_false, Bool.true_and, Bool.false_and, Bool.and_true, Bool.and_false, Bool.or_false, Bool.or_true, Bool.true_or, Bool.false_or, Bool.not_true, Bool.not_false, true_implies, false_implies, true_and, and_true, Int.reduceToNat] <;> and_intros <;> first | (apply hK1; clear hK1 K1) | (intros; first | omega | decide) | skip)) | (refine awp_cond (t := _) rfl (fun hq => ?_) (fun hq => ?_) <;> first | (exact absurd hq (by decide)) | (cases hq; done) | (clear hq)) | (refine awp_un 8 ?_) | (with_reducible exact rfl) | (with_reducible exact trivial) | ((with_reducible show uside _); first | exact True.intro | exact rfl) | ((with_reducible show opS _ _); exact True.intro) | (refine ⟨AV.v (.bool true), rfl, hK1 _ ?_⟩; clear hK1 K1) | (refine (h1).mono ?_; rintro _ hz ⟨rfl, hh⟩; (first | (refine hK1 _ ?_) | (refine ⟨rfl, hK1 _ ?_⟩)); clear hK1 K1; rw [hh]; clear hh hz) | (refine (h2 _).mono ?_; rintro _ hz ⟨rfl, hh⟩; (first | (refine hK1 _ ?_) | (refine ⟨rfl, hK1 _ ?_⟩)); clear hK1 K1; rw [hh]; clear hh hz) | (refine (h3 _).mono ?_; rintro _ hz ⟨rfl, hh⟩; (first | (refine hK1 _ ?_) | (refine ⟨rfl, hK1 _ ?_⟩)); clear hK1 K1; rw [hh]; clear hh hz) | (refine (h4).mono ?_; rintro _ hz ⟨rfl, hh⟩; (first | (refine hK1 _ ?_) | (refine ⟨rfl, hK1 _ ?_⟩)); clear hK1 K1; rw [hh]; clear hh hz)))
 simp only [Tryz.results163, go_sem, ↓reduceIte, reduceCtorEq, nA, nB, nC, nD, nE, nF]
 exact ⟨_, _, Weak.refl _, Hp.le.refl _, rfl, rfl⟩
theorem c_nodes (b k : Nat) (h : Hp) (hb : h.H b = some (bdO k)) (hT : h.T k = some (.buf 5 (rowB []))) : ACalls Tryz.prog 122 [.ptr b 0, .row 19 [ndN] none] h (fun r h' => r = .v (.int .i64 0) ∧ h' = h5 h b k) := by
 have h1 := c_node b k h hb hT
 unfold ndN ndCp vS vI vB nl s0 at *
 refine gE Tryz.func122 rfl (by kernel_rfl) 19 rfl fun c => ?_
 (repeat (first | refine gO rfl ?_ | (refine gM zM16 fun K1 hK1 => ?_; simp only [go_sem, ↓reduceIte, reduceCtorEq, nA, nB, nC, nD, nE, nF, Int.reduceBEq, Int.reduceTMod, Int.reduceTDiv, Int.reduceMul, Int.reduceBNe, Int.reduceLT, Int.reduceLE, Int.reduceAdd, Int.reduceSub, Int.reduceNeg, decide_true, decide_false, Bool.true_and, Bool.false_and, Bool.and_true, Bool.and_false, Bool.or_false, Bool.or_true, Bool.true_or, Bool.false_or, Bool.not_true, Bool.not_false, true_implies, false_implies, true_and, and_true, Int.reduceToNat] <;> and_intros <;> first | (apply hK1; clear hK1 K1) | (intros; first | omega | decide) | skip) | (refine awp_cond (t := _) rfl (fun hq => ?_) (fun hq => ?_) <;> first | (exact absurd hq (by decide)) | (cases hq; done) | (clear hq)) | (refine awp_un 8 ?_) | (with_reducible exact rfl) | (with_reducible exact trivial) | ((with_reducible show uside _); first | exact True.intro | exact rfl) | ((with_reducible show opS _ _); exact True.intro) | (refine ⟨AV.v (.bool true), rfl, hK1 _ ?_⟩; clear hK1 K1) | (refine (h1).mono ?_; rintro _ hz ⟨rfl, hh⟩; (first | (refine hK1 _ ?_) | (refine ⟨rfl, hK1 _ ?_⟩)); clear hK1 K1; rw [hh]; clear hh hz)))
 simp only [Tryz.results122, go_sem, ↓reduceIte, reduceCtorEq, nA, nB, nC, nD, nE, nF]
 exact ⟨_, _, Weak.refl _, Hp.le.refl _, rfl, rfl⟩
section
variable {P : Program} {c : Cx} {Q : Exit → St → Prop}
def OpsL (P : Program) (c : Cx) (Q : Exit → St → Prop) : List Oper → St → Prop
 | [], s => Q .normal s
 | o :: r, s => o.guard = none ∧ Aop P c o s (OpsL P c Q r)
theorem awp_opsL {id : Nat} {ops : Array Oper} {s : St} (h : OpsL P c Q ops.toList s) : Awp P c (.region id ops false) Q s := by
 have hg : ∀ (l : List Oper) (s : St), OpsL P c Q l s → ∀ a w, In c s a w → wpList P ops (fun e a' w' => ∃ s', Q e s' ∧ In c s' a' w') l a w := by
  intro l
  induction l with
  | nil => intro s h a w hi; exact ⟨s, h, hi⟩
  | cons o r ih =>
   intro s h a w hi
   have hw : Region.wanted o (yielded ops a.tmps) = true := by simp [Region.wanted, h.1]
   unfold wpList
   rw [if_pos hw]
   exact .inl (h.2 a w hi _ _ fun s' a' w' hs hi' => ih s' hs a' w' hi')
 intro a w hi
 exact wp_region_list (hg _ s h a w hi)
end
theorem g_bind1 (h : Hp) : ACalls Tryz.prog 84 [.v (.string sT), .row 6 [fC] none] h (fun r h' => r = .tup [.v (.string s5), .v (.int .i64 0)]) := by
 have h1 := fun h => c_parse h
 have h2 := fun h => c_checkData h
 have h3 := fun b k h => c_nodes b k h
 unfold h5 bdO bdP at h3
 have hR : rowB [] = [] := rfl
 rw [hR] at h3
 generalize hfc : fC = cs at *
 generalize hnn : ([ndN] : List (List AV)) = nn at *
 refine gE Tryz.func84 rfl (by kernel_rfl) 37 rfl fun c => ?_
 (repeat (first | refine gO rfl ?_ | (refine gM zM19 fun K1 hK1 => ?_; simp only [go_sem, ↓reduceIte, reduceCtorEq, nA, nB, nC, nD, nE, nF, Int.reduceBEq, Int.reduceTMod, Int.reduceTDiv, Int.reduceMul, Int.reduceBNe, Int.reduceLT, Int.reduceLE, Int.reduceAdd, Int.reduceSub, Int.reduceNeg, decide_true, decide_false, Bool.true_and, Bool.false_and, Bool.and_true, Bool.and_false, Bool.or_false, Bool.or_true, Bool.true_or, Bool.false_or, Bool.not_true, Bool.not_false, true_implies, false_implies, true_and, and_true, Int.reduceToNat] <;> and_intros <;> first | (apply hK1; clear hK1 K1) | (intros; first | omega | decide) | skip) | (refine awp_cond (t := _) rfl (fun hq => ?_) (fun hq => ?_) <;> first | (exact absurd hq (by decide)) | (cases hq; done) | (clear hq)) | (refine awp_un 8 ?_) | (with_reducible exact rfl) | (with_reducible exact trivial) | ((with_reducible show uside _); first | exact True.intro | exact rfl) | ((with_reducible show opS _ _); exact True.intro) | (refine ⟨AV.v (.bool true), rfl, hK1 _ ?_⟩; clear hK1 K1)))
 refine (h1 _).mono ?_
 rintro _ ha rfl
 refine hK1 _ ?_; clear hK1 K1
 (repeat (first | refine gO rfl ?_ | (refine gM zM19 fun K1 hK1 => ?_; simp only [go_sem, ↓reduceIte, reduceCtorEq, nA, nB, nC, nD, nE, nF, Int.reduceBEq, Int.reduceTMod, Int.reduceTDiv, Int.reduceMul, Int.reduceBNe, Int.reduceLT, Int.reduceLE, Int.reduceAdd, Int.reduceSub, Int.reduceNeg, decide_true, decide_false, Bool.true_and, Bool.false_and, Bool.and_true, Bool.and_false, Bool.or_false, Bool.or_true, Bool.true_or, Bool.false_or, Bool.not_true, Bool.not_false, true_implies, false_implies, true_and, and_true, Int.reduceToNat] <;> and_intros <;> first | (apply hK1; clear hK1 K1) | (intros; first | omega | decide) | skip) | (refine awp_cond (t := _) rfl (fun hq => ?_) (fun hq => ?_) <;> first | (exact absurd hq (by decide)) | (cases hq; done) | (clear hq)) | (refine awp_un 8 ?_) | (with_reducible exact rfl) | (with_reducible exact trivial) | ((with_reducible show uside _); first | exact True.intro | exact rfl) | ((with_reducible show opS _ _); exact True.intro) | (refine ⟨AV.v (.bool true), rfl, hK1 _ ?_⟩; clear hK1 K1)))
 refine (h2 _).mono ?_
 rintro _ hz ⟨rfl, rfl⟩
 refine hK1 _ ?_; clear hK1 K1
 first | refine gO rfl ?_ | (refine gM zM19 fun K1 hK1 => ?_; simp only [go_sem, ↓reduceIte, reduceCtorEq, nA, nB, nC, nD, nE, nF] <;> and_intros <;> first | (apply hK1; clear hK1 K1) | (intros; first | omega | decide | (simp_all <;> omega)) | skip)
 first | refine gO rfl ?_ | (refine gM zM19 fun K1 hK1 => ?_; simp only [go_sem, ↓reduceIte, reduceCtorEq, nA, nB, nC, nD, nE, nF] <;> and_intros <;> first | (apply hK1; clear hK1 K1) | (intros; first | omega | decide | (simp_all <;> omega)) | skip)
 first | refine gO rfl ?_ | (refine gM zM19 fun K1 hK1 => ?_; simp only [go_sem, ↓reduceIte, reduceCtorEq, nA, nB, nC, nD, nE, nF] <;> and_intros <;> first | (apply hK1; clear hK1 K1) | (intros; first | omega | decide | (simp_all <;> omega)) | skip)
 first | refine gO rfl ?_ | (refine gM zM19 fun K1 hK1 => ?_; simp only [go_sem, ↓reduceIte, reduceCtorEq, nA, nB, nC, nD, nE, nF] <;> and_intros <;> first | (apply hK1; clear hK1 K1) | (intros; first | omega | decide | (simp_all <;> omega)) | skip)
 refine awp_cond (t := _) rfl (fun hq => absurd hq (by decide)) (fun hq => ?_)
 clear hq
 first | refine gO rfl ?_ | (refine gM zM19 fun K1 hK1 => ?_; simp only [go_sem, ↓reduceIte, reduceCtorEq, nA, nB, nC, nD, nE, nF] <;> and_intros <;> first | (apply hK1; clear hK1 K1) | (intros; first | omega | decide | (simp_all <;> omega)) | skip)
 refine awp_seq (awp_opsL ?_)
 refine ⟨rfl, (q_move (.inl rfl)).aop ⟨rfl, vEff_sound tyok (md := 0) ?_⟩⟩
 simp only [go_sem, ↓reduceIte, reduceCtorEq, Nat.reduceAdd, Nat.reduceSub, Nat.reduceMul, Nat.reduceLT, Nat.reduceLeDiff, Nat.reduceEqDiff, St.ev, St.put, eK]
 refine ⟨rfl, a_boxObj (cs := [.row 6 [cs] none, .v (.slice none 0 0), .v (.pointer none), .v (.slice none 0 0), .v (.int .i64 0)]) rfl ?_ (fun b hb => ⟨rfl, (q_move (.inr rfl)).aop ?_⟩)⟩
 ·simp only [go_sem, ↓reduceIte, reduceCtorEq, Nat.reduceAdd, Nat.reduceSub, Nat.reduceMul, Nat.reduceLT, Nat.reduceLeDiff, Nat.reduceEqDiff, St.ev, AV.cellsB]
  done
 simp only [go_sem, ↓reduceIte, reduceCtorEq, Nat.reduceAdd, Nat.reduceSub, Nat.reduceMul, Nat.reduceLT, Nat.reduceLeDiff, Nat.reduceEqDiff, St.ev, St.put, OpsL, thenQ]
 refine awp_ownBuf b 3 195 5 (upd_same _ _ _) rfl (fun k hk => ?_)
 simp only [List.set_cons_zero, List.set_cons_succ]
 (repeat (first | refine gO rfl ?_ | (refine gM zM19 fun K1 hK1 => ?_; simp only [go_sem, ↓reduceIte, reduceCtorEq, nA, nB, nC, nD, nE, nF, Int.reduceBEq, Int.reduceTMod, Int.reduceTDiv, Int.reduceMul, Int.reduceBNe, Int.reduceLT, Int.reduceLE, Int.reduceAdd, Int.reduceSub, Int.reduceNeg, decide_true, decide_false, Bool.true_and, Bool.false_and, Bool.and_true, Bool.and_false, Bool.or_false, Bool.or_true, Bool.true_or, Bool.false_or, Bool.not_true, Bool.not_false, true_implies, false_implies, true_and, and_true, Int.reduceToNat] <;> and_intros <;> first | (apply hK1; clear hK1 K1) | (intros; first | omega | decide) | skip) | (refine awp_cond (t := _) rfl (fun hq => ?_) (fun hq => ?_) <;> first | (exact absurd hq (by decide)) | (cases hq; done) | (clear hq)) | (refine awp_un 8 ?_) | (with_reducible exact rfl) | (with_reducible exact trivial) | ((with_reducible show uside _); first | exact True.intro | exact rfl) | ((with_reducible show opS _ _); exact True.intro) | (refine ⟨AV.v (.bool true), rfl, hK1 _ ?_⟩; clear hK1 K1)))
 refine (h3 b k _ (upd_same _ _ _) (upd_same _ _ _)).mono ?_
 rintro _ hx ⟨rfl, rfl⟩
 refine hK1 _ ?_; clear hK1 K1
 have h4 := fun D R X I h hb hT => g_strAt b k D R X I [53] h hb hT (by decide)
 (repeat (first | refine gO rfl ?_ | (refine gM zM19 fun K1 hK1 => ?_; simp only [go_sem, ↓reduceIte, reduceCtorEq, nA, nB, nC, nD, nE, nF, Int.reduceBEq, Int.reduceTMod, Int.reduceTDiv, Int.reduceMul, Int.reduceBNe, Int.reduceLT, Int.reduceLE, Int.reduceAdd, Int.reduceSub, Int.reduceNeg, decide_true, decide_false, Bool.true_and, Bool.false_and, Bool.and_true, Bool.and_false, Bool.or_false, Bool.or_true, Bool.true_or, Bool.false_or, Bool.not_true, Bool.not_false, true_implies, false_implies, true_and, and_true, Int.reduceToNat] <;> and_intros <;> first | (apply hK1; clear hK1 K1) | (intros; first | omega | decide) | skip) | (refine awp_cond (t := _) rfl (fun hq => ?_) (fun hq => ?_) <;> first | (exact absurd hq (by decide)) | (cases hq; done) | (clear hq)) | (refine awp_un 8 ?_) | (with_reducible exact rfl) | (with_reducible exact trivial) | ((with_reducible show uside _); first | exact True.intro | exact rfl) | ((with_reducible show opS _ _); exact True.intro) | (refine ⟨AV.v (.bool true), rfl, hK1 _ ?_⟩; clear hK1 K1)))
 refine (h4 _ _ _ _ _ (upd_same _ _ _) (upd_same _ _ _)).mono ?_
 rintro _ hx ⟨rfl, rfl⟩
 refine hK1 _ ?_; clear hK1 K1
 (repeat (first | refine gO rfl ?_ | (refine gM zM19 fun K1 hK1 => ?_; simp only [go_sem, ↓reduceIte, reduceCtorEq, nA, nB, nC, nD, nE, nF, Int.reduceBEq, Int.reduceTMod, Int.reduceTDiv, Int.reduceMul, Int.reduceBNe, Int.reduceLT, Int.reduceLE, Int.reduceAdd, Int.reduceSub, Int.reduceNeg, decide_true, decide_false, Bool.true_and, Bool.false_and, Bool.and_true, Bool.and_false, Bool.or_false, Bool.or_true, Bool.true_or, Bool.false_or, Bool.not_true, Bool.not_false, true_implies, false_implies, true_and, and_true, Int.reduceToNat] <;> and_intros <;> first | (apply hK1; clear hK1 K1) | (intros; first | omega | decide) | skip) | (refine awp_cond (t := _) rfl (fun hq => ?_) (fun hq => ?_) <;> first | (exact absurd hq (by decide)) | (cases hq; done) | (clear hq)) | (refine awp_un 8 ?_) | (with_reducible exact rfl) | (with_reducible exact trivial) | ((with_reducible show uside _); first | exact True.intro | exact rfl) | ((with_reducible show opS _ _); exact True.intro) | (refine ⟨AV.v (.bool true), rfl, hK1 _ ?_⟩; clear hK1 K1)))
 simp only [Tryz.results84, go_sem, ↓reduceIte, reduceCtorEq, nA, nB, nC, nD, nE, nF]
 exact ⟨_, _, Weak.refl _, Hp.le.refl _, rfl⟩
open Go
set_option linter.unusedVariables false
set_option linter.unusedSimpArgs false
section
variable {α : Type} (cf : α → α → Int)
def insR : List α → α → List α
  | [], x => [x]
  | y :: r, x => if cf x y < 0 then y :: insR r x else x :: y :: r
def insS (xs : List α) : List α := xs.foldl (insR cf) []
def sortI (xs : List α) : List α := (insS cf xs).reverse
theorem insS_snoc (xs : List α) (x : α) : insS cf (xs ++ [x]) = insR cf (insS cf xs) x := by simp [insS]
theorem insR_perm : ∀ (r : List α) (x : α), (insR cf r x).Perm (x :: r)
  | [], _ => List.Perm.refl _
  | y :: r, x => by
    unfold insR
    split
    · exact ((insR_perm r x).cons y).trans (List.Perm.swap x y r)
    · exact List.Perm.refl _
theorem foldI_perm : ∀ (xs r : List α), (xs.foldl (insR cf) r).Perm (r ++ xs)
  | [], r => by simp
  | x :: xs, r => by
    refine (foldI_perm xs (insR cf r x)).trans ?_
    exact ((insR_perm cf r x).append_right xs).trans List.perm_middle.symm
theorem insS_perm (xs : List α) : (insS cf xs).Perm xs := by simpa [insS] using foldI_perm cf xs []
theorem insS_len (xs : List α) : (insS cf xs).length = xs.length := (insS_perm cf xs).length_eq
theorem sortI_perm (xs : List α) : (sortI cf xs).Perm xs := (List.reverse_perm _).trans (insS_perm cf xs)
theorem sortI_len (xs : List α) : (sortI cf xs).length = xs.length := (sortI_perm cf xs).length_eq
end
open Go
set_option linter.unusedVariables false
set_option linter.unusedSimpArgs false
abbrev Kp := ByteArray × Int × Bool × Int × Int × Int
def encKp (x : Kp) : List AV := [.v (.string x.1), .v (.int .i64 x.2.1), .v (.bool x.2.2.1), .v (.int .i64 x.2.2.2.1), .v (.int .i64 x.2.2.2.2.1), .v (.int .i64 x.2.2.2.2.2)]
def cmpI (x y : Int) : Int := if x < y then -1 else if y < x then 1 else 0
def cmpK (rule : Int) (a b : Kp) : Int :=
  if (if rule = 2 then cmpI a.2.2.2.2.2 b.2.2.2.2.2 else if rule = 3 then cmpI a.2.2.2.1 b.2.2.2.1 else if rule = 4 then cmpI b.2.1 a.2.1 else 0) = 0 then cmpI a.2.2.2.2.1 b.2.2.2.2.1
  else if rule = 2 then cmpI a.2.2.2.2.2 b.2.2.2.2.2 else if rule = 3 then cmpI a.2.2.2.1 b.2.2.2.1 else if rule = 4 then cmpI b.2.1 a.2.1 else 0
def orderF (rule : Int) (K : Nat → Kp) (ps : List Nat) : List Nat := sortI (fun p q => cmpK rule (K p) (K q)) (ps.filter fun p => !(K p).2.2.1)
def overF (item : ByteArray) (K : Nat → Kp) : List Nat → Int → Int
  | [], o => o
  | p :: ps, o => overF item K ps (if (K p).1 = item then o else o + (K p).2.1)
def goF (item : ByteArray) (K : Nat → Kp) : List Nat → Int → List Nat × Int
  | [], o => ([], o)
  | p :: ps, o => if o ≤ 0 then ([], o) else if (K p).1 = item then goF item K ps o else (p :: (goF item K ps (o - (K p).2.1)).1, (goF item K ps (o - (K p).2.1)).2)
def goingF (item : ByteArray) (bytes room rule : Int) (K : Nat → Kp) (ps : List Nat) : List Nat × Int := goF item K (orderF rule K ps) (overF item K ps (bytes - room))
theorem orderF_mem {rule : Int} {K : Nat → Kp} {ps : List Nat} {p : Nat} (h : p ∈ orderF rule K ps) : p ∈ ps := (List.mem_filter.1 ((sortI_perm _ _).mem_iff.1 h)).1
theorem orderF_len (rule : Int) (K : Nat → Kp) (ps : List Nat) : (orderF rule K ps).length ≤ ps.length := by
  rw [orderF, sortI_len]; exact List.length_filter_le _ _
theorem goF_mem {item : ByteArray} {K : Nat → Kp} : ∀ {ps : List Nat} {o : Int} {p : Nat}, p ∈ (goF item K ps o).1 → p ∈ ps
  | [], _, _, h => by simp [goF] at h
  | q :: ps, o, p, h => by
    unfold goF at h
    split at h
    · simp at h
    · split at h
      · exact List.mem_cons_of_mem _ (goF_mem h)
      · rcases List.mem_cons.1 h with rfl | h
        · exact List.mem_cons_self
        · exact List.mem_cons_of_mem _ (goF_mem h)
theorem goF_len (item : ByteArray) (K : Nat → Kp) : ∀ (ps : List Nat) (o : Int), (goF item K ps o).1.length ≤ ps.length
  | [], _ => by simp [goF]
  | q :: ps, o => by
    unfold goF
    split
    · simp
    · split
      · have := goF_len item K ps o; simp only [List.length_cons]; omega
      · have := goF_len item K ps (o - (K q).2.1); simp only [List.length_cons]; omega
def stayF (gone ps : List Nat) : List Nat := ps.filter fun p => !gone.contains p
open Nat renaming reduceAdd → nA, reduceSub → nB, reduceMul → nC, reduceLT → nD, reduceLeDiff → nE, reduceEqDiff → nF, reduceMod → nG, reduceDiv → nH, reducePow → nI
set_option maxRecDepth 100000
set_option maxHeartbeats 8000000
def encR (p : Nat) : List AV := [.ptr p 0]
def encRV (p : Nat) : AV := .ptr p 0
def idxR (pr : Nat → Bool) (ps : List Nat) : Int := match ps.findIdx? pr with
 | some j => j
 | none => -1
theorem idxR_at {pr : Nat → Bool} {ps : List Nat} {j : Nat} (hj : j < ps.length) (hp : pr (ps.getD j default) = true) (hn : ∀ i, i < j → pr (ps.getD i default) = false) : idxR pr ps = j := by
 have e : ps.findIdx? pr = some j := by
  rw [List.findIdx?_eq_some_iff_getElem]
  refine ⟨hj, ?_, fun i hi => ?_⟩
  ·rwa [List.getD_eq_getElem?_getD, List.getElem?_eq_getElem hj] at hp
  ·have h9 := hn i hi
   rw [List.getD_eq_getElem?_getD, List.getElem?_eq_getElem (by omega)] at h9
   simpa using h9
 rw [idxR, e]
theorem idxR_no {pr : Nat → Bool} {ps : List Nat} (hn : ∀ i, i < ps.length → pr (ps.getD i default) = false) : idxR pr ps = -1 := by
 have e : ps.findIdx? pr = none := by
  rw [List.findIdx?_eq_none_iff]
  intro x hx
  obtain ⟨i, hi, rfl⟩ := List.getElem_of_mem hx
  have h9 := hn i hi
  rwa [List.getD_eq_getElem?_getD, List.getElem?_eq_getElem hi] at h9
 rw [idxR, e]
theorem g_idxK {f : Nat} {caps : List AV} (pr : Nat → Bool) (k : Nat) (ps : List Nat) (h : Hp) (hT : h.T k = some (.cont 1 (ps.map encR))) (hl : ps.length ≤ 100000)
  (hc : ∀ p ∈ ps, ACalls Tryz.prog f ([.ptr p 0] ++ caps) h (fun r h' => r = .v (.bool (pr p)) ∧ h' = h)) :
  ACalls Tryz.prog 96 [.arr 1 k ps.length, .fn f caps] h (fun r h' => r = .v (.int .i64 (idxR pr ps)) ∧ h' = h) := by
 have hml : (ps.map encR).length = ps.length := List.length_map _
 refine gE Tryz.func96 rfl (by kernel_rfl) 17 rfl fun c => ?_
 (repeat (first | refine gO rfl ?_ | (refine gR fun K1 hK1 => ?_; simp only [go_sem, ↓reduceIte, reduceCtorEq, nA, nB, nC, nD, nE, nF] <;> and_intros <;> first | (apply hK1; clear hK1 K1) | (intros; first | omega | decide | (simp_all <;> omega)) | skip)))
 refine awp_loopC (rl false [0, 2, 5, 2, 10]) 0 (fun g s => ∃ j : Nat, g + j = ps.length ∧ (∀ i, i < j → pr (ps.getD i default) = false) ∧
  s = ⟨((.arr 1 k ps.length) :: (.fn f caps) :: (jnk 5 ((.v (.int .i64 ps.length)) :: (.v (.int .i64 j)) :: (jnk 10 [])))), [], h⟩) ps.length ⟨0, by omega, fun i hi => by omega, rfl⟩ ?_
 rintro g _ ⟨j, hj, hn, rfl⟩
 (repeat (first | refine gO rfl ?_ | (refine gR fun K1 hK1 => ?_; simp only [go_sem, ↓reduceIte, reduceCtorEq, nA, nB, nC, nD, nE, nF] <;> and_intros <;> first | (apply hK1; clear hK1 K1) | (intros; first | omega | decide) | skip)))
 refine awp_cond (t := _) rfl (fun h1 => ?_) (fun h1 => ?_)
 ·simp only [decide_eq_true_eq] at h1
  have hjl : j < ps.length := by omega
  have gx : (ps.map encR).getD j [] = encR (ps.getD j default) := getD_enc encR ps j default hjl
  have hcc := hc (ps.getD j default) (by rw [List.getD_eq_getElem?_getD, List.getElem?_eq_getElem hjl]; exact List.getElem_mem _)
  obtain ⟨p, hp⟩ : ∃ p, ps.getD j default = p := ⟨_, rfl⟩
  rw [hp] at gx hcc
  (repeat (first | refine gO rfl ?_ | (refine gR fun K1 hK1 => ?_; simp only [go_sem, ↓reduceIte, reduceCtorEq, nA, nB, nC, nD, nE, nF, hT, hml, Int.toNat_natCast, gx, encR] <;> and_intros <;> first | (apply hK1; clear hK1 K1) | (intros; first | omega | decide) | skip)))
  refine hcc.mono ?_; rintro _ hz ⟨rfl, hh⟩; apply hK1; clear hK1 K1; rw [hh]; clear hh hz
  cases hb : pr p with
  | true =>
   (repeat (first | refine gO rfl ?_ | (refine gR fun K1 hK1 => ?_; simp only [go_sem, ↓reduceIte, reduceCtorEq, nA, nB, nC, nD, nE, nF] <;> and_intros <;> first | (apply hK1; clear hK1 K1) | (intros; first | omega | decide) | skip)))
   refine awp_cond (t := _) rfl (fun _ => ?_) (fun h9 => by cases h9)
   (repeat (first | refine gO rfl ?_ | (refine gR fun K1 hK1 => ?_; simp only [go_sem, ↓reduceIte, reduceCtorEq, nA, nB, nC, nD, nE, nF] <;> and_intros <;> first | (apply hK1; clear hK1 K1) | (intros; first | omega | decide) | skip)))
   simp only [Tryz.results96, go_sem, ↓reduceIte, reduceCtorEq, nA, nB, nC, nD, nE, nF]
   exact ⟨_, _, Weak.refl _, Hp.le.refl _, by rw [idxR_at hjl (by rw [hp]; exact hb) hn], rfl⟩
  | false =>
   (repeat (first | refine gO rfl ?_ | (refine gR fun K1 hK1 => ?_; simp only [go_sem, ↓reduceIte, reduceCtorEq, nA, nB, nC, nD, nE, nF] <;> and_intros <;> first | (apply hK1; clear hK1 K1) | (intros; first | omega | decide) | skip)))
   refine awp_cond (t := _) rfl (fun h9 => by cases h9) (fun _ => ?_)
   (repeat (first | refine gO rfl ?_ | (refine gR fun K1 hK1 => ?_; simp only [go_sem, ↓reduceIte, reduceCtorEq, nA, nB, nC, nD, nE, nF] <;> and_intros <;> first | (apply hK1; clear hK1 K1) | (intros; first | omega | decide) | skip)))
   refine ⟨g - 1, by omega, j + 1, by omega, fun i hi => ?_, rfl⟩
   rcases Nat.lt_succ_iff_lt_or_eq.1 hi with h9 | rfl
   ·exact hn i h9
   ·rw [hp]; exact hb
 ·simp only [decide_eq_false_iff_not] at h1
  (repeat (first | refine gO rfl ?_ | (refine gR fun K1 hK1 => ?_; simp only [go_sem, ↓reduceIte, reduceCtorEq, nA, nB, nC, nD, nE, nF] <;> and_intros <;> first | (apply hK1; clear hK1 K1) | (intros; first | omega | decide) | skip)))
  simp only [Tryz.results96, go_sem, ↓reduceIte, reduceCtorEq, nA, nB, nC, nD, nE, nF]
  exact ⟨_, _, Weak.refl _, Hp.le.refl _, by rw [idxR_no (fun i hi => hn i (by omega))], rfl⟩
theorem idxR_cases (pr : Nat → Bool) (ps : List Nat) : ((∀ p ∈ ps, pr p = false) ∧ idxR pr ps = -1) ∨ ∃ j, j < ps.length ∧ idxR pr ps = j ∧ pr (ps.getD j default) = true ∧ ∀ i, i < j → pr (ps.getD i default) = false := by
 unfold idxR
 cases e : ps.findIdx? pr with
 | none =>
  rw [List.findIdx?_eq_none_iff] at e
  exact .inl ⟨e, rfl⟩
 | some j =>
  rw [List.findIdx?_eq_some_iff_getElem] at e
  obtain ⟨hj, h1, h2⟩ := e
  refine .inr ⟨j, hj, rfl, ?_, fun i hi => ?_⟩
  ·rw [List.getD_eq_getElem?_getD, List.getElem?_eq_getElem hj]; exact h1
  ·have := h2 i hi
   rw [List.getD_eq_getElem?_getD, List.getElem?_eq_getElem (by omega)]
   simpa using this
theorem getD_mid' {α : Type} (A : List α) (x : α) (B : List α) (d : α) : (A ++ x :: B).getD A.length d = x := by
 rw [List.getD_eq_getElem?_getD, List.getElem?_append_right (Nat.le_refl _), Nat.sub_self]; rfl
theorem set_mid' {α : Type} (A : List α) (x y : α) (B : List α) : (A ++ x :: B).set A.length y = A ++ y :: B := by
 rw [List.set_append_right _ _ (Nat.le_refl _), Nat.sub_self]; rfl
theorem drop_at' {α : Type} (l : List α) (j : Nat) (d : α) (h : j < l.length) : l.drop j = l.getD j d :: l.drop (j + 1) := by
 rw [List.drop_eq_getElem_cons h, List.getD_eq_getElem?_getD, List.getElem?_eq_getElem h]; rfl
theorem take_at' {α : Type} (l : List α) (j : Nat) (d : α) (h : j < l.length) : l.take (j + 1) = l.take j ++ [l.getD j d] := by
 rw [List.take_add_one, List.getElem?_eq_getElem h, List.getD_eq_getElem?_getD, List.getElem?_eq_getElem h]; rfl
theorem g_delK {f : Nat} {caps : List AV} (pr : Nat → Bool) (k : Nat) (ps : List Nat) (h : Hp) (hT : h.T k = some (.cont 1 (ps.map encR))) (hl : ps.length ≤ 100000)
  (hc : ∀ p ∈ ps, ∀ T', ACalls Tryz.prog f ([.ptr p 0] ++ caps) ⟨h.H, T'⟩ (fun r h' => r = .v (.bool (pr p)) ∧ h' = ⟨h.H, T'⟩)) :
  ACalls Tryz.prog 55 [.arr 1 k ps.length, .fn f caps] h (fun r h' => ∃ q, r = .arr 1 q (ps.filter fun p => !pr p).length ∧ h'.H = h.H ∧ h'.T q = some (.cont 1 ((ps.filter fun p => !pr p).map encR)) ∧ ∀ t, t ≠ k → h.T t ≠ none → t ≠ q ∧ h'.T t = h.T t) := by
 have hix := g_idxK pr k ps h hT hl (fun p hp => hc p hp h.T)
 refine gE Tryz.func55 rfl (by kernel_rfl) 40 rfl fun c => ?_
 (repeat (first | refine gO rfl ?_ | (refine gM zM1A fun K1 hK1 => ?_; simp only [go_sem, ↓reduceIte, reduceCtorEq, nA, nB, nC, nD, nE, nF] <;> and_intros <;> first | (apply hK1; clear hK1 K1) | (intros; first | omega | decide | (simp_all <;> omega)) | skip)))
 refine hix.mono ?_; rintro _ hz ⟨rfl, hh⟩; apply hK1; clear hK1 K1; rw [hh]; clear hh hz
 clear hix
 rcases idxR_cases pr ps with ⟨hno, e⟩ | ⟨j0, hj0, e, hp0, hn0⟩
 ·rw [e]
  have ef : ps.filter (fun p => !pr p) = ps := List.filter_eq_self.2 fun p hp => by simp [hno p hp]
  rw [ef]
  have hb : ((-1 : Int) == -1) = true := rfl
  clear hc
  (repeat (first | refine gO rfl ?_ | (refine gM zM1A fun K1 hK1 => ?_; simp only [go_sem, ↓reduceIte, reduceCtorEq, nA, nB, nC, nD, nE, nF, hb] <;> and_intros <;> first | (apply hK1; clear hK1 K1) | (intros; first | omega | decide) | skip)))
  refine awp_cond (t := _) rfl (fun _ => ?_) (fun h9 => by cases h9)
  (repeat (first | refine gO rfl ?_ | (refine gM zM1A fun K1 hK1 => ?_; simp only [go_sem, ↓reduceIte, reduceCtorEq, nA, nB, nC, nD, nE, nF] <;> and_intros <;> first | (apply hK1; clear hK1 K1) | (intros; first | omega | decide) | skip)))
  simp only [Tryz.results55, go_sem, ↓reduceIte, reduceCtorEq, nA, nB, nC, nD, nE, nF]
  exact ⟨_, _, Weak.refl _, Hp.le.refl _, k, rfl, rfl, hT, fun t ht _ => ⟨ht, rfl⟩⟩
 ·rw [e]
  have hb : ((j0 : Int) == -1) = false := by
   rw [beq_eq_false_iff_ne]; omega
  (repeat (first | refine gO rfl ?_ | (refine gM zM1A fun K1 hK1 => ?_; simp only [go_sem, ↓reduceIte, reduceCtorEq, nA, nB, nC, nD, nE, nF, hb] <;> and_intros <;> first | (apply hK1; clear hK1 K1) | (intros; first | omega | decide) | skip)))
  refine awp_cond (t := _) rfl (fun h9 => by cases h9) (fun _ => ?_)
  (repeat (first | refine gO rfl ?_ | (refine gM zM1A fun K1 hK1 => ?_; simp only [go_sem, ↓reduceIte, reduceCtorEq, nA, nB, nC, nD, nE, nF] <;> and_intros <;> first | (apply hK1; clear hK1 K1) | (intros; first | omega | decide) | skip)))
  have hT0 : (ps.take j0).filter (fun p => !pr p) = ps.take j0 := List.filter_eq_self.2 fun p hp => by
   obtain ⟨i, hi, rfl⟩ := List.getElem_of_mem hp
   rw [List.length_take] at hi
   have h9 := hn0 i (by omega)
   rw [List.getD_eq_getElem?_getD, List.getElem?_eq_getElem (by omega)] at h9
   rw [List.getElem_take]
   simpa using h9
  refine awp_loopC (rl false [0, 2, 3, 2, 35]) 0 (fun g s => ∃ (j : Nat) (Fl M : List Nat), g + j = ps.length ∧ Fl = (ps.take j).filter (fun p => !pr p) ∧ M ≠ [] ∧ Fl.length + M.length = j ∧
   s = ⟨((.arr 1 k ps.length) :: (.fn f caps) :: (jnk 3 ((.v (.int .i64 Fl.length)) :: (.v (.int .i64 j)) :: (jnk 35 [])))), [], ⟨h.H, upd h.T k (some (.cont 1 ((Fl ++ (M ++ ps.drop j)).map encR)))⟩⟩) (ps.length - (j0 + 1))
   ⟨j0 + 1, ps.take j0, [ps.getD j0 default], by omega, by rw [take_at' ps j0 default hj0, List.filter_append, hT0, List.filter_cons_of_neg (p := fun p => !pr p) (show ¬ (!pr (ps.getD j0 default)) = true by rw [hp0]; decide)]; simp, by simp, by rw [List.length_take, List.length_singleton]; omega, ?_⟩ ?_
  ·have e1 : ps.take j0 ++ ([ps.getD j0 default] ++ ps.drop (j0 + 1)) = ps := by
    rw [List.singleton_append, ← drop_at' ps j0 default hj0, List.take_append_drop]
   have e2 : upd h.T k (some (TO.cont 1 (ps.map encR))) = h.T := by
    funext q
    by_cases e : q = k
    ·rw [e, upd_same, hT]
    ·rw [upd_other _ _ e]
   have e3 : (ps.take j0).length = j0 := by rw [List.length_take]; omega
   rw [e1, e2, e3]; rfl
  rintro g _ ⟨j, Fl, M, hj, hF, hM, hlen, rfl⟩
  have hTq : ∀ X, upd h.T k (some (TO.cont 1 X)) k = some (.cont 1 X) := fun X => upd_same _ _ _
  have hcl : ((Fl ++ (M ++ ps.drop j)).map encR).length = ps.length := by simp; omega
  (repeat (first | refine gO rfl ?_ | (refine gM zM1A fun K1 hK1 => ?_; simp only [go_sem, ↓reduceIte, reduceCtorEq, nA, nB, nC, nD, nE, nF] <;> and_intros <;> first | (apply hK1; clear hK1 K1) | (intros; first | omega | decide) | skip)))
  refine awp_cond (t := _) rfl (fun h1 => ?_) (fun h1 => ?_)
  ·simp only [decide_eq_true_eq] at h1
   have hjl : j < ps.length := by omega
   have hdj := drop_at' ps j default hjl
   have htj := take_at' ps j default hjl
   have hvm : ps.getD j default ∈ ps := by
    rw [List.getD_eq_getElem?_getD, List.getElem?_eq_getElem hjl]; exact List.getElem_mem _
   obtain ⟨v, hv⟩ : ∃ v, ps.getD j default = v := ⟨_, rfl⟩
   rw [hv] at hdj htj hvm
   have gx : ((Fl ++ (M ++ ps.drop j)).map encR).getD j [] = encR v := by
    rw [hdj, ← List.append_assoc, List.map_append, List.map_cons]
    have := getD_mid' ((Fl ++ M).map encR) (encR v) ((ps.drop (j + 1)).map encR) []
    rwa [List.length_map, List.length_append, hlen] at this
   have hcc := fun T' => hc v hvm T'
   obtain ⟨m0, M1, rfl⟩ := List.exists_cons_of_ne_nil hM
   have gs : (((Fl ++ (m0 :: M1 ++ ps.drop j)).map encR).set Fl.length (encR v)) = (((Fl ++ [v]) ++ ((M1 ++ [v]) ++ ps.drop (j + 1))).map encR) := by
    rw [hdj, List.map_append, List.cons_append, List.map_cons]
    have := set_mid' (Fl.map encR) (encR m0) (encR v) ((M1 ++ v :: ps.drop (j + 1)).map encR)
    rw [List.length_map] at this
    rw [this]; simp
   have hfl : Fl.length < ps.length := by simp at hlen; omega
   have gd : (((Fl ++ (m0 :: M1 ++ ps.drop j)).map encR).getD Fl.length []) = encR m0 := by
    rw [List.map_append, List.cons_append, List.map_cons]
    have := getD_mid' (Fl.map encR) (encR m0) ((M1 ++ ps.drop j).map encR) []
    rwa [List.length_map] at this
   simp only [encR] at gs gd
   generalize hct : (Fl ++ (m0 :: M1 ++ ps.drop j)).map encR = ct at *
   (repeat (first | refine gO rfl ?_ | (refine gM zM1A fun K1 hK1 => ?_; simp only [go_sem, ↓reduceIte, reduceCtorEq, nA, nB, nC, nD, nE, nF, hTq, hcl, Int.toNat_natCast, gx, encR] <;> and_intros <;> first | (apply hK1; clear hK1 K1) | (intros; first | omega | decide) | skip)))
   refine (hcc _).mono ?_; rintro _ hz ⟨rfl, hh⟩; apply hK1; clear hK1 K1; rw [hh]; clear hh hz
   cases hpv : pr v with
   | true =>
    (repeat (first | refine gO rfl ?_ | (refine gM zM1A fun K1 hK1 => ?_; simp only [go_sem, ↓reduceIte, reduceCtorEq, nA, nB, nC, nD, nE, nF] <;> and_intros <;> first | (apply hK1; clear hK1 K1) | (intros; first | omega | decide) | skip)))
    refine awp_cond (t := _) rfl (fun h9 => by cases h9) (fun _ => ?_)
    (repeat (first | refine gO rfl ?_ | (refine gM zM1A fun K1 hK1 => ?_; simp only [go_sem, ↓reduceIte, reduceCtorEq, nA, nB, nC, nD, nE, nF] <;> and_intros <;> first | (apply hK1; clear hK1 K1) | (intros; first | omega | decide) | skip)))
    refine ⟨g - 1, by omega, j + 1, Fl, m0 :: M1 ++ [v], by omega, by rw [htj, List.filter_append, ← hF]; simp [hpv], by simp, by simp at hlen ⊢; omega, ?_⟩
    rw [← hct, hdj]
    simp only [List.append_assoc, List.cons_append, List.nil_append]
    rfl
   | false =>
    (repeat (first | refine gO rfl ?_ | (refine gM zM1A fun K1 hK1 => ?_; simp only [go_sem, ↓reduceIte, reduceCtorEq, nA, nB, nC, nD, nE, nF] <;> and_intros <;> first | (apply hK1; clear hK1 K1) | (intros; first | omega | decide) | skip)))
    refine awp_cond (t := _) rfl (fun _ => ?_) (fun h9 => by cases h9)
    (repeat (first | refine gO rfl ?_ | (refine gM zM1A fun K1 hK1 => ?_; simp only [go_sem, ↓reduceIte, reduceCtorEq, nA, nB, nC, nD, nE, nF, hTq, hcl, Int.toNat_natCast, gd, upd_upd] <;> and_intros <;> first | (apply hK1; clear hK1 K1) | (intros; first | omega | decide) | skip)))
    refine ⟨g - 1, by omega, j + 1, Fl ++ [v], M1 ++ [v], by omega, by rw [htj, List.filter_append, ← hF]; simp [hpv], by simp, by simp at hlen ⊢; omega, ?_⟩
    simp only [List.drop_succ_cons, List.drop_zero, gs, List.length_append, List.length_singleton]
    rfl
  ·simp only [decide_eq_false_iff_not] at h1
   have hjl : j = ps.length := by omega
   subst hjl
   rw [List.take_length] at hF
   rw [List.drop_length, List.append_nil] at *
   clear h1 hj hc
   (repeat refine gO rfl ?_)
   have hml : (Fl ++ M).length = ps.length := by rw [List.length_append]; exact hlen
   have hMl := List.length_pos_iff.2 hM
   refine awp_seq ?_
   refine awp_AL ?_
   refine AL.cons rfl (Quiet.aop (q_move (.inl rfl)) ?_)
   refine AL.cons rfl (Quiet.aop (q_move (.inl rfl)) ?_)
   refine al_clear (z := 1) (k := k) (n := ps.length) (j := Fl.length) (xs := (Fl ++ M).map encR) tyok rfl rfl rfl rfl rfl rfl rfl rfl (upd_same _ _ _) (by rw [List.length_map, hml]) (by omega) (by omega) rfl rfl (by decide) (show 38 < 42 by decide) ?_
   have hfin : ((Fl ++ M).map encR).take ((Fl.length : Int)).toNat ++ List.replicate (ps.length - ((Fl.length : Int)).toNat) [AV.v (Value.pointer none)] = Fl.map encR ++ List.replicate M.length [AV.v (Value.pointer none)] := by
    rw [Int.toNat_natCast, List.map_append, List.take_append_of_le_length (by rw [List.length_map]; exact Nat.le_refl _), List.take_of_length_le (by rw [List.length_map]; exact Nat.le_refl _)]
    congr 2
    omega
   refine awp_cut (rl false [0, 1, 4, 1, 36]) 0 (?_ : Awp _ _ _ _ ⟨((.arr 1 k ps.length) :: (jnk 4 ((.v (.int .i64 Fl.length)) :: (jnk 36 [])))), [], ⟨h.H, upd (upd h.T k (some (.cont 1 ((Fl ++ M).map encR)))) k (some (.cont 1 (((Fl ++ M).map encR).take ((Fl.length : Int)).toNat ++ List.replicate (ps.length - ((Fl.length : Int)).toNat) [AV.v (Value.pointer none)])))⟩⟩)
   rw [hfin, upd_upd]
   have hzl : (Fl.map encR ++ List.replicate M.length [AV.v (Value.pointer none)]).length = ps.length := by simp; omega
   have htk : (Fl.map encR ++ List.replicate M.length [AV.v (Value.pointer none)]).take Fl.length = Fl.map encR := by
    rw [List.take_append_of_le_length (by rw [List.length_map]; exact Nat.le_refl _), List.take_of_length_le (by rw [List.length_map]; exact Nat.le_refl _)]
   generalize Fl.map encR ++ List.replicate M.length [AV.v (Value.pointer none)] = Z at hzl htk ⊢
   have hTz : ∀ X, upd h.T k (some (TO.cont 1 X)) k = some (.cont 1 X) := fun X => upd_same _ _ _
   (repeat (first | refine gO rfl ?_ | (refine gM zM1A fun K1 hK1 => ?_; simp only [go_sem, ↓reduceIte, reduceCtorEq, nA, nB, nC, nD, nE, nF, hTz, hzl] <;> and_intros <;> first | (apply hK1; clear hK1 K1) | (intros; first | omega | decide) | skip)))
   ·trivial
   ·trivial
   intro q hq
   rw [Int.toNat_natCast, htk]
   refine hK1 _ ?_; clear hK1 K1
   have hqk : q ≠ k := by
    intro e
    rw [e, upd_same] at hq; cases hq
   rw [upd_other _ _ hqk] at hq
   (repeat (first | refine gO rfl ?_ | (refine gM zM1A fun K1 hK1 => ?_; simp only [go_sem, ↓reduceIte, reduceCtorEq, nA, nB, nC, nD, nE, nF] <;> and_intros <;> first | (apply hK1; clear hK1 K1) | (intros; first | omega | decide) | skip)))
   rw [← hF]
   simp only [Tryz.results55, go_sem, ↓reduceIte, reduceCtorEq, nA, nB, nC, nD, nE, nF]
   refine ⟨_, _, Weak.refl _, Hp.le.refl _, q, rfl, rfl, upd_same _ _ _, fun t ht hn => ?_⟩
   have htq : t ≠ q := fun e => hn (e ▸ hq)
   exact ⟨htq, (upd_other _ _ htq).trans (upd_other _ _ ht)⟩
abbrev zPNE : List Nat := [0, 1, 2, 3, 4, 5, 6]
abbrev zPNP : List (Nat × List Nat × List Nat) := []
attribute [go_sem] zPNE zPNP
def CacheH (h : Hp) (K : Nat → Kp) (ps : List Nat) : Prop := ∀ p ∈ ps, h.H p = some (.cells (encKp (K p)))
def encCa (room rule now : Int) (k n : Nat) : List AV := [.v (.int .i64 room), .v (.int .i64 rule), .v (.int .i64 now), .arr 1 k n]
def nilP : AV := .v (Value.pointer none)
def findF (item : ByteArray) (K : Nat → Kp) (ps : List Nat) : AV := match ps.find? (fun p => (K p).1 == item) with
 | some p => .ptr p 0
 | none => nilP
theorem g_find1 {item : ByteArray} {x : Kp} {p : Nat} {h : Hp} (hp : h.H p = some (.cells (encKp x))) :
  ACalls Tryz.prog 97 ([.ptr p 0] ++ [.ref [.v (.string item)] 0]) h (fun r h' => r = .v (.bool (x.1 == item)) ∧ h' = h) := by
 obtain ⟨k, b, pi, ca, la, ma⟩ := x
 refine gE Tryz.func97 rfl (by kernel_rfl) 8 rfl fun c => ?_
 (repeat (first | refine gO rfl ?_ | ((first | refine gR ?_ | (with_reducible refine wM ?_ ?_) | ((with_reducible refine xS ?_); refine uD 1 zM10 zPNE zPNP 10 rfl (by kernel_rfl) ?_)) <;> ((try with_reducible intro K1 hK1); simp only [go_sem, ↓reduceIte, reduceCtorEq, nA, nB, nC, nD, nE, nF, hp, encKp] <;> and_intros <;> first | (apply hK1; clear hK1 K1) | (intros; first | omega | decide | (simp_all <;> omega)) | skip))))
 simp only [Tryz.results97, go_sem, ↓reduceIte, reduceCtorEq, nA, nB, nC, nD, nE, nF]
 exact ⟨_, _, Weak.refl _, Hp.le.refl _, rfl, rfl⟩
theorem g_find {item : ByteArray} (K : Nat → Kp) (ci k : Nat) (room rule now : Int) (ps : List Nat) (h : Hp) (hC : h.H ci = some (.cells (encCa room rule now k ps.length))) (hT : h.T k = some (.cont 1 (ps.map encR))) (hl : ps.length ≤ 100000) (hK : CacheH h K ps) :
  ACalls Tryz.prog 54 [.ptr ci 0, .v (.string item)] h (fun r h' => r = findF item K ps ∧ h' = h) := by
 have hix := g_idxK (fun p => (K p).1 == item) k ps h hT hl (fun p hp => g_find1 (item := item) (hK p hp))
 have hml : (ps.map encR).length = ps.length := List.length_map _
 refine gE Tryz.func54 rfl (by kernel_rfl) 19 rfl fun c => ?_
 (repeat (first | refine gO rfl ?_ | (refine gR fun K1 hK1 => ?_; simp only [go_sem, ↓reduceIte, reduceCtorEq, nA, nB, nC, nD, nE, nF, hC, encCa] <;> and_intros <;> first | (apply hK1; clear hK1 K1) | (intros; first | omega | decide | (simp_all <;> omega)) | skip)))
 refine hix.mono ?_; rintro _ hz ⟨rfl, hh⟩; apply hK1; clear hK1 K1; rw [hh]; clear hh hz
 clear hix
 rcases idxR_cases (fun p => (K p).1 == item) ps with ⟨hno, e⟩ | ⟨j0, hj0, e, hp0, hn0⟩
 ·rw [e]
  have ef : findF item K ps = nilP := by
   rw [findF, List.find?_eq_none.2 fun p hp => by simp only [hno p hp]; decide]
  (repeat (first | refine gO rfl ?_ | (refine gR fun K1 hK1 => ?_; simp only [go_sem, ↓reduceIte, reduceCtorEq, nA, nB, nC, nD, nE, nF] <;> and_intros <;> first | (apply hK1; clear hK1 K1) | (intros; first | omega | decide) | skip)))
  refine awp_cond (t := _) rfl (fun _ => ?_) (fun h9 => by simp at h9)
  (repeat (first | refine gO rfl ?_ | (refine gR fun K1 hK1 => ?_; simp only [go_sem, ↓reduceIte, reduceCtorEq, nA, nB, nC, nD, nE, nF] <;> and_intros <;> first | (apply hK1; clear hK1 K1) | (intros; first | omega | decide) | skip)))
  simp only [Tryz.results54, go_sem, ↓reduceIte, reduceCtorEq, nA, nB, nC, nD, nE, nF]
  exact ⟨_, _, Weak.refl _, Hp.le.refl _, by rw [ef]; rfl, rfl⟩
 ·rw [e]
  have ef : findF item K ps = .ptr (ps.getD j0 default) 0 := by
   have hfd : ps.find? (fun p => (K p).1 == item) = some (ps.getD j0 default) := List.find?_eq_some_iff_getElem.2 ⟨hp0, j0, hj0, by rw [List.getD_eq_getElem?_getD, List.getElem?_eq_getElem hj0]; rfl, fun i hi => by
    have := hn0 i hi
    rw [List.getD_eq_getElem?_getD, List.getElem?_eq_getElem (by omega)] at this
    simpa using this⟩
   rw [findF, hfd]
  have gx : (ps.map encR).getD j0 [] = encR (ps.getD j0 default) := getD_enc encR ps j0 default hj0
  (repeat (first | refine gO rfl ?_ | (refine gR fun K1 hK1 => ?_; simp only [go_sem, ↓reduceIte, reduceCtorEq, nA, nB, nC, nD, nE, nF] <;> and_intros <;> first | (apply hK1; clear hK1 K1) | (intros; first | omega | decide) | skip)))
  refine awp_cond (t := _) rfl (fun h9 => by simp at h9; omega) (fun _ => ?_)
  (repeat (first | refine gO rfl ?_ | (refine gR fun K1 hK1 => ?_; simp only [go_sem, ↓reduceIte, reduceCtorEq, nA, nB, nC, nD, nE, nF, hC, encCa, hT, hml, Int.toNat_natCast, gx, encR] <;> and_intros <;> first | (apply hK1; clear hK1 K1) | (intros; first | omega | decide) | skip)))
  simp only [Tryz.results54, go_sem, ↓reduceIte, reduceCtorEq, nA, nB, nC, nD, nE, nF]
  exact ⟨_, _, Weak.refl _, Hp.le.refl _, ef.symm, rfl⟩
def orderL (rule : Int) (L : List Kp) : List Kp := sortI (cmpK rule) (L.filter fun x => !x.2.2.1)
def overL (item : ByteArray) : List Kp → Int → Int
  | [], o => o
  | x :: l, o => overL item l (if x.1 = item then o else o + x.2.1)
def goL (item : ByteArray) : List Kp → Int → List Kp × Int
  | [], o => ([], o)
  | x :: l, o => if o ≤ 0 then ([], o) else if x.1 = item then goL item l o else (x :: (goL item l (o - x.2.1)).1, (goL item l (o - x.2.1)).2)
def goingL (item : ByteArray) (bytes room rule : Int) (L : List Kp) : List Kp × Int := goL item (orderL rule L) (overL item L (bytes - room))
theorem insR_map {α β : Type} (f : α → β) (c : β → β → Int) : ∀ (r : List α) (x : α), (insR (fun a b => c (f a) (f b)) r x).map f = insR c (r.map f) (f x)
  | [], _ => rfl
  | y :: r, x => by
    unfold insR
    simp only [List.map_cons]
    split
    · rw [List.map_cons, insR_map f c r x]
    · simp
theorem foldI_map {α β : Type} (f : α → β) (c : β → β → Int) : ∀ (xs r : List α), (xs.foldl (insR (fun a b => c (f a) (f b))) r).map f = (xs.map f).foldl (insR c) (r.map f)
  | [], _ => rfl
  | x :: xs, r => by rw [List.foldl_cons, foldI_map f c xs, insR_map, List.map_cons, List.foldl_cons]
theorem sortI_map {α β : Type} (f : α → β) (c : β → β → Int) (xs : List α) : (sortI (fun a b => c (f a) (f b)) xs).map f = sortI c (xs.map f) := by
  unfold sortI insS
  rw [List.map_reverse, foldI_map]; rfl
theorem orderF_map (rule : Int) (K : Nat → Kp) (ps : List Nat) : (orderF rule K ps).map K = orderL rule (ps.map K) := by
  unfold orderF orderL
  rw [sortI_map, List.filter_map]; rfl
theorem overF_map (item : ByteArray) (K : Nat → Kp) : ∀ (ps : List Nat) (o : Int), overF item K ps o = overL item (ps.map K) o
  | [], _ => rfl
  | p :: ps, o => by rw [overF, List.map_cons, overL, overF_map item K ps]
theorem goF_map (item : ByteArray) (K : Nat → Kp) : ∀ (ps : List Nat) (o : Int), ((goF item K ps o).1.map K, (goF item K ps o).2) = goL item (ps.map K) o
  | [], _ => rfl
  | p :: ps, o => by
    rw [List.map_cons, goF, goL]
    split
    · rfl
    · split
      · exact goF_map item K ps o
      · have := goF_map item K ps (o - (K p).2.1)
        rw [Prod.ext_iff] at this
        rw [← this.1, ← this.2]; rfl
theorem goingF_map (item : ByteArray) (bytes room rule : Int) (K : Nat → Kp) (ps : List Nat) : ((goingF item bytes room rule K ps).1.map K, (goingF item bytes room rule K ps).2) = goingL item bytes room rule (ps.map K) := by
  unfold goingF goingL
  rw [goF_map, orderF_map, overF_map]
def newK (item : ByteArray) (bytes now : Int) : Kp := (item, bytes, false, now + 1, now + 1, 1)
def askF (t : Int) (x : Kp) : Kp := (x.1, x.2.1, x.2.2.1, x.2.2.2.1, t, x.2.2.2.2.2 + 1)
def setB (b : Int) (x : Kp) : Kp := (x.1, b, x.2.2.1, x.2.2.2.1, x.2.2.2.2.1, x.2.2.2.2.2)
def hasL (item : ByteArray) (L : List Kp) : Bool := L.any fun x => x.1 == item
def atK (item : ByteArray) (f : Kp → Kp) (L : List Kp) : List Kp := L.map fun x => if x.1 = item then f x else x
def leftL (gone L : List Kp) : List Kp := L.filter fun x => !gone.any fun y => y.1 == x.1
def putL (room rule now : Int) (L : List Kp) (item : ByteArray) (bytes : Int) : Option (List Kp × List Kp) :=
  if (goingL item bytes room rule L).2 ≤ 0 then some (if hasL item L then atK item (fun x => askF (now + 1) (setB bytes x)) (leftL (goingL item bytes room rule L).1 L) else leftL (goingL item bytes room rule L).1 L ++ [newK item bytes now], (goingL item bytes room rule L).1) else none
def missL (room rule : Int) : List ByteArray → Int → List Kp → Int → Option Int
  | [], _, _, n => some n
  | s :: l, now, L, n => if hasL s L then missL room rule l (now + 1) (atK s (askF (now + 1)) L) n else
    match putL room rule now L s 1 with
    | some (L', _) => missL room rule l (now + 1) L' (n + 1)
    | none => none
theorem goL_mem (item : ByteArray) : ∀ (l : List Kp) (o : Int) {x : Kp}, x ∈ (goL item l o).1 → x ∈ l ∧ x.1 ≠ item
  | [], _, _, h => by simp [goL] at h
  | y :: l, o, x, h => by
    rw [goL] at h
    split at h
    · simp at h
    · split at h
      · have := goL_mem item l o h; exact ⟨List.mem_cons_of_mem _ this.1, this.2⟩
      · rename_i e
        rcases List.mem_cons.1 h with rfl | h
        · exact ⟨List.mem_cons_self, e⟩
        · have := goL_mem item l _ h; exact ⟨List.mem_cons_of_mem _ this.1, this.2⟩
theorem hasL_iff {item : ByteArray} {L : List Kp} : hasL item L = true ↔ ∃ x ∈ L, x.1 = item := by
  unfold hasL
  rw [List.any_eq_true]
  constructor
  · rintro ⟨x, hx, h⟩; exact ⟨x, hx, by rw [ba_beq] at h; simpa using h⟩
  · rintro ⟨x, hx, h⟩; exact ⟨x, hx, by rw [ba_beq]; simpa using h⟩
def KeysOne (L : List Kp) : Prop := L.Pairwise fun x y => x.1 ≠ y.1
theorem keysOne_mem {L : List Kp} (h : KeysOne L) {x y : Kp} (hx : x ∈ L) (hy : y ∈ L) (e : x.1 = y.1) : x = y := by
  induction L with
  | nil => cases hx
  | cons z l ih =>
    obtain ⟨h1, h2⟩ := List.pairwise_cons.1 h
    rcases List.mem_cons.1 hx with ex | hx
    · rcases List.mem_cons.1 hy with ey | hy
      · rw [ex, ey]
      · exact absurd (ex ▸ e) (h1 y hy)
    · rcases List.mem_cons.1 hy with ey | hy
      · exact absurd (ey ▸ e.symm) (h1 x hx)
      · exact ih h2 hx hy
theorem keysOne_map {K : Nat → Kp} {ps : List Nat} (h : KeysOne (ps.map K)) {p q : Nat} (hp : p ∈ ps) (hq : q ∈ ps) (e : (K p).1 = (K q).1) : p = q := by
  induction ps with
  | nil => cases hp
  | cons z l ih =>
    rw [List.map_cons] at h
    obtain ⟨h1, h2⟩ := List.pairwise_cons.1 h
    have h1' : ∀ y ∈ l, (K z).1 ≠ (K y).1 := fun y hy => h1 _ (List.mem_map_of_mem hy)
    rcases List.mem_cons.1 hp with ep | hp
    · rcases List.mem_cons.1 hq with eq | hq
      · rw [ep, eq]
      · exact absurd (ep ▸ e) (h1' q hq)
    · rcases List.mem_cons.1 hq with eq | hq
      · exact absurd (eq ▸ e.symm) (h1' p hp)
      · exact ih h2 hp hq
theorem stayF_map {K : Nat → Kp} {gone ps : List Nat} (h : KeysOne (ps.map K)) (hg : ∀ p ∈ gone, p ∈ ps) : (stayF gone ps).map K = leftL (gone.map K) (ps.map K) := by
  unfold stayF leftL
  rw [List.filter_map]
  congr 1
  refine List.filter_congr fun p hp => ?_
  simp only [Function.comp, List.any_map]
  congr 1
  rw [Bool.eq_iff_iff, List.contains_iff_mem, List.any_eq_true]
  constructor
  · intro hm; exact ⟨p, hm, by show ((K p).1 == (K p).1) = true; rw [ba_beq]; simp⟩
  · rintro ⟨q, hq, e⟩
    have e2 : (K q).1 = (K p).1 := by
      have e3 : ((K q).1 == (K p).1) = true := e
      rw [ba_beq] at e3; simpa using e3
    rwa [keysOne_map h (hg q hq) hp e2] at hq
theorem keysOne_filter {L : List Kp} (h : KeysOne L) (p : Kp → Bool) : KeysOne (L.filter p) := h.filter p
theorem atK_map {K : Nat → Kp} {ps : List Nat} {p : Nat} {item : ByteArray} (f : Kp → Kp) (h : KeysOne (ps.map K)) (hp : p ∈ ps) (hk : (K p).1 = item) : ps.map (fun q => if q = p then f (K p) else K q) = atK item f (ps.map K) := by
  unfold atK
  rw [List.map_map]
  refine List.map_congr_left fun q hq => ?_
  simp only [Function.comp]
  by_cases e : q = p
  · subst e; rw [if_pos rfl, if_pos hk]
  · rw [if_neg e, if_neg fun e2 => e (keysOne_map h hq hp (e2.trans hk.symm))]
theorem atK_keys (item : ByteArray) (f : Kp → Kp) (hf : ∀ x, (f x).1 = x.1) (L : List Kp) : (atK item f L).map (·.1) = L.map (·.1) := by
  unfold atK
  rw [List.map_map]
  refine List.map_congr_left fun x _ => ?_
  simp only [Function.comp]
  split <;> simp [hf]
theorem keysOne_iff (L : List Kp) : KeysOne L ↔ (L.map (·.1)).Pairwise (· ≠ ·) := by rw [List.pairwise_map]; rfl
theorem atK_one {item : ByteArray} {f : Kp → Kp} (hf : ∀ x, (f x).1 = x.1) {L : List Kp} (h : KeysOne L) : KeysOne (atK item f L) := by
  rw [keysOne_iff, atK_keys item f hf, ← keysOne_iff]; exact h
theorem leftL_sub {gone L : List Kp} {x : Kp} (h : x ∈ leftL gone L) : x ∈ L := (List.mem_filter.1 h).1
theorem hasL_keys {item : ByteArray} {L L' : List Kp} (h : L.map (·.1) = L'.map (·.1)) : hasL item L = hasL item L' := by
  have e : ∀ M : List Kp, hasL item M = (M.map (·.1)).any (· == item) := fun M => by rw [List.any_map]; rfl
  rw [e, e, h]
theorem putL_one {room rule now bytes : Int} {L L' g : List Kp} {item : ByteArray} (h : putL room rule now L item bytes = some (L', g)) (h1 : KeysOne L) : KeysOne L' := by
  unfold putL at h
  split at h
  · simp only [Option.some.injEq, Prod.mk.injEq] at h
    obtain ⟨rfl, _⟩ := h
    split
    · exact atK_one (f := fun x => askF (now + 1) (setB bytes x)) (fun _ => rfl) (keysOne_filter h1 _)
    · rename_i hh
      refine List.pairwise_append.2 ⟨keysOne_filter h1 _, by simp, fun x hx y hy => ?_⟩
      simp only [List.mem_singleton] at hy
      subst hy
      intro e
      exact hh (hasL_iff.2 ⟨x, leftL_sub hx, e⟩)
  · cases h
theorem g_ask {x : Kp} {ci p k n : Nat} {room rule now : Int} {h : Hp} (hC : h.H ci = some (.cells (encCa room rule now k n))) (hp : h.H p = some (.cells (encKp x))) (hcp : ci ≠ p)
  (h1 : 0 ≤ now ∧ now ≤ 1000000000) (h2 : 0 ≤ x.2.2.2.2.2 ∧ x.2.2.2.2.2 ≤ 1000000000) :
  ACalls Tryz.prog 58 [.ptr ci 0, .ptr p 0] h (fun r h' => r = .tup [] ∧ h' = ⟨upd (upd h.H ci (some (.cells (encCa room rule (now + 1) k n)))) p (some (.cells (encKp (askF (now + 1) x)))), h.T⟩) := by
 obtain ⟨ke, b, pi, ca, la, ma⟩ := x
 have hpc : p ≠ ci := fun e => hcp e.symm
 refine gE Tryz.func58 rfl (by kernel_rfl) 23 rfl fun c => ?_
 (repeat (first | refine gO rfl ?_ | (refine gR fun K1 hK1 => ?_; simp only [go_sem, ↓reduceIte, reduceCtorEq, nA, nB, nC, nD, nE, nF, hC, hp, encKp, encCa, upd_same, upd_other _ _ hpc, upd_other _ _ hcp] <;> and_intros <;> first | (apply hK1; clear hK1 K1) | (intros; first | omega | decide | (simp_all <;> omega)) | skip)))
 simp only [Tryz.results58, go_sem, ↓reduceIte, reduceCtorEq, nA, nB, nC, nD, nE, nF]
 exact ⟨_, _, Weak.refl _, Hp.le.refl _, rfl, rfl⟩
theorem idxR_contains (p : Nat) (ps : List Nat) : decide (0 ≤ idxR (fun q => p == q) ps) = ps.contains p := by
 rcases idxR_cases (fun q => p == q) ps with ⟨hno, e⟩ | ⟨j, hj, e, hp, _⟩
 ·rw [e]
  cases hc : ps.contains p with
  | false => rfl
  | true => have := hno p (List.contains_iff_mem.1 hc); simp at this
 ·rw [e]
  have hm : ps.contains p = true := by
   rw [List.contains_iff_mem]
   have e1 : p = ps.getD j default := eq_of_beq hp
   rw [e1, List.getD_eq_getElem?_getD, List.getElem?_eq_getElem hj]
   exact List.getElem_mem _
  rw [hm]; simp
theorem g_indexK {K : Nat → Kp} (p k : Nat) (ps : List Nat) (h : Hp) (hp : h.H p = some (.cells (encKp (K p)))) (hK : CacheH h K ps) (hl : ps.length ≤ 100000) :
  ACalls Tryz.prog 98 [.row 1 (ps.map encR) (some k), .ptr p 0] h (fun r h' => r = .v (.int .i64 (idxR (fun q => p == q) ps)) ∧ h' = h) := by
 have hml : (ps.map encR).length = ps.length := List.length_map _
 refine gE Tryz.func98 rfl (by kernel_rfl) 17 rfl fun c => ?_
 (repeat (first | refine gO rfl ?_ | (refine gM zM1B fun K1 hK1 => ?_; simp only [go_sem, ↓reduceIte, reduceCtorEq, nA, nB, nC, nD, nE, nF] <;> and_intros <;> first | (apply hK1; clear hK1 K1) | (intros; first | omega | decide | (simp_all <;> omega)) | skip)))
 refine awp_loopC (rl false [0, 2, 5, 2, 10]) 0 (fun g s => ∃ j : Nat, g + j = ps.length ∧ (∀ i, i < j → (p == ps.getD i default) = false) ∧
  s = ⟨((.row 1 (ps.map encR) (some k)) :: (.ptr p 0) :: (jnk 5 ((.v (.int .i64 ps.length)) :: (.v (.int .i64 j)) :: (jnk 10 [])))), [], h⟩) ps.length ⟨0, by omega, fun i hi => by omega, by rw [← hml]; rfl⟩ ?_
 rintro g _ ⟨j, hj, hn, rfl⟩
 (repeat (first | refine gO rfl ?_ | (refine gM zM1B fun K1 hK1 => ?_; simp only [go_sem, ↓reduceIte, reduceCtorEq, nA, nB, nC, nD, nE, nF] <;> and_intros <;> first | (apply hK1; clear hK1 K1) | (intros; first | omega | decide) | skip)))
 refine awp_cond (t := _) rfl (fun h1 => ?_) (fun h1 => ?_)
 ·simp only [decide_eq_true_eq] at h1
  have hjl : j < ps.length := by omega
  have gx : (ps.map encR).getD j [] = encR (ps.getD j default) := getD_enc encR ps j default hjl
  obtain ⟨q, hq⟩ : ∃ q, ps.getD j default = q := ⟨_, rfl⟩
  have hhq : h.H q = some (.cells (encKp (K q))) := hK q (by rw [← hq, List.getD_eq_getElem?_getD, List.getElem?_eq_getElem hjl]; exact List.getElem_mem _)
  rw [hq] at gx
  (repeat (first | refine gO rfl ?_ | (refine gM zM1B fun K1 hK1 => ?_; simp only [go_sem, ↓reduceIte, reduceCtorEq, nA, nB, nC, nD, nE, nF, hml, Int.toNat_natCast, gx, encR, hp, hhq] <;> and_intros <;> first | (apply hK1; clear hK1 K1) | (intros; first | omega | decide) | skip)))
  cases hb : (p == q) with
  | true =>
   refine awp_cond (t := _) rfl (fun _ => ?_) (fun h9 => by cases h9)
   (repeat (first | refine gO rfl ?_ | (refine gM zM1B fun K1 hK1 => ?_; simp only [go_sem, ↓reduceIte, reduceCtorEq, nA, nB, nC, nD, nE, nF] <;> and_intros <;> first | (apply hK1; clear hK1 K1) | (intros; first | omega | decide) | skip)))
   simp only [Tryz.results98, go_sem, ↓reduceIte, reduceCtorEq, nA, nB, nC, nD, nE, nF]
   exact ⟨_, _, Weak.refl _, Hp.le.refl _, by rw [idxR_at hjl (by rw [hq]; exact hb) hn], rfl⟩
  | false =>
   refine awp_cond (t := _) rfl (fun h9 => by cases h9) (fun _ => ?_)
   (repeat (first | refine gO rfl ?_ | (refine gM zM1B fun K1 hK1 => ?_; simp only [go_sem, ↓reduceIte, reduceCtorEq, nA, nB, nC, nD, nE, nF] <;> and_intros <;> first | (apply hK1; clear hK1 K1) | (intros; first | omega | decide) | skip)))
   refine ⟨g - 1, by omega, j + 1, by omega, fun i hi => ?_, rfl⟩
   rcases Nat.lt_succ_iff_lt_or_eq.1 hi with h9 | rfl
   ·exact hn i h9
   ·rw [hq]; exact hb
 ·simp only [decide_eq_false_iff_not] at h1
  (repeat (first | refine gO rfl ?_ | (refine gM zM1B fun K1 hK1 => ?_; simp only [go_sem, ↓reduceIte, reduceCtorEq, nA, nB, nC, nD, nE, nF] <;> and_intros <;> first | (apply hK1; clear hK1 K1) | (intros; first | omega | decide) | skip)))
  simp only [Tryz.results98, go_sem, ↓reduceIte, reduceCtorEq, nA, nB, nC, nD, nE, nF]
  exact ⟨_, _, Weak.refl _, Hp.le.refl _, by rw [idxR_no (fun i hi => hn i (by omega))], rfl⟩
theorem g_hasK {K : Nat → Kp} (p k : Nat) (ps : List Nat) (h : Hp) (hp : h.H p = some (.cells (encKp (K p)))) (hK : CacheH h K ps) (hl : ps.length ≤ 100000) :
  ACalls Tryz.prog 57 [.row 1 (ps.map encR) (some k), .ptr p 0] h (fun r h' => r = .v (.bool (ps.contains p)) ∧ h' = h) := by
 have hix := g_indexK p k ps h hp hK hl
 rw [← idxR_contains]
 generalize idxR (fun q => p == q) ps = ix at *
 generalize ps.map encR = rw0 at *
 refine gE Tryz.func57 rfl (by kernel_rfl) 7 rfl fun c => ?_
 (repeat (first | refine gO rfl ?_ | (refine gR fun K1 hK1 => ?_; simp only [go_sem, ↓reduceIte, reduceCtorEq, nA, nB, nC, nD, nE, nF] <;> and_intros <;> first | (apply hK1; clear hK1 K1) | (intros; first | omega | decide | (simp_all <;> omega)) | skip)))
 refine hix.mono ?_; rintro _ hz ⟨rfl, hh⟩; apply hK1; clear hK1 K1; rw [hh]; clear hh hz
 (repeat (first | refine gO rfl ?_ | (refine gR fun K1 hK1 => ?_; simp only [go_sem, ↓reduceIte, reduceCtorEq, nA, nB, nC, nD, nE, nF] <;> and_intros <;> first | (apply hK1; clear hK1 K1) | (intros; first | omega | decide) | skip)))
 simp only [Tryz.results57, go_sem, ↓reduceIte, reduceCtorEq, nA, nB, nC, nD, nE, nF]
 exact ⟨_, _, Weak.refl _, Hp.le.refl _, rfl, rfl⟩
theorem g_put1 {K : Nat → Kp} (p k g : Nat) (ps : List Nat) (h : Hp) (hg : h.H g = some (.cells [.row 1 (ps.map encR) (some k)])) (hp : h.H p = some (.cells (encKp (K p)))) (hK : CacheH h K ps) (hl : ps.length ≤ 100000) :
  ACalls Tryz.prog 56 ([.ptr p 0] ++ [.ptr g 0]) h (fun r h' => r = .v (.bool (ps.contains p)) ∧ h' = h) := by
 have hix := g_hasK p k ps h hp hK hl
 generalize ps.contains p = ix at *
 generalize ps.map encR = rw0 at *
 refine gE Tryz.func56 rfl (by kernel_rfl) 5 rfl fun c => ?_
 (repeat (first | refine gO rfl ?_ | (refine gR fun K1 hK1 => ?_; simp only [go_sem, ↓reduceIte, reduceCtorEq, nA, nB, nC, nD, nE, nF, hg] <;> and_intros <;> first | (apply hK1; clear hK1 K1) | (intros; first | omega | decide | (simp_all <;> omega)) | skip)))
 refine hix.mono ?_; rintro _ hz ⟨rfl, hh⟩; apply hK1; clear hK1 K1; rw [hh]; clear hh hz
 (repeat (first | refine gO rfl ?_ | (refine gR fun K1 hK1 => ?_; simp only [go_sem, ↓reduceIte, reduceCtorEq, nA, nB, nC, nD, nE, nF] <;> and_intros <;> first | (apply hK1; clear hK1 K1) | (intros; first | omega | decide) | skip)))
 simp only [Tryz.results56, go_sem, ↓reduceIte, reduceCtorEq, nA, nB, nC, nD, nE, nF]
 exact ⟨_, _, Weak.refl _, Hp.le.refl _, rfl, rfl⟩
theorem g_nan (x : Int) (h : Hp) : ACalls Tryz.prog 109 [.v (.int .i64 x)] h (fun r h' => r = .v (.bool false) ∧ h' = h) := by
 refine gE Tryz.func109 rfl (by kernel_rfl) 5 rfl fun c => ?_
 (repeat (first | refine gO rfl ?_ | (refine gR fun K1 hK1 => ?_; simp only [go_sem, ↓reduceIte, reduceCtorEq, nA, nB, nC, nD, nE, nF] <;> and_intros <;> first | (apply hK1; clear hK1 K1) | (intros; first | omega | decide | (simp_all <;> omega)) | skip)))
 simp only [Tryz.results109, go_sem, ↓reduceIte, reduceCtorEq, nA, nB, nC, nD, nE, nF]
 exact ⟨_, _, Weak.refl _, Hp.le.refl _, by simp, rfl⟩
theorem g_cmpI (x y : Int) (h : Hp) : ACalls Tryz.prog 70 [.v (.int .i64 x), .v (.int .i64 y)] h (fun r h' => r = .v (.int .i64 (cmpI x y)) ∧ h' = h) := by
 have n1 := g_nan x h
 have n2 := g_nan y h
 refine gE Tryz.func70 rfl (by kernel_rfl) 18 rfl fun c => ?_
 (repeat (first | refine gO rfl ?_ | (refine gR fun K1 hK1 => ?_; simp only [go_sem, ↓reduceIte, reduceCtorEq, nA, nB, nC, nD, nE, nF] <;> and_intros <;> first | (apply hK1; clear hK1 K1) | (intros; first | omega | decide | (simp_all <;> omega)) | skip)))
 refine n1.mono ?_; rintro _ hz ⟨rfl, hh⟩; apply hK1; clear hK1 K1; rw [hh]; clear hh hz
 (repeat (first | refine gO rfl ?_ | (refine gR fun K1 hK1 => ?_; simp only [go_sem, ↓reduceIte, reduceCtorEq, nA, nB, nC, nD, nE, nF] <;> and_intros <;> first | (apply hK1; clear hK1 K1) | (intros; first | omega | decide) | skip)))
 refine n2.mono ?_; rintro _ hz ⟨rfl, hh⟩; apply hK1; clear hK1 K1; rw [hh]; clear hh hz
 (repeat (first | refine gO rfl ?_ | (refine gR fun K1 hK1 => ?_; simp only [go_sem, ↓reduceIte, reduceCtorEq, nA, nB, nC, nD, nE, nF] <;> and_intros <;> first | (apply hK1; clear hK1 K1) | (intros; first | omega | decide) | skip)))
 refine awp_cond (t := _) rfl (fun h9 => by cases h9) (fun _ => ?_)
 (repeat (first | refine gO rfl ?_ | (refine gR fun K1 hK1 => ?_; simp only [go_sem, ↓reduceIte, reduceCtorEq, nA, nB, nC, nD, nE, nF] <;> and_intros <;> first | (apply hK1; clear hK1 K1) | (intros; first | omega | decide) | skip)))
 refine awp_cond (t := _) rfl (fun h9 => by cases h9) (fun _ => ?_)
 (repeat (first | refine gO rfl ?_ | (refine gR fun K1 hK1 => ?_; simp only [go_sem, ↓reduceIte, reduceCtorEq, nA, nB, nC, nD, nE, nF] <;> and_intros <;> first | (apply hK1; clear hK1 K1) | (intros; first | omega | decide) | skip)))
 refine awp_cond (t := _) rfl (fun h1 => ?_) (fun h1 => ?_)
 ·simp only [decide_eq_true_eq] at h1
  (repeat (first | refine gO rfl ?_ | (refine gR fun K1 hK1 => ?_; simp only [go_sem, ↓reduceIte, reduceCtorEq, nA, nB, nC, nD, nE, nF] <;> and_intros <;> first | (apply hK1; clear hK1 K1) | (intros; first | omega | decide) | skip)))
  simp only [Tryz.results70, go_sem, ↓reduceIte, reduceCtorEq, nA, nB, nC, nD, nE, nF]
  exact ⟨_, _, Weak.refl _, Hp.le.refl _, by rw [cmpI, if_pos h1], rfl⟩
 ·simp only [decide_eq_false_iff_not] at h1
  (repeat (first | refine gO rfl ?_ | (refine gR fun K1 hK1 => ?_; simp only [go_sem, ↓reduceIte, reduceCtorEq, nA, nB, nC, nD, nE, nF] <;> and_intros <;> first | (apply hK1; clear hK1 K1) | (intros; first | omega | decide) | skip)))
  refine awp_cond (t := _) rfl (fun h2 => ?_) (fun h2 => ?_)
  ·simp only [decide_eq_true_eq] at h2
   (repeat (first | refine gO rfl ?_ | (refine gR fun K1 hK1 => ?_; simp only [go_sem, ↓reduceIte, reduceCtorEq, nA, nB, nC, nD, nE, nF] <;> and_intros <;> first | (apply hK1; clear hK1 K1) | (intros; first | omega | decide) | skip)))
   simp only [Tryz.results70, go_sem, ↓reduceIte, reduceCtorEq, nA, nB, nC, nD, nE, nF]
   exact ⟨_, _, Weak.refl _, Hp.le.refl _, by rw [cmpI, if_neg h1, if_pos (by omega)], rfl⟩
  ·simp only [decide_eq_false_iff_not] at h2
   (repeat (first | refine gO rfl ?_ | (refine gR fun K1 hK1 => ?_; simp only [go_sem, ↓reduceIte, reduceCtorEq, nA, nB, nC, nD, nE, nF] <;> and_intros <;> first | (apply hK1; clear hK1 K1) | (intros; first | omega | decide) | skip)))
   simp only [Tryz.results70, go_sem, ↓reduceIte, reduceCtorEq, nA, nB, nC, nD, nE, nF]
   exact ⟨_, _, Weak.refl _, Hp.le.refl _, by rw [cmpI, if_neg h1, if_neg (by omega)], rfl⟩
theorem g_order1 {x : Kp} {p : Nat} {h : Hp} (hp : h.H p = some (.cells (encKp x))) :
  ACalls Tryz.prog 105 ([.ptr p 0] ++ []) h (fun r h' => r = .v (.bool x.2.2.1) ∧ h' = h) := by
 obtain ⟨k, b, pi, ca, la, ma⟩ := x
 refine gE Tryz.func105 rfl (by kernel_rfl) 6 rfl fun c => ?_
 (repeat (first | refine gO rfl ?_ | (refine gR fun K1 hK1 => ?_; simp only [go_sem, ↓reduceIte, reduceCtorEq, nA, nB, nC, nD, nE, nF, hp, encKp] <;> and_intros <;> first | (apply hK1; clear hK1 K1) | (intros; first | omega | decide | (simp_all <;> omega)) | skip)))
 simp only [Tryz.results105, go_sem, ↓reduceIte, reduceCtorEq, nA, nB, nC, nD, nE, nF]
 exact ⟨_, _, Weak.refl _, Hp.le.refl _, rfl, rfl⟩
theorem g_cloneK (k : Nat) (ps : List Nat) (h : Hp) (hT : h.T k = some (.cont 1 (ps.map encR))) (hl : ps.length ≤ 100000) :
  ACalls Tryz.prog 104 [.arr 1 k ps.length] h (fun r h' => ∃ q, r = .arr 1 q ps.length ∧ h.T q = none ∧ h' = ⟨h.H, upd h.T q (some (.cont 1 (ps.map encR)))⟩) := by
 have hml : (ps.map encR).length = ps.length := List.length_map _
 refine gE Tryz.func104 rfl (by kernel_rfl) 7 rfl fun c => ?_
 (repeat (first | refine gO rfl ?_ | (refine gM zM1C fun K1 hK1 => ?_; simp only [go_sem, ↓reduceIte, reduceCtorEq, nA, nB, nC, nD, nE, nF] <;> and_intros <;> first | (apply hK1; clear hK1 K1) | (intros; first | omega | decide | (simp_all <;> omega)) | skip)))
 ·intro h0
  refine hK1 _ ?_; clear hK1 K1
  (repeat (first | refine gO rfl ?_ | (refine gM zM1C fun K1 hK1 => ?_; simp only [go_sem, ↓reduceIte, reduceCtorEq, nA, nB, nC, nD, nE, nF] <;> and_intros <;> first | (apply hK1; clear hK1 K1) | (intros; first | omega | decide) | skip)))
  refine awp_cond (t := _) rfl (fun _ => ?_) (fun h9 => by cases h9)
  (repeat refine gO rfl ?_)
  refine awp_seq ?_
  refine awp_AL ?_
  refine AL.cons rfl (Quiet.aop (q_move (.inr rfl)) ?_)
  refine AL.nil ?_
  refine awp_ownA 2 1 rfl ⟨rfl, rfl⟩ (fun q hq => ?_)
  refine awp_cut (rl false [2, 1, 5]) 0 (?_ : Awp _ _ _ _ ⟨(AV.junk :: AV.junk :: ((.arr 1 q 0) :: (jnk 5 []))), [], ⟨h.H, upd h.T q (some (.cont 1 []))⟩⟩)
  obtain rfl := List.eq_nil_of_length_eq_zero h0
  (repeat (first | refine gO rfl ?_ | (refine gM zM1C fun K1 hK1 => ?_; simp only [go_sem, ↓reduceIte, reduceCtorEq, nA, nB, nC, nD, nE, nF] <;> and_intros <;> first | (apply hK1; clear hK1 K1) | (intros; first | omega | decide) | skip)))
  simp only [Tryz.results104, go_sem, ↓reduceIte, reduceCtorEq, nA, nB, nC, nD, nE, nF]
  exact ⟨_, _, Weak.refl _, Hp.le.refl _, q, rfl, hq, rfl⟩
 ·(repeat (first | refine gO rfl ?_ | (refine gM zM1C fun K1 hK1 => ?_; simp only [go_sem, ↓reduceIte, reduceCtorEq, nA, nB, nC, nD, nE, nF] <;> and_intros <;> first | (apply hK1; clear hK1 K1) | (intros; first | omega | decide) | skip)))
  refine awp_cond (t := _) rfl (fun h9 => by cases h9) (fun _ => ?_)
  (repeat (first | refine gO rfl ?_ | (refine gM zM1C fun K1 hK1 => ?_; simp only [go_sem, ↓reduceIte, reduceCtorEq, nA, nB, nC, nD, nE, nF, hT, hml] <;> and_intros <;> first | (apply hK1; clear hK1 K1) | (intros; first | omega | decide) | skip)))
  intro q hq
  have hqk : k ≠ q := by rintro rfl; rw [hT] at hq; cases hq
  simp only [upd_other _ _ hqk, hT, hml, and_self, if_true]
  refine ⟨⟨trivial, rfl, .inl trivial⟩, ⟨by simp; omega, by simp; omega⟩, hK1 _ ?_⟩; clear hK1 K1
  (repeat (first | refine gO rfl ?_ | (refine gM zM1C fun K1 hK1 => ?_; simp only [go_sem, ↓reduceIte, reduceCtorEq, nA, nB, nC, nD, nE, nF] <;> and_intros <;> first | (apply hK1; clear hK1 K1) | (intros; first | omega | decide) | skip)))
  simp only [Tryz.results104, go_sem, ↓reduceIte, reduceCtorEq, nA, nB, nC, nD, nE, nF]
  exact ⟨_, _, Weak.refl _, Hp.le.refl _, q, rfl, hq, rfl⟩
end Go.Proofs.YtgnknjlgcinboaaGreatDoor
