/- The numbers that a stream hands out. -/
import Derived.Test.YtidkkmoiolffnaaGreatDoorAvRun
import Derived.Test.YtidkkmoiolffnaaGreatDoorAvTy
import Derived.Test.YtidkkmoiolffnaaGreatDoorAvFz
import Derived.Test.YtidkkmoiolffnaaGreatDoorAvOwn
import Derived.Lib.Hide
import Derived.WalkKit
import Derived.WalkSpells
import Derived.WalkLawsBesides
import Derived.Deep.QuietTactic
import Derived.BigQuiet
import Derived.Test.YtidkkmoiolffnaaGreatDoorProg
import Derived.Test.YtidkkmoiolffnaaGreatDoorShelf
import Derived.Deep.DeepCutAuto
import Derived.Deep.LoopGhost
import Derived.Shelf.Strings.SlTrimAscii
import Derived.Lib.SlicesCompact
import Derived.Sort.KeysCollected
import Derived.Sort.Walk0
import Derived.Lib.ItoaMem
import Derived.Shelf.Strings.Builder1
import Derived.Test.YtidkkmoiolffnaaGreatDoorAvOld
namespace Go.Proofs.YtidkkmoiolffnaaGreatDoor
open Go
set_option linter.unusedVariables false
set_option linter.unusedSimpArgs false
open Nat renaming reduceAdd → nA, reduceSub → nB, reduceMul → nC, reduceLT → nD, reduceLeDiff → nE, reduceEqDiff → nF, reduceMod → nG, reduceDiv → nH, reducePow → nI
abbrev zM10 : Option Tmp → Nat := mdL []
abbrev zM11 : Option Tmp → Nat := mdL [(5, 1)]
abbrev zM12 : Option Tmp → Nat := mdL [(3, 2)]
attribute [go_sem] zM10 zM11 zM12
abbrev zP0E : List Nat := [0, 1, 2, 3, 4, 5, 6, 7, 8, 9, 10, 11]
abbrev zP0P : List (Nat × List Nat × List Nat) := []
abbrev zP1E : List Nat := [0, 1, 2, 3, 4, 5, 6, 7, 8, 9, 10, 11]
abbrev zP1P : List (Nat × List Nat × List Nat) := []
attribute [go_sem] zP0E zP0P zP1E zP1P
set_option maxRecDepth 100000
theorem a_outside (x lo hi : Int) (h : Hp) : ACalls Tryz.prog 74 [.v (.int .i64 x), .v (.int .i64 lo), .v (.int .i64 hi)] h (fun r h' => r = .v (.bool (decide (x < lo) || decide (hi < x))) ∧ h' = h) := by
 refine gE Tryz.func74 rfl (by kernel_rfl) 12 rfl fun c => ?_
 (repeat (first | refine gO rfl ?_ | (refine gR fun K1 hK1 => ?_; simp only [go_sem, ↓reduceIte, reduceCtorEq, nA, nB, nC, nD, nE, nF] <;> and_intros <;> first | (apply hK1; clear hK1 K1) | (intros; first | omega | decide | (simp_all <;> omega)) | skip)))
 simp only [Tryz.results74, go_sem, ↓reduceIte, reduceCtorEq, nA, nB, nC, nD, nE, nF]
 exact ⟨_, _, Weak.refl _, Hp.le.refl _, rfl, rfl⟩
def belowV (x n : Int) : Int := if n < 1 then 0 else x % n
theorem a_below (x n : Int) (h : Hp) (hx : -9223372036854775808 ≤ x ∧ x ≤ 9223372036854775807) (hn : n ≤ 9000000000000000000) : ACalls Tryz.prog 69 [.v (.int .i64 x), .v (.int .i64 n)] h (fun r h' => r = .v (.int .i64 (belowV x n)) ∧ h' = h) := by
 refine gE Tryz.func69 rfl (by kernel_rfl) 14 rfl fun c => ?_
 (repeat (first | refine gO rfl ?_ | (refine gR fun K1 hK1 => ?_; simp only [go_sem, ↓reduceIte, reduceCtorEq, nA, nB, nC, nD, nE, nF] <;> and_intros <;> first | (apply hK1; clear hK1 K1) | (intros; first | omega | decide | (simp_all <;> omega)) | skip)))
 refine awp_cond (t := _) rfl (fun h1 => ?_) (fun h1 => ?_)
 ·(repeat (first | refine gO rfl ?_ | (refine gR fun K1 hK1 => ?_; simp only [go_sem, ↓reduceIte, reduceCtorEq, nA, nB, nC, nD, nE, nF] <;> and_intros <;> first | (apply hK1; clear hK1 K1) | (intros; first | omega | decide | (simp_all <;> omega)) | skip)))
  simp only [Tryz.results69, go_sem, ↓reduceIte, reduceCtorEq, nA, nB, nC, nD, nE, nF]
  exact ⟨_, _, Weak.refl _, Hp.le.refl _, by simp only [belowV]; rw [if_pos (by simpa using h1)], rfl⟩
 ·have h2 : 1 ≤ n := by simpa using h1
  (repeat (first | refine gO rfl ?_ | (refine gR fun K1 hK1 => ?_; simp only [go_sem, ↓reduceIte, reduceCtorEq, nA, nB, nC, nD, nE, nF] <;> and_intros <;> first | (apply hK1; clear hK1 K1) | (intros; first | omega | decide | (simp_all <;> omega)) | skip)))
  have e1 : x.tmod n = if 0 ≤ x ∨ n ∣ x then x % n else x % n - n := by rw [Int.tmod_eq_emod]; split <;> omega
  have m0 := Int.emod_nonneg x (show n ≠ 0 by omega)
  have m1 := Int.emod_lt_of_pos x (show 0 < n by omega)
  refine awp_cond (t := _) rfl (fun h3 => ?_) (fun h3 => ?_)
  ·(repeat (first | refine gO rfl ?_ | (refine gR fun K1 hK1 => ?_; simp only [go_sem, ↓reduceIte, reduceCtorEq, nA, nB, nC, nD, nE, nF] <;> and_intros <;> first | (apply hK1; clear hK1 K1) | (intros; first | omega | decide | (simp_all <;> omega)) | skip)))
   simp only [Tryz.results69, go_sem, ↓reduceIte, reduceCtorEq, nA, nB, nC, nD, nE, nF]
   exact ⟨_, _, Weak.refl _, Hp.le.refl _, by
    simp only [decide_eq_true_eq] at h3
    simp only [belowV]; rw [if_neg (by omega)]
    congr 3; rw [e1] at h3 ⊢; split at h3 <;> simp_all <;> omega, rfl⟩
  ·(repeat (first | refine gO rfl ?_ | (refine gR fun K1 hK1 => ?_; simp only [go_sem, ↓reduceIte, reduceCtorEq, nA, nB, nC, nD, nE, nF] <;> and_intros <;> first | (apply hK1; clear hK1 K1) | (intros; first | omega | decide | (simp_all <;> omega)) | skip)))
   simp only [Tryz.results69, go_sem, ↓reduceIte, reduceCtorEq, nA, nB, nC, nD, nE, nF]
   exact ⟨_, _, Weak.refl _, Hp.le.refl _, by
    simp only [decide_eq_false_iff_not] at h3
    simp only [belowV]; rw [if_neg (by omega)]
    congr 3; rw [e1] at h3 ⊢; split at h3 <;> simp_all <;> omega, rfl⟩
theorem belowV_bd {x n : Int} (hn : 1 ≤ n) : 0 ≤ belowV x n ∧ belowV x n < n := by
 unfold belowV; rw [if_neg (by omega)]
 exact ⟨Int.emod_nonneg x (by omega), Int.emod_lt_of_pos x (by omega)⟩
def encI (x : Int) : List AV := [.v (.int .i64 x)]
def rowI (l : List Int) : AV := .row 1 (l.map encI) none
def strm (l : List Int) (a : Int) : AO := .cells [rowI l, .v (.int .i64 a)]
def nextV (l : List Int) (a n : Int) : Int := if l.length = 0 then belowV ((a + 1) * 7919) n else belowV (belowV (l.getD (a % l.length).toNat 0) 1073741824 + (a / l.length) * (7919 + a % l.length)) n
theorem a_next (i : Nat) (l : List Int) (a n : Int) (h : Hp) (hi : h.H i = some (strm l a)) (ha : 0 ≤ a ∧ a ≤ 1000000000) (hn : n ≤ 9000000000000000000) (hl : l.length ≤ 9223372036854775807) (hv : ∀ x ∈ l, -9223372036854775808 ≤ x ∧ x ≤ 9223372036854775807) :
  ACalls Tryz.prog 14 [.ptr i 0, .v (.int .i64 n)] h (fun r h' => r = .v (.int .i64 (nextV l a n)) ∧ h' = { h with H := upd h.H i (some (strm l (a + 1))) }) := by
 refine gE Tryz.func14 rfl (by kernel_rfl) 62 rfl fun c => ?_
 (repeat (first | refine gO rfl ?_ | ((first | refine gR ?_ | (with_reducible refine wM ?_ ?_) | ((with_reducible refine xS ?_); refine uD 4 zM10 zP0E zP0P 64 rfl (by kernel_rfl) ?_) | ((with_reducible refine xS ?_); refine uD 5 zM10 zP1E zP1P 64 rfl (by kernel_rfl) ?_)) <;> ((try with_reducible intro K1 hK1); simp only [go_sem, ↓reduceIte, reduceCtorEq, nA, nB, nC, nD, nE, nF, hi, strm, rowI] <;> and_intros <;> first | (apply hK1; clear hK1 K1) | (intros; first | omega | decide | (simp_all <;> omega)) | skip))))
 refine awp_cond (t := _) rfl (fun h1 => ?_) (fun h1 => ?_)
 ·have h0 : l.length = 0 := by simpa using h1
  (repeat (first | refine gO rfl ?_ | ((first | refine gR ?_ | (with_reducible refine wM ?_ ?_) | ((with_reducible refine xS ?_); refine uD 4 zM10 zP0E zP0P 64 rfl (by kernel_rfl) ?_) | ((with_reducible refine xS ?_); refine uD 5 zM10 zP1E zP1P 64 rfl (by kernel_rfl) ?_)) <;> ((try with_reducible intro K1 hK1); simp only [go_sem, ↓reduceIte, reduceCtorEq, nA, nB, nC, nD, nE, nF] <;> and_intros <;> first | (apply hK1; clear hK1 K1) | (intros; first | omega | decide | (simp_all <;> omega)) | skip))))
  refine (a_below ((a + 1) * 7919) n _ (by omega) hn).mono ?_; rintro _ _ ⟨rfl, rfl⟩; apply hK1; clear hK1 K1
  (repeat (first | refine gO rfl ?_ | ((first | refine gR ?_ | (with_reducible refine wM ?_ ?_) | ((with_reducible refine xS ?_); refine uD 4 zM10 zP0E zP0P 64 rfl (by kernel_rfl) ?_) | ((with_reducible refine xS ?_); refine uD 5 zM10 zP1E zP1P 64 rfl (by kernel_rfl) ?_)) <;> ((try with_reducible intro K1 hK1); simp only [go_sem, ↓reduceIte, reduceCtorEq, nA, nB, nC, nD, nE, nF] <;> and_intros <;> first | (apply hK1; clear hK1 K1) | (intros; first | omega | decide | (simp_all <;> omega)) | skip))))
  simp only [Tryz.results14, go_sem, ↓reduceIte, reduceCtorEq, nA, nB, nC, nD, nE, nF]
  exact ⟨_, _, Weak.refl _, Hp.le.refl _, by simp only [nextV]; rw [if_pos h0], rfl⟩
 ·have h0 : l.length ≠ 0 := by simpa using h1
  have hq : a.tdiv l.length = a / l.length := Int.tdiv_eq_ediv_of_nonneg ha.1
  have hr : a.tmod l.length = a % l.length := Int.tmod_eq_emod_of_nonneg ha.1
  have q0 : 0 ≤ a / (l.length : Int) := Int.ediv_nonneg ha.1 (by omega)
  have q1 : a / (l.length : Int) ≤ a := Int.ediv_le_self _ ha.1
  have r0 := Int.emod_nonneg a (show (l.length : Int) ≠ 0 by omega)
  have r1 := Int.emod_lt_of_pos a (show (0 : Int) < l.length by omega)
  have r2 : a % (l.length : Int) ≤ a := by
   have := Int.emod_add_mul_ediv a l.length
   have := Int.mul_nonneg (show (0 : Int) ≤ l.length by omega) q0
   omega
  have hg := getD_enc encI l (a % (l.length : Int)).toNat 0 (by omega)
  have hx : -9223372036854775808 ≤ l.getD (a % (l.length : Int)).toNat 0 ∧ l.getD (a % (l.length : Int)).toNat 0 ≤ 9223372036854775807 := by
   rw [List.getD_eq_getElem?_getD, List.getElem?_eq_getElem (show (a % (l.length : Int)).toNat < l.length by omega)]
   exact hv _ (List.getElem_mem _)
  have hm0 : 0 ≤ a / (l.length : Int) * (7919 + a % l.length) := Int.mul_nonneg q0 (by omega)
  have hm1 : a / (l.length : Int) * (7919 + a % l.length) ≤ 7920 * a := by
   have e1 : a / (l.length : Int) * (7919 + a % l.length) = 7919 * (a / l.length) + a / l.length * (a % l.length) := by rw [Int.mul_add, Int.mul_comm _ 7919]
   have e2 : a / (l.length : Int) * (a % l.length) ≤ a / l.length * l.length := Int.mul_le_mul_of_nonneg_left (by omega) q0
   have e3 : a / (l.length : Int) * l.length ≤ a := Int.ediv_mul_le a (by omega)
   omega
  have hb := belowV_bd (x := l.getD (a % (l.length : Int)).toNat 0) (n := 1073741824) (by omega)
  (repeat (first | refine gO rfl ?_ | ((first | refine gR ?_ | (with_reducible refine wM ?_ ?_) | ((with_reducible refine xS ?_); refine uD 4 zM10 zP0E zP0P 64 rfl (by kernel_rfl) ?_) | ((with_reducible refine xS ?_); refine uD 5 zM10 zP1E zP1P 64 rfl (by kernel_rfl) ?_)) <;> ((try with_reducible intro K1 hK1); simp only [go_sem, ↓reduceIte, reduceCtorEq, nA, nB, nC, nD, nE, nF, hq, hr, hg, encI] <;> and_intros <;> first | (apply hK1; clear hK1 K1) | (intros; first | omega | decide | (simp_all <;> omega)) | skip))))
  refine (a_below _ _ _ hx (by omega)).mono ?_; rintro _ _ ⟨rfl, rfl⟩; apply hK1; clear hK1 K1
  (repeat (first | refine gO rfl ?_ | ((first | refine gR ?_ | (with_reducible refine wM ?_ ?_) | ((with_reducible refine xS ?_); refine uD 4 zM10 zP0E zP0P 64 rfl (by kernel_rfl) ?_) | ((with_reducible refine xS ?_); refine uD 5 zM10 zP1E zP1P 64 rfl (by kernel_rfl) ?_)) <;> ((try with_reducible intro K1 hK1); simp only [go_sem, ↓reduceIte, reduceCtorEq, nA, nB, nC, nD, nE, nF] <;> and_intros <;> first | (apply hK1; clear hK1 K1) | (intros; first | omega | decide | (simp_all <;> omega)) | skip))))
  refine (a_below _ _ _ (by omega) hn).mono ?_; rintro _ _ ⟨rfl, rfl⟩; apply hK1; clear hK1 K1
  (repeat (first | refine gO rfl ?_ | ((first | refine gR ?_ | (with_reducible refine wM ?_ ?_) | ((with_reducible refine xS ?_); refine uD 4 zM10 zP0E zP0P 64 rfl (by kernel_rfl) ?_) | ((with_reducible refine xS ?_); refine uD 5 zM10 zP1E zP1P 64 rfl (by kernel_rfl) ?_)) <;> ((try with_reducible intro K1 hK1); simp only [go_sem, ↓reduceIte, reduceCtorEq, nA, nB, nC, nD, nE, nF] <;> and_intros <;> first | (apply hK1; clear hK1 K1) | (intros; first | omega | decide | (simp_all <;> omega)) | skip))))
  simp only [Tryz.results14, go_sem, ↓reduceIte, reduceCtorEq, nA, nB, nC, nD, nE, nF]
  exact ⟨_, _, Weak.refl _, Hp.le.refl _, by simp only [nextV]; rw [if_neg h0], rfl⟩
def SOk (l : List Int) : Prop := l.length ≤ 9223372036854775807 ∧ ∀ x ∈ l, -9223372036854775808 ≤ x ∧ x ≤ 9223372036854775807
def Hp.st (h : Hp) (i : Nat) (l : List Int) (a : Int) : Hp := { h with H := upd h.H i (some (strm l a)) }
theorem st_at (h : Hp) (i : Nat) (l : List Int) (a : Int) : (h.st i l a).H i = some (strm l a) := upd_same _ _ _
theorem st_st (h : Hp) (i : Nat) (l : List Int) (a b : Int) : (h.st i l a).st i l b = h.st i l b := by
 simp only [Hp.st]
 congr 1
 exact upd_upd _ _ _ _
theorem nextV_bd {l : List Int} {a n : Int} (hn : 1 ≤ n) : 0 ≤ nextV l a n ∧ nextV l a n < n := by
 unfold nextV; split <;> exact belowV_bd hn
theorem g_next (i : Nat) (l : List Int) (a n : Int) (h : Hp) (hl : SOk l) (ha : 0 ≤ a ∧ a ≤ 1000000000) (hn : 1 ≤ n ∧ n ≤ 9000000000000000000) :
  ACalls Tryz.prog 14 [.ptr i 0, .v (.int .i64 n)] (h.st i l a) (fun r h' => ∃ x : Int, (0 ≤ x ∧ x < n) ∧ r = .v (.int .i64 x) ∧ h' = h.st i l (a + 1)) :=
 (a_next i l a n (h.st i l a) (st_at _ _ _ _) ha hn.2 hl.1 hl.2).mono fun r h' ⟨e, e2⟩ => ⟨nextV l a n, nextV_bd hn.1, e, e2.trans (st_st _ _ _ _ _)⟩
theorem g_flip (i : Nat) (l : List Int) (a n : Int) (h : Hp) (hl : SOk l) (ha : 0 ≤ a ∧ a ≤ 1000000000) (hn : 1 ≤ n ∧ n ≤ 9000000000000000000) :
  ACalls Tryz.prog 68 [.ptr i 0, .v (.int .i64 n)] (h.st i l a) (fun r h' => ∃ b : Bool, r = .v (.bool b) ∧ h' = h.st i l (a + 1)) := by
 refine gE Tryz.func68 rfl (by kernel_rfl) 7 rfl fun c => ?_
 (repeat (first | refine gO rfl ?_ | (refine gR fun K1 hK1 => ?_; simp only [go_sem, ↓reduceIte, reduceCtorEq, nA, nB, nC, nD, nE, nF] <;> and_intros <;> first | (apply hK1; clear hK1 K1) | (intros; first | omega | decide | (simp_all <;> omega)) | skip)))
 refine (g_next i l a n h hl ha hn).mono ?_; rintro _ _ ⟨x, hx, rfl, rfl⟩; apply hK1; clear hK1 K1
 (repeat (first | refine gO rfl ?_ | (refine gR fun K1 hK1 => ?_; simp only [go_sem, ↓reduceIte, reduceCtorEq, nA, nB, nC, nD, nE, nF] <;> and_intros <;> first | (apply hK1; clear hK1 K1) | (intros; first | omega | decide | (simp_all <;> omega)) | skip)))
 simp only [Tryz.results68, go_sem, ↓reduceIte, reduceCtorEq, nA, nB, nC, nD, nE, nF]
 exact ⟨_, _, Weak.refl _, Hp.le.refl _, _, rfl, rfl⟩
theorem g_range (i : Nat) (l : List Int) (a lo hi : Int) (h : Hp) (hl : SOk l) (ha : 0 ≤ a ∧ a ≤ 1000000000) (h1 : -4000000000000000000 ≤ lo) (h2 : lo ≤ hi) (h3 : hi ≤ 4000000000000000000) :
  ACalls Tryz.prog 20 [.ptr i 0, .v (.int .i64 lo), .v (.int .i64 hi)] (h.st i l a) (fun r h' => ∃ x : Int, (lo ≤ x ∧ x ≤ hi) ∧ r = .v (.int .i64 x) ∧ h' = h.st i l (a + 1)) := by
 refine gE Tryz.func20 rfl (by kernel_rfl) 16 rfl fun c => ?_
 (repeat (first | refine gO rfl ?_ | (refine gR fun K1 hK1 => ?_; simp only [go_sem, ↓reduceIte, reduceCtorEq, nA, nB, nC, nD, nE, nF] <;> and_intros <;> first | (apply hK1; clear hK1 K1) | (intros; first | omega | decide | (simp_all <;> omega)) | skip)))
 refine awp_cond (t := _) rfl (fun h4 => ?_) (fun h4 => ?_)
 ·exfalso; simp only [decide_eq_true_eq] at h4; omega
 ·(repeat (first | refine gO rfl ?_ | (refine gR fun K1 hK1 => ?_; simp only [go_sem, ↓reduceIte, reduceCtorEq, nA, nB, nC, nD, nE, nF] <;> and_intros <;> first | (apply hK1; clear hK1 K1) | (intros; first | omega | decide | (simp_all <;> omega)) | skip)))
  refine (g_next i l a (hi - lo + 1) h hl ha (by omega)).mono ?_; rintro _ _ ⟨x, hx, rfl, rfl⟩; apply hK1; clear hK1 K1
  (repeat (first | refine gO rfl ?_ | (refine gR fun K1 hK1 => ?_; simp only [go_sem, ↓reduceIte, reduceCtorEq, nA, nB, nC, nD, nE, nF] <;> and_intros <;> first | (apply hK1; clear hK1 K1) | (intros; first | omega | decide | (simp_all <;> omega)) | skip)))
  simp only [Tryz.results20, go_sem, ↓reduceIte, reduceCtorEq, nA, nB, nC, nD, nE, nF]
  exact ⟨_, _, Weak.refl _, Hp.le.refl _, lo + x, by omega, rfl, rfl⟩
theorem getD_mem {l : List Int} {x : Int} (h : 0 ≤ x ∧ x < l.length) : l.getD x.toNat 0 ∈ l := by
 rw [List.getD_eq_getElem?_getD, List.getElem?_eq_getElem (show x.toNat < l.length by omega)]
 exact List.getElem_mem _
theorem g_pick (i : Nat) (l : List Int) (a : Int) (ps : List Int) (k : Option Nat) (h : Hp) (hl : SOk l) (ha : 0 ≤ a ∧ a ≤ 1000000000) (hp : 1 ≤ ps.length ∧ ps.length ≤ 100) :
  ACalls Tryz.prog 21 [.ptr i 0, .row 1 (ps.map encI) k] (h.st i l a) (fun r h' => ∃ x ∈ ps, r = .v (.int .i64 x) ∧ h' = h.st i l (a + 1)) := by
 refine gE Tryz.func21 rfl (by kernel_rfl) 10 rfl fun c => ?_
 (repeat (first | refine gO rfl ?_ | (refine gR fun K1 hK1 => ?_; simp only [go_sem, ↓reduceIte, reduceCtorEq, nA, nB, nC, nD, nE, nF] <;> and_intros <;> first | (apply hK1; clear hK1 K1) | (intros; first | omega | decide | (simp_all <;> omega)) | skip)))
 refine (g_next i l a ps.length h hl ha (by omega)).mono ?_; rintro _ _ ⟨x, hx, rfl, rfl⟩; apply hK1; clear hK1 K1
 have hg := getD_enc encI ps x.toNat 0 (by omega)
 (repeat (first | refine gO rfl ?_ | (refine gR fun K1 hK1 => ?_; simp only [go_sem, ↓reduceIte, reduceCtorEq, nA, nB, nC, nD, nE, nF, hg, encI] <;> and_intros <;> first | (apply hK1; clear hK1 K1) | (intros; first | omega | decide | (simp_all <;> omega)) | skip)))
 simp only [Tryz.results21, go_sem, ↓reduceIte, reduceCtorEq, nA, nB, nC, nD, nE, nF]
 exact ⟨_, _, Weak.refl _, Hp.le.refl _, _, getD_mem hx, rfl, rfl⟩
def encS (x : ByteArray) : List AV := [.v (.string x)]
theorem getD_memS {l : List ByteArray} {x : Int} (h : 0 ≤ x ∧ x < l.length) (d : ByteArray) : l.getD x.toNat d ∈ l := by
 rw [List.getD_eq_getElem?_getD, List.getElem?_eq_getElem (show x.toNat < l.length by omega)]
 exact List.getElem_mem _
theorem g_some (i : Nat) (l : List Int) (a : Int) (ps : List ByteArray) (k : Option Nat) (h : Hp) (hl : SOk l) (ha : 0 ≤ a ∧ a ≤ 1000000000) (hp : 1 ≤ ps.length ∧ ps.length ≤ 100) :
  ACalls Tryz.prog 67 [.ptr i 0, .row 1 (ps.map encS) k] (h.st i l a) (fun r h' => ∃ x ∈ ps, r = .v (.string x) ∧ h' = h.st i l (a + 1)) := by
 refine gE Tryz.func67 rfl (by kernel_rfl) 10 rfl fun c => ?_
 (repeat (first | refine gO rfl ?_ | (refine gR fun K1 hK1 => ?_; simp only [go_sem, ↓reduceIte, reduceCtorEq, nA, nB, nC, nD, nE, nF] <;> and_intros <;> first | (apply hK1; clear hK1 K1) | (intros; first | omega | decide | (simp_all <;> omega)) | skip)))
 refine (g_next i l a ps.length h hl ha (by omega)).mono ?_; rintro _ _ ⟨x, hx, rfl, rfl⟩; apply hK1; clear hK1 K1
 have hg := getD_enc encS ps x.toNat default (by omega)
 (repeat (first | refine gO rfl ?_ | (refine gR fun K1 hK1 => ?_; simp only [go_sem, ↓reduceIte, reduceCtorEq, nA, nB, nC, nD, nE, nF, hg, encS] <;> and_intros <;> first | (apply hK1; clear hK1 K1) | (intros; first | omega | decide | (simp_all <;> omega)) | skip)))
 simp only [Tryz.results67, go_sem, ↓reduceIte, reduceCtorEq, nA, nB, nC, nD, nE, nF]
 exact ⟨_, _, Weak.refl _, Hp.le.refl _, _, getD_memS hx _, rfl, rfl⟩
theorem g_odd (i : Nat) (l : List Int) (a lo hi : Int) (h : Hp) (hl : SOk l) (ha : 0 ≤ a ∧ a ≤ 900000000) (h1 : -4000000000000000 ≤ lo) (h2 : lo ≤ hi) (h3 : hi ≤ 4000000000000000) :
  ACalls Tryz.prog 89 [.ptr i 0, .v (.int .i64 lo), .v (.int .i64 hi)] (h.st i l a) (fun r h' => ∃ x a' : Int, (-5000000000000000 ≤ x ∧ x ≤ 5000000000000000) ∧ (a ≤ a' ∧ a' ≤ a + 2) ∧ r = .v (.int .i64 x) ∧ h' = h.st i l a') := by
 refine gE Tryz.func89 rfl (by kernel_rfl) 19 rfl fun c => ?_
 (repeat (first | refine gO rfl ?_ | (refine gR fun K1 hK1 => ?_; simp only [go_sem, ↓reduceIte, reduceCtorEq, nA, nB, nC, nD, nE, nF] <;> and_intros <;> first | (apply hK1; clear hK1 K1) | (intros; first | omega | decide | (simp_all <;> omega)) | skip)))
 refine (g_flip i l a 12 h hl (by omega) (by omega)).mono ?_; rintro _ _ ⟨b, rfl, rfl⟩; apply hK1; clear hK1 K1
 (repeat (first | refine gO rfl ?_ | (refine gR fun K1 hK1 => ?_; simp only [go_sem, ↓reduceIte, reduceCtorEq, nA, nB, nC, nD, nE, nF] <;> and_intros <;> first | (apply hK1; clear hK1 K1) | (intros; first | omega | decide | (simp_all <;> omega)) | skip)))
 refine awp_cond (t := _) rfl (fun h4 => ?_) (fun h4 => ?_)
 ·(repeat (first | refine gO rfl ?_ | (refine gR fun K1 hK1 => ?_; simp only [go_sem, ↓reduceIte, reduceCtorEq, nA, nB, nC, nD, nE, nF] <;> and_intros <;> first | (apply hK1; clear hK1 K1) | (intros; first | omega | decide | (simp_all <;> omega)) | skip)))
  refine (g_pick i l (a + 1) [lo - 1, hi + 1, lo, hi, -1099511627776, 1099511627776] none h hl (by omega) (by simp)).mono ?_; rintro _ _ ⟨x, hx, rfl, rfl⟩; apply hK1; clear hK1 K1
  (repeat (first | refine gO rfl ?_ | (refine gR fun K1 hK1 => ?_; simp only [go_sem, ↓reduceIte, reduceCtorEq, nA, nB, nC, nD, nE, nF] <;> and_intros <;> first | (apply hK1; clear hK1 K1) | (intros; first | omega | decide | (simp_all <;> omega)) | skip)))
  simp only [Tryz.results89, go_sem, ↓reduceIte, reduceCtorEq, nA, nB, nC, nD, nE, nF]
  exact ⟨_, _, Weak.refl _, Hp.le.refl _, x, a + 1 + 1, by simp at hx; omega, by omega, rfl, rfl⟩
 ·(repeat (first | refine gO rfl ?_ | (refine gR fun K1 hK1 => ?_; simp only [go_sem, ↓reduceIte, reduceCtorEq, nA, nB, nC, nD, nE, nF] <;> and_intros <;> first | (apply hK1; clear hK1 K1) | (intros; first | omega | decide | (simp_all <;> omega)) | skip)))
  refine (g_range i l (a + 1) lo hi h hl (by omega) (by omega) h2 (by omega)).mono ?_; rintro _ _ ⟨x, hx, rfl, rfl⟩; apply hK1; clear hK1 K1
  (repeat (first | refine gO rfl ?_ | (refine gR fun K1 hK1 => ?_; simp only [go_sem, ↓reduceIte, reduceCtorEq, nA, nB, nC, nD, nE, nF] <;> and_intros <;> first | (apply hK1; clear hK1 K1) | (intros; first | omega | decide | (simp_all <;> omega)) | skip)))
  simp only [Tryz.results89, go_sem, ↓reduceIte, reduceCtorEq, nA, nB, nC, nD, nE, nF]
  exact ⟨_, _, Weak.refl _, Hp.le.refl _, x, a + 1 + 1, by omega, by omega, rfl, rfl⟩
inductive LT where
 | mk (kind : Int) (item : ByteArray) (long many : Int) (kids : List LT) (shares : List Int)
instance : Inhabited LT := ⟨.mk 0 default 0 0 [] []⟩
def encL : LT → List AV
 | .mk kind item long many kids shares => [.v (.int .i64 kind), .v (.string item), .v (.int .i64 long), .v (.int .i64 many), .row 6 (kids.map encL) none, .row 1 (shares.map encI) none]
theorem encL_eq (kind : Int) (item : ByteArray) (long many : Int) (kids : List LT) (shares : List Int) : encL (.mk kind item long many kids shares) = [.v (.int .i64 kind), .v (.string item), .v (.int .i64 long), .v (.int .i64 many), .row 6 (kids.map encL) none, .row 1 (shares.map encI) none] := by rw [encL]
theorem encL_len (t : LT) : (encL t).length = 6 := by cases t; rw [encL_eq]; rfl
def WL (cs ds : List AV) : Prop := cs.length = ds.length ∧ ∀ j, Weak (cs.getD j .junk) (ds.getD j .junk)
theorem WL.nil : WL [] [] := ⟨rfl, fun _ => Weak.refl _⟩
theorem WL.cons {a b : AV} {cs ds : List AV} (h : Weak a b) (k : WL cs ds) : WL (a :: cs) (b :: ds) := ⟨by simp [k.1], fun j => by
 cases j with
 | zero => exact h
 | succ j => exact k.2 j⟩
theorem Weak.agg {cs ds : List AV} (h : WL cs ds) : Weak (.agg cs) (.agg ds) := fun G v hr => by
 cases hr with
 | agg _ vs u hl hu hr h1 =>
  refine .agg _ vs u (by rw [hl, h.1]) (fun j hj => hu j (by rw [h.1]; exact hj)) (fun j hj => ?_) (fun j hj => h1 j (by rw [h.1]; exact hj))
  have hj' : j < cs.length := by rw [h.1]; exact hj
  have := h.2 j G _ (by rw [List.getD_eq_getElem?_getD, List.getElem?_eq_getElem hj']; exact hr j hj')
  rwa [List.getD_eq_getElem?_getD, List.getElem?_eq_getElem hj] at this
def NB (x : Int) : Prop := -5000000000000000 ≤ x ∧ x ≤ 5000000000000000
def LB : Nat → LT → Prop
 | 0, _ => False
 | d + 1, .mk kind item long many kids shares => NB kind ∧ item.size ≤ 2 ∧ NB long ∧ NB many ∧ kids.length ≤ 3 ∧ shares.length ≤ 4 ∧ (∀ x ∈ shares, NB x) ∧ ∀ k ∈ kids, LB d k
theorem LB.mono : ∀ {d e : Nat} {t : LT}, LB d t → d ≤ e → LB e t
 | 0, _, _, h, _ => h.elim
 | d + 1, 0, _, _, h => by omega
 | d + 1, e + 1, .mk .., h, hd => ⟨h.1, h.2.1, h.2.2.1, h.2.2.2.1, h.2.2.2.2.1, h.2.2.2.2.2.1, h.2.2.2.2.2.2.1, fun k hk => (h.2.2.2.2.2.2.2 k hk).mono (by omega)⟩
def OLd (b : Bool) (T : Nat → Option TO) (S : Nat → Prop) : Nat → List AV → Prop
 | 0, _ => False
 | d + 1, cs => ∃ (kind : Int) (item : ByteArray) (long many : Int) (K Sh : AV), cs = [.v (.int .i64 kind), .v (.string item), .v (.int .i64 long), .v (.int .i64 many), K, Sh] ∧
   (NB kind ∧ item.size ≤ 2 ∧ NB long ∧ NB many) ∧
   (K = .v (.slice none 0 0) ∨ (∃ q css, S q ∧ T q = some (.cont 6 css) ∧ K = .arr 6 q css.length ∧ 0 < css.length ∧ css.length ≤ 3 ∧ ∀ c ∈ css, OLd b T S d c) ∨ (b = false ∧ ∃ css, K = .row 6 css none ∧ css.length ≤ 3 ∧ ∀ c ∈ css, OLd b T S d c)) ∧
   (Sh = .v (.slice none 0 0) ∨ ∃ (xs : List Int) (k : Nat), Sh = .row 1 (xs.map encI) (some k) ∧ xs.length ≤ 5 ∧ (∀ x ∈ xs, NB x) ∧ (b = true → S k ∧ T k = some (.tail xs.length) ∧ xs.length ≤ 4))
theorem OLd.len {b : Bool} {T : Nat → Option TO} {S : Nat → Prop} {d : Nat} {cs : List AV} (h : OLd b T S d cs) : cs.length = 6 := by
 cases d with
 | zero => exact h.elim
 | succ d => obtain ⟨_, _, _, _, _, _, rfl, _⟩ := h; rfl
theorem OLd.keep {b : Bool} {T T' : Nat → Option TO} {S : Nat → Prop} (hT : ∀ k, S k → (∃ x, T k = some (.cont 6 x)) → T' k = T k) (hs : b = true → ∀ k n, T k = some (.tail n) → T' k = some (.tail n)) : ∀ {d : Nat} {cs : List AV}, OLd b T S d cs → OLd b T' S d cs
 | 0, _, h => h.elim
 | d + 1, cs, ⟨kind, item, long, many, K, Sh, e, h1, h2, h3⟩ => by
  refine ⟨kind, item, long, many, K, Sh, e, h1, ?_, ?_⟩
  ·rcases h2 with h2 | ⟨q, css, hq, hTq, hK, hp, hl, hc⟩ | ⟨hbf, css, hK, hl, hc⟩
   ·exact .inl h2
   ·exact .inr (.inl ⟨q, css, hq, by rw [hT q hq ⟨css, hTq⟩]; exact hTq, hK, hp, hl, fun c hc' => (hc c hc').keep hT hs⟩)
   ·exact .inr (.inr ⟨hbf, css, hK, hl, fun c hc' => (hc c hc').keep hT hs⟩)
  ·rcases h3 with h3 | ⟨xs, k, h3, hl, hx, hb⟩
   ·exact .inl h3
   ·exact .inr ⟨xs, k, h3, hl, hx, fun hb' => ⟨(hb hb').1, hs hb' k _ (hb hb').2.1, (hb hb').2.2⟩⟩
theorem OLd.more {b : Bool} {T : Nat → Option TO} {S S' : Nat → Prop} (hS : ∀ k, S k → S' k) : ∀ {d : Nat} {cs : List AV}, OLd b T S d cs → OLd b T S' d cs
 | 0, _, h => h.elim
 | d + 1, cs, ⟨kind, item, long, many, K, Sh, e, h1, h2, h3⟩ => by
  have h3' : Sh = .v (.slice none 0 0) ∨ ∃ (xs : List Int) (k : Nat), Sh = .row 1 (xs.map encI) (some k) ∧ xs.length ≤ 5 ∧ (∀ x ∈ xs, NB x) ∧ (b = true → S' k ∧ T k = some (.tail xs.length) ∧ xs.length ≤ 4) := by
   rcases h3 with h3 | ⟨xs, k, h3, h4, h5, h6⟩
   ·exact .inl h3
   ·exact .inr ⟨xs, k, h3, h4, h5, fun hb => ⟨hS k (h6 hb).1, (h6 hb).2⟩⟩
  refine ⟨kind, item, long, many, K, Sh, e, h1, ?_, h3'⟩
  rcases h2 with h2 | ⟨q, css, hq, hTq, hK, hp, hl, hc⟩ | ⟨hbf, css, hK, hl, hc⟩
  ·exact .inl h2
  ·exact .inr (.inl ⟨q, css, hS q hq, hTq, hK, hp, hl, fun c hc' => (hc c hc').more hS⟩)
  ·exact .inr (.inr ⟨hbf, css, hK, hl, fun c hc' => (hc c hc').more hS⟩)
theorem RepL.of6 {G G' : Gh} {a b c d e f a' b' c' d' e' f' : AV} {us : List Value} (h : RepL G [a, b, c, d, e, f] us) (h0 : ∀ x, Rep G a x → Rep G' a' x) (h1 : ∀ x, Rep G b x → Rep G' b' x) (h2 : ∀ x, Rep G c x → Rep G' c' x) (h3 : ∀ x, Rep G d x → Rep G' d' x)
  (h4 : ∀ x, Rep G e x → Rep G' e' x) (h5 : ∀ x, Rep G f x → Rep G' f' x) : RepL G' [a', b', c', d', e', f'] us := by
 refine ⟨h.1, fun j hj hj' => ⟨?_, (h.2 j hj hj').2⟩⟩
 have h9 := (h.2 j hj hj').1
 match j, hj with
 | 0, _ => exact h0 _ h9
 | 1, _ => exact h1 _ h9
 | 2, _ => exact h2 _ h9
 | 3, _ => exact h3 _ h9
 | 4, _ => exact h4 _ h9
 | 5, _ => exact h5 _ h9
 | j + 6, hj => simp at hj; omega
def LC : Nat → LT → Prop
 | 0, _ => False
 | d + 1, .mk kind item long many kids shares => NB kind ∧ item.size ≤ 2 ∧ NB long ∧ NB many ∧ kids.length ≤ 3 ∧ shares.length ≤ 5 ∧ (∀ x ∈ shares, NB x) ∧ ∀ k ∈ kids, LC d k
theorem LC.mono : ∀ {d e : Nat} {t : LT}, LC d t → d ≤ e → LC e t
 | 0, _, _, h, _ => h.elim
 | d + 1, 0, _, _, h => by omega
 | d + 1, e + 1, .mk .., h, hd => ⟨h.1, h.2.1, h.2.2.1, h.2.2.2.1, h.2.2.2.2.1, h.2.2.2.2.2.1, h.2.2.2.2.2.2.1, fun k hk => (h.2.2.2.2.2.2.2 k hk).mono (by omega)⟩
theorem OLd.list {b : Bool} {T : Nat → Option TO} {S : Nat → Prop} {G G' : Gh} {d : Nat} (ih : ∀ cs, OLd b T S d cs → ∃ t, LC d t ∧ ∀ us, RepL G cs us → RepL G' (encL t) us) : ∀ (css : List (List AV)) (_ : ∀ c ∈ css, OLd b T S d c),
  ∃ ts : List LT, ts.length = css.length ∧ (∀ t ∈ ts, LC d t) ∧ ∀ us, RepL G css.flatten us → RepL G' (ts.map encL).flatten us
 | [], _ => ⟨[], rfl, by simp, fun us h => by cases us with | nil => exact RepL.nil _ | cons => have := h.1; simp at this⟩
 | c :: css, h => by
  obtain ⟨t, ht, hr⟩ := ih c (h c (by simp))
  obtain ⟨ts, hl, hts, hrs⟩ := OLd.list ih css fun c hc => h c (by simp [hc])
  refine ⟨t :: ts, by simp [hl], by simpa using ⟨ht, hts⟩, fun us hu => ?_⟩
  have h1 := hu.take c.length
  have h2 := hu.drop c.length
  simp only [List.flatten_cons, List.take_left, List.drop_left] at h1 h2
  have := (hr _ h1).append (hrs _ h2)
  rw [List.take_append_drop] at this
  exact this
theorem OLd.freeze {b : Bool} {T : Nat → Option TO} {S : Nat → Prop} {G G' : Gh} (hle : GLe G G') (hf : Fzs T S G G') : ∀ (d : Nat) (cs : List AV), OLd b T S d cs → ∃ t, LC d t ∧ ∀ us, RepL G cs us → RepL G' (encL t) us
 | 0, _, h => h.elim
 | d + 1, cs, ⟨kind, item, long, many, K, Sh, e, ⟨b1, b2, b3, b4⟩, h2, h3⟩ => by
  subst e
  have hK : ∃ ts : List LT, ts.length ≤ 3 ∧ (∀ t ∈ ts, LC d t) ∧ ∀ x, Rep G K x → Rep G' (.row 6 (ts.map encL) none) x := by
   have hz : ∀ ts : List LT, ∀ y ∈ ts.map encL, y.length = 6 := fun ts y hy => by
    obtain ⟨t, _, rfl⟩ := List.mem_map.1 hy
    exact encL_len t
   rcases h2 with rfl | ⟨q, css, hq, hT, rfl, _, hl, hc⟩ | ⟨_, css, rfl, hl, hc⟩
   ·exact ⟨[], by simp, by simp, fun x hx => Weak.nil 6 0 0 ⟨rfl, rfl⟩ G' x (hx.mono hle)⟩
   ·obtain ⟨ts, htl, htb, hts⟩ := OLd.list (OLd.freeze hle hf d) css hc
    exact ⟨ts, by omega, htb, fun x hx => hf q 6 css x hq hT hx _ (by simpa using htl) (hz ts) hts⟩
   ·obtain ⟨ts, htl, htb, hts⟩ := OLd.list (OLd.freeze hle hf d) css hc
    exact ⟨ts, by omega, htb, fun x hx => hx.rowFlat hle (by simpa using htl) (hz ts) hts⟩
  have hS : ∃ xs : List Int, xs.length ≤ 5 ∧ (∀ x ∈ xs, NB x) ∧ ∀ x, Rep G Sh x → Rep G' (.row 1 (xs.map encI) none) x := by
   rcases h3 with rfl | ⟨xs, k, rfl, hl, hx, _⟩
   ·exact ⟨[], by simp, by simp, fun x hx => Weak.nil 1 0 0 ⟨rfl, rfl⟩ G' x (hx.mono hle)⟩
   ·exact ⟨xs, hl, hx, fun x hx => Weak.row _ _ _ G' x (hx.mono hle)⟩
  obtain ⟨ts, hl, htb, hts⟩ := hK
  obtain ⟨xs, hxl, hxb, hxs⟩ := hS
  refine ⟨.mk kind item long many ts xs, ⟨b1, b2, b3, b4, hl, hxl, hxb, htb⟩, fun us hu => ?_⟩
  rw [encL_eq]
  exact hu.of6 (fun x hx => hx.mono hle) (fun x hx => hx.mono hle) (fun x hx => hx.mono hle) (fun x hx => hx.mono hle) hts hxs
inductive AT where
 | mk (i c : Nat) (kids : List AT)
instance : Inhabited AT := ⟨.mk 0 0 []⟩
inductive PS where
 | mk (had : Int) (of : List Int) (kids : List PS)
instance : Inhabited PS := ⟨.mk 0 [] []⟩
def AT.id : AT → Nat
 | .mk i _ _ => i
def idsT : AT → List Nat
 | .mk i _ ks => i :: (ks.map idsT).flatten
def toksT : AT → List Nat
 | .mk _ c ks => c :: (ks.map toksT).flatten
theorem idsT_eq (i c : Nat) (ks : List AT) : idsT (.mk i c ks) = i :: (ks.map idsT).flatten := by rw [idsT]
theorem toksT_eq (i c : Nat) (ks : List AT) : toksT (.mk i c ks) = c :: (ks.map toksT).flatten := by rw [toksT]
theorem idsT_kid {i c : Nat} {ks : List AT} {j : Nat} (h : j < ks.length) {x : Nat} (hx : x ∈ idsT (ks.getD j default)) : x ∈ idsT (.mk i c ks) := by
 rw [idsT_eq]
 refine List.mem_cons_of_mem _ (List.mem_flatten.2 ⟨_, List.mem_map.2 ⟨_, ?_, rfl⟩, hx⟩)
 rw [List.getD_eq_getElem?_getD, List.getElem?_eq_getElem h]; exact List.getElem_mem _
theorem toksT_kid {i c : Nat} {ks : List AT} {j : Nat} (h : j < ks.length) {x : Nat} (hx : x ∈ toksT (ks.getD j default)) : x ∈ toksT (.mk i c ks) := by
 rw [toksT_eq]
 refine List.mem_cons_of_mem _ (List.mem_flatten.2 ⟨_, List.mem_map.2 ⟨_, ?_, rfl⟩, hx⟩)
 rw [List.getD_eq_getElem?_getD, List.getElem?_eq_getElem h]; exact List.getElem_mem _
def Sep : Nat → AT → Prop
 | 0, _ => False
 | d + 1, .mk i c az => ∀ j, j < az.length → (i ∉ idsT (az.getD j default) ∧ c ∉ toksT (az.getD j default) ∧ Sep d (az.getD j default)) ∧
   ∀ l, l < az.length → l ≠ j → (∀ x ∈ idsT (az.getD j default), x ∉ idsT (az.getD l default)) ∧ (∀ x ∈ toksT (az.getD j default), x ∉ toksT (az.getD l default))
structure RK where
 ex : LT → List AV
 cf : Int → List Int → List Int
def kidsC (az : List AT) (K : AV) : Prop := az = [] ∧ K = .v (.slice none 0 0) ∨ ∃ tk, K = .row 1 (az.map fun a => [.ptr a.id 0]) tk
def RAt (X : RK) (h : Hp) : Nat → LT → AT → PS → Prop
 | 0, _, _, _ => False
 | d + 1, .mk kind item long many kids shares, .mk i c az, .mk p cs ks =>
  (∃ K, h.H i = some (.cells ([.v (.int .i64 kind), .v (.string item), .v (.int .i64 long), .v (.int .i64 many), .row 6 (kids.map encL) none, .row 1 (shares.map encI) none, K, .v (.int .i64 p), .arr 1 c kids.length] ++ X.ex (.mk kind item long many kids shares))) ∧ kidsC az K) ∧
  h.T c = some (.cont 1 ((X.cf kind cs).map encI)) ∧ ((X.cf kind cs).length = kids.length ∧ cs.length = kids.length ∧ az.length = kids.length ∧ ks.length = kids.length) ∧
  ∀ j, j < kids.length → RAt X h d (kids.getD j default) (az.getD j default) (ks.getD j default)
theorem RAt.frame {X : RK} {h h' : Hp} : ∀ {d : Nat} {t : LT} {a : AT} {s : PS}, RAt X h d t a s → (∀ i ∈ idsT a, h'.H i = h.H i) → (∀ c ∈ toksT a, h'.T c = h.T c) → RAt X h' d t a s
 | 0, _, _, _, h, _, _ => h.elim
 | d + 1, .mk kind item long many kids shares, .mk i c az, .mk p cs ks, ⟨⟨K, h1, hK⟩, h2, h3, h4⟩, hi, hc =>
  ⟨⟨K, by rw [hi i (by rw [idsT_eq]; simp)]; exact h1, hK⟩, by rw [hc c (by rw [toksT_eq]; simp)]; exact h2, h3, fun j hj =>
   (h4 j hj).frame (fun x hx => hi x (idsT_kid (by omega) hx)) (fun x hx => hc x (toksT_kid (by omega) hx))⟩
def PSB : Nat → LT → PS → Int → Prop
 | 0, _, _, _ => True
 | d + 1, .mk _ _ _ _ kids _, .mk p cs ks, n => (0 ≤ p ∧ p ≤ n) ∧ (∀ x ∈ cs, 0 ≤ x ∧ x ≤ n) ∧ ∀ j, j < kids.length → PSB d (kids.getD j default) (ks.getD j default) n
theorem PSB.mono {n m : Int} (hnm : n ≤ m) : ∀ {d : Nat} {t : LT} {s : PS}, PSB d t s n → PSB d t s m
 | 0, _, _, _ => trivial
 | d + 1, .mk .., .mk p cs ks, ⟨h1, h2, h3⟩ => ⟨by omega, fun x hx => by have := h2 x hx; omega, fun j hj => (h3 j hj).mono hnm⟩
def ps0 : LT → PS
 | .mk _ _ _ _ kids _ => .mk 0 (kids.map fun _ => 0) (kids.map ps0)
def bestTo (f : Nat → Int) : Nat → Nat
 | 0 => 0
 | j + 1 => if f j > f (bestTo f j) then j else bestTo f j
theorem bestTo_lt (f : Nat → Int) : ∀ n, 0 < n → bestTo f n < n
 | 0, h => by omega
 | n + 1, _ => by
  simp only [bestTo]
  split
  ·omega
  ·cases n with
   | zero => simp [bestTo]
   | succ n => have := bestTo_lt f (n + 1) (by omega); omega
def shareV (shares : List Int) (p : Int) (cs : List Int) (j : Nat) : Int := shares.getD j 0 * (p + 1) - cs.getD j 0 * shares.sum
def nextF (shares : List Int) (p : Int) (cs : List Int) : Nat := bestTo (shareV shares p cs) shares.length
def idxL (kind p many : Int) (nk nx : Nat) : List Nat :=
 if kind = 1 then [] else if kind = 2 then List.range nk else if kind = 3 then [(p.tmod nk).toNat] else if kind = 4 then [nx] else List.replicate many.toNat 0
def stepU (f : LT → PS → PS × List (ByteArray × Int)) (kids : List LT) (a : (List Int × List PS) × List (ByteArray × Int)) (i : Nat) : (List Int × List PS) × List (ByteArray × Int) :=
 ((a.1.1.set i (a.1.1.getD i 0 + 1), a.1.2.set i (f (kids.getD i default) (a.1.2.getD i default)).1), a.2 ++ (f (kids.getD i default) (a.1.2.getD i default)).2)
def passU : Nat → LT → PS → PS × List (ByteArray × Int)
 | 0, _, s => (s, [])
 | d + 1, .mk kind item long many kids shares, .mk p cs ks =>
  let r := (idxL kind p many kids.length (nextF shares p cs)).foldl (stepU (passU d) kids) ((cs, ks), if kind = 1 then [(item, long)] else [])
  (.mk (p + 1) r.1.1 r.1.2, r.2)
theorem passU_succ (d : Nat) (kind : Int) (item : ByteArray) (long many : Int) (kids : List LT) (shares : List Int) (p : Int) (cs : List Int) (ks : List PS) : passU (d + 1) (.mk kind item long many kids shares) (.mk p cs ks) =
  (.mk (p + 1) ((idxL kind p many kids.length (nextF shares p cs)).foldl (stepU (passU d) kids) ((cs, ks), if kind = 1 then [(item, long)] else [])).1.1 ((idxL kind p many kids.length (nextF shares p cs)).foldl (stepU (passU d) kids) ((cs, ks), if kind = 1 then [(item, long)] else [])).1.2, ((idxL kind p many kids.length (nextF shares p cs)).foldl (stepU (passU d) kids) ((cs, ks), if kind = 1 then [(item, long)] else [])).2) := rfl
def VL : Nat → LT → Prop
 | 0, _ => False
 | d + 1, .mk kind _ _ many kids shares => (1 ≤ kind ∧ kind ≤ 5) ∧ (kind = 1 → kids = []) ∧ (kind ≠ 1 → kids ≠ []) ∧ (kind = 5 → kids.length = 1 ∧ 1 ≤ many ∧ many ≤ 100) ∧ (kind = 4 → shares.length = kids.length) ∧ (∀ n ∈ shares, 1 ≤ n ∧ n ≤ 1000) ∧
   (kids.length ≤ 1000 ∧ shares.length ≤ 1000) ∧ ∀ k ∈ kids, VL d k
def encStep (x : ByteArray × Int) : List AV := [.v (.string x.1), .v (.int .i64 x.2)]
def OutAt (h : Hp) (o k : Nat) (ex : List AV) (xs : List (ByteArray × Int)) : Prop := h.H o = some (.cells (.row 2 (xs.map encStep) (some k) :: ex)) ∧ h.T k = some (.tail xs.length)
section
variable {P : Program} {c : Cx} {Q : Exit → St → Prop} {s : St}
theorem awp_frz (t k z : Nat) {xs : List (List AV)} {x : Code} (ht : s.sl.getD t .junk = .arr z k xs.length) (hT : s.h.T k = some (.cont z xs)) (hz : ∀ y ∈ xs, y.length = z) (h : Awp P c x Q { s with sl := s.sl.set t (.row z xs none), h := { s.h with T := upd s.h.T k none } }) : Awp P c x Q s := by
 rintro ac w ⟨G, L, sm, hg, hf, hL⟩
 obtain ⟨G', hle, hfr, hs2, hfz⟩ := sm.hs.freeze (h2 := { s.h with T := upd s.h.T k none }) (fun j => j = k) rfl (fun j hj => by subst hj; exact upd_same _ _ _) (fun j hj => upd_other _ _ hj)
 refine h ac w ⟨G', L, ⟨hs2, by simpa using sm.sz, fun u hu => ?_, sm.df, sm.ls.fr hle hfr⟩, hg.trans hle, hf.trans hfr, hL⟩
 have hu' : u < s.sl.length := by simpa using hu
 have h1 := sm.sl u hu'
 simp only [List.getElem_set]
 split
 ·rename_i e
  subst e
  rw [List.getD_eq_getElem?_getD, List.getElem?_eq_getElem hu'] at ht
  simp only [Option.getD_some] at ht
  rw [ht] at h1
  exact RepT.of (hfz k z xs _ rfl hT (h1.base rfl) xs rfl hz fun us hus => hus.mono hle)
 ·exact h1.mono hle
end
open Go
set_option linter.unusedVariables false
set_option linter.unusedSimpArgs false
open Nat renaming reduceAdd → nA, reduceSub → nB, reduceMul → nC, reduceLT → nD, reduceLeDiff → nE, reduceEqDiff → nF, reduceMod → nG, reduceDiv → nH, reducePow → nI
set_option maxRecDepth 100000
set_option maxHeartbeats 8000000
abbrev Wn := ByteArray × Int × Int
def encW (x : Wn) : List AV := [.v (.string x.1), .v (.int .i64 x.2.1), .v (.int .i64 x.2.2)]
def wNames : List ByteArray := [⟨#[105, 97]⟩, ⟨#[105, 98]⟩, ⟨#[105, 99]⟩, ⟨#[105, 100]⟩]
def WOk (x : Wn) : Prop := x.1.size ≤ 2 ∧ (-5000000000000000 ≤ x.2.1 ∧ x.2.1 ≤ 5000000000000000) ∧ (-5000000000000000 ≤ x.2.2 ∧ x.2.2 ≤ 5000000000000000)
theorem encW_z (ws : List Wn) : ∀ y ∈ ws.map encW, y.length = 3 := fun y hy => by obtain ⟨x, _, rfl⟩ := List.mem_map.1 hy; rfl
theorem g_want (i : Nat) (l : List Int) (a : Int) (h : Hp) (hl : SOk l) (ha : 0 ≤ a ∧ a ≤ 100000000) :
  ACalls Tryz.prog 26 [.ptr i 0] (h.st i l a) (fun r h' => ∃ (ws : List Wn) (a' : Int), ws.length ≤ 4 ∧ (∀ x ∈ ws, WOk x) ∧ (a ≤ a' ∧ a' ≤ a + 100) ∧ r = .row 3 (ws.map encW) none ∧ h' = h.st i l a') := by
 refine gE Tryz.func26 rfl (by kernel_rfl) 61 rfl fun c => ?_
 (repeat (first | refine gQ rfl ?_ | (refine gR fun K1 hK1 => ?_; simp only [go_sem, ↓reduceIte, reduceCtorEq, nA, nB, nC, nD, nE, nF] <;> and_intros <;> first | (apply hK1; clear hK1 K1) | (intros; first | omega | decide | (simp_all <;> omega)) | skip)))
 refine awp_seq ?_
 refine awp_ownA 3 3 rfl ⟨rfl, rfl⟩ (fun k hk => ?_)
 replace hk : h.T k = none := hk
 (repeat (first | refine gO rfl ?_ | (refine gR fun K1 hK1 => ?_; simp only [go_sem, ↓reduceIte, reduceCtorEq, nA, nB, nC, nD, nE, nF] <;> and_intros <;> first | (apply hK1; clear hK1 K1) | (intros; first | omega | decide | (simp_all <;> omega)) | skip)))
 refine (g_range i l a 0 4 ⟨h.H, upd h.T k (some (.cont 3 []))⟩ hl (by omega) (by omega) (by omega) (by omega)).mono ?_; rintro _ _ ⟨n, hn, rfl, rfl⟩; apply hK1; clear hK1 K1
 obtain ⟨m, rfl⟩ : ∃ m : Nat, n = m := ⟨n.toNat, by omega⟩
 have hN : List.take m [[AV.v (.string ⟨#[105, 97]⟩)], [AV.v (.string ⟨#[105, 98]⟩)], [AV.v (.string ⟨#[105, 99]⟩)], [AV.v (.string ⟨#[105, 100]⟩)]] = (wNames.take m).map encS := by rw [List.map_take]; rfl
 have hNl : (wNames.take m).length ≤ 4 := by rw [List.length_take]; show min m 4 ≤ 4; omega
 have hNs : ∀ x ∈ wNames.take m, x.size ≤ 2 := fun x hx => by
  have := List.mem_of_mem_take hx
  simp only [wNames, List.mem_cons, List.not_mem_nil, or_false] at this
  rcases this with rfl | rfl | rfl | rfl <;> decide
 (repeat (first | refine gO rfl ?_ | (refine gR fun K1 hK1 => ?_; simp only [go_sem, ↓reduceIte, reduceCtorEq, nA, nB, nC, nD, nE, nF, Int.toNat_natCast, Int.toNat_zero, Nat.sub_zero, List.drop_zero, Option.toList_none, Option.toList_some, List.append_eq, List.nil_append, List.cons_append, hN, List.length_map] <;> and_intros <;> first | (apply hK1; clear hK1 K1) | (intros; first | omega | decide | (simp_all <;> omega)) | skip)))
 generalize wNames.take m = N at *
 refine awp_loopC (rl false [0, 1, 2, 1, 6, 3, 49]) 0 (fun g s => ∃ (j : Nat) (ws : List Wn) (a' : Int), g + j = N.length ∧ ws.length = j ∧ (∀ x ∈ ws, WOk x) ∧ (a ≤ a' ∧ a' ≤ a + 1 + 2 * j) ∧
  s = ⟨((.ptr i 0) :: AV.junk :: AV.junk :: ((.arr 3 k j) :: (jnk 6 ((.row 1 (N.map encS) none) :: (.v (.int .i64 N.length)) :: (.v (.int .i64 j)) :: (jnk 49 []))))), [], (Hp.mk h.H (upd h.T k (some (.cont 3 (ws.map encW))))).st i l a'⟩) N.length ⟨0, [], a + 1, by omega, rfl, by simp, by omega, rfl⟩ ?_
 rintro g _ ⟨j, ws, a1, hj, hwl, hwo, ha1, rfl⟩
 have hTq : ∀ a2, ((Hp.mk h.H (upd h.T k (some (.cont 3 (ws.map encW))))).st i l a2).T k = some (TO.cont 3 (ws.map encW)) := fun a2 => upd_same _ _ _
 have hlw : (ws.map encW).length = j := by simpa using hwl
 have htt : ∀ a2 X, (Hp.mk ((Hp.mk h.H (upd h.T k (some (.cont 3 (ws.map encW))))).st i l a2).H (upd ((Hp.mk h.H (upd h.T k (some (.cont 3 (ws.map encW))))).st i l a2).T k X)) = (Hp.mk h.H (upd h.T k X)).st i l a2 := fun a2 X => by simp only [Hp.st, upd_upd]
 (repeat (first | refine gO rfl ?_ | (refine gR fun K1 hK1 => ?_; simp only [go_sem, ↓reduceIte, reduceCtorEq, nA, nB, nC, nD, nE, nF] <;> and_intros <;> first | (apply hK1; clear hK1 K1) | (intros; first | omega | decide | (simp_all <;> omega)) | skip)))
 refine awp_cond (t := _) rfl (fun h1 => ?_) (fun h1 => ?_)
 ·simp only [decide_eq_true_eq] at h1
  have hjl : j < N.length := by omega
  have gx : (N.map encS).getD j [] = encS (N.getD j default) := getD_enc encS N j default hjl
  have hqs : (N.getD j default).size ≤ 2 := hNs _ (by rw [List.getD_eq_getElem?_getD, List.getElem?_eq_getElem hjl]; exact List.getElem_mem hjl)
  generalize N.getD j default = q at gx hqs
  (repeat (first | refine gO rfl ?_ | (refine gR fun K1 hK1 => ?_; simp only [go_sem, ↓reduceIte, reduceCtorEq, nA, nB, nC, nD, nE, nF, Int.toNat_natCast, gx, encS, hTq, hlw] <;> and_intros <;> first | (apply hK1; clear hK1 K1) | (intros; first | omega | decide | (simp_all <;> omega)) | skip)))
  refine (g_pick i l a1 [1, 1, 2, 3] none _ hl (by omega) (by simp)).mono ?_; rintro _ _ ⟨x, hx, rfl, rfl⟩; apply hK1; clear hK1 K1
  (repeat (first | refine gO rfl ?_ | (refine gR fun K1 hK1 => ?_; simp only [go_sem, ↓reduceIte, reduceCtorEq, nA, nB, nC, nD, nE, nF, hTq, hlw] <;> and_intros <;> first | (apply hK1; clear hK1 K1) | (intros; first | omega | decide | (simp_all <;> omega)) | skip)))
  refine (g_pick i l (a1 + 1) [0, 1, 1, 2, 4] none _ hl (by omega) (by simp)).mono ?_; rintro _ _ ⟨y, hy, rfl, rfl⟩; apply hK1; clear hK1 K1
  (repeat (first | refine gO rfl ?_ | (refine gR fun K1 hK1 => ?_; simp only [go_sem, ↓reduceIte, reduceCtorEq, nA, nB, nC, nD, nE, nF, hTq, hlw, htt] <;> and_intros <;> first | (apply hK1; clear hK1 K1) | (intros; first | omega | decide | (simp_all <;> omega)) | skip)))
  refine ⟨g - 1, by omega, j + 1, ws ++ [(q, x, y)], a1 + 1 + 1, by omega, by simp [hwl], fun z hz => ?_, by omega, ?_⟩
  ·rcases List.mem_append.1 hz with h9 | h9
   ·exact hwo z h9
   ·rw [List.mem_singleton.1 h9]
    simp only [List.mem_cons, List.not_mem_nil, or_false] at hx hy
    exact ⟨hqs, ⟨by show _ ≤ x; omega, by show x ≤ _; omega⟩, ⟨by show _ ≤ y; omega, by show y ≤ _; omega⟩⟩
  ·rw [List.map_append]; rfl
 ·simp only [decide_eq_false_iff_not] at h1
  obtain rfl : j = N.length := by omega
  clear hj h1
  have hnil : ws.map encW = [] → ws = [] := fun e => List.map_eq_nil_iff.1 e
  (repeat (first | refine gQ rfl ?_ | (refine gR fun K1 hK1 => ?_; simp only [go_sem, ↓reduceIte, reduceCtorEq, nA, nB, nC, nD, nE, nF] <;> and_intros <;> first | (apply hK1; clear hK1 K1) | (intros; first | omega | decide | (simp_all <;> omega)) | skip)))
  refine awp_seqJ (rl false [3, 1, 58]) 0 (fun s => ∃ (ws2 : List Wn) (a2 : Int), ws2.length = N.length ∧ (∀ x ∈ ws2, WOk x) ∧ (a ≤ a2 ∧ a2 ≤ a + 50) ∧
   s = ⟨((jnk 3 ((.arr 3 k N.length) :: (jnk 58 [])))), [], (Hp.mk h.H (upd h.T k (some (.cont 3 (ws2.map encW))))).st i l a2⟩) ?_ ?_
  ·by_cases hn0 : N.length = 0
   ·have hd0 : decide ((0 : Int) < (N.length : Int)) = false := by simp only [decide_eq_false_iff_not]; omega
    (repeat (first | refine gO rfl ?_ | (refine gR fun K1 hK1 => ?_; simp only [go_sem, ↓reduceIte, reduceCtorEq, nA, nB, nC, nD, nE, nF, hd0] <;> and_intros <;> first | (apply hK1; clear hK1 K1) | (intros; first | omega | decide | (simp_all <;> omega)) | skip)))
    refine awp_cond (t := _) rfl (fun h9 => by cases h9) (fun _ => ?_)
    (repeat (first | refine gO rfl ?_ | (refine gR fun K1 hK1 => ?_; simp only [go_sem, ↓reduceIte, reduceCtorEq, nA, nB, nC, nD, nE, nF] <;> and_intros <;> first | (apply hK1; clear hK1 K1) | (intros; first | omega | decide | (simp_all <;> omega)) | skip)))
    exact ⟨ws, a1, hwl, hwo, by omega, rfl⟩
   ·have hd0 : decide ((0 : Int) < (N.length : Int)) = true := by simp only [decide_eq_true_eq]; omega
    (repeat (first | refine gO rfl ?_ | (refine gR fun K1 hK1 => ?_; simp only [go_sem, ↓reduceIte, reduceCtorEq, nA, nB, nC, nD, nE, nF, hd0] <;> and_intros <;> first | (apply hK1; clear hK1 K1) | (intros; first | omega | decide | (simp_all <;> omega)) | skip)))
    refine (g_flip i l a1 12 _ hl (by omega) (by omega)).mono ?_
    rintro _ _ ⟨bb, rfl, rfl⟩
    refine ⟨rfl, hK1 _ ?_⟩; clear hK1 K1
    (repeat (first | refine gO rfl ?_ | (refine gR fun K1 hK1 => ?_; simp only [go_sem, ↓reduceIte, reduceCtorEq, nA, nB, nC, nD, nE, nF, hd0] <;> and_intros <;> first | (apply hK1; clear hK1 K1) | (intros; first | omega | decide | (simp_all <;> omega)) | skip)))
    cases bb with
    | false =>
     refine awp_cond (t := _) rfl (fun h9 => by cases h9) (fun _ => ?_)
     (repeat (first | refine gO rfl ?_ | (refine gR fun K1 hK1 => ?_; simp only [go_sem, ↓reduceIte, reduceCtorEq, nA, nB, nC, nD, nE, nF] <;> and_intros <;> first | (apply hK1; clear hK1 K1) | (intros; first | omega | decide | (simp_all <;> omega)) | skip)))
     exact ⟨ws, a1 + 1, hwl, hwo, by omega, rfl⟩
    | true =>
     refine awp_cond (t := _) rfl (fun _ => ?_) (fun h9 => by cases h9)
     (repeat (first | refine gO rfl ?_ | (refine gR fun K1 hK1 => ?_; simp only [go_sem, ↓reduceIte, reduceCtorEq, nA, nB, nC, nD, nE, nF] <;> and_intros <;> first | (apply hK1; clear hK1 K1) | (intros; first | omega | decide | (simp_all <;> omega)) | skip)))
     refine (g_next i l (a1 + 1) N.length _ hl (by omega) (by omega)).mono ?_; rintro _ _ ⟨x, hx, rfl, rfl⟩; apply hK1; clear hK1 K1
     obtain ⟨q, rfl⟩ : ∃ q : Nat, x = q := ⟨x.toNat, by omega⟩
     have hqn : q < ws.length := by omega
     have hqm : q < (ws.map encW).length := by simpa using hqn
     have gq : (ws.map encW).getD q [] = [.v (.string (ws.getD q default).1), .v (.int .i64 (ws.getD q default).2.1), .v (.int .i64 (ws.getD q default).2.2)] := getD_enc encW ws q default hqn
     have hwq := hwo _ (show ws.getD q default ∈ ws by rw [List.getD_eq_getElem?_getD, List.getElem?_eq_getElem hqn]; exact List.getElem_mem hqn)
     have hgs : ∀ A, ((ws.map encW).set q A).getD q [] = A := fun A => by rw [List.getD_eq_getElem?_getD, List.getElem?_set_self hqm]; rfl
     have hss : ∀ A B, ((ws.map encW).set q A).set q B = (ws.map encW).set q B := fun A B => List.set_set _
     have hsl : ∀ A, ((ws.map encW).set q A).length = N.length := fun A => by rw [List.length_set, List.length_map, hwl]
     have hqq : q < N.length := by omega
     generalize ws.getD q default = z at gq hwq
     have hTs : ∀ A a2, ((Hp.mk h.H (upd h.T k (some (.cont 3 ((ws.map encW).set q A))))).st i l a2).T k = some (TO.cont 3 ((ws.map encW).set q A)) := fun A a2 => upd_same _ _ _
     have htt2 : ∀ A a2 X, (Hp.mk ((Hp.mk h.H (upd h.T k (some (.cont 3 ((ws.map encW).set q A))))).st i l a2).H (upd ((Hp.mk h.H (upd h.T k (some (.cont 3 ((ws.map encW).set q A))))).st i l a2).T k X)) = (Hp.mk h.H (upd h.T k X)).st i l a2 := fun A a2 X => by simp only [Hp.st, upd_upd]
     (repeat (first | refine gO rfl ?_ | (refine gR fun K1 hK1 => ?_; simp only [go_sem, ↓reduceIte, reduceCtorEq, nA, nB, nC, nD, nE, nF, Int.toNat_natCast, hTq, hlw, gq, hqq] <;> and_intros <;> first | (apply hK1; clear hK1 K1) | (intros; first | omega | decide | (simp_all <;> omega)) | skip)))
     refine (g_some i l (a1 + 1 + 1) [z.1, ⟨#[]⟩, ⟨#[105, 97]⟩] none _ hl (by omega) (by simp)).mono ?_; rintro _ _ ⟨y1, hy1, rfl, rfl⟩; apply hK1; clear hK1 K1
     (repeat (first | refine gO rfl ?_ | (refine gR fun K1 hK1 => ?_; simp only [go_sem, ↓reduceIte, reduceCtorEq, nA, nB, nC, nD, nE, nF, Int.toNat_natCast, hTq, hlw, gq, hqq] <;> and_intros <;> first | (apply hK1; clear hK1 K1) | (intros; first | omega | decide | (simp_all <;> omega)) | skip)))
     refine (g_odd i l (a1 + 1 + 1 + 1) 1 12 _ hl (by omega) (by omega) (by omega) (by omega)).mono ?_; rintro _ _ ⟨y2, b1, hy2, hb1, rfl, rfl⟩; apply hK1; clear hK1 K1
     (repeat (first | refine gO rfl ?_ | (refine gR fun K1 hK1 => ?_; simp only [go_sem, ↓reduceIte, reduceCtorEq, nA, nB, nC, nD, nE, nF, Int.toNat_natCast, hTq, hlw, gq, hqq] <;> and_intros <;> first | (apply hK1; clear hK1 K1) | (intros; first | omega | decide | (simp_all <;> omega)) | skip)))
     refine (g_odd i l b1 0 12 _ hl (by omega) (by omega) (by omega) (by omega)).mono ?_; rintro _ _ ⟨y3, b2, hy3, hb2, rfl, rfl⟩; apply hK1; clear hK1 K1
     (repeat (first | refine gO rfl ?_ | (refine gR fun K1 hK1 => ?_; simp only [go_sem, ↓reduceIte, reduceCtorEq, nA, nB, nC, nD, nE, nF, Int.toNat_natCast, hTq, hlw, gq, hqq, hgs, hss, hsl, hTs, htt, htt2] <;> and_intros <;> first | (apply hK1; clear hK1 K1) | (intros; first | omega | decide | (simp_all <;> omega)) | skip)))
     refine ⟨ws.set q (y1, y2, y3), b2, by rw [List.length_set, hwl], fun u hu => ?_, by omega, ?_⟩
     ·rcases List.mem_or_eq_of_mem_set hu with h9 | rfl
      ·exact hwo u h9
      ·refine ⟨?_, hy2, hy3⟩
       simp only [List.mem_cons, List.not_mem_nil, or_false] at hy1
       rcases hy1 with rfl | rfl | rfl
       ·exact hwq.1
       ·show (⟨#[]⟩ : ByteArray).size ≤ 2; decide
       ·show (⟨#[105, 97]⟩ : ByteArray).size ≤ 2; decide
     ·rw [show (ws.set q (y1, y2, y3)).map encW = (ws.map encW).set q (encW (y1, y2, y3)) from List.map_set]; rfl
  ·rintro _ ⟨ws2, a2, hwl2, hwo2, ha2, rfl⟩
   refine awp_frz 3 k 3 (xs := ws2.map encW) (by simp [hwl2]; rfl) (upd_same _ _ _) (encW_z ws2) ?_
   (repeat (first | refine gO rfl ?_ | (refine gR fun K1 hK1 => ?_; simp only [go_sem, ↓reduceIte, reduceCtorEq, nA, nB, nC, nD, nE, nF] <;> and_intros <;> first | (apply hK1; clear hK1 K1) | (intros; first | omega | decide | (simp_all <;> omega)) | skip)))
   simp only [Tryz.results26, go_sem, ↓reduceIte, reduceCtorEq, nA, nB, nC, nD, nE, nF]
   refine ⟨_, h.st i l a2, Weak.refl _, ⟨fun _ => .inr rfl, fun j => ?_⟩, ws2, a2, by omega, hwo2, by omega, rfl, rfl⟩
   by_cases e : j = k
   ·subst e; exact .inl hk
   ·exact .inr (by simp only [Hp.st]; rw [upd_other _ _ e, upd_other _ _ e])
def fsome {β : Type} (f : Nat → Option β) : Nat → Nat → Option β
 | _, 0 => none
 | i, k + 1 => match f i with
  | some x => some x
  | none => fsome f (i + 1) k
theorem fsome_none {β : Type} {f : Nat → Option β} {i k : Nat} (h : f i = none) : fsome f i (k + 1) = fsome f (i + 1) k := by rw [fsome, h]
theorem fsome_some {β : Type} {f : Nat → Option β} {i k : Nat} {x : β} (h : f i = some x) : fsome f i (k + 1) = some x := by rw [fsome, h]
theorem fsome_spec {β : Type} {f : Nat → Option β} {x : β} : ∀ {i k : Nat}, fsome f i k = some x → ∃ j, i ≤ j ∧ j < i + k ∧ f j = some x
 | _, 0, h => by cases h
 | i, k + 1, h => by
  cases e : f i with
  | some y => rw [fsome_some e] at h; exact ⟨i, by omega, by omega, by rw [e, h]⟩
  | none =>
   rw [fsome_none e] at h
   obtain ⟨j, a, b, c⟩ := fsome_spec h
   exact ⟨j, by omega, by omega, c⟩
def stepW (W : List Int) : List Int := W.map fun x => max 0 (x - 1)
def solve (ds : List Int) : Nat → List Int → List Int → Option (List Nat)
 | 0, _, _ => some []
 | m + 1, L, W => fsome (fun i => if L.getD i 0 = 0 ∨ 0 < W.getD i 0 then none else (solve ds m (L.set i (L.getD i 0 - 1)) ((stepW W).set i (ds.getD i 0))).map (i :: ·)) 0 L.length
def tryI (ds : List Int) (m : Nat) (L W : List Int) (i : Nat) : Option (List Nat) := if L.getD i 0 = 0 ∨ 0 < W.getD i 0 then none else (solve ds m (L.set i (L.getD i 0 - 1)) ((stepW W).set i (ds.getD i 0))).map (i :: ·)
theorem solve_succ (ds : List Int) (m : Nat) (L W : List Int) : solve ds (m + 1) L W = fsome (tryI ds m L W) 0 L.length := rfl
structure SpS (ds : List Int) (m : Nat) (L W : List Int) : Prop where
 lw : W.length = L.length
 la : ds.length = L.length
 l0 : ∀ x ∈ L, 0 ≤ x ∧ x ≤ 12
 w0 : ∀ x ∈ W, 0 ≤ x ∧ x ≤ 12
 a0 : ∀ x ∈ ds, 0 ≤ x ∧ x ≤ 12
 sm : L.sum = m
 m12 : m ≤ 12
theorem sum_set (L : List Int) : ∀ {i : Nat} (_ : i < L.length) (x : Int), (L.set i x).sum = L.sum - L.getD i 0 + x := by
 induction L with
 | nil => intro i h; simp at h
 | cons a L ih =>
  intro i h x
  cases i with
  | zero => simp; omega
  | succ i =>
   have := ih (by simpa using h) x
   simp only [List.set_cons_succ, List.sum_cons, List.getD_cons_succ] at this ⊢
   omega
theorem mem_getD (L : List Int) {i : Nat} (h : i < L.length) : L.getD i 0 ∈ L := by
 rw [List.getD_eq_getElem?_getD, List.getElem?_eq_getElem h]; exact List.getElem_mem h
theorem SpS.next {ds : List Int} {m : Nat} {L W : List Int} (h : SpS ds (m + 1) L W) {i : Nat} (hi : i < L.length) (h1 : ¬ (L.getD i 0 = 0 ∨ 0 < W.getD i 0)) : SpS ds m (L.set i (L.getD i 0 - 1)) ((stepW W).set i (ds.getD i 0)) := by
 have hl := h.l0 _ (mem_getD L hi)
 have ha := h.a0 _ (mem_getD ds (by rw [h.la]; exact hi))
 refine ⟨by simp [stepW, h.lw], by simp [h.la], fun x hx => ?_, fun x hx => ?_, h.a0, ?_, by have := h.m12; omega⟩
 ·rcases List.mem_or_eq_of_mem_set hx with h9 | rfl
  ·exact h.l0 x h9
  ·omega
 ·rcases List.mem_or_eq_of_mem_set hx with h9 | rfl
  ·obtain ⟨y, hy, rfl⟩ := List.mem_map.1 h9
   have := h.w0 y hy; omega
  ·exact ha
 ·have := sum_set L hi (L.getD i 0 - 1)
  have := h.sm
  omega
theorem getD_set_ne {L : List Int} {i j : Nat} {x : Int} (h : i ≠ j) : (L.set i x).getD j 0 = L.getD j 0 := by
 simp only [List.getD_eq_getElem?_getD, List.getElem?_set_ne h]
theorem getD_set_eq {L : List Int} {i : Nat} {x : Int} (h : i < L.length) : (L.set i x).getD i 0 = x := by
 simp [List.getD_eq_getElem?_getD, h]
theorem getD_stepW {W : List Int} {j : Nat} (h : j < W.length) : (stepW W).getD j 0 = max 0 (W.getD j 0 - 1) := by
 simp [stepW, List.getD_eq_getElem?_getD, h]
def waits (ds last : List Int) (at_ : Int) : List Int := List.zipWith (fun a l => max 0 (l + a + 1 - at_)) ds last
theorem waits_len {ds last : List Int} (h : last.length = ds.length) (t : Int) : (waits ds last t).length = ds.length := by simp [waits, h]
theorem waits_get {ds last : List Int} (h : last.length = ds.length) (t : Int) {i : Nat} (hi : i < ds.length) : (waits ds last t).getD i 0 = max 0 (last.getD i 0 + ds.getD i 0 + 1 - t) := by
 simp [waits, List.getD_eq_getElem?_getD, hi, h]
theorem waits_step {ds last : List Int} (h : last.length = ds.length) (t : Int) {i : Nat} (hi : i < ds.length) (h0 : 0 ≤ ds.getD i 0) : (stepW (waits ds last t)).set i (ds.getD i 0) = waits ds (last.set i t) (t + 1) := by
 apply List.ext_getElem?
 intro j
 by_cases hj : j < ds.length
 ·have hl1 : j < ((stepW (waits ds last t)).set i (ds.getD i 0)).length := by simp [stepW, waits_len h]; exact hj
  have hl2 : j < (waits ds (last.set i t) (t + 1)).length := by rw [waits_len (by simpa using h)]; exact hj
  rw [List.getElem?_eq_getElem hl1, List.getElem?_eq_getElem hl2]
  congr 1
  have eg : ∀ (l : List Int) (hl : j < l.length), l[j] = l.getD j 0 := fun l hl => by rw [List.getD_eq_getElem?_getD, List.getElem?_eq_getElem hl]; rfl
  have e1 := eg _ hl1
  have e2 := eg _ hl2
  rw [e1, e2, waits_get (by simpa using h) _ hj]
  by_cases e : i = j
  ·subst e
   rw [getD_set_eq (by simp [stepW, waits_len h]; exact hj), getD_set_eq (by rw [h]; exact hj)]
   omega
  ·rw [getD_set_ne e, getD_set_ne e, getD_stepW (by rw [waits_len h]; exact hj), waits_get h _ hj]
   omega
 ·rw [List.getElem?_eq_none (by simp [stepW, waits_len h]; omega), List.getElem?_eq_none (by rw [waits_len (by simpa using h)]; omega)]
def apt (ws : List Wn) : List Int := ws.map (·.2.2)
def itm (ws : List Wn) (i : Nat) : ByteArray := (ws.getD i default).1
theorem getD_encI {L : List Int} {j : Nat} (h : j < L.length) : (L.map encI).getD j [] = [.v (.int .i64 (L.getD j 0))] := getD_enc encI L j 0 h
theorem set_encI (L : List Int) (j : Nat) (x : Int) : (L.map encI).set j [.v (.int .i64 x)] = (L.set j x).map encI := by rw [List.map_set]; rfl
structure TrB (ws : List Wn) (m : Nat) (L la : List Int) (out : List ByteArray) (all : Nat) : Prop where
 ll : la.length = ws.length
 sp : SpS (apt ws) m L (waits (apt ws) la out.length)
 lb : ∀ x ∈ la, -100 ≤ x ∧ x ≤ out.length
 al : all = out.length + m
 a12 : all ≤ 12
theorem TrB.l1 {ws : List Wn} {m : Nat} {L la : List Int} {out : List ByteArray} {all : Nat} (h : TrB ws m L la out all) : L.length = ws.length := by have := h.sp.la; simp [apt] at this; omega
theorem TrB.next {ws : List Wn} {m : Nat} {L la : List Int} {out : List ByteArray} {all : Nat} (h : TrB ws (m + 1) L la out all) {i : Nat} (hi : i < ws.length) (h1 : ¬ (L.getD i 0 = 0 ∨ 0 < (waits (apt ws) la out.length).getD i 0)) (x : ByteArray) :
  TrB ws m (L.set i (L.getD i 0 - 1)) (la.set i out.length) (out ++ [x]) all ∧ (stepW (waits (apt ws) la out.length)).set i ((apt ws).getD i 0) = waits (apt ws) (la.set i out.length) (out ++ [x]).length := by
 have hal : la.length = (apt ws).length := by rw [h.ll]; simp [apt]
 have hia : i < (apt ws).length := by simpa [apt] using hi
 have hst := waits_step hal (t := (out.length : Int)) hia (h.sp.a0 _ (mem_getD _ hia)).1
 have hl : ((out ++ [x]).length : Int) = (out.length : Int) + 1 := by simp
 have hn := h.sp.next (i := i) (by rw [h.l1]; exact hi) h1
 rw [hst, ← hl] at hn
 refine ⟨⟨by simpa using h.ll, hn, fun y hy => ?_, by have := h.al; simp; omega, h.a12⟩, by rw [hst, hl]⟩
 rcases List.mem_or_eq_of_mem_set hy with h9 | rfl
 ·have := h.lb y h9; simp; omega
 ·simp; omega
abbrev zP2E : List Nat := [0, 1, 2, 3, 4, 5, 6, 7, 8, 9, 10, 11]
abbrev zP2P : List (Nat × List Nat × List Nat) := []
attribute [go_sem] zP2E zP2P
open Go.RowKit
theorem gb_refl (w : World) (r : Option Nat) : w.grownBy w r := ⟨rfl, rfl, rfl, Nat.le_refl _, fun _ _ _ => rfl⟩
theorem gb_trans {a b c : World} {r : Option Nat} (h : a.grownBy b r) (k : b.grownBy c r) : a.grownBy c r :=
  ⟨k.os.trans h.os, k.tape.trans h.tape, k.output.trans h.output, Nat.le_trans h.size k.size, fun i hi hn => (k.block i (Nat.lt_of_lt_of_le hi h.size) hn).trans (h.block i hi hn)⟩
theorem gb_alloc {a w : World} {r : Option Nat} (h : a.grownBy w r) (o : Obj) : a.grownBy (w.alloc o) r :=
  ⟨h.os, h.tape, h.output, Nat.le_trans h.size (by simp), fun i hi hne => (Below.heap_alloc w o i (Nat.lt_of_lt_of_le hi h.size)).trans (h.block i hi hne)⟩
theorem gb_below {a w : World} (h : Below a.heap.size a w) (r : Option Nat) : a.grownBy w r := ⟨h.os, h.tape, h.output, h.size, fun i hi _ => h.block i hi⟩
def Lst (w : World) (lo size : Nat) (v : Value) (xs : List Value) : Prop :=
  ∃ (A : Option Addr) (n c : Nat), v = .slice A n c ∧ n ≤ c ∧ c ≤ maxLen ∧ xs.length = n * size ∧
    (0 < n → ∃ g o, A = some ⟨g, o, none⟩ ∧ lo ≤ g ∧ g < w.heap.size ∧ ∀ j u, xs[j]? = some u → w.cell? ⟨g, o + j, none⟩ = some u)
theorem Lst.mono {w : World} {lo lo' size : Nat} {v : Value} {xs : List Value} (h : Lst w lo size v xs) (hl : lo' ≤ lo) : Lst w lo' size v xs := by
  obtain ⟨A, n, c, hv, hn, hc, hx, hr⟩ := h
  exact ⟨A, n, c, hv, hn, hc, hx, fun h0 => let ⟨g, o, hA, hg, hlt, hcell⟩ := hr h0; ⟨g, o, hA, Nat.le_trans hl hg, hlt, hcell⟩⟩
theorem Lst.keep {w w' : World} {lo size : Nat} {v : Value} {xs : List Value} (h : Lst w lo size v xs) (hs : w.heap.size ≤ w'.heap.size)
    (hk : ∀ k, lo ≤ k → k < w.heap.size → w'.heap[k]? = w.heap[k]?) : Lst w' lo size v xs := by
  obtain ⟨A, n, c, hv, hn, hc, hx, hr⟩ := h
  refine ⟨A, n, c, hv, hn, hc, hx, fun h0 => ?_⟩
  obtain ⟨g, o, hA, hg, hlt, hcell⟩ := hr h0
  exact ⟨g, o, hA, hg, Nat.lt_of_lt_of_le hlt hs, fun j u hu => (World.cell?_of_block (w := w) (hk g hg hlt)).trans (hcell j u hu)⟩
theorem Lst.below {w w' : World} {lo size : Nat} {v : Value} {xs : List Value} (h : Lst w lo size v xs) (hb : Below w.heap.size w w') : Lst w' lo size v xs :=
  h.keep hb.size fun k _ hk => hb.block k hk
theorem Lst.nil (w : World) (lo size : Nat) : Lst w lo size (.slice none 0 0) [] := ⟨none, 0, 0, rfl, Nat.le_refl _, Nat.zero_le _, by simp, fun h => absurd h (by omega)⟩
theorem Lst.at_ {w : World} {lo n c k : Nat} {A : Option Addr} {xs : List Value} (h : Lst w lo 1 (.slice A n c) xs) (hk : k < n) :
    ∃ g o u, A = some ⟨g, o, none⟩ ∧ lo ≤ g ∧ g < w.heap.size ∧ xs[k]? = some u ∧ w.cell? ⟨g, o + k, none⟩ = some u := by
  obtain ⟨A', n', c', hv, hn, hc, hx, hr⟩ := h
  simp only [Value.slice.injEq] at hv
  obtain ⟨rfl, rfl, rfl⟩ := hv
  obtain ⟨g, o, hA, hg, hlt, hcell⟩ := hr (by omega)
  have hl : k < xs.length := by omega
  exact ⟨g, o, xs[k], hA, hg, hlt, List.getElem?_eq_getElem hl, hcell k _ (List.getElem?_eq_getElem hl)⟩
def IsStream (ts : TypeId) (w : World) (b M : Nat) : Prop :=
  ∃ (a : Option Addr) (len cap : Nat) (at_ : Nat), w.heap[b]? = some (.cells #[.slice a len cap, .int .i64 (at_ : Int)] ts (0, 0)) ∧ at_ ≤ M ∧ len ≤ 9223372036854775807 ∧
    (0 < len → ∃ x, a = some x ∧ x.block < b ∧ x.spot = none ∧ ∀ i, i < len → ∃ z : Int, w.cell? ⟨x.block, x.off + i, none⟩ = some (.int .i64 z))
theorem block_lt {w : World} {b : Nat} {o : Obj} (h : w.heap[b]? = some o) : b < w.heap.size := by
  rcases Nat.lt_or_ge b w.heap.size with hl | hl
  · exact hl
  · rw [Array.getElem?_eq_none hl] at h; cases h
theorem IsStream.lt {ts : TypeId} {w : World} {b M : Nat} (h : IsStream ts w b M) : b < w.heap.size := by
  obtain ⟨_, _, _, _, hh, _⟩ := h
  exact block_lt hh
theorem IsStream.below {ts : TypeId} {w w' : World} {b M : Nat} (h : IsStream ts w b M) (hb : Below w.heap.size w w') : IsStream ts w' b M := by
  have hlt := h.lt
  obtain ⟨a, len, cap, at_, hh, h1, h2, h3⟩ := h
  refine ⟨a, len, cap, at_, (hb.block b hlt).trans hh, h1, h2, fun h0 => ?_⟩
  obtain ⟨x, hx, hxb, hs, hc⟩ := h3 h0
  refine ⟨x, hx, hxb, hs, fun i hi => ?_⟩
  obtain ⟨z, hz⟩ := hc i hi
  exact ⟨z, (hb.cell (p := ⟨x.block, x.off + i, none⟩) (by show x.block < _; omega)).trans hz⟩
theorem IsStream.mono {ts : TypeId} {w : World} {b M M' : Nat} (h : IsStream ts w b M) (hM : M ≤ M') : IsStream ts w b M' := by
  obtain ⟨a, len, cap, at_, hh, h1, h2⟩ := h
  exact ⟨a, len, cap, at_, hh, by omega, h2⟩
theorem IsStream.alloc {ts : TypeId} {w : World} {b M : Nat} (h : IsStream ts w b M) (o : Obj) : IsStream ts (w.alloc o) b M :=
  h.below ((Below.refl _ _).alloc (Nat.le_refl _) o)
structure Goes (ts : TypeId) (b M k : Nat) (w w' : World) : Prop where
  is : IsStream ts w' b (M + k)
  gb : w.grownBy w' (some b)
theorem Goes.refl {ts : TypeId} {b M k : Nat} {w : World} (h : IsStream ts w b M) : Goes ts b M k w w := ⟨h.mono (by omega), gb_refl _ _⟩
theorem Goes.trans {ts : TypeId} {b M k j m : Nat} {w w1 w2 : World} (h : Goes ts b M k w w1) (h' : Goes ts b (M + k) j w1 w2) (hm : k + j ≤ m) : Goes ts b M m w w2 :=
  ⟨h'.is.mono (by omega), gb_trans h.gb h'.gb⟩
theorem Goes.more {ts : TypeId} {b M k k' : Nat} {w w1 : World} (h : Goes ts b M k w w1) (hk : k ≤ k') : Goes ts b M k' w w1 := ⟨h.is.mono (by omega), h.gb⟩
theorem Goes.below {ts : TypeId} {b M k : Nat} {w w1 w2 : World} (h : Goes ts b M k w w1) (hb : Below w1.heap.size w1 w2) : Goes ts b M k w w2 :=
  ⟨h.is.below hb, gb_trans h.gb (gb_below hb _)⟩
theorem Goes.alloc {ts : TypeId} {b M k : Nat} {w w1 : World} (h : Goes ts b M k w w1) (o : Obj) : Goes ts b M k w (w1.alloc o) := ⟨h.is.alloc o, gb_alloc h.gb o⟩
def outsideB (n lo hi : Int) : Bool := decide (n < lo) || decide (hi < n)
set_option maxHeartbeats 400000 in
theorem in_any (n lo hi : Int) (w : World) :
    Calls Tryz.prog 91 #[.int .i64 n, .int .i64 lo, .int .i64 hi] w fun e w' => e = .returned (.bool (!outsideB n lo hi)) ∧ w = w' := by
  by_cases h1 : lo ≤ n
  · go_enter Tryz.func91, Tryz.ntmps91
    go_wp2
    go_ret
    exact ⟨by have : ¬ n < lo := by omega
              simp [outsideB, this, ← Int.not_lt], rfl⟩
  · have h1' : decide (lo ≤ n) = false := by simpa using h1
    go_enter Tryz.func91, Tryz.ntmps91
    go_wp2
    go_ret
    exact ⟨by have : n < lo := by omega
              simp [outsideB, this], rfl⟩
def keyByte (i n : Nat) : Bool := (decide (97 ≤ n) && decide (n ≤ 122)) || (decide (0 < i) && ((decide (48 ≤ n) && decide (n ≤ 57)) || n == 45 || n == 95))
def keyTo (s : ByteArray) : Nat → Bool
  | 0 => true
  | k + 1 => keyTo s k && keyByte k (s.data.toList.getD k 0).toNat
def keyB (s : ByteArray) : Bool := keyTo s s.size && decide (1 ≤ s.size) && decide (s.size ≤ 40)
theorem keyTo_le (s : ByteArray) {k m : Nat} (h : k ≤ m) (hm : keyTo s m = true) : keyTo s k = true := by
  induction m with
  | zero => obtain rfl : k = 0 := by omega
            rfl
  | succ m ih =>
    by_cases e : k = m + 1
    · rw [e]; exact hm
    · rw [keyTo, Bool.and_eq_true] at hm
      exact ih (by omega) hm.1
theorem keyB_no (s : ByteArray) {k : Nat} (h : k ≤ s.size) (hk : keyTo s k = false) : keyB s = false := by
  have h2 : keyTo s s.size = false := by
    cases h3 : keyTo s s.size with
    | false => rfl
    | true => rw [keyTo_le s h h3] at hk; cases hk
  simp [keyB, h2]
theorem getD_byte (s : ByteArray) (k : Nat) (h : k < s.size) : s.data.toList.getD k 0 = s[k] := by
  have h' : k < s.data.toList.length := h
  simp [List.getD, List.getElem?_eq_getElem h']; rfl
set_option maxRecDepth 100000 in
set_option maxHeartbeats 2000000 in
theorem isKey_any (s : ByteArray) (hsz : s.size ≤ 1000000000000) (w : World) :
    Calls Tryz.prog 151 #[.string s] w fun e w' => e = .returned (.bool (keyB s)) ∧ w = w' := by
  go_enter Tryz.func151, Tryz.ntmps151
  go_wp2_with fail
  go_loopg [3, 4] s.size (fun g i _ wr => ∃ k : Nat, k + g = s.size ∧ i = .int .i64 k ∧ keyTo s k = true ∧ w = wr)
  case atStart => exact ⟨0, by omega, rfl, rfl, rfl⟩
  case round =>
    obtain ⟨k, hk, rfl, hkey, rfl⟩ := hrel
    have HK := Lib.hid hkey
    clear hkey
    by_cases hg : gk = 0
    · obtain rfl : k = s.size := by omega
      by_cases h0 : s.size = 0
      · have e0 : s = ⟨#[]⟩ := by
          obtain ⟨⟨l⟩⟩ := s
          have : l = [] := List.eq_nil_of_length_eq_zero h0
          rw [this]
        subst e0
        go_wp2_with fail
        go_ret
        exact ⟨rfl, rfl⟩
      · have hne : s.toList.isEmpty = false := by
          rw [ByteArray.toList_eq]
          cases hl : s.data.toList with
          | nil => exact absurd (show s.data.toList.length = 0 by rw [hl]; rfl) h0
          | cons _ _ => rfl
        go_wp2_with fail
        go_ret
        refine ⟨?_, rfl⟩
        have e1 : keyB s = decide ((s.size : Int) ≤ 40) := by
          have h1 : decide (1 ≤ s.size) = true := by simp; omega
          rw [keyB, HK.out, h1, Bool.true_and, Bool.true_and, Bool.eq_iff_iff]; simp; omega
        rw [e1]; rfl
    · have hlt : k < s.size := by omega
      have HG := Lib.hid (show keyTo s (k + 1) = (keyTo s k && keyByte k s[k].toNat) by rw [keyTo, getD_byte s k hlt])
      go_upto_region 5 with fail
      generalize s[k].toNat = n at *
      go_cut [40] (fun s40 wx => s40 = .bool (!keyByte k n) ∧ w = wx)
      case first =>
        by_cases c1 : n < 97
        · by_cases ck : k ≤ 0
          · have HV := Lib.hid (show keyByte k n = false by simp [keyByte]; omega)
            go_wp2_with fail
            go_meet
            exact ⟨by rw [HV.out]; first | rfl | (simp; omega), rfl⟩
          · have ck' : 0 < k := by omega
            by_cases c2 : n < 48
            · by_cases c3 : n = 45
              · have b3 : ((n : Int) == 45) = true := by simp; omega
                have HV := Lib.hid (show keyByte k n = true by simp [keyByte]; omega)
                go_wp2_with fail
                go_meet
                exact ⟨by rw [HV.out]; first | rfl | (simp; omega), rfl⟩
              · have b3 : ((n : Int) == 45) = false := by simp; omega
                have b4 : ((n : Int) == 95) = false := by simp; omega
                have HV := Lib.hid (show keyByte k n = false by simp [keyByte]; omega)
                go_wp2_with fail
                go_meet
                exact ⟨by rw [HV.out]; first | rfl | (simp; omega), rfl⟩
            · by_cases c3 : n ≤ 57
              · have HV := Lib.hid (show keyByte k n = true by simp [keyByte]; omega)
                go_wp2_with fail
                go_meet
                exact ⟨by rw [HV.out]; first | rfl | (simp; omega), rfl⟩
              · have b3 : ((n : Int) == 45) = false := by simp; omega
                by_cases c4 : n = 95
                · have b4 : ((n : Int) == 95) = true := by simp; omega
                  have HV := Lib.hid (show keyByte k n = true by simp [keyByte]; omega)
                  go_wp2_with fail
                  go_meet
                  exact ⟨by rw [HV.out]; first | rfl | (simp; omega), rfl⟩
                · have b4 : ((n : Int) == 95) = false := by simp; omega
                  have HV := Lib.hid (show keyByte k n = false by simp [keyByte]; omega)
                  go_wp2_with fail
                  go_meet
                  exact ⟨by rw [HV.out]; first | rfl | (simp; omega), rfl⟩
        · by_cases c2 : n ≤ 122
          · have HV := Lib.hid (show keyByte k n = true by simp [keyByte]; omega)
            go_wp2_with fail
            go_meet
            exact ⟨by rw [HV.out]; first | rfl | (simp; omega), rfl⟩
          · by_cases ck : k ≤ 0
            · have HV := Lib.hid (show keyByte k n = false by simp [keyByte]; omega)
              go_wp2_with fail
              go_meet
              exact ⟨by rw [HV.out]; first | rfl | (simp; omega), rfl⟩
            · have ck' : 0 < k := by omega
              have b3 : ((n : Int) == 45) = false := by simp; omega
              have b4 : ((n : Int) == 95) = false := by simp; omega
              have HV := Lib.hid (show keyByte k n = false by simp [keyByte]; omega)
              go_wp2_with fail
              go_meet
              exact ⟨by rw [HV.out]; first | rfl | (simp; omega), rfl⟩
      case rest =>
        obtain ⟨rfl, rfl⟩ := hcut
        rcases Bool.eq_false_or_eq_true (keyByte k n) with c | c
        · rw [c]
          go_wp2_with fail
          go_roundg (gk - 1)
          case measure => omega
          case rel => exact ⟨k + 1, by omega, by go_num, by rw [HG.out, HK.out, c]; rfl, rfl⟩
        · rw [c]
          go_wp2_with fail
          go_ret
          refine ⟨?_, rfl⟩
          have : keyB s = false := keyB_no s (show k + 1 ≤ s.size by omega) (by rw [HG.out, c, Bool.and_false])
          rw [this]; rfl
theorem dropWhile_nil {α : Type} (p : α → Bool) : ∀ l : List α, (l.dropWhile p).isEmpty = l.all p
  | [] => rfl
  | x :: l => by
    rw [List.dropWhile_cons, List.all_cons]
    cases h : p x with
    | true => simpa using dropWhile_nil p l
    | false => simp
theorem dropWhile_head {α : Type} (p : α → Bool) : ∀ (l : List α) (x : α) (r : List α), l.dropWhile p = x :: r → p x = false
  | [], x, r, h => by simp at h
  | y :: l, x, r, h => by
    rw [List.dropWhile_cons] at h
    cases hy : p y with
    | true => rw [hy] at h; exact dropWhile_head p l x r (by simpa using h)
    | false => rw [hy] at h; simp at h; rw [← h.1]; exact hy
theorem trimS_empty (l cs : List UInt8) : (Lib.trimS l cs).isEmpty = l.all (cs.contains ·) := by
  unfold Lib.trimS Lib.trimLeftS Lib.trimRightS
  rw [dropWhile_nil, List.all_reverse]
  cases h : l.reverse.dropWhile (cs.contains ·) with
  | nil =>
    have := dropWhile_nil (cs.contains ·) l.reverse
    rw [h, List.all_reverse] at this
    rw [← this]; rfl
  | cons x r =>
    have h1 := dropWhile_head _ _ _ _ h
    have h2 := dropWhile_nil (cs.contains ·) l.reverse
    rw [h, List.all_reverse] at h2
    rw [List.all_cons, h1, ← h2]; rfl
def smallL : List UInt8 := [97, 98, 99, 100, 101, 102, 103, 104, 105, 106, 107, 108, 109, 110, 111, 112, 113, 114, 115, 116, 117, 118, 119, 120, 121, 122]
def keySet : List UInt8 := [97, 98, 99, 100, 101, 102, 103, 104, 105, 106, 107, 108, 109, 110, 111, 112, 113, 114, 115, 116, 117, 118, 119, 120, 121, 122, 48, 49, 50, 51, 52, 53, 54, 55, 56, 57, 45, 95]
theorem keySet_byte : ∀ n, n < 256 → keySet.contains (UInt8.ofNat n) = keyByte 1 n := by decide +kernel
theorem small_byte : ∀ n, n < 256 → decide (0 ≤ Lib.indexByte smallL (UInt8.ofNat n)) = keyByte 0 n := by decide +kernel
theorem keyByte_pos (i n : Nat) (h : 0 < i) : keyByte i n = keyByte 1 n := by simp [keyByte, h]
theorem keyByte_zero (n : Nat) (h : keyByte 0 n = true) : keyByte 1 n = true := by simp [keyByte] at h ⊢; omega
theorem ofNat_toNat8 (b : UInt8) : UInt8.ofNat b.toNat = b := by simp
theorem keyTo_all (s : ByteArray) (x : UInt8) (r : List UInt8) (h : s.data.toList = x :: r) : ∀ k, k ≤ r.length → keyTo s (k + 1) = (keyByte 0 x.toNat && (r.take k).all (keySet.contains ·))
  | 0, _ => by simp [keyTo, h]
  | k + 1, hk => by
    rw [keyTo, keyTo_all s x r h k (by omega), h]
    have hg : (x :: r).getD (k + 1) 0 = r[k]'(by omega) := by simp [List.getD, List.getElem?_eq_getElem (show k < r.length by omega)]
    rw [hg, keyByte_pos (k + 1) _ (by omega), ← keySet_byte _ (UInt8.toNat_lt _), ofNat_toNat8, List.take_succ_eq_append_getElem (by omega), List.all_append, List.all_cons, List.all_nil, Bool.and_true, Bool.and_assoc]
theorem keyB_eq (s : ByteArray) (x : UInt8) (r : List UInt8) (h : s.data.toList = x :: r) (h40 : s.size ≤ 40) :
    keyB s = ((x :: r).all (keySet.contains ·) && decide (0 ≤ Lib.indexByte smallL x)) := by
  have hl : s.size = r.length + 1 := by show s.data.toList.length = _; rw [h]; rfl
  have h1 : decide (1 ≤ s.size) = true := by simp; omega
  have h2 : decide (s.size ≤ 40) = true := by simpa using h40
  rw [keyB, h1, h2, Bool.and_true, Bool.and_true, hl, keyTo_all s x r h r.length (Nat.le_refl _), List.take_length, List.all_cons]
  have e := small_byte x.toNat (UInt8.toNat_lt _)
  have e2 := keySet_byte x.toNat (UInt8.toNat_lt _)
  rw [ofNat_toNat8] at e e2
  rw [e, e2]
  cases h0 : keyByte 0 x.toNat with
  | false => simp
  | true => rw [keyByte_zero _ h0]; simp
theorem mk_toList (l : List UInt8) : (ByteArray.mk l.toArray).toList = l := by rw [ByteArray.toList_eq]
set_option maxRecDepth 100000 in
set_option maxHeartbeats 1000000 in
theorem Key_any (s : ByteArray) (hsz : s.size ≤ 1000000000000) (w : World) :
    Calls Tryz.prog 90 #[.string s] w fun e w' => e = .returned (.bool (keyB s)) ∧ Below w.heap.size w w' := by
  rcases Bool.eq_false_or_eq_true (outsideB (s.size : Int) 1 40) with o | o
  · have HV := Lib.hid (show keyB s = false by
      simp [outsideB] at o
      have : (decide (1 ≤ s.size) && decide (s.size ≤ 40)) = false := by simp; omega
      rw [keyB, Bool.and_assoc, this, Bool.and_false])
    go_enter Tryz.func90, Tryz.ntmps90
    go_wp2_with fail
    refine (in_any _ _ _ _).mono ?_
    rintro e w' ⟨rfl, rfl⟩
    rw [o]
    go_wp2_with fail
    go_ret
    exact ⟨by rw [HV.out]; rfl, Below.refl _ _⟩
  · have hb : 1 ≤ s.size ∧ s.size ≤ 40 := by simp [outsideB] at o; omega
    obtain ⟨hb1, hb2⟩ := hb
    obtain ⟨x, r, hl⟩ : ∃ x r, s.data.toList = x :: r := by
      cases hl : s.data.toList with
      | nil => exact absurd (show s.data.toList.length = 0 by rw [hl]; rfl) (by show s.size ≠ 0; omega)
      | cons x r => exact ⟨x, r, rfl⟩
    have hx : s[0]'(by omega) = x := by rw [← getD_byte s 0 (by omega), hl]; rfl
    have HV := Lib.hid (keyB_eq s x r hl hb2)
    have HT := Lib.hid (show (Lib.trimS s.data.toList keySet).isEmpty = (x :: r).all (keySet.contains ·) by rw [trimS_empty, hl])
    clear hl
    go_enter Tryz.func90, Tryz.ntmps90
    go_wp2_with fail
    refine (in_any _ _ _ _).mono ?_
    rintro e w' ⟨rfl, rfl⟩
    rw [o]
    go_wp2_with fail
    refine (Any.strings_Trim_laid Tryz.lays160 (by kernel_rfl) s ⟨keySet.toArray⟩ w (by omega) (by decide) (ascii_of_all (by decide))).mono ?_
    rintro e w1 ⟨rfl, hb⟩
    have hq : (ByteArray.mk (Lib.trimS s.data.toList keySet).toArray).toList.isEmpty = (x :: r).all (keySet.contains ·) := by rw [mk_toList]; exact HT.out
    generalize ByteArray.mk (Lib.trimS s.data.toList keySet).toArray = tr at *
    rcases Bool.eq_false_or_eq_true ((x :: r).all (keySet.contains ·)) with c | c
    · rw [c] at hq HV
      clear c HT
      go_wp2_with fail
      refine (Tryz.strings_IndexByte ⟨smallL.toArray⟩ (x.toNat : Int) w1).mono ?_
      rintro e w2 ⟨rfl, rfl⟩
      rw [show ((x.toNat : Int).toNat.toUInt8) = x by simp]
      go_wp2_with fail
      go_ret
      exact ⟨by rw [HV.out, Bool.true_and]; rfl, hb⟩
    · rw [c] at hq HV
      clear c HT
      go_wp2_with fail
      go_ret
      exact ⟨by rw [HV.out]; rfl, hb⟩
theorem acalls_pure {P : Program} {f : Nat} (hok : fnOk P f = true) (xs : List Value) {v : Value} (h1 : v.oneCell' = true) (hc : ∀ w, Calls P f xs.toArray w fun e w' => e = .returned v ∧ RowKit.Below w.heap.size w w') (h : Hp) : ACalls P f (xs.map .v) h (fun r h' => r = .v v ∧ h' = h) := by
 refine ⟨hok, fun G w vs hs hl ha => ?_⟩
 have e : vs = xs.toArray := by
  apply Array.ext
  ·simpa using hl
  ·intro j hj hj'
   have hjx : j < (xs.map AV.v).length := by rw [← hl]; exact hj
   have := ha j hjx
   simp only [List.getElem_map] at this
   have h2 : vs.getD j undef = vs[j] := by simp [Array.getD, hj]
   rw [h2] at this
   simp only [List.getElem_toArray]
   generalize vs[j] = y at this
   cases this
   rfl
 subst e
 refine (hc w).mono ?_
 rintro _ w' ⟨rfl, hb⟩
 have hb' : ∀ b, b < w.heap.size → w'.heap[b]? = w.heap[b]? := fun b hb2 => hb.block b hb2
 exact ⟨_, h, G, v, rfl, ⟨rfl, rfl⟩, GLe.refl _, Fr.below (Fr.refl _ _ _) hb' hb.os hb.tape hb.output hb.size, hs.below hb', .v _ h1⟩
theorem a_isKey (s : ByteArray) (hs : s.size ≤ 1000000000000) (h : Hp) : ACalls Tryz.prog 151 [.v (.string s)] h (fun r h' => r = .v (.bool (keyB s)) ∧ h' = h) :=
 acalls_pure (by kernel_rfl) [.string s] rfl (fun w => (isKey_any s hs w).mono fun e w' ⟨h1, h2⟩ => ⟨h1, by subst h2; exact ⟨rfl, rfl, rfl, Nat.le_refl _, fun _ _ => rfl⟩⟩) h
theorem a_key (s : ByteArray) (hs : s.size ≤ 1000000000000) (h : Hp) : ACalls Tryz.prog 90 [.v (.string s)] h (fun r h' => r = .v (.bool (keyB s)) ∧ h' = h) :=
 acalls_pure (by kernel_rfl) [.string s] rfl (fun w => Key_any s hs w) h
def KC : Nat → LT → Prop
 | 0, _ => False
 | d + 1, .mk kind item long many kids shares => NB kind ∧ item.size ≤ 2 ∧ NB long ∧ NB many ∧ kids.length ≤ 1000 ∧ shares.length ≤ 1000 ∧ (∀ x ∈ shares, NB x) ∧ ∀ k ∈ kids, KC d k
theorem KC.mono : ∀ {d e : Nat} {t : LT}, KC d t → d ≤ e → KC e t
 | 0, _, _, h, _ => h.elim
 | d + 1, 0, _, _, h => by omega
 | d + 1, e + 1, .mk .., h, hd => ⟨h.1, h.2.1, h.2.2.1, h.2.2.2.1, h.2.2.2.2.1, h.2.2.2.2.2.1, h.2.2.2.2.2.2.1, fun k hk => (h.2.2.2.2.2.2.2 k hk).mono (by omega)⟩
theorem LC.kc : ∀ {d : Nat} {t : LT}, LC d t → KC d t
 | 0, _, h => h.elim
 | d + 1, .mk .., h => ⟨h.1, h.2.1, h.2.2.1, h.2.2.2.1, by have := h.2.2.2.2.1; omega, by have := h.2.2.2.2.2.1; omega, h.2.2.2.2.2.2.1, fun k hk => (h.2.2.2.2.2.2.2 k hk).kc⟩
theorem getD_mem' {α : Type} (l : List α) (j : Nat) (d : α) (h : j < l.length) : l.getD j d ∈ l := by
 rw [List.getD_eq_getElem?_getD, List.getElem?_eq_getElem h]; exact List.getElem_mem _
abbrev zP3E : List Nat := [0, 1, 2, 3, 4, 5, 6, 7, 8, 9, 10]
abbrev zP3P : List (Nat × List Nat × List Nat) := []
attribute [go_sem] zP3E zP3P
theorem a_in (x lo hi : Int) (h : Hp) : ACalls Tryz.prog 91 [.v (.int .i64 x), .v (.int .i64 lo), .v (.int .i64 hi)] h (fun r h' => r = .v (.bool (decide (lo ≤ x) && decide (x ≤ hi))) ∧ h' = h) := by
 refine gE Tryz.func91 rfl (by kernel_rfl) 12 rfl fun c => ?_
 (repeat (first | refine gO rfl ?_ | (refine gR fun K1 hK1 => ?_; simp only [go_sem, ↓reduceIte, reduceCtorEq, nA, nB, nC, nD, nE, nF] <;> and_intros <;> first | (apply hK1; clear hK1 K1) | (intros; first | omega | decide | (simp_all <;> omega)) | skip)))
 simp only [Tryz.results91, go_sem, ↓reduceIte, reduceCtorEq, nA, nB, nC, nD, nE, nF]
 exact ⟨_, _, Weak.refl _, Hp.le.refl _, rfl, rfl⟩
def outB (x lo hi : Int) : Bool := decide (x < lo) || decide (hi < x)
theorem a_in2 (x lo hi : Int) (h : Hp) : ACalls Tryz.prog 91 [.v (.int .i64 x), .v (.int .i64 lo), .v (.int .i64 hi)] h (fun r h' => r = .v (.bool (!outB x lo hi)) ∧ h' = h) :=
 (a_in x lo hi h).mono fun r h' ⟨e, e2⟩ => ⟨by rw [e, outB]; congr 2; rw [Bool.eq_iff_iff]; simp, e2⟩
open Go Go.Lib
def cntF (xs : List (ByteArray × Int)) (k : ByteArray) : Nat := (xs.filter fun x => x.1 == k).length
def longF (xs : List (ByteArray × Int)) (k : ByteArray) : Int := ((xs.filter fun x => x.1 == k).map (·.2)).sum
theorem take_at (xs : List (ByteArray × Int)) (j : Nat) (h : j < xs.length) : xs.take (j + 1) = xs.take j ++ [xs.getD j default] := by
 rw [List.take_add_one, List.getElem?_eq_getElem h, List.getD_eq_getElem?_getD, List.getElem?_eq_getElem h]; rfl
theorem drop_at {α : Type} (l : List α) (j : Nat) (d : α) (h : j < l.length) : l.drop j = l.getD j d :: l.drop (j + 1) := by
 rw [List.drop_eq_getElem_cons h, List.getD_eq_getElem?_getD, List.getElem?_eq_getElem h]; rfl
theorem cntF_no {xs : List (ByteArray × Int)} {j : Nat} (h : j < xs.length) {k : ByteArray} (e : (xs.getD j default).1 ≠ k) : cntF (xs.take (j + 1)) k = cntF (xs.take j) k := by
 have hb : ¬ ((xs.getD j default).1 == k) = true := by rw [ba_beq]; simp only [decide_eq_true_eq]; exact e
 rw [take_at xs j h, cntF, cntF, List.filter_append, List.length_append, List.filter_cons_of_neg (p := fun x : ByteArray × Int => x.1 == k) hb]; simp
theorem longF_no {xs : List (ByteArray × Int)} {j : Nat} (h : j < xs.length) {k : ByteArray} (e : (xs.getD j default).1 ≠ k) : longF (xs.take (j + 1)) k = longF (xs.take j) k := by
 have hb : ¬ ((xs.getD j default).1 == k) = true := by rw [ba_beq]; simp only [decide_eq_true_eq]; exact e
 rw [take_at xs j h, longF, longF, List.filter_append, List.map_append, List.sum_append, List.filter_cons_of_neg (p := fun x : ByteArray × Int => x.1 == k) hb]; simp
def ptrsL (f : ByteArray → Nat) (ks : List ByteArray) : List (ByteArray × AV) := ks.map fun k => (k, .ptr (f k) 0)
def tCell (xs : List (ByteArray × Int)) (k : ByteArray) : List AV := [.v (.int .i64 (cntF xs k)), .v (.int .i64 (longF xs k))]
structure TalI (h : Hp) (m : Nat) (ys : List (ByteArray × Int)) (S : List ByteArray) (ks : List ByteArray) (f : ByteArray → Nat) : Prop where
 nd : ks.Nodup
 mem : ∀ k, k ∈ ks ↔ k ∈ S
 map : h.H m = some (.map (ptrsL f ks))
 cell : ∀ k ∈ ks, h.H (f k) = some (.cells (tCell ys k))
 ne : ∀ k ∈ ks, f k ≠ m
 inj : ∀ k ∈ ks, ∀ q ∈ ks, f k = f q → k = q
theorem TalI.nil {h : Hp} {m : Nat} (hm : h.H m = some (.map [])) : TalI h m [] [] [] (fun _ => 0) :=
 ⟨by simp, by simp, hm, by simp, by simp, by simp⟩
theorem TalI.same {h : Hp} {m : Nat} {ys : List (ByteArray × Int)} {S ks : List ByteArray} {f : ByteArray → Nat} (t : TalI h m ys S ks f) {q : ByteArray} (hq : q ∈ ks) : TalI h m ys (S ++ [q]) ks f :=
 ⟨t.nd, fun k => by
  rw [List.mem_append, ← t.mem k, List.mem_singleton]
  exact ⟨.inl, fun h => h.elim id fun e => by rw [e]; exact hq⟩, t.map, t.cell, t.ne, t.inj⟩
theorem TalI.more {h h' : Hp} {m j : Nat} {xs : List (ByteArray × Int)} {S ks : List ByteArray} {f : ByteArray → Nat} (t : TalI h m (xs.take j) S ks f) (hj : j < xs.length) {q : ByteArray} (e : (xs.getD j default).1 = q) (hk : q ∈ ks)
  (e1 : h'.H (f q) = some (.cells (tCell (xs.take (j + 1)) q))) (e2 : ∀ i, i ≠ f q → h'.H i = h.H i) : TalI h' m (xs.take (j + 1)) S ks f where
 nd := t.nd
 mem := t.mem
 map := by rw [e2 m (Ne.symm (t.ne _ hk))]; exact t.map
 cell k hk' := by
  by_cases h : k = q
  ·rw [h]; exact e1
  ·rw [e2 _ (fun e' => h (t.inj _ hk' _ hk e')), t.cell k hk', tCell, tCell, cntF_no hj (by rw [e]; exact Ne.symm h), longF_no hj (by rw [e]; exact Ne.symm h)]
 ne := t.ne
 inj := t.inj
theorem TalI.born {h h' : Hp} {m i : Nat} {ys : List (ByteArray × Int)} {S ks : List ByteArray} {f : ByteArray → Nat} (t : TalI h m ys S ks f) {q : ByteArray} (hk : q ∉ ks) (hi : h.H i = none)
  (e0 : h'.H m = some (.map (ptrsL f ks ++ [(q, .ptr i 0)]))) (e1 : h'.H i = some (.cells (tCell ys q))) (e2 : ∀ n, n ≠ i → n ≠ m → h'.H n = h.H n) :
  TalI h' m ys (S ++ [q]) (ks ++ [q]) (fun k => if k = q then i else f k) := by
 have hfi : ∀ k ∈ ks, f k ≠ i := fun k hk' e => by have := t.cell k hk'; rw [e, hi] at this; cases this
 have him : i ≠ m := fun e => by rw [e, t.map] at hi; cases hi
 have hne : ∀ k ∈ ks, k ≠ q := fun k hk' e => hk (e ▸ hk')
 have hpl : ptrsL (fun k => if k = q then i else f k) ks = ptrsL f ks := List.map_congr_left fun k hk' => by simp only [if_neg (hne k hk')]
 refine ⟨?_, fun k => ?_, ?_, fun k hk' => ?_, fun k hk' => ?_, fun k hk' p hp e => ?_⟩
 ·rw [List.nodup_append]
  exact ⟨t.nd, by simp, fun a ha b hb e => by simp only [List.mem_singleton] at hb; exact hk (by rw [← hb, ← e]; exact ha)⟩
 ·rw [List.mem_append, List.mem_append, ← t.mem k]
 ·rw [e0]
  have : ptrsL (fun k => if k = q then i else f k) (ks ++ [q]) = ptrsL f ks ++ [(q, .ptr i 0)] := by
   rw [← hpl]; simp [ptrsL]
  rw [this]
 ·rcases List.mem_append.1 hk' with h1 | h1
  ·have hn := hne k h1
   simp only [if_neg hn]
   rw [e2 _ (hfi k h1) (t.ne k h1), t.cell k h1]
  ·simp only [List.mem_singleton] at h1
   subst h1; simp only [if_true]; exact e1
 ·rcases List.mem_append.1 hk' with h1 | h1
  ·simp only [if_neg (hne k h1)]; exact t.ne k h1
  ·simp only [List.mem_singleton] at h1; subst h1; simp only [if_true]; exact him
 ·rcases List.mem_append.1 hk' with h1 | h1 <;> rcases List.mem_append.1 hp with h2 | h2
  ·simp only [if_neg (hne k h1), if_neg (hne p h2)] at e; exact t.inj k h1 p h2 e
  ·simp only [List.mem_singleton] at h2
   simp only [if_neg (hne k h1), h2, if_true] at e; exact absurd e (hfi k h1)
  ·simp only [List.mem_singleton] at h1
   simp only [if_neg (hne p h2), h1, if_true] at e; exact absurd e.symm (hfi p h2)
  ·simp only [List.mem_singleton] at h1 h2; rw [h1, h2]
abbrev zP4E : List Nat := [0, 1, 2, 3, 4, 5, 6, 7, 8, 9, 10, 11, 12, 13]
abbrev zP4P : List (Nat × List Nat × List Nat) := []
abbrev zP5E : List Nat := [0, 1, 2, 3, 4, 5, 6, 7, 8, 9, 10, 11, 12, 13]
abbrev zP5P : List (Nat × List Nat × List Nat) := []
attribute [go_sem] zP4E zP4P zP5E zP5P
def leS (a b : ByteArray) : Bool := Op.bytesLess a.toList b.toList || (a == b)
def wantL : Option ByteArray → Int → List Wn → Int
 | _, s, [] => if 12 < s then 2 else 0
 | p, s, w :: l => if keyB w.1 = true then (if (match p with | some q => leS w.1 q | none => false) = true then 7 else if (outB w.2.1 1 12 || outB w.2.2 0 12) = true then 1 else wantL (some w.1) (s + w.2.1) l) else 5
theorem wantL_cons (p : Option ByteArray) (s : Int) (w : Wn) (l : List Wn) : wantL p s (w :: l) = if keyB w.1 = true then (if (match p with | some q => leS w.1 q | none => false) = true then 7 else if (outB w.2.1 1 12 || outB w.2.2 0 12) = true then 1 else wantL (some w.1) (s + w.2.1) l) else 5 := by cases p <;> rfl
theorem wantL_nil (p : Option ByteArray) (s : Int) : wantL p s [] = if 12 < s then 2 else 0 := by cases p <;> rfl
def wantE (ws : List Wn) : Int := if 12 < ws.length then 2 else wantL none 0 ws
def prevW (ws : List Wn) (j : Nat) : Option ByteArray := if j = 0 then none else some (ws.getD (j - 1) default).1
theorem g_cntP (ws : List Wn) (h : Hp) (hs : ∀ x ∈ ws, WOk x) (hl : ws.length ≤ 1000) : ACalls Tryz.prog 92 [.row 3 (ws.map encW) none] h (fun r h' => r = .v (.int .i64 (wantE ws)) ∧ h' = h) := by
 refine gE Tryz.func92 rfl (by kernel_rfl) 50 rfl fun c => ?_
 (repeat (first | refine gO rfl ?_ | ((first | refine gM zM11 ?_ | (with_reducible refine wM ?_ ?_) | ((with_reducible refine xS ?_); refine uD 9 zM11 zP4E zP4P 51 rfl (by kernel_rfl) ?_)) <;> ((try with_reducible intro K1 hK1); simp only [go_sem, ↓reduceIte, reduceCtorEq, nA, nB, nC, nD, nE, nF, List.length_map] <;> and_intros <;> first | (apply hK1; clear hK1 K1) | (intros; first | omega | decide | (simp_all <;> omega)) | skip))))
 refine awp_cond (t := _) rfl (fun h1 => ?_) (fun h1 => ?_)
 ·simp only [decide_eq_true_eq] at h1
  (repeat (first | refine gO rfl ?_ | ((first | refine gM zM11 ?_ | (with_reducible refine wM ?_ ?_) | ((with_reducible refine xS ?_); refine uD 9 zM11 zP4E zP4P 51 rfl (by kernel_rfl) ?_)) <;> ((try with_reducible intro K1 hK1); simp only [go_sem, ↓reduceIte, reduceCtorEq, nA, nB, nC, nD, nE, nF] <;> and_intros <;> first | (apply hK1; clear hK1 K1) | (intros; first | omega | decide | (simp_all <;> omega)) | skip))))
  simp only [Tryz.results92, go_sem, ↓reduceIte, reduceCtorEq, nA, nB, nC, nD, nE, nF]
  exact ⟨_, _, Weak.refl _, Hp.le.refl _, by rw [wantE, if_pos (by omega)], rfl⟩
 simp only [decide_eq_false_iff_not] at h1
 have hwe : wantE ws = wantL none 0 ws := by rw [wantE, if_neg (by omega)]
 rw [hwe]
 clear hwe
 (repeat (first | refine gO rfl ?_ | ((first | refine gM zM11 ?_ | (with_reducible refine wM ?_ ?_) | ((with_reducible refine xS ?_); refine uD 9 zM11 zP4E zP4P 51 rfl (by kernel_rfl) ?_)) <;> ((try with_reducible intro K1 hK1); simp only [go_sem, ↓reduceIte, reduceCtorEq, nA, nB, nC, nD, nE, nF, List.length_map] <;> and_intros <;> first | (apply hK1; clear hK1 K1) | (intros; first | omega | decide | (simp_all <;> omega)) | skip))))
 refine awp_loopC (rl false [0, 1, 2, 1, 5, 3, 39]) 0 (fun g s => ∃ (j : Nat) (q : Int), g + j = ws.length ∧ (0 ≤ q ∧ q ≤ 12 * j) ∧ Go.RowKit.Hid (wantL none 0 ws = wantL (prevW ws j) q (ws.drop j)) ∧
  s = ⟨((.row 3 (ws.map encW) none) :: AV.junk :: AV.junk :: ((.v (.int .i64 q)) :: (jnk 5 ((.row 3 (ws.map encW) none) :: (.v (.int .i64 ws.length)) :: (.v (.int .i64 j)) :: (jnk 39 []))))), [], h⟩) ws.length ⟨0, 0, by omega, by omega, Lib.hid rfl, rfl⟩ ?_
 rintro g _ ⟨j, q, hj, hq, HW, rfl⟩
 (repeat (first | refine gO rfl ?_ | ((first | refine gM zM11 ?_ | (with_reducible refine wM ?_ ?_) | ((with_reducible refine xS ?_); refine uD 9 zM11 zP4E zP4P 51 rfl (by kernel_rfl) ?_)) <;> ((try with_reducible intro K1 hK1); simp only [go_sem, ↓reduceIte, reduceCtorEq, nA, nB, nC, nD, nE, nF] <;> and_intros <;> first | (apply hK1; clear hK1 K1) | (intros; first | omega | decide | (simp_all <;> omega)) | skip))))
 refine awp_cond (t := _) rfl (fun h2 => ?_) (fun h2 => ?_)
 ·simp only [decide_eq_true_eq] at h2
  have hjl : j < ws.length := by omega
  have gx : (ws.map encW).getD j [] = [.v (.string (ws.getD j default).1), .v (.int .i64 (ws.getD j default).2.1), .v (.int .i64 (ws.getD j default).2.2)] := getD_enc encW ws j default hjl
  have hwo := hs _ (show ws.getD j default ∈ ws by rw [List.getD_eq_getElem?_getD, List.getElem?_eq_getElem hjl]; exact List.getElem_mem hjl)
  have hdc := drop_at ws j default hjl
  have hpv : prevW ws (j + 1) = some (ws.getD j default).1 := by rw [prevW, if_neg (by omega)]; simp
  rw [hdc, wantL_cons] at HW
  clear hdc
  have hkx := fun h => a_isKey (ws.getD j default).1 (by have := hwo.1; omega) h
  generalize ws.getD j default = x at gx hwo hpv HW hkx
  (repeat (first | refine gO rfl ?_ | ((first | refine gM zM11 ?_ | (with_reducible refine wM ?_ ?_) | ((with_reducible refine xS ?_); refine uD 9 zM11 zP4E zP4P 51 rfl (by kernel_rfl) ?_)) <;> ((try with_reducible intro K1 hK1); simp only [go_sem, ↓reduceIte, reduceCtorEq, nA, nB, nC, nD, nE, nF, Int.toNat_natCast, gx] <;> and_intros <;> first | (apply hK1; clear hK1 K1) | (intros; first | omega | decide | (simp_all <;> omega)) | skip))))
  refine (hkx _).mono ?_; rintro _ hz ⟨rfl, hh⟩; apply hK1; clear hK1 K1; rw [hh]; clear hh hz
  generalize hkb : keyB x.1 = kb at HW
  clear hkx
  cases kb with
  | false =>
   (repeat (first | refine gO rfl ?_ | ((first | refine gM zM11 ?_ | (with_reducible refine wM ?_ ?_) | ((with_reducible refine xS ?_); refine uD 9 zM11 zP4E zP4P 51 rfl (by kernel_rfl) ?_)) <;> ((try with_reducible intro K1 hK1); simp only [go_sem, ↓reduceIte, reduceCtorEq, nA, nB, nC, nD, nE, nF] <;> and_intros <;> first | (apply hK1; clear hK1 K1) | (intros; first | omega | decide | (simp_all <;> omega)) | skip))))
   refine awp_cond (t := _) rfl (fun _ => ?_) (fun h9 => by cases h9)
   (repeat (first | refine gO rfl ?_ | ((first | refine gM zM11 ?_ | (with_reducible refine wM ?_ ?_) | ((with_reducible refine xS ?_); refine uD 9 zM11 zP4E zP4P 51 rfl (by kernel_rfl) ?_)) <;> ((try with_reducible intro K1 hK1); simp only [go_sem, ↓reduceIte, reduceCtorEq, nA, nB, nC, nD, nE, nF] <;> and_intros <;> first | (apply hK1; clear hK1 K1) | (intros; first | omega | decide | (simp_all <;> omega)) | skip))))
   simp only [Tryz.results92, go_sem, ↓reduceIte, reduceCtorEq, nA, nB, nC, nD, nE, nF]
   exact ⟨_, _, Weak.refl _, Hp.le.refl _, by rw [HW.out]; rfl, rfl⟩
  | true =>
   rw [if_pos rfl] at HW
   (repeat (first | refine gO rfl ?_ | ((first | refine gM zM11 ?_ | (with_reducible refine wM ?_ ?_) | ((with_reducible refine xS ?_); refine uD 9 zM11 zP4E zP4P 51 rfl (by kernel_rfl) ?_)) <;> ((try with_reducible intro K1 hK1); simp only [go_sem, ↓reduceIte, reduceCtorEq, nA, nB, nC, nD, nE, nF] <;> and_intros <;> first | (apply hK1; clear hK1 K1) | (intros; first | omega | decide | (simp_all <;> omega)) | skip))))
   refine awp_cond (t := _) rfl (fun h9 => by cases h9) (fun _ => ?_)
   generalize hpb : (match prevW ws j with | some q => leS x.1 q | none => false) = pb at HW
   by_cases hj0 : j = 0
   ·have hd0 : decide ((0 : Int) < (j : Int)) = false := by simp only [decide_eq_false_iff_not]; omega
    rw [prevW, if_pos hj0] at hpb
    simp only at hpb
    subst hpb
    have ht1 : ((j : Int) - 1).toNat = 0 := by omega
    have gp : (ws.map encW).getD 0 [] = [.v (.string (ws.getD 0 default).1), .v (.int .i64 (ws.getD 0 default).2.1), .v (.int .i64 (ws.getD 0 default).2.2)] := getD_enc encW ws 0 default (by omega)
    generalize ws.getD 0 default = y at gp
    (repeat (first | refine gO rfl ?_ | ((first | refine gM zM11 ?_ | (with_reducible refine wM ?_ ?_) | ((with_reducible refine xS ?_); refine uD 9 zM11 zP4E zP4P 51 rfl (by kernel_rfl) ?_)) <;> ((try with_reducible intro K1 hK1); simp only [go_sem, ↓reduceIte, reduceCtorEq, nA, nB, nC, nD, nE, nF, hd0, ht1, gp] <;> and_intros <;> first | (apply hK1; clear hK1 K1) | (intros; first | omega | decide | (simp_all <;> omega)) | skip))))
    refine awp_cond (t := _) rfl (fun h9 => by cases h9) (fun _ => ?_)
    have ho1 : ∀ h : Hp, ACalls Tryz.prog 74 [.v (.int .i64 x.2.1), .v (.int .i64 1), .v (.int .i64 12)] h (fun r h' => r = .v (.bool ((outB x.2.1 1 12))) ∧ h' = h) := fun h => a_outside x.2.1 1 12 h
    have ho2 : ∀ h : Hp, ACalls Tryz.prog 74 [.v (.int .i64 x.2.2), .v (.int .i64 0), .v (.int .i64 12)] h (fun r h' => r = .v (.bool ((outB x.2.2 0 12))) ∧ h' = h) := fun h => a_outside x.2.2 0 12 h
    generalize ha1 : outB x.2.1 1 12 = b1 at HW ho1
    generalize ha2 : outB x.2.2 0 12 = b2 at HW ho2
    (repeat (first | refine gO rfl ?_ | ((first | refine gM zM11 ?_ | (with_reducible refine wM ?_ ?_) | ((with_reducible refine xS ?_); refine uD 9 zM11 zP4E zP4P 51 rfl (by kernel_rfl) ?_)) <;> ((try with_reducible intro K1 hK1); simp only [go_sem, ↓reduceIte, reduceCtorEq, nA, nB, nC, nD, nE, nF] <;> and_intros <;> first | (apply hK1; clear hK1 K1) | (intros; first | omega | decide | (simp_all <;> omega)) | skip))))
    refine (ho1 _).mono ?_; rintro _ hz ⟨rfl, hh⟩; apply hK1; clear hK1 K1; rw [hh]; clear hh hz
    cases b1 with
    | true =>
     (repeat (first | refine gO rfl ?_ | ((first | refine gM zM11 ?_ | (with_reducible refine wM ?_ ?_) | ((with_reducible refine xS ?_); refine uD 9 zM11 zP4E zP4P 51 rfl (by kernel_rfl) ?_)) <;> ((try with_reducible intro K1 hK1); simp only [go_sem, ↓reduceIte, reduceCtorEq, nA, nB, nC, nD, nE, nF] <;> and_intros <;> first | (apply hK1; clear hK1 K1) | (intros; first | omega | decide | (simp_all <;> omega)) | skip))))
     refine awp_cond (t := _) rfl (fun _ => ?_) (fun h9 => by cases h9)
     (repeat (first | refine gO rfl ?_ | ((first | refine gM zM11 ?_ | (with_reducible refine wM ?_ ?_) | ((with_reducible refine xS ?_); refine uD 9 zM11 zP4E zP4P 51 rfl (by kernel_rfl) ?_)) <;> ((try with_reducible intro K1 hK1); simp only [go_sem, ↓reduceIte, reduceCtorEq, nA, nB, nC, nD, nE, nF] <;> and_intros <;> first | (apply hK1; clear hK1 K1) | (intros; first | omega | decide | (simp_all <;> omega)) | skip))))
     simp only [Tryz.results92, go_sem, ↓reduceIte, reduceCtorEq, nA, nB, nC, nD, nE, nF]
     exact ⟨_, _, Weak.refl _, Hp.le.refl _, by rw [HW.out]; rfl, rfl⟩
    | false =>
     (repeat (first | refine gO rfl ?_ | ((first | refine gM zM11 ?_ | (with_reducible refine wM ?_ ?_) | ((with_reducible refine xS ?_); refine uD 9 zM11 zP4E zP4P 51 rfl (by kernel_rfl) ?_)) <;> ((try with_reducible intro K1 hK1); simp only [go_sem, ↓reduceIte, reduceCtorEq, nA, nB, nC, nD, nE, nF] <;> and_intros <;> first | (apply hK1; clear hK1 K1) | (intros; first | omega | decide | (simp_all <;> omega)) | skip))))
     refine (ho2 _).mono ?_; rintro _ hz ⟨rfl, hh⟩; refine ⟨rfl, hK1 _ ?_⟩; clear hK1 K1; rw [hh]; clear hh hz
     cases b2 with
     | true =>
      (repeat (first | refine gO rfl ?_ | ((first | refine gM zM11 ?_ | (with_reducible refine wM ?_ ?_) | ((with_reducible refine xS ?_); refine uD 9 zM11 zP4E zP4P 51 rfl (by kernel_rfl) ?_)) <;> ((try with_reducible intro K1 hK1); simp only [go_sem, ↓reduceIte, reduceCtorEq, nA, nB, nC, nD, nE, nF] <;> and_intros <;> first | (apply hK1; clear hK1 K1) | (intros; first | omega | decide | (simp_all <;> omega)) | skip))))
      refine awp_cond (t := _) rfl (fun _ => ?_) (fun h9 => by cases h9)
      (repeat (first | refine gO rfl ?_ | ((first | refine gM zM11 ?_ | (with_reducible refine wM ?_ ?_) | ((with_reducible refine xS ?_); refine uD 9 zM11 zP4E zP4P 51 rfl (by kernel_rfl) ?_)) <;> ((try with_reducible intro K1 hK1); simp only [go_sem, ↓reduceIte, reduceCtorEq, nA, nB, nC, nD, nE, nF] <;> and_intros <;> first | (apply hK1; clear hK1 K1) | (intros; first | omega | decide | (simp_all <;> omega)) | skip))))
      simp only [Tryz.results92, go_sem, ↓reduceIte, reduceCtorEq, nA, nB, nC, nD, nE, nF]
      exact ⟨_, _, Weak.refl _, Hp.le.refl _, by rw [HW.out]; rfl, rfl⟩
     | false =>
      (repeat (first | refine gO rfl ?_ | ((first | refine gM zM11 ?_ | (with_reducible refine wM ?_ ?_) | ((with_reducible refine xS ?_); refine uD 9 zM11 zP4E zP4P 51 rfl (by kernel_rfl) ?_)) <;> ((try with_reducible intro K1 hK1); simp only [go_sem, ↓reduceIte, reduceCtorEq, nA, nB, nC, nD, nE, nF] <;> and_intros <;> first | (apply hK1; clear hK1 K1) | (intros; first | omega | decide | (simp_all <;> omega)) | skip))))
      refine awp_cond (t := _) rfl (fun h9 => by cases h9) (fun _ => ?_)
      simp only [outB, Bool.or_eq_false_iff, decide_eq_false_iff_not] at ha1
      (repeat (first | refine gO rfl ?_ | ((first | refine gM zM11 ?_ | (with_reducible refine wM ?_ ?_) | ((with_reducible refine xS ?_); refine uD 9 zM11 zP4E zP4P 51 rfl (by kernel_rfl) ?_)) <;> ((try with_reducible intro K1 hK1); simp only [go_sem, ↓reduceIte, reduceCtorEq, nA, nB, nC, nD, nE, nF] <;> and_intros <;> first | (apply hK1; clear hK1 K1) | (intros; first | omega | decide | (simp_all <;> omega)) | skip))))
      exact ⟨g - 1, by omega, j + 1, q + x.2.1, by omega, by omega, Lib.hid (by rw [HW.out, hpv]; rfl), rfl⟩
   ·have hd0 : decide ((0 : Int) < (j : Int)) = true := by simp only [decide_eq_true_eq]; omega
    rw [prevW, if_neg hj0] at hpb
    simp only at hpb
    have ht1 : ((j : Int) - 1).toNat = j - 1 := by omega
    have gp : (ws.map encW).getD (j - 1) [] = [.v (.string (ws.getD (j - 1) default).1), .v (.int .i64 (ws.getD (j - 1) default).2.1), .v (.int .i64 (ws.getD (j - 1) default).2.2)] := getD_enc encW ws (j - 1) default (by omega)
    generalize ws.getD (j - 1) default = y at gp hpb
    unfold leS at hpb
    (repeat (first | refine gO rfl ?_ | ((first | refine gM zM11 ?_ | (with_reducible refine wM ?_ ?_) | ((with_reducible refine xS ?_); refine uD 9 zM11 zP4E zP4P 51 rfl (by kernel_rfl) ?_)) <;> ((try with_reducible intro K1 hK1); simp only [go_sem, ↓reduceIte, reduceCtorEq, nA, nB, nC, nD, nE, nF, hd0, ht1, gp, hpb, List.length_map] <;> and_intros <;> first | (apply hK1; clear hK1 K1) | (intros; first | omega | decide | (simp_all <;> omega)) | skip))))
    cases pb with
    | true =>
     refine awp_cond (t := _) rfl (fun _ => ?_) (fun h9 => by cases h9)
     (repeat (first | refine gO rfl ?_ | ((first | refine gM zM11 ?_ | (with_reducible refine wM ?_ ?_) | ((with_reducible refine xS ?_); refine uD 9 zM11 zP4E zP4P 51 rfl (by kernel_rfl) ?_)) <;> ((try with_reducible intro K1 hK1); simp only [go_sem, ↓reduceIte, reduceCtorEq, nA, nB, nC, nD, nE, nF] <;> and_intros <;> first | (apply hK1; clear hK1 K1) | (intros; first | omega | decide | (simp_all <;> omega)) | skip))))
     simp only [Tryz.results92, go_sem, ↓reduceIte, reduceCtorEq, nA, nB, nC, nD, nE, nF]
     exact ⟨_, _, Weak.refl _, Hp.le.refl _, by rw [HW.out, if_pos rfl], rfl⟩
    | false =>
     refine awp_cond (t := _) rfl (fun h9 => by cases h9) (fun _ => ?_)
     have ho1 : ∀ h : Hp, ACalls Tryz.prog 74 [.v (.int .i64 x.2.1), .v (.int .i64 1), .v (.int .i64 12)] h (fun r h' => r = .v (.bool ((outB x.2.1 1 12))) ∧ h' = h) := fun h => a_outside x.2.1 1 12 h
     have ho2 : ∀ h : Hp, ACalls Tryz.prog 74 [.v (.int .i64 x.2.2), .v (.int .i64 0), .v (.int .i64 12)] h (fun r h' => r = .v (.bool ((outB x.2.2 0 12))) ∧ h' = h) := fun h => a_outside x.2.2 0 12 h
     generalize ha1 : outB x.2.1 1 12 = b1 at HW ho1
     generalize ha2 : outB x.2.2 0 12 = b2 at HW ho2
     (repeat (first | refine gO rfl ?_ | ((first | refine gM zM11 ?_ | (with_reducible refine wM ?_ ?_) | ((with_reducible refine xS ?_); refine uD 9 zM11 zP4E zP4P 51 rfl (by kernel_rfl) ?_)) <;> ((try with_reducible intro K1 hK1); simp only [go_sem, ↓reduceIte, reduceCtorEq, nA, nB, nC, nD, nE, nF] <;> and_intros <;> first | (apply hK1; clear hK1 K1) | (intros; first | omega | decide | (simp_all <;> omega)) | skip))))
     refine (ho1 _).mono ?_; rintro _ hz ⟨rfl, hh⟩; apply hK1; clear hK1 K1; rw [hh]; clear hh hz
     cases b1 with
     | true =>
      (repeat (first | refine gO rfl ?_ | ((first | refine gM zM11 ?_ | (with_reducible refine wM ?_ ?_) | ((with_reducible refine xS ?_); refine uD 9 zM11 zP4E zP4P 51 rfl (by kernel_rfl) ?_)) <;> ((try with_reducible intro K1 hK1); simp only [go_sem, ↓reduceIte, reduceCtorEq, nA, nB, nC, nD, nE, nF] <;> and_intros <;> first | (apply hK1; clear hK1 K1) | (intros; first | omega | decide | (simp_all <;> omega)) | skip))))
      refine awp_cond (t := _) rfl (fun _ => ?_) (fun h9 => by cases h9)
      (repeat (first | refine gO rfl ?_ | ((first | refine gM zM11 ?_ | (with_reducible refine wM ?_ ?_) | ((with_reducible refine xS ?_); refine uD 9 zM11 zP4E zP4P 51 rfl (by kernel_rfl) ?_)) <;> ((try with_reducible intro K1 hK1); simp only [go_sem, ↓reduceIte, reduceCtorEq, nA, nB, nC, nD, nE, nF] <;> and_intros <;> first | (apply hK1; clear hK1 K1) | (intros; first | omega | decide | (simp_all <;> omega)) | skip))))
      simp only [Tryz.results92, go_sem, ↓reduceIte, reduceCtorEq, nA, nB, nC, nD, nE, nF]
      exact ⟨_, _, Weak.refl _, Hp.le.refl _, by rw [HW.out]; rfl, rfl⟩
     | false =>
      (repeat (first | refine gO rfl ?_ | ((first | refine gM zM11 ?_ | (with_reducible refine wM ?_ ?_) | ((with_reducible refine xS ?_); refine uD 9 zM11 zP4E zP4P 51 rfl (by kernel_rfl) ?_)) <;> ((try with_reducible intro K1 hK1); simp only [go_sem, ↓reduceIte, reduceCtorEq, nA, nB, nC, nD, nE, nF] <;> and_intros <;> first | (apply hK1; clear hK1 K1) | (intros; first | omega | decide | (simp_all <;> omega)) | skip))))
      refine (ho2 _).mono ?_; rintro _ hz ⟨rfl, hh⟩; refine ⟨rfl, hK1 _ ?_⟩; clear hK1 K1; rw [hh]; clear hh hz
      cases b2 with
      | true =>
       (repeat (first | refine gO rfl ?_ | ((first | refine gM zM11 ?_ | (with_reducible refine wM ?_ ?_) | ((with_reducible refine xS ?_); refine uD 9 zM11 zP4E zP4P 51 rfl (by kernel_rfl) ?_)) <;> ((try with_reducible intro K1 hK1); simp only [go_sem, ↓reduceIte, reduceCtorEq, nA, nB, nC, nD, nE, nF] <;> and_intros <;> first | (apply hK1; clear hK1 K1) | (intros; first | omega | decide | (simp_all <;> omega)) | skip))))
       refine awp_cond (t := _) rfl (fun _ => ?_) (fun h9 => by cases h9)
       (repeat (first | refine gO rfl ?_ | ((first | refine gM zM11 ?_ | (with_reducible refine wM ?_ ?_) | ((with_reducible refine xS ?_); refine uD 9 zM11 zP4E zP4P 51 rfl (by kernel_rfl) ?_)) <;> ((try with_reducible intro K1 hK1); simp only [go_sem, ↓reduceIte, reduceCtorEq, nA, nB, nC, nD, nE, nF] <;> and_intros <;> first | (apply hK1; clear hK1 K1) | (intros; first | omega | decide | (simp_all <;> omega)) | skip))))
       simp only [Tryz.results92, go_sem, ↓reduceIte, reduceCtorEq, nA, nB, nC, nD, nE, nF]
       exact ⟨_, _, Weak.refl _, Hp.le.refl _, by rw [HW.out]; rfl, rfl⟩
      | false =>
       (repeat (first | refine gO rfl ?_ | ((first | refine gM zM11 ?_ | (with_reducible refine wM ?_ ?_) | ((with_reducible refine xS ?_); refine uD 9 zM11 zP4E zP4P 51 rfl (by kernel_rfl) ?_)) <;> ((try with_reducible intro K1 hK1); simp only [go_sem, ↓reduceIte, reduceCtorEq, nA, nB, nC, nD, nE, nF] <;> and_intros <;> first | (apply hK1; clear hK1 K1) | (intros; first | omega | decide | (simp_all <;> omega)) | skip))))
       refine awp_cond (t := _) rfl (fun h9 => by cases h9) (fun _ => ?_)
       simp only [outB, Bool.or_eq_false_iff, decide_eq_false_iff_not] at ha1
       (repeat (first | refine gO rfl ?_ | ((first | refine gM zM11 ?_ | (with_reducible refine wM ?_ ?_) | ((with_reducible refine xS ?_); refine uD 9 zM11 zP4E zP4P 51 rfl (by kernel_rfl) ?_)) <;> ((try with_reducible intro K1 hK1); simp only [go_sem, ↓reduceIte, reduceCtorEq, nA, nB, nC, nD, nE, nF] <;> and_intros <;> first | (apply hK1; clear hK1 K1) | (intros; first | omega | decide | (simp_all <;> omega)) | skip))))
       exact ⟨g - 1, by omega, j + 1, q + x.2.1, by omega, by omega, Lib.hid (by rw [HW.out, hpv]; rfl), rfl⟩
 ·simp only [decide_eq_false_iff_not] at h2
  have hjl : j = ws.length := by omega
  subst hjl
  rw [List.drop_length, wantL_nil] at HW
  (repeat (first | refine gO rfl ?_ | ((first | refine gM zM11 ?_ | (with_reducible refine wM ?_ ?_) | ((with_reducible refine xS ?_); refine uD 9 zM11 zP4E zP4P 51 rfl (by kernel_rfl) ?_)) <;> ((try with_reducible intro K1 hK1); simp only [go_sem, ↓reduceIte, reduceCtorEq, nA, nB, nC, nD, nE, nF] <;> and_intros <;> first | (apply hK1; clear hK1 K1) | (intros; first | omega | decide | (simp_all <;> omega)) | skip))))
  refine awp_cond (t := _) rfl (fun h3 => ?_) (fun h3 => ?_)
  ·simp only [decide_eq_true_eq] at h3
   (repeat (first | refine gO rfl ?_ | ((first | refine gM zM11 ?_ | (with_reducible refine wM ?_ ?_) | ((with_reducible refine xS ?_); refine uD 9 zM11 zP4E zP4P 51 rfl (by kernel_rfl) ?_)) <;> ((try with_reducible intro K1 hK1); simp only [go_sem, ↓reduceIte, reduceCtorEq, nA, nB, nC, nD, nE, nF] <;> and_intros <;> first | (apply hK1; clear hK1 K1) | (intros; first | omega | decide | (simp_all <;> omega)) | skip))))
   simp only [Tryz.results92, go_sem, ↓reduceIte, reduceCtorEq, nA, nB, nC, nD, nE, nF]
   exact ⟨_, _, Weak.refl _, Hp.le.refl _, by rw [HW.out, if_pos h3], rfl⟩
  ·simp only [decide_eq_false_iff_not] at h3
   (repeat (first | refine gO rfl ?_ | ((first | refine gM zM11 ?_ | (with_reducible refine wM ?_ ?_) | ((with_reducible refine xS ?_); refine uD 9 zM11 zP4E zP4P 51 rfl (by kernel_rfl) ?_)) <;> ((try with_reducible intro K1 hK1); simp only [go_sem, ↓reduceIte, reduceCtorEq, nA, nB, nC, nD, nE, nF] <;> and_intros <;> first | (apply hK1; clear hK1 K1) | (intros; first | omega | decide | (simp_all <;> omega)) | skip))))
   simp only [Tryz.results92, go_sem, ↓reduceIte, reduceCtorEq, nA, nB, nC, nD, nE, nF]
   exact ⟨_, _, Weak.refl _, Hp.le.refl _, by rw [HW.out, if_neg h3], rfl⟩
theorem g_cntR (ws : List Wn) (h : Hp) (hs : ∀ x ∈ ws, WOk x) (hl : ws.length ≤ 1000) : ACalls Tryz.prog 27 [.row 3 (ws.map encW) none] h (fun r h' => r = .v (.int .i64 (wantE ws)) ∧ h' = h) := by
 refine gE Tryz.func27 rfl (by kernel_rfl) 52 rfl fun c => ?_
 (repeat (first | refine gO rfl ?_ | ((first | refine gM zM11 ?_ | (with_reducible refine wM ?_ ?_) | ((with_reducible refine xS ?_); refine uD 9 zM11 zP5E zP5P 53 rfl (by kernel_rfl) ?_)) <;> ((try with_reducible intro K1 hK1); simp only [go_sem, ↓reduceIte, reduceCtorEq, nA, nB, nC, nD, nE, nF, List.length_map] <;> and_intros <;> first | (apply hK1; clear hK1 K1) | (intros; first | omega | decide | (simp_all <;> omega)) | skip))))
 refine awp_cond (t := _) rfl (fun h1 => ?_) (fun h1 => ?_)
 ·simp only [decide_eq_true_eq] at h1
  (repeat (first | refine gO rfl ?_ | ((first | refine gM zM11 ?_ | (with_reducible refine wM ?_ ?_) | ((with_reducible refine xS ?_); refine uD 9 zM11 zP5E zP5P 53 rfl (by kernel_rfl) ?_)) <;> ((try with_reducible intro K1 hK1); simp only [go_sem, ↓reduceIte, reduceCtorEq, nA, nB, nC, nD, nE, nF] <;> and_intros <;> first | (apply hK1; clear hK1 K1) | (intros; first | omega | decide | (simp_all <;> omega)) | skip))))
  simp only [Tryz.results27, go_sem, ↓reduceIte, reduceCtorEq, nA, nB, nC, nD, nE, nF]
  exact ⟨_, _, Weak.refl _, Hp.le.refl _, by rw [wantE, if_pos (by omega)], rfl⟩
 simp only [decide_eq_false_iff_not] at h1
 have hwe : wantE ws = wantL none 0 ws := by rw [wantE, if_neg (by omega)]
 rw [hwe]
 clear hwe
 (repeat (first | refine gO rfl ?_ | ((first | refine gM zM11 ?_ | (with_reducible refine wM ?_ ?_) | ((with_reducible refine xS ?_); refine uD 9 zM11 zP5E zP5P 53 rfl (by kernel_rfl) ?_)) <;> ((try with_reducible intro K1 hK1); simp only [go_sem, ↓reduceIte, reduceCtorEq, nA, nB, nC, nD, nE, nF, List.length_map] <;> and_intros <;> first | (apply hK1; clear hK1 K1) | (intros; first | omega | decide | (simp_all <;> omega)) | skip))))
 refine awp_loopC (rl false [0, 1, 2, 1, 5, 3, 41]) 0 (fun g s => ∃ (j : Nat) (q : Int), g + j = ws.length ∧ (0 ≤ q ∧ q ≤ 12 * j) ∧ Go.RowKit.Hid (wantL none 0 ws = wantL (prevW ws j) q (ws.drop j)) ∧
  s = ⟨((.row 3 (ws.map encW) none) :: AV.junk :: AV.junk :: ((.v (.int .i64 q)) :: (jnk 5 ((.row 3 (ws.map encW) none) :: (.v (.int .i64 ws.length)) :: (.v (.int .i64 j)) :: (jnk 41 []))))), [], h⟩) ws.length ⟨0, 0, by omega, by omega, Lib.hid rfl, rfl⟩ ?_
 rintro g _ ⟨j, q, hj, hq, HW, rfl⟩
 (repeat (first | refine gO rfl ?_ | ((first | refine gM zM11 ?_ | (with_reducible refine wM ?_ ?_) | ((with_reducible refine xS ?_); refine uD 9 zM11 zP5E zP5P 53 rfl (by kernel_rfl) ?_)) <;> ((try with_reducible intro K1 hK1); simp only [go_sem, ↓reduceIte, reduceCtorEq, nA, nB, nC, nD, nE, nF] <;> and_intros <;> first | (apply hK1; clear hK1 K1) | (intros; first | omega | decide | (simp_all <;> omega)) | skip))))
 refine awp_cond (t := _) rfl (fun h2 => ?_) (fun h2 => ?_)
 ·simp only [decide_eq_true_eq] at h2
  have hjl : j < ws.length := by omega
  have gx : (ws.map encW).getD j [] = [.v (.string (ws.getD j default).1), .v (.int .i64 (ws.getD j default).2.1), .v (.int .i64 (ws.getD j default).2.2)] := getD_enc encW ws j default hjl
  have hwo := hs _ (show ws.getD j default ∈ ws by rw [List.getD_eq_getElem?_getD, List.getElem?_eq_getElem hjl]; exact List.getElem_mem hjl)
  have hdc := drop_at ws j default hjl
  have hpv : prevW ws (j + 1) = some (ws.getD j default).1 := by rw [prevW, if_neg (by omega)]; simp
  rw [hdc, wantL_cons] at HW
  clear hdc
  have hkx := fun h => a_key (ws.getD j default).1 (by have := hwo.1; omega) h
  generalize ws.getD j default = x at gx hwo hpv HW hkx
  (repeat (first | refine gO rfl ?_ | ((first | refine gM zM11 ?_ | (with_reducible refine wM ?_ ?_) | ((with_reducible refine xS ?_); refine uD 9 zM11 zP5E zP5P 53 rfl (by kernel_rfl) ?_)) <;> ((try with_reducible intro K1 hK1); simp only [go_sem, ↓reduceIte, reduceCtorEq, nA, nB, nC, nD, nE, nF, Int.toNat_natCast, gx] <;> and_intros <;> first | (apply hK1; clear hK1 K1) | (intros; first | omega | decide | (simp_all <;> omega)) | skip))))
  refine (hkx _).mono ?_; rintro _ hz ⟨rfl, hh⟩; apply hK1; clear hK1 K1; rw [hh]; clear hh hz
  generalize hkb : keyB x.1 = kb at HW
  clear hkx
  cases kb with
  | false =>
   (repeat (first | refine gO rfl ?_ | ((first | refine gM zM11 ?_ | (with_reducible refine wM ?_ ?_) | ((with_reducible refine xS ?_); refine uD 9 zM11 zP5E zP5P 53 rfl (by kernel_rfl) ?_)) <;> ((try with_reducible intro K1 hK1); simp only [go_sem, ↓reduceIte, reduceCtorEq, nA, nB, nC, nD, nE, nF] <;> and_intros <;> first | (apply hK1; clear hK1 K1) | (intros; first | omega | decide | (simp_all <;> omega)) | skip))))
   refine awp_cond (t := _) rfl (fun _ => ?_) (fun h9 => by cases h9)
   (repeat (first | refine gO rfl ?_ | ((first | refine gM zM11 ?_ | (with_reducible refine wM ?_ ?_) | ((with_reducible refine xS ?_); refine uD 9 zM11 zP5E zP5P 53 rfl (by kernel_rfl) ?_)) <;> ((try with_reducible intro K1 hK1); simp only [go_sem, ↓reduceIte, reduceCtorEq, nA, nB, nC, nD, nE, nF] <;> and_intros <;> first | (apply hK1; clear hK1 K1) | (intros; first | omega | decide | (simp_all <;> omega)) | skip))))
   simp only [Tryz.results27, go_sem, ↓reduceIte, reduceCtorEq, nA, nB, nC, nD, nE, nF]
   exact ⟨_, _, Weak.refl _, Hp.le.refl _, by rw [HW.out]; rfl, rfl⟩
  | true =>
   rw [if_pos rfl] at HW
   (repeat (first | refine gO rfl ?_ | ((first | refine gM zM11 ?_ | (with_reducible refine wM ?_ ?_) | ((with_reducible refine xS ?_); refine uD 9 zM11 zP5E zP5P 53 rfl (by kernel_rfl) ?_)) <;> ((try with_reducible intro K1 hK1); simp only [go_sem, ↓reduceIte, reduceCtorEq, nA, nB, nC, nD, nE, nF] <;> and_intros <;> first | (apply hK1; clear hK1 K1) | (intros; first | omega | decide | (simp_all <;> omega)) | skip))))
   refine awp_cond (t := _) rfl (fun h9 => by cases h9) (fun _ => ?_)
   generalize hpb : (match prevW ws j with | some q => leS x.1 q | none => false) = pb at HW
   by_cases hj0 : j = 0
   ·have hd0 : decide ((0 : Int) < (j : Int)) = false := by simp only [decide_eq_false_iff_not]; omega
    rw [prevW, if_pos hj0] at hpb
    simp only at hpb
    subst hpb
    have ht1 : ((j : Int) - 1).toNat = 0 := by omega
    have gp : (ws.map encW).getD 0 [] = [.v (.string (ws.getD 0 default).1), .v (.int .i64 (ws.getD 0 default).2.1), .v (.int .i64 (ws.getD 0 default).2.2)] := getD_enc encW ws 0 default (by omega)
    generalize ws.getD 0 default = y at gp
    (repeat (first | refine gO rfl ?_ | ((first | refine gM zM11 ?_ | (with_reducible refine wM ?_ ?_) | ((with_reducible refine xS ?_); refine uD 9 zM11 zP5E zP5P 53 rfl (by kernel_rfl) ?_)) <;> ((try with_reducible intro K1 hK1); simp only [go_sem, ↓reduceIte, reduceCtorEq, nA, nB, nC, nD, nE, nF, hd0, ht1, gp] <;> and_intros <;> first | (apply hK1; clear hK1 K1) | (intros; first | omega | decide | (simp_all <;> omega)) | skip))))
    refine awp_cond (t := _) rfl (fun h9 => by cases h9) (fun _ => ?_)
    have ho1 : ∀ h : Hp, ACalls Tryz.prog 91 [.v (.int .i64 x.2.1), .v (.int .i64 1), .v (.int .i64 12)] h (fun r h' => r = .v (.bool (!(outB x.2.1 1 12))) ∧ h' = h) := fun h => a_in2 x.2.1 1 12 h
    have ho2 : ∀ h : Hp, ACalls Tryz.prog 91 [.v (.int .i64 x.2.2), .v (.int .i64 0), .v (.int .i64 12)] h (fun r h' => r = .v (.bool (!(outB x.2.2 0 12))) ∧ h' = h) := fun h => a_in2 x.2.2 0 12 h
    generalize ha1 : outB x.2.1 1 12 = b1 at HW ho1
    generalize ha2 : outB x.2.2 0 12 = b2 at HW ho2
    (repeat (first | refine gO rfl ?_ | ((first | refine gM zM11 ?_ | (with_reducible refine wM ?_ ?_) | ((with_reducible refine xS ?_); refine uD 9 zM11 zP5E zP5P 53 rfl (by kernel_rfl) ?_)) <;> ((try with_reducible intro K1 hK1); simp only [go_sem, ↓reduceIte, reduceCtorEq, nA, nB, nC, nD, nE, nF] <;> and_intros <;> first | (apply hK1; clear hK1 K1) | (intros; first | omega | decide | (simp_all <;> omega)) | skip))))
    refine (ho1 _).mono ?_; rintro _ hz ⟨rfl, hh⟩; apply hK1; clear hK1 K1; rw [hh]; clear hh hz
    cases b1 with
    | true =>
     (repeat (first | refine gO rfl ?_ | ((first | refine gM zM11 ?_ | (with_reducible refine wM ?_ ?_) | ((with_reducible refine xS ?_); refine uD 9 zM11 zP5E zP5P 53 rfl (by kernel_rfl) ?_)) <;> ((try with_reducible intro K1 hK1); simp only [go_sem, ↓reduceIte, reduceCtorEq, nA, nB, nC, nD, nE, nF] <;> and_intros <;> first | (apply hK1; clear hK1 K1) | (intros; first | omega | decide | (simp_all <;> omega)) | skip))))
     refine ⟨.v (.bool false), rfl, True.intro, hK1 _ ?_⟩; clear hK1 K1
     (repeat (first | refine gO rfl ?_ | ((first | refine gM zM11 ?_ | (with_reducible refine wM ?_ ?_) | ((with_reducible refine xS ?_); refine uD 9 zM11 zP5E zP5P 53 rfl (by kernel_rfl) ?_)) <;> ((try with_reducible intro K1 hK1); simp only [go_sem, ↓reduceIte, reduceCtorEq, nA, nB, nC, nD, nE, nF] <;> and_intros <;> first | (apply hK1; clear hK1 K1) | (intros; first | omega | decide | (simp_all <;> omega)) | skip))))
     refine awp_cond (t := _) rfl (fun _ => ?_) (fun h9 => by cases h9)
     (repeat (first | refine gO rfl ?_ | ((first | refine gM zM11 ?_ | (with_reducible refine wM ?_ ?_) | ((with_reducible refine xS ?_); refine uD 9 zM11 zP5E zP5P 53 rfl (by kernel_rfl) ?_)) <;> ((try with_reducible intro K1 hK1); simp only [go_sem, ↓reduceIte, reduceCtorEq, nA, nB, nC, nD, nE, nF] <;> and_intros <;> first | (apply hK1; clear hK1 K1) | (intros; first | omega | decide | (simp_all <;> omega)) | skip))))
     simp only [Tryz.results27, go_sem, ↓reduceIte, reduceCtorEq, nA, nB, nC, nD, nE, nF]
     exact ⟨_, _, Weak.refl _, Hp.le.refl _, by rw [HW.out]; rfl, rfl⟩
    | false =>
     (repeat (first | refine gO rfl ?_ | ((first | refine gM zM11 ?_ | (with_reducible refine wM ?_ ?_) | ((with_reducible refine xS ?_); refine uD 9 zM11 zP5E zP5P 53 rfl (by kernel_rfl) ?_)) <;> ((try with_reducible intro K1 hK1); simp only [go_sem, ↓reduceIte, reduceCtorEq, nA, nB, nC, nD, nE, nF] <;> and_intros <;> first | (apply hK1; clear hK1 K1) | (intros; first | omega | decide | (simp_all <;> omega)) | skip))))
     refine (ho2 _).mono ?_; rintro _ hz ⟨rfl, hh⟩; refine ⟨rfl, hK1 _ ?_⟩; clear hK1 K1; rw [hh]; clear hh hz
     cases b2 with
     | true =>
      (repeat (first | refine gO rfl ?_ | ((first | refine gM zM11 ?_ | (with_reducible refine wM ?_ ?_) | ((with_reducible refine xS ?_); refine uD 9 zM11 zP5E zP5P 53 rfl (by kernel_rfl) ?_)) <;> ((try with_reducible intro K1 hK1); simp only [go_sem, ↓reduceIte, reduceCtorEq, nA, nB, nC, nD, nE, nF] <;> and_intros <;> first | (apply hK1; clear hK1 K1) | (intros; first | omega | decide | (simp_all <;> omega)) | skip))))
      refine awp_cond (t := _) rfl (fun _ => ?_) (fun h9 => by cases h9)
      (repeat (first | refine gO rfl ?_ | ((first | refine gM zM11 ?_ | (with_reducible refine wM ?_ ?_) | ((with_reducible refine xS ?_); refine uD 9 zM11 zP5E zP5P 53 rfl (by kernel_rfl) ?_)) <;> ((try with_reducible intro K1 hK1); simp only [go_sem, ↓reduceIte, reduceCtorEq, nA, nB, nC, nD, nE, nF] <;> and_intros <;> first | (apply hK1; clear hK1 K1) | (intros; first | omega | decide | (simp_all <;> omega)) | skip))))
      simp only [Tryz.results27, go_sem, ↓reduceIte, reduceCtorEq, nA, nB, nC, nD, nE, nF]
      exact ⟨_, _, Weak.refl _, Hp.le.refl _, by rw [HW.out]; rfl, rfl⟩
     | false =>
      (repeat (first | refine gO rfl ?_ | ((first | refine gM zM11 ?_ | (with_reducible refine wM ?_ ?_) | ((with_reducible refine xS ?_); refine uD 9 zM11 zP5E zP5P 53 rfl (by kernel_rfl) ?_)) <;> ((try with_reducible intro K1 hK1); simp only [go_sem, ↓reduceIte, reduceCtorEq, nA, nB, nC, nD, nE, nF] <;> and_intros <;> first | (apply hK1; clear hK1 K1) | (intros; first | omega | decide | (simp_all <;> omega)) | skip))))
      refine awp_cond (t := _) rfl (fun h9 => by cases h9) (fun _ => ?_)
      simp only [outB, Bool.or_eq_false_iff, decide_eq_false_iff_not] at ha1
      (repeat (first | refine gO rfl ?_ | ((first | refine gM zM11 ?_ | (with_reducible refine wM ?_ ?_) | ((with_reducible refine xS ?_); refine uD 9 zM11 zP5E zP5P 53 rfl (by kernel_rfl) ?_)) <;> ((try with_reducible intro K1 hK1); simp only [go_sem, ↓reduceIte, reduceCtorEq, nA, nB, nC, nD, nE, nF] <;> and_intros <;> first | (apply hK1; clear hK1 K1) | (intros; first | omega | decide | (simp_all <;> omega)) | skip))))
      exact ⟨g - 1, by omega, j + 1, q + x.2.1, by omega, by omega, Lib.hid (by rw [HW.out, hpv]; rfl), rfl⟩
   ·have hd0 : decide ((0 : Int) < (j : Int)) = true := by simp only [decide_eq_true_eq]; omega
    rw [prevW, if_neg hj0] at hpb
    simp only at hpb
    have ht1 : ((j : Int) - 1).toNat = j - 1 := by omega
    have gp : (ws.map encW).getD (j - 1) [] = [.v (.string (ws.getD (j - 1) default).1), .v (.int .i64 (ws.getD (j - 1) default).2.1), .v (.int .i64 (ws.getD (j - 1) default).2.2)] := getD_enc encW ws (j - 1) default (by omega)
    generalize ws.getD (j - 1) default = y at gp hpb
    unfold leS at hpb
    (repeat (first | refine gO rfl ?_ | ((first | refine gM zM11 ?_ | (with_reducible refine wM ?_ ?_) | ((with_reducible refine xS ?_); refine uD 9 zM11 zP5E zP5P 53 rfl (by kernel_rfl) ?_)) <;> ((try with_reducible intro K1 hK1); simp only [go_sem, ↓reduceIte, reduceCtorEq, nA, nB, nC, nD, nE, nF, hd0, ht1, gp, hpb, List.length_map] <;> and_intros <;> first | (apply hK1; clear hK1 K1) | (intros; first | omega | decide | (simp_all <;> omega)) | skip))))
    cases pb with
    | true =>
     refine awp_cond (t := _) rfl (fun _ => ?_) (fun h9 => by cases h9)
     (repeat (first | refine gO rfl ?_ | ((first | refine gM zM11 ?_ | (with_reducible refine wM ?_ ?_) | ((with_reducible refine xS ?_); refine uD 9 zM11 zP5E zP5P 53 rfl (by kernel_rfl) ?_)) <;> ((try with_reducible intro K1 hK1); simp only [go_sem, ↓reduceIte, reduceCtorEq, nA, nB, nC, nD, nE, nF] <;> and_intros <;> first | (apply hK1; clear hK1 K1) | (intros; first | omega | decide | (simp_all <;> omega)) | skip))))
     simp only [Tryz.results27, go_sem, ↓reduceIte, reduceCtorEq, nA, nB, nC, nD, nE, nF]
     exact ⟨_, _, Weak.refl _, Hp.le.refl _, by rw [HW.out, if_pos rfl], rfl⟩
    | false =>
     refine awp_cond (t := _) rfl (fun h9 => by cases h9) (fun _ => ?_)
     have ho1 : ∀ h : Hp, ACalls Tryz.prog 91 [.v (.int .i64 x.2.1), .v (.int .i64 1), .v (.int .i64 12)] h (fun r h' => r = .v (.bool (!(outB x.2.1 1 12))) ∧ h' = h) := fun h => a_in2 x.2.1 1 12 h
     have ho2 : ∀ h : Hp, ACalls Tryz.prog 91 [.v (.int .i64 x.2.2), .v (.int .i64 0), .v (.int .i64 12)] h (fun r h' => r = .v (.bool (!(outB x.2.2 0 12))) ∧ h' = h) := fun h => a_in2 x.2.2 0 12 h
     generalize ha1 : outB x.2.1 1 12 = b1 at HW ho1
     generalize ha2 : outB x.2.2 0 12 = b2 at HW ho2
     (repeat (first | refine gO rfl ?_ | ((first | refine gM zM11 ?_ | (with_reducible refine wM ?_ ?_) | ((with_reducible refine xS ?_); refine uD 9 zM11 zP5E zP5P 53 rfl (by kernel_rfl) ?_)) <;> ((try with_reducible intro K1 hK1); simp only [go_sem, ↓reduceIte, reduceCtorEq, nA, nB, nC, nD, nE, nF] <;> and_intros <;> first | (apply hK1; clear hK1 K1) | (intros; first | omega | decide | (simp_all <;> omega)) | skip))))
     refine (ho1 _).mono ?_; rintro _ hz ⟨rfl, hh⟩; apply hK1; clear hK1 K1; rw [hh]; clear hh hz
     cases b1 with
     | true =>
      (repeat (first | refine gO rfl ?_ | ((first | refine gM zM11 ?_ | (with_reducible refine wM ?_ ?_) | ((with_reducible refine xS ?_); refine uD 9 zM11 zP5E zP5P 53 rfl (by kernel_rfl) ?_)) <;> ((try with_reducible intro K1 hK1); simp only [go_sem, ↓reduceIte, reduceCtorEq, nA, nB, nC, nD, nE, nF] <;> and_intros <;> first | (apply hK1; clear hK1 K1) | (intros; first | omega | decide | (simp_all <;> omega)) | skip))))
      refine ⟨.v (.bool false), rfl, True.intro, hK1 _ ?_⟩; clear hK1 K1
      (repeat (first | refine gO rfl ?_ | ((first | refine gM zM11 ?_ | (with_reducible refine wM ?_ ?_) | ((with_reducible refine xS ?_); refine uD 9 zM11 zP5E zP5P 53 rfl (by kernel_rfl) ?_)) <;> ((try with_reducible intro K1 hK1); simp only [go_sem, ↓reduceIte, reduceCtorEq, nA, nB, nC, nD, nE, nF] <;> and_intros <;> first | (apply hK1; clear hK1 K1) | (intros; first | omega | decide | (simp_all <;> omega)) | skip))))
      refine awp_cond (t := _) rfl (fun _ => ?_) (fun h9 => by cases h9)
      (repeat (first | refine gO rfl ?_ | ((first | refine gM zM11 ?_ | (with_reducible refine wM ?_ ?_) | ((with_reducible refine xS ?_); refine uD 9 zM11 zP5E zP5P 53 rfl (by kernel_rfl) ?_)) <;> ((try with_reducible intro K1 hK1); simp only [go_sem, ↓reduceIte, reduceCtorEq, nA, nB, nC, nD, nE, nF] <;> and_intros <;> first | (apply hK1; clear hK1 K1) | (intros; first | omega | decide | (simp_all <;> omega)) | skip))))
      simp only [Tryz.results27, go_sem, ↓reduceIte, reduceCtorEq, nA, nB, nC, nD, nE, nF]
      exact ⟨_, _, Weak.refl _, Hp.le.refl _, by rw [HW.out]; rfl, rfl⟩
     | false =>
      (repeat (first | refine gO rfl ?_ | ((first | refine gM zM11 ?_ | (with_reducible refine wM ?_ ?_) | ((with_reducible refine xS ?_); refine uD 9 zM11 zP5E zP5P 53 rfl (by kernel_rfl) ?_)) <;> ((try with_reducible intro K1 hK1); simp only [go_sem, ↓reduceIte, reduceCtorEq, nA, nB, nC, nD, nE, nF] <;> and_intros <;> first | (apply hK1; clear hK1 K1) | (intros; first | omega | decide | (simp_all <;> omega)) | skip))))
      refine (ho2 _).mono ?_; rintro _ hz ⟨rfl, hh⟩; refine ⟨rfl, hK1 _ ?_⟩; clear hK1 K1; rw [hh]; clear hh hz
      cases b2 with
      | true =>
       (repeat (first | refine gO rfl ?_ | ((first | refine gM zM11 ?_ | (with_reducible refine wM ?_ ?_) | ((with_reducible refine xS ?_); refine uD 9 zM11 zP5E zP5P 53 rfl (by kernel_rfl) ?_)) <;> ((try with_reducible intro K1 hK1); simp only [go_sem, ↓reduceIte, reduceCtorEq, nA, nB, nC, nD, nE, nF] <;> and_intros <;> first | (apply hK1; clear hK1 K1) | (intros; first | omega | decide | (simp_all <;> omega)) | skip))))
       refine awp_cond (t := _) rfl (fun _ => ?_) (fun h9 => by cases h9)
       (repeat (first | refine gO rfl ?_ | ((first | refine gM zM11 ?_ | (with_reducible refine wM ?_ ?_) | ((with_reducible refine xS ?_); refine uD 9 zM11 zP5E zP5P 53 rfl (by kernel_rfl) ?_)) <;> ((try with_reducible intro K1 hK1); simp only [go_sem, ↓reduceIte, reduceCtorEq, nA, nB, nC, nD, nE, nF] <;> and_intros <;> first | (apply hK1; clear hK1 K1) | (intros; first | omega | decide | (simp_all <;> omega)) | skip))))
       simp only [Tryz.results27, go_sem, ↓reduceIte, reduceCtorEq, nA, nB, nC, nD, nE, nF]
       exact ⟨_, _, Weak.refl _, Hp.le.refl _, by rw [HW.out]; rfl, rfl⟩
      | false =>
       (repeat (first | refine gO rfl ?_ | ((first | refine gM zM11 ?_ | (with_reducible refine wM ?_ ?_) | ((with_reducible refine xS ?_); refine uD 9 zM11 zP5E zP5P 53 rfl (by kernel_rfl) ?_)) <;> ((try with_reducible intro K1 hK1); simp only [go_sem, ↓reduceIte, reduceCtorEq, nA, nB, nC, nD, nE, nF] <;> and_intros <;> first | (apply hK1; clear hK1 K1) | (intros; first | omega | decide | (simp_all <;> omega)) | skip))))
       refine awp_cond (t := _) rfl (fun h9 => by cases h9) (fun _ => ?_)
       simp only [outB, Bool.or_eq_false_iff, decide_eq_false_iff_not] at ha1
       (repeat (first | refine gO rfl ?_ | ((first | refine gM zM11 ?_ | (with_reducible refine wM ?_ ?_) | ((with_reducible refine xS ?_); refine uD 9 zM11 zP5E zP5P 53 rfl (by kernel_rfl) ?_)) <;> ((try with_reducible intro K1 hK1); simp only [go_sem, ↓reduceIte, reduceCtorEq, nA, nB, nC, nD, nE, nF] <;> and_intros <;> first | (apply hK1; clear hK1 K1) | (intros; first | omega | decide | (simp_all <;> omega)) | skip))))
       exact ⟨g - 1, by omega, j + 1, q + x.2.1, by omega, by omega, Lib.hid (by rw [HW.out, hpv]; rfl), rfl⟩
 ·simp only [decide_eq_false_iff_not] at h2
  have hjl : j = ws.length := by omega
  subst hjl
  rw [List.drop_length, wantL_nil] at HW
  (repeat (first | refine gO rfl ?_ | ((first | refine gM zM11 ?_ | (with_reducible refine wM ?_ ?_) | ((with_reducible refine xS ?_); refine uD 9 zM11 zP5E zP5P 53 rfl (by kernel_rfl) ?_)) <;> ((try with_reducible intro K1 hK1); simp only [go_sem, ↓reduceIte, reduceCtorEq, nA, nB, nC, nD, nE, nF] <;> and_intros <;> first | (apply hK1; clear hK1 K1) | (intros; first | omega | decide | (simp_all <;> omega)) | skip))))
  refine awp_cond (t := _) rfl (fun h3 => ?_) (fun h3 => ?_)
  ·simp only [decide_eq_true_eq] at h3
   (repeat (first | refine gO rfl ?_ | ((first | refine gM zM11 ?_ | (with_reducible refine wM ?_ ?_) | ((with_reducible refine xS ?_); refine uD 9 zM11 zP5E zP5P 53 rfl (by kernel_rfl) ?_)) <;> ((try with_reducible intro K1 hK1); simp only [go_sem, ↓reduceIte, reduceCtorEq, nA, nB, nC, nD, nE, nF] <;> and_intros <;> first | (apply hK1; clear hK1 K1) | (intros; first | omega | decide | (simp_all <;> omega)) | skip))))
   simp only [Tryz.results27, go_sem, ↓reduceIte, reduceCtorEq, nA, nB, nC, nD, nE, nF]
   exact ⟨_, _, Weak.refl _, Hp.le.refl _, by rw [HW.out, if_pos h3], rfl⟩
  ·simp only [decide_eq_false_iff_not] at h3
   (repeat (first | refine gO rfl ?_ | ((first | refine gM zM11 ?_ | (with_reducible refine wM ?_ ?_) | ((with_reducible refine xS ?_); refine uD 9 zM11 zP5E zP5P 53 rfl (by kernel_rfl) ?_)) <;> ((try with_reducible intro K1 hK1); simp only [go_sem, ↓reduceIte, reduceCtorEq, nA, nB, nC, nD, nE, nF] <;> and_intros <;> first | (apply hK1; clear hK1 K1) | (intros; first | omega | decide | (simp_all <;> omega)) | skip))))
   simp only [Tryz.results27, go_sem, ↓reduceIte, reduceCtorEq, nA, nB, nC, nD, nE, nF]
   exact ⟨_, _, Weak.refl _, Hp.le.refl _, by rw [HW.out, if_neg h3], rfl⟩
structure WantOk (ws : List Wn) : Prop where
 len : ws.length ≤ 12
 each : ∀ x ∈ ws, (1 ≤ x.2.1 ∧ x.2.1 ≤ 12) ∧ (0 ≤ x.2.2 ∧ x.2.2 ≤ 12)
 sum : (ws.map (·.2.1)).sum ≤ 12
theorem if_seven {pb : Bool} {X : Int} (h : (if pb = true then (7 : Int) else X) = 0) : X = 0 := by
 cases pb with
 | true => cases h
 | false => exact h
theorem wantL_ok : ∀ (ws : List Wn) (p : Option ByteArray) (s : Int), wantL p s ws = 0 → (∀ x ∈ ws, (1 ≤ x.2.1 ∧ x.2.1 ≤ 12) ∧ (0 ≤ x.2.2 ∧ x.2.2 ≤ 12)) ∧ s + (ws.map (·.2.1)).sum ≤ 12
 | [], p, s, h => by
  rw [wantL_nil] at h
  split at h
  ·cases h
  ·exact ⟨by simp, by simp; omega⟩
 | w :: ws, p, s, h => by
  rw [wantL_cons] at h
  by_cases hk : keyB w.1 = true
  ·rw [if_pos hk] at h
   have h := if_seven h
   split at h
   ·cases h
   ·rename_i h1
    obtain ⟨a, b⟩ := wantL_ok ws _ _ h
    simp only [outB, Bool.or_eq_true, decide_eq_true_eq, not_or] at h1
    refine ⟨fun x hx => ?_, by simp only [List.map_cons, List.sum_cons]; omega⟩
    rcases List.mem_cons.1 hx with rfl | hx
    ·omega
    ·exact a x hx
  ·rw [if_neg hk] at h; cases h
theorem want_ok {ws : List Wn} (h : wantE ws = 0) : WantOk ws := by
 unfold wantE at h
 split at h
 ·cases h
 ·obtain ⟨a, b⟩ := wantL_ok ws _ _ h
  exact ⟨by omega, a, by omega⟩
def manyS (ws : List Wn) : List Int := ws.map (·.2.1)
def allS (ws : List Wn) : Nat := (manyS ws).sum.toNat
def spreadV (ws : List Wn) : Option (List ByteArray) := (solve (apt ws) (allS ws) (manyS ws) (List.replicate ws.length 0)).map (·.map (itm ws))
theorem WantOk.nonneg {ws : List Wn} (h : WantOk ws) : ∀ x ∈ manyS ws, 0 ≤ x ∧ x ≤ 12 := fun x hx => by
 obtain ⟨y, hy, rfl⟩ := List.mem_map.1 hx
 have := (h.each y hy).1; omega
theorem sum_nonneg' : ∀ {L : List Int} (_ : ∀ x ∈ L, 0 ≤ x), 0 ≤ L.sum
 | [], _ => by simp
 | a :: L, h => by have := sum_nonneg' (L := L) fun x hx => h x (by simp [hx]); have := h a (by simp); simp only [List.sum_cons]; omega
theorem WantOk.all {ws : List Wn} (h : WantOk ws) : (manyS ws).sum = allS ws ∧ allS ws ≤ 12 := by
 have h1 := sum_nonneg' (L := manyS ws) fun x hx => (h.nonneg x hx).1
 have h2 : (manyS ws).sum ≤ 12 := h.sum
 unfold allS; omega
theorem WantOk.apt {ws : List Wn} (h : WantOk ws) : ∀ x ∈ apt ws, 0 ≤ x ∧ x ≤ 12 := fun x hx => by
 obtain ⟨y, hy, rfl⟩ := List.mem_map.1 hx
 have := (h.each y hy).2; omega
theorem WantOk.sps {ws : List Wn} (h : WantOk ws) : SpS (Go.Proofs.YtidkkmoiolffnaaGreatDoor.apt ws) (allS ws) (manyS ws) (List.replicate ws.length 0) :=
 ⟨by simp [manyS], by simp [manyS, Go.Proofs.YtidkkmoiolffnaaGreatDoor.apt], h.nonneg, fun x hx => by rw [(List.mem_replicate.1 hx).2]; omega, h.apt, h.all.1, h.all.2⟩
def runC (key : ByteArray) (ap : Int) : List ByteArray → Int → Int → Int → Option Int
 | [], _, _, n => some n
 | s :: r, i, la, n => if s = key then (if i - la - 1 < ap then none else runC key ap r (i + 1) i (n + 1)) else runC key ap r (i + 1) la n
theorem sum_zero {L : List Int} (h0 : ∀ x ∈ L, 0 ≤ x) (hs : L.sum = 0) : ∀ x ∈ L, x = 0 := by
 induction L with
 | nil => intro x hx; cases hx
 | cons a L ih =>
  have hn : ∀ M : List Int, (∀ x ∈ M, 0 ≤ x) → 0 ≤ M.sum := by
   intro M
   induction M with
   | nil => simp
   | cons b M ih => intro h; have := ih fun y hy => h y (by simp [hy]); have := h b (by simp); simp; omega
  have h1 := hn L fun y hy => h0 y (by simp [hy])
  have h2 := h0 a (by simp)
  simp only [List.sum_cons] at hs
  intro x hx
  rcases List.mem_cons.1 hx with rfl | hx
  ·omega
  ·exact ih (fun y hy => h0 y (by simp [hy])) (by omega) x hx
theorem solve_run {ds : List Int} (f : Nat → ByteArray) {N : Nat} (hf : ∀ i j, i < N → j < N → f i = f j → i = j) : ∀ {m : Nat} {L W : List Int} {p : List Nat} (_ : SpS ds m L W) (_ : L.length = N) (_ : solve ds m L W = some p) {j : Nat} (_ : j < N) (i la n : Int)
  (_ : W.getD j 0 = max 0 (la + ds.getD j 0 + 1 - i)), runC (f j) (ds.getD j 0) (p.map f) i la n = some (n + L.getD j 0)
 | 0, L, W, p, hs, hN, h, j, hj, i, la, n, hw => by
  cases h
  have := sum_zero (fun x hx => (hs.l0 x hx).1) hs.sm _ (mem_getD L (by omega : j < L.length))
  rw [this, Int.add_zero]; rfl
 | m + 1, L, W, p, hs, hN, h, j, hj, i, la, n, hw => by
  rw [solve_succ] at h
  obtain ⟨k, _, hk, h⟩ := fsome_spec h
  unfold tryI at h
  split at h
  ·cases h
  rename_i hn
  obtain ⟨q, hq, rfl⟩ := Option.map_eq_some_iff.1 h
  have hkl : k < L.length := by omega
  have hs2 := hs.next hkl hn
  have haj := hs.a0 _ (mem_getD ds (i := j) (by rw [hs.la]; omega))
  simp only [not_or] at hn
  rw [List.map_cons, runC]
  by_cases e : k = j
  ·subst e
   have hw0 : W.getD k 0 ≤ 0 := by omega
   rw [if_pos rfl, if_neg (by omega)]
   have ih := solve_run f hf hs2 (by simpa using hN) hq hj (i + 1) i (n + 1) (by
    rw [getD_set_eq (by simp [stepW, hs.lw]; exact hkl)]; omega)
   rw [ih, getD_set_eq hkl]
   congr 1; omega
  ·rw [if_neg fun e2 => e (hf k j (by omega) hj e2)]
   have ih := solve_run f hf hs2 (by simpa using hN) hq hj (i + 1) la n (by
    rw [getD_set_ne e, getD_stepW (by rw [hs.lw]; omega), hw]; omega)
   rw [ih, getD_set_ne e]
theorem leS_not {a b : ByteArray} (h : leS a b ≠ true) : b.data.toList < a.data.toList := by
 unfold leS at h
 rw [bytesLess_eq, ByteArray.toList_eq, ByteArray.toList_eq, ba_beq] at h
 simp only [ne_eq, Bool.or_eq_true, decide_eq_true_eq, not_or] at h
 rcases List.le_total a.data.toList b.data.toList with h1 | h1
 ·exfalso
  have h2 : b.data.toList ≤ a.data.toList := List.not_lt.1 h.1
  have e := List.le_antisymm h1 h2
  apply h.2
  cases a with | mk a => cases b with | mk b => congr; exact Array.ext' e
 ·rcases List.le_total a.data.toList b.data.toList with h2 | h2
  ·exfalso
   have e := List.le_antisymm h2 h1
   apply h.2
   cases a with | mk a => cases b with | mk b => congr; exact Array.ext' e
  ·apply Classical.byContradiction
   intro h3
   have h4 : a.data.toList ≤ b.data.toList := List.not_lt.1 h3
   have e := List.le_antisymm h4 h1
   apply h.2
   cases a with | mk a => cases b with | mk b => congr; exact Array.ext' e
theorem ite_c {X : Prop} [Decidable X] {c Y : Int} (hc : c ≠ 0) (h : (if X then c else Y) = 0) : ¬ X ∧ Y = 0 := by
 by_cases hx : X
 ·rw [if_pos hx] at h; exact absurd h hc
 ·rw [if_neg hx] at h; exact ⟨hx, h⟩
theorem wantL_rise : ∀ (ws : List Wn) (p : Option ByteArray) (s : Int), wantL p s ws = 0 → (∀ q, p = some q → ∀ x ∈ ws, q.data.toList < x.1.data.toList) ∧ ws.Pairwise (fun a b => a.1.data.toList < b.1.data.toList)
 | [], p, s, h => ⟨fun q _ x hx => (by cases hx), List.Pairwise.nil⟩
 | w :: l, p, s, h => by
  rw [wantL_cons] at h
  by_cases hk : keyB w.1 = true
  ·rw [if_pos hk] at h
   obtain ⟨h2, h⟩ := ite_c (by decide) h
   ·obtain ⟨h5, h⟩ := ite_c (by decide) h
    obtain ⟨h3, h4⟩ := wantL_rise l (some w.1) (s + w.2.1) h
    refine ⟨fun q e x hx => ?_, List.Pairwise.cons (fun x hx => h3 w.1 rfl x hx) h4⟩
    subst e
    have hq := leS_not h2
    rcases List.mem_cons.1 hx with rfl | hx
    ·exact hq
    ·exact List.lt_trans hq (h3 w.1 rfl x hx)
  ·rw [if_neg hk] at h; exact absurd h (by decide)
theorem want_keys {ws : List Wn} (h : wantE ws = 0) : ∀ i j, i < ws.length → j < ws.length → itm ws i = itm ws j → i = j := by
 have hw : wantL none 0 ws = 0 := by
  unfold wantE at h
  split at h
  ·cases h
  ·exact h
 have hp := (wantL_rise ws none 0 hw).2
 rw [List.pairwise_iff_getElem] at hp
 intro i j hi hj e
 unfold itm at e
 rw [List.getD_eq_getElem?_getD, List.getD_eq_getElem?_getD, List.getElem?_eq_getElem hi, List.getElem?_eq_getElem hj] at e
 simp only [Option.getD_some] at e
 rcases Nat.lt_trichotomy i j with h1 | h1 | h1
 ·have := hp i j hi hj h1
  rw [e] at this
  exact absurd this (List.lt_irrefl _)
 ·exact h1
 ·have := hp j i hj hi h1
  rw [e] at this
  exact absurd this (List.lt_irrefl _)
theorem spread_run {ws : List Wn} (h : wantE ws = 0) {q : List ByteArray} (hq : spreadV ws = some q) {j : Nat} (hj : j < ws.length) : runC (itm ws j) ((ws.getD j default).2.2) q 0 (-100) 0 = some ((ws.getD j default).2.1) := by
 have hW := want_ok h
 obtain ⟨p, hp, rfl⟩ := Option.map_eq_some_iff.1 hq
 have e1 : (apt ws).getD j 0 = (ws.getD j default).2.2 := by
  unfold apt; rw [List.getD_eq_getElem?_getD, List.getD_eq_getElem?_getD, List.getElem?_map, List.getElem?_eq_getElem hj]; rfl
 have e2 : (manyS ws).getD j 0 = (ws.getD j default).2.1 := by
  unfold manyS; rw [List.getD_eq_getElem?_getD, List.getD_eq_getElem?_getD, List.getElem?_map, List.getElem?_eq_getElem hj]; rfl
 have hb := hW.sps.a0 _ (mem_getD (apt ws) (i := j) (by unfold apt; rw [List.length_map]; exact hj))
 have hr := solve_run (itm ws) (N := ws.length) (want_keys h) hW.sps (by unfold manyS; rw [List.length_map]) hp hj 0 (-100) 0 (by
  rw [List.getD_eq_getElem?_getD, List.getElem?_replicate, if_pos hj]
  simp only [Option.getD_some]
  omega)
 rw [e1, e2, Int.zero_add] at hr
 exact hr
def dig (n : Nat) : List UInt8 := if n < 10 then [UInt8.ofNat (48 + n)] else [49, UInt8.ofNat (48 + n % 10)]
theorem dec_dig {n : Nat} (h : n < 20) : Lib.decDigits n = dig n := by
 unfold dig
 by_cases h1 : n < 10
 ·rw [Lib.decDigits, dif_pos h1, if_pos h1]
 ·rw [Lib.decDigits, dif_neg h1, if_neg h1, Lib.decDigits, dif_pos (by omega), show n / 10 = 1 by omega]; rfl
theorem dig_inj : ∀ n m : Fin 13, dig n = dig m → n = m := by decide
theorem dig_no : ∀ n : Fin 13, ∀ x ∈ dig n, x ≠ 58 ∧ x ≠ 32 := by decide
theorem split_at {c : UInt8} : ∀ {A B X Y : List UInt8} (_ : ∀ x ∈ A, x ≠ c) (_ : ∀ x ∈ B, x ≠ c) (_ : A ++ c :: X = B ++ c :: Y), A = B ∧ X = Y
 | [], [], X, Y, _, _, h => by simpa using h
 | [], b :: B, X, Y, _, hb, h => by
  simp only [List.nil_append, List.cons_append, List.cons.injEq] at h
  exact absurd h.1.symm (hb b (by simp))
 | a :: A, [], X, Y, ha, _, h => by
  simp only [List.nil_append, List.cons_append, List.cons.injEq] at h
  exact absurd h.1 (ha a (by simp))
 | a :: A, b :: B, X, Y, ha, hb, h => by
  simp only [List.cons_append, List.cons.injEq] at h
  obtain ⟨e, r⟩ := split_at (fun x hx => ha x (by simp [hx])) (fun x hx => hb x (by simp [hx])) h.2
  exact ⟨by rw [h.1, e], r⟩
def oneK (l w : Int) : List UInt8 := Lib.decDigits l.toNat ++ 58 :: (Lib.decDigits w.toNat ++ [32])
def keyK : List Int → List Int → List UInt8
 | l :: L, w :: W => oneK l w ++ keyK L W
 | _, _ => []
theorem keyK_inj : ∀ {L W L' W' : List Int} (_ : L.length = W.length) (_ : L'.length = W'.length) (_ : L.length = L'.length) (_ : ∀ x ∈ L, 0 ≤ x ∧ x ≤ 12) (_ : ∀ x ∈ W, 0 ≤ x ∧ x ≤ 12) (_ : ∀ x ∈ L', 0 ≤ x ∧ x ≤ 12) (_ : ∀ x ∈ W', 0 ≤ x ∧ x ≤ 12) (_ : keyK L W = keyK L' W'), L = L' ∧ W = W'
 | [], [], [], [], _, _, _, _, _, _, _, _ => ⟨rfl, rfl⟩
 | l :: L, w :: W, l' :: L', w' :: W', h1, h2, h3, b1, b2, b3, b4, h => by
  have c1 := b1 l (by simp); have c2 := b2 w (by simp); have c3 := b3 l' (by simp); have c4 := b4 w' (by simp)
  simp only [keyK, oneK, dec_dig (show l.toNat < 20 by omega), dec_dig (show w.toNat < 20 by omega), dec_dig (show l'.toNat < 20 by omega), dec_dig (show w'.toNat < 20 by omega), List.append_assoc, List.cons_append, List.nil_append] at h
  obtain ⟨e1, h⟩ := split_at (fun x hx => (dig_no ⟨l.toNat, by omega⟩ x hx).1) (fun x hx => (dig_no ⟨l'.toNat, by omega⟩ x hx).1) h
  obtain ⟨e2, h⟩ := split_at (fun x hx => (dig_no ⟨w.toNat, by omega⟩ x hx).2) (fun x hx => (dig_no ⟨w'.toNat, by omega⟩ x hx).2) h
  have i1 := Fin.mk.inj (dig_inj ⟨l.toNat, by omega⟩ ⟨l'.toNat, by omega⟩ e1)
  have i2 := Fin.mk.inj (dig_inj ⟨w.toNat, by omega⟩ ⟨w'.toNat, by omega⟩ e2)
  obtain ⟨r1, r2⟩ := keyK_inj (by simpa using h1) (by simpa using h2) (by simpa using h3) (fun x hx => b1 x (by simp [hx])) (fun x hx => b2 x (by simp [hx])) (fun x hx => b3 x (by simp [hx])) (fun x hx => b4 x (by simp [hx])) h
  exact ⟨by rw [r1, show l = l' by omega], by rw [r2, show w = w' by omega]⟩
def BadOk (ds : List Int) (n : Nat) (ks : List ByteArray) : Prop := ∀ k ∈ ks, ∀ m L W, L.length = n → SpS ds m L W → (⟨(keyK L W).toArray⟩ : ByteArray) = k → solve ds m L W = none
theorem BadOk.more {ds : List Int} {n : Nat} {ks : List ByteArray} (h : BadOk ds n ks) {m : Nat} {L W : List Int} (hn : L.length = n) (hs : SpS ds m L W) (h0 : solve ds m L W = none) : BadOk ds n ((⟨(keyK L W).toArray⟩ : ByteArray) :: ks) := by
 intro k hk m' L' W' hn' hs' e
 rcases List.mem_cons.1 hk with rfl | hk
 ·have e2 : keyK L' W' = keyK L W := by
   have := congrArg (fun b : ByteArray => b.data.toList) e
   simpa using this
  obtain ⟨rfl, rfl⟩ := keyK_inj hs'.lw.symm hs.lw.symm (by omega) hs'.l0 hs'.w0 hs.l0 hs.w0 e2
  have := hs.sm; have := hs'.sm
  obtain rfl : m = m' := by omega
  exact h0
 ·exact h k hk m' L' W' hn' hs' e
theorem sizeBuilder : (Tryz.prog.info? 205).map (·.size) = some 2 := by kernel_rfl
set_option maxHeartbeats 1000000 in
set_option maxRecDepth 100000 in
theorem copyCheck_used (b : Nat) (w : World) (h0 : w.cell? ⟨b, 0, none⟩ = some (.pointer (some ⟨b, 0, none⟩))) :
    Calls Tryz.prog 160 #[.pointer (some ⟨b, 0, none⟩)] w fun e w' => e = .returned (.tuple #[]) ∧ w' = w := by
  obtain ⟨j, hj, _⟩ := Option.map_eq_some_iff.1 sizeBuilder
  go_enter Tryz.func160, Tryz.ntmps160
  go_wp2
  rw [Lib.run_neq_ptr_same w _ Tryz.underlying202 hj]
  go_wp2
  go_end0
  exact ⟨rfl, rfl⟩
set_option maxHeartbeats 1000000 in
set_option maxRecDepth 100000 in
theorem copyCheck_fresh (b : Nat) (w : World) (h0 : w.cell? ⟨b, 0, none⟩ = some (.pointer none)) (hsh : w.shape? b = some (205, 2)) (hfz : w.frozen? ⟨b, 0, none⟩ = false) :
    Calls Tryz.prog 160 #[.pointer (some ⟨b, 0, none⟩)] w fun e w' => e = .returned (.tuple #[]) ∧ w' = w.setCell ⟨b, 0, none⟩ (.pointer (some ⟨b, 0, none⟩)) := by
  obtain ⟨j, hj, hjs⟩ := Option.map_eq_some_iff.1 sizeBuilder
  go_enter Tryz.func160, Tryz.ntmps160
  go_wp2
  rw [Lib.run_to_unsafe w ⟨b, 0, none⟩ Tryz.underlying202 Tryz.underlying355 hj (by rw [hjs]; decide) hsh (Nat.zero_lt_succ 1)]
  simp only [Result.andThen]
  rw [Oper.upon_value]
  go_wp2
  rw [run_callFunc_extern Tryz.func229 (by kernel_rfl) (by kernel_rfl) (by kernel_rfl) (e := Extern.AbiNoEscape.same) (by kernel_rfl)]
  rw [Lib.run_noEscape]
  simp only [Result.andThen]
  rw [Oper.upon_value]
  go_wp2
  rw [Lib.run_from_unsafe w ⟨b, 0, none⟩ Tryz.underlying355 Tryz.underlying202 hj hsh (by kernel_rfl)]
  simp only [Result.andThen]
  rw [Oper.upon_value]
  go_wp2
  go_end0
  exact ⟨rfl, rfl⟩
section
variable {P : Program} {c : Cx} {Q : Exit → St → Prop} {s : St} {ty : Nat → Option TyD} {o : Oper}
theorem a_allocObj (hty : TyOk P ty) {t : Nat} (ho : o.op = .alloc t) {d : TyD} (hd : ty t = some d) {K : St → Prop}
  (hK : ∀ i, s.h.H i = none → K ({ s with h := { s.h with H := upd s.h.H i (some (.obj t d.zero)) } }.put o.dst (.ptr i 0))) : Aop P c o s K := by
 rintro a w ⟨G, L, sm, hg, hf, hL⟩ Kc Qc hk
 obtain ⟨z, hz, hzz, h1⟩ := zero_run (hty _ _ hd) w
 have hr : RepL G d.zero z.cells.toList := by rw [hzz]; exact RepL.map_v G h1
 obtain ⟨hn, s1, g1, f1, e1⟩ := sm.newObj (y := .obj t d.zero) (o := .cells z.cells.toList.toArray t) ⟨_, rfl, by simpa using hr⟩
 unfold Oper.wp
 have hrun : (execOp a.eval o).run P w = .ok (.value (.pointer (some ⟨w.heap.size, 0, none⟩))) (w.alloc (.cells z.cells.toList.toArray t)) := by
  simp [execOp, ho, Instr.alloc, hz, newVar, newRow]
 rw [hrun]
 exact hk _ _ _ (hK _ hn) (In.put s1 (hg.trans g1) (hf.trans f1) hL o.dst (RepT.of (.ptr _ 0 _ e1)))
theorem awp_allocT (hty : TyOk P ty) {id t : Nat} (ho : o.op = .alloc t) (hg : o.guard = none) {d : TyD} (hd : ty t = some d)
  (h : ∀ i, s.h.H i = none → Q .normal ({ s with h := { s.h with H := upd s.h.H i (some (.obj t d.zero)) } }.put o.dst (.ptr i 0))) : Awp P c (.region id #[o] false) Q s := by
 intro a w hi
 refine wp_region_list ?_
 have h2 := a_allocObj (c := c) hty ho hd (K := Q .normal) h a w hi
 have hw : Region.wanted o (yielded #[o] a.tmps) = true := by simp [Region.wanted, hg]
 unfold wpList
 rw [if_pos hw]
 refine .inl (h2 _ _ fun s' a' w' hs hi' => ?_)
 exact ⟨s', hs, hi'⟩
end
theorem one_ptr {G : Gh} {h : Hp} {w : World} {b : Nat} {vs : Array Value} (hv : vs.size = 1) (ha : ∀ j (hj : j < [AV.ptr b 0].length), Rep G [AV.ptr b 0][j] (vs.getD j undef)) : ∃ p, vs = #[.pointer (some ⟨p, 0, none⟩)] ∧ G.at_ b = some p := by
 have hr := ha 0 (by simp)
 have hvs : vs = #[vs.getD 0 undef] := by
  apply Array.ext (by simpa using hv)
  intro j hj hj'
  simp only [List.size_toArray, List.length_cons, List.length_nil] at hj'
  obtain rfl : j = 0 := by omega
  simp [Array.getD, hv]
 rw [hvs]
 generalize vs.getD 0 undef = v at hr
 simp only [List.getElem_cons_zero] at hr
 cases hr with
 | ptr _ _ p hat => exact ⟨p, rfl, hat⟩
theorem two_cells {G : Gh} {X Y : AV} {vs : Array Value} (h : RepL G [X, Y] vs.toList) : ∃ x y, vs = #[x, y] ∧ Rep G X x ∧ Rep G Y y := by
 obtain ⟨h1, h2⟩ := h
 have hs : vs.size = 2 := by simpa using h1
 refine ⟨vs[0], vs[1], ?_, ?_, ?_⟩
 ·apply Array.ext (by simpa using hs)
  intro j a b
  have : j = 0 ∨ j = 1 := by simp at b; omega
  rcases this with rfl | rfl <;> rfl
 ·have := (h2 0 (by simp) (by simp; omega)).1; simpa using this
 ·have := (h2 1 (by simp) (by simp; omega)).1; simpa using this
theorem g_copyCheck (b : Nat) (X Y : AV) (h : Hp) (hb : h.H b = some (.obj 205 [X, Y])) (hX : X = .v (.pointer none) ∨ X = .ptr b 0) :
  ACalls Tryz.prog 160 [.ptr b 0] h (fun r h' => r = .tup [] ∧ h' = { h with H := upd h.H b (some (.obj 205 [.ptr b 0, Y])) }) := by
 refine acalls_mk (by kernel_rfl) fun G w vs hs hv ha => ?_
 obtain ⟨p, rfl, hat⟩ := one_ptr (h := h) (w := w) hv ha
 obtain ⟨p', ob, e', hh, ⟨us, rfl, hrr⟩, hval⟩ := hs.obj b _ hb
 rw [hat] at e'; cases e'
 obtain ⟨x, y, rfl, hx, hy⟩ := two_cells hrr
 have hO : Own G h p := .inl ⟨b, by rw [hb]; simp, hat⟩
 have hre : RepL G [.ptr b 0, Y] [.pointer (some ⟨p, 0, none⟩), y] := by
  refine RepL.cons (.ptr b 0 p hat) rfl (RepL.cons hy ?_ (RepL.nil G))
  have := (hrr.2 1 (by simp) (by simp)).2
  simpa using this
 rcases hX with rfl | rfl
 ·obtain rfl : x = .pointer none := (RepT.of (L := []) hx).v_inv
  have hc0 : w.cell? ⟨p, 0, none⟩ = some (.pointer none) := by simp [World.cell?, hh]
  refine (copyCheck_fresh p w hc0 (by simp [World.shape?, hh]) (by simp [World.frozen?, hh])).mono ?_
  rintro e w' ⟨rfl, rfl⟩
  have hh' : (w.setCell ⟨p, 0, none⟩ (.pointer (some ⟨p, 0, none⟩))).heap[p]? = some (.cells #[.pointer (some ⟨p, 0, none⟩), y] 205 (0, 0)) := by
   exact heap_setCell_same w p 0 _ _ _ hh
  have hoth : ∀ q, q ≠ p → (w.setCell ⟨p, 0, none⟩ (.pointer (some ⟨p, 0, none⟩))).heap[q]? = w.heap[q]? := fun q hq => heap_setCell_other w _ q _ hq
  refine ⟨_, rfl, .tup [], _, G, ⟨rfl, rfl⟩, GLe.refl _, ?_, hs.setObj hb hat hoth hh' ⟨_, rfl, hre⟩, .tup [] #[] (fun _ => undef) rfl (fun j hj => by simp at hj) (fun j hj => by simp at hj)⟩
  exact ⟨rfl, rfl, rfl, by simp [World.setCell], fun q hlt hn => ⟨hoth q (fun e => hn (e ▸ hO)), fun o' => hn ((own_updH hb).1 o'), fun _ => rfl⟩⟩
 ·have hxe : x = .pointer (some ⟨p, 0, none⟩) := by
   cases hx with
   | ptr _ _ p2 hat2 => rw [hat] at hat2; cases hat2; rfl
  subst hxe
  have hc0 : w.cell? ⟨p, 0, none⟩ = some (.pointer (some ⟨p, 0, none⟩)) := by simp [World.cell?, hh]
  refine (copyCheck_used p w hc0).mono ?_
  rintro e w' ⟨rfl, rfl⟩
  refine ⟨_, rfl, .tup [], _, G, ⟨rfl, rfl⟩, GLe.refl _, ?_, hs.setObj hb hat (fun _ _ => rfl) hh ⟨_, rfl, hre⟩, .tup [] #[] (fun _ => undef) rfl (fun j hj => by simp at hj) (fun j hj => by simp at hj)⟩
  exact ⟨rfl, rfl, rfl, Nat.le_refl _, fun q hlt hn => ⟨rfl, fun o' => hn ((own_updH hb).1 o'), fun _ => rfl⟩⟩
def rowB (l : List UInt8) : List (List AV) := l.map fun x => [.v (.int .u8 (x.toNat : Int))]
theorem rowB_app (l : List UInt8) (s : ByteArray) : rowB l ++ strRow s = rowB (l ++ s.data.toList) := by simp [rowB, strRow]
theorem g_writeString (b k n : Nat) (X : AV) (s : ByteArray) (l : List UInt8) (h : Hp) (hb : h.H b = some (.obj 205 [X, .arr 1 k n])) (hX : X = .v (.pointer none) ∨ X = .ptr b 0) (hT : h.T k = some (.buf 5 (rowB l))) (hn : l.length = n) (hbig : l.length + s.size ≤ 1000000000) :
  ACalls Tryz.prog 104 [.ptr b 0, .v (.string s)] h (fun r h' => r = .tup [.v (.int .i64 s.size), .v .nilIface] ∧ h' = ⟨upd h.H b (some (.obj 205 [.ptr b 0, .arr 1 k (n + s.size)])), upd h.T k (some (.buf 5 (rowB (l ++ s.data.toList))))⟩) := by
 have hl : (rowB l).length = l.length := by simp [rowB]
 rw [← rowB_app]
 generalize rowB l = bs at *
 refine gE Tryz.func104 rfl (by kernel_rfl) 17 rfl fun c => ?_
 (repeat (first | refine gO rfl ?_ | (refine gR fun K1 hK1 => ?_; simp only [go_sem, ↓reduceIte, reduceCtorEq, nA, nB, nC, nD, nE, nF] <;> and_intros <;> first | (apply hK1; clear hK1 K1) | (intros; first | omega | decide | (simp_all <;> omega)) | skip)))
 refine (g_copyCheck b X _ h hb hX).mono ?_; rintro _ hz ⟨rfl, hh⟩; apply hK1; clear hK1 K1; rw [hh]; clear hh hz
 (repeat (first | refine gO rfl ?_ | (refine gR fun K1 hK1 => ?_; simp only [go_sem, ↓reduceIte, reduceCtorEq, nA, nB, nC, nD, nE, nF, upd_same, hT] <;> and_intros <;> first | (apply hK1; clear hK1 K1) | (intros; first | omega | decide | (simp_all <;> omega)) | skip)))
 simp only [Tryz.results104, go_sem, ↓reduceIte, reduceCtorEq, nA, nB, nC, nD, nE, nF]
 exact ⟨_, _, Weak.refl _, Hp.le.refl _, rfl, rfl⟩
open Go.RowKit in
theorem bString_row (b g cap : Nat) (cur : Array Value) (p : Value) (l : List UInt8) (w : World) (h0 : l ≠ []) (hbk : w.heap[b]? = some (.cells #[p, .slice (some ⟨g, 0, none⟩) l.length cap] 205 (0, 0))) (hg : w.heap[g]? = some (.cells cur 5 (0, 0)))
  (hnc : l.length ≤ cap) (hcm : cap ≤ maxLen) (hcs : cur.size = cap) (htake : cur.toList.take l.length = Lib.byteCells l) :
  Calls Tryz.prog 105 #[.pointer (some ⟨b, 0, none⟩)] w fun e w' => e = .returned (.string ⟨l.toArray⟩) ∧ w' = w.drew.freeze ⟨g, 0, none⟩ l.length := by
 have hl0 : l.length ≠ 0 := by simpa using h0
 have c1 : w.drew.cell? ⟨b, 1, none⟩ = some (.slice (some ⟨g, 0, none⟩) l.length cap) := by
  have : w.drew.heap[b]? = some (.cells #[p, .slice (some ⟨g, 0, none⟩) l.length cap] 205 (0, 0)) := hbk
  rw [Lib.cell_of_heap this]; rfl
 have hSD : (Builtin.unsafeSliceData_ #[203] 280 #[.slice (some ⟨g, 0, none⟩) l.length cap]).run Tryz.prog w.drew = .ok (.pointer (some ⟨g, 0, none⟩)) w.drew :=
  Lib.run_unsafeSliceData_row _ _ _ _ _ _ (by omega)
 have hUS : (Builtin.unsafeString_ #[280, 3] 9 #[.pointer (some ⟨g, 0, none⟩), .int .i64 l.length]).run Tryz.prog w.drew = .ok (.string ⟨l.toArray⟩) (w.drew.freeze ⟨g, 0, none⟩ l.length) := by
  refine Lib.run_unsafeString_row w.drew 280 3 9 5 Tryz.underlying280 (by kernel_rfl) g cur.size (by have hg' : w.drew.heap[g]? = some (.cells cur 5 (0, 0)) := hg; simp [World.shape?, hg']) l h0 (by omega) (by unfold maxLen at hcm; omega) ?_
  intro j x hx
  have hg' : w.drew.heap[g]? = some (.cells cur 5 (0, 0)) := hg
  have h1 : (cur.toList.take l.length)[j]? = some (.int .u8 x.toNat) := by rw [htake]; simp [Lib.byteCells, hx]
  rw [Addr.add_lit, Nat.zero_add, Lib.cell_of_heap hg']
  rw [List.getElem?_take] at h1
  split at h1
  ·simpa using h1
  ·cases h1
 have mixed : Tryz.prog.follows .mixedOrders = true := by kernel_rfl
 go_enter Tryz.func105, Tryz.ntmps105
 go_wp2
 go_region_o
 all_goals (go_wp2; go_ret; exact ⟨rfl, rfl⟩)
theorem HSim.other {G : Gh} {h : Hp} {w w' : World} (hs : HSim G h w) {B : Nat} (hb : ∀ b, b ≠ B → w'.heap[b]? = w.heap[b]?) (hv : ∀ o, G.val B o = none) (hn : ¬ Own G h B) : HSim G h w' where
 val b o x e := by
  have hne : b ≠ B := fun e' => by subst e'; rw [hv] at e; cases e
  rw [cellT_at (hb b hne)]; exact hs.val b o x e
 obj j ob e := by
  obtain ⟨b, o', x, y, z⟩ := hs.obj j ob e
  have hne : b ≠ B := fun e' => hn (.inl ⟨j, by rw [e]; simp, by rw [← e']; exact x⟩)
  exact ⟨b, o', x, by rw [hb b hne]; exact y, z⟩
 inj := hs.inj
 tok k m e := by
  refine (hs.tok k m e).move (GLe.refl G) rfl fun t a => ⟨?_, fun _ => rfl⟩
  have hne : t.g ≠ B := fun e' => hn (.inr ⟨k, t, by rw [e]; simp, a, e'⟩)
  rw [hb _ hne]
 tinj := hs.tinj
 tobj := hs.tobj
 fat := hs.fat
 ftl := hs.ftl
theorem repB {G : Gh} {l : List UInt8} {vs : List Value} (h : RepL G (rowB l).flatten vs) : vs = Lib.byteCells l := by
 have hf : (rowB l).flatten = (Lib.byteCells l).map AV.v := by
  unfold rowB Lib.byteCells
  clear h
  induction l with
  | nil => rfl
  | cons x l ih => simp [ih]
 rw [hf] at h
 obtain ⟨h1, h2⟩ := h
 apply List.ext_getElem (by simpa using h1)
 intro j a b
 have h3 := (h2 j (by simpa using b) a).1
 simp only [List.getElem_map] at h3
 generalize vs[j] = y at h3
 cases h3; rfl
theorem g_bString (b k : Nat) (X : AV) (l : List UInt8) (h : Hp) (hb : h.H b = some (.obj 205 [X, .arr 1 k l.length])) (hT : h.T k = some (.buf 5 (rowB l))) (h0 : l ≠ []) :
  ACalls Tryz.prog 105 [.ptr b 0] h (fun r h' => r = .v (.string ⟨l.toArray⟩) ∧ h' = ⟨upd h.H b none, upd h.T k none⟩) := by
 refine acalls_mk (by kernel_rfl) fun G w vs hs hv ha => ?_
 obtain ⟨p, rfl, hat⟩ := one_ptr (h := h) (w := w) hv ha
 obtain ⟨p', ob, e', hh, ⟨us, rfl, hrr⟩, hval⟩ := hs.obj b _ hb
 rw [hat] at e'; cases e'
 obtain ⟨x, y, rfl, hx, hy⟩ := two_cells hrr
 have hrl : (rowB l).length = l.length := by simp [rowB]
 have hne : rowB l ≠ [] := fun e => h0 (by rw [e] at hrl; exact List.eq_nil_of_length_eq_zero hrl.symm)
 rcases hs.tok k _ hT with ⟨_, e1⟩ | ⟨tt, cur, htl, htm, htp, hth, hts, htc, htcm, htf, htz, hzx, htr⟩
 ·exact absurd e1 hne
 cases hy with
 | arr _ _ _ q m c ho =>
 obtain ⟨_, ⟨q', c', e2, _, _⟩, hm⟩ := ho
 rw [htl] at hm
 obtain ⟨hxe, _⟩ := hm.2 (by rw [htm, hrl])
 simp only [Value.slice.injEq] at hxe e2
 obtain ⟨rfl, rfl, rfl⟩ := hxe
 have hfl : (rowB l).flatten.length = l.length := by rw [flatten_len hzx, hrl, Nat.mul_one]
 rw [hfl] at htr
 refine (bString_row p tt.g tt.c cur x l w h0 hh hth (by omega) htcm (by rw [hts, htz, Nat.mul_one]) (repB htr)).mono ?_
 rintro e w' ⟨rfl, rfl⟩
 have hbel : RowKit.Below tt.g w (w.drew.freeze ⟨tt.g, 0, none⟩ l.length) := Lib.below_freeze (RowKit.Below.drew (RowKit.Below.refl tt.g w)) (p := ⟨tt.g, 0, none⟩) (Nat.le_refl _) _
 have hoth : ∀ q, q ≠ tt.g → (w.drew.freeze ⟨tt.g, 0, none⟩ l.length).heap[q]? = w.heap[q]? := fun q hq => by
  unfold World.freeze
  split
  ·rfl
  ·show (w.drew.heap.modify tt.g _)[q]? = _
   rw [Array.getElem?_modify, if_neg (fun e => hq e.symm)]; rfl
 have hle : Hp.le ⟨upd h.H b none, upd h.T k none⟩ h := ⟨fun i => by
  by_cases e : i = b
  ·left; rw [e]; exact upd_same _ _ _
  ·right; exact upd_other _ _ e, fun i => by
  by_cases e : i = k
  ·left; rw [e]; exact upd_same _ _ _
  ·right; exact upd_other _ _ e⟩
 have hnO : ¬ Own G ⟨upd h.H b none, upd h.T k none⟩ tt.g := by
  rintro (⟨i, a, e⟩ | ⟨k2, t2, a, e, eg⟩)
  ·exact hs.tobj k i tt (by rw [hT]; simp) (hle.Hne a) htl e
  ·have := hs.tinj k2 k t2 tt (hle.Tne a) (by rw [hT]; simp) e htl eg
   subst this
   exact a (upd_same _ _ _)
 have hO : Own G h tt.g := .inr ⟨k, tt, by rw [hT]; simp, htl, rfl⟩
 refine ⟨_, rfl, .v (.string ⟨l.toArray⟩), _, G, ⟨rfl, rfl⟩, GLe.refl _, ?_, (hs.less hle).other hoth htf hnO, .v _ rfl⟩
 exact ⟨hbel.os, hbel.tape, hbel.output, hbel.size, fun q hlt hn => ⟨hoth q (fun e => hn (e ▸ hO)), fun o' => hn (hle.own o'), fun _ => rfl⟩⟩
open Go
set_option linter.unusedVariables false
set_option linter.unusedSimpArgs false
theorem g_itoa (n : Nat) (hn : n < 100) (h : Hp) : ACalls Tryz.prog 217 [.v (.int .i64 n)] h (fun r h' => r = .v (.string ⟨(Lib.decDigits n).toArray⟩) ∧ h' = h) := by
 refine acalls_mk (by kernel_rfl) fun G w vs hs hv ha => ?_
 have hr := ha 0 (by simp)
 have hvs : vs = #[vs.getD 0 undef] := by
  have hv1 : vs.size = 1 := hv
  apply Array.ext (by simpa using hv1)
  intro j hj hj'
  simp only [List.size_toArray, List.length_cons, List.length_nil] at hj'
  obtain rfl : j = 0 := by omega
  simp [Array.getD, hv1]
 rw [hvs]
 generalize vs.getD 0 undef = v at hr
 simp only [List.getElem_cons_zero] at hr
 cases hr
 refine (Tryz.strconv_Itoa_small n hn w).mono ?_
 rintro e w' ⟨rfl, rfl⟩
 exact ⟨_, rfl, .v (.string ⟨(Lib.decDigits n).toArray⟩), h, G, ⟨rfl, rfl⟩, GLe.refl _, Fr.refl _ _ _, hs, .v _ rfl⟩
open Nat renaming reduceAdd → nA, reduceSub → nB, reduceMul → nC, reduceLT → nD, reduceLeDiff → nE, reduceEqDiff → nF, reduceMod → nG, reduceDiv → nH, reducePow → nI
abbrev zP6E : List Nat := [0, 3, 4, 5, 6, 7, 8, 9]
abbrev zP6P : List (Nat × List Nat × List Nat) := [(1, [6, 9], [2]), (10, [], [11, 12]), (13, [], [])]
attribute [go_sem] zP6E zP6P
set_option maxRecDepth 100000
set_option maxHeartbeats 8000000
theorem oneK_len {l w : Int} (hl : 0 ≤ l ∧ l ≤ 12) (hw : 0 ≤ w ∧ w ≤ 12) : (oneK l w).length ≤ 6 := by
 have h : ∀ n : Fin 13, (dig n).length ≤ 2 := by decide
 have h1 := h ⟨l.toNat, by omega⟩
 have h2 := h ⟨w.toNat, by omega⟩
 simp only [oneK, dec_dig (show l.toNat < 20 by omega), dec_dig (show w.toNat < 20 by omega), List.length_append, List.length_cons, List.length_nil]
 simp only at h1 h2
 omega
theorem keyK_take : ∀ {L W : List Int} {j : Nat} (_ : j < L.length) (_ : j < W.length), keyK (L.take (j + 1)) (W.take (j + 1)) = keyK (L.take j) (W.take j) ++ oneK (L.getD j 0) (W.getD j 0)
 | l :: L, w :: W, 0, _, _ => by simp [keyK]
 | l :: L, w :: W, j + 1, h1, h2 => by
  have ih := keyK_take (L := L) (W := W) (j := j) (by simpa using h1) (by simpa using h2)
  simp only [List.take_succ_cons, keyK, List.getD_cons_succ, List.append_assoc] at ih ⊢
  rw [ih]
theorem keyK_len : ∀ {L W : List Int} (_ : ∀ x ∈ L, 0 ≤ x ∧ x ≤ 12) (_ : ∀ x ∈ W, 0 ≤ x ∧ x ≤ 12), (keyK L W).length ≤ 6 * L.length
 | [], _, _, _ => by simp [keyK]
 | l :: L, [], _, _ => by simp [keyK]
 | l :: L, w :: W, h1, h2 => by
  have ih := keyK_len (L := L) (W := W) (fun x hx => h1 x (by simp [hx])) (fun x hx => h2 x (by simp [hx]))
  have h3 := oneK_len (h1 l (by simp)) (h2 w (by simp))
  simp only [keyK, List.length_append, List.length_cons]; omega
theorem keyK_ne {L W : List Int} (h1 : 0 < L.length) (h2 : L.length = W.length) : keyK L W ≠ [] := by
 cases L with
 | nil => simp at h1
 | cons l L => cases W with
  | nil => simp at h2
  | cons w W => simp [keyK, oneK]
theorem one_str (l w : Int) : ((⟨(Lib.decDigits l.toNat).toArray⟩ ++ ⟨#[58]⟩ ++ ⟨(Lib.decDigits w.toNat).toArray⟩ ++ ⟨#[32]⟩ : ByteArray)).data.toList = oneK l w := by
 simp [oneK]
theorem g_key (i kl kw : Nat) (R X Y : AV) (L W : List Int) (h : Hp) (hi : h.H i = some (.cells [R, .arr 1 kl L.length, .arr 1 kw L.length, X, Y])) (hl : h.T kl = some (.cont 1 (L.map encI))) (hw : h.T kw = some (.cont 1 (W.map encI))) (hlw : L.length = W.length) (h0 : 0 < L.length) (hn : L.length ≤ 12)
  (b1 : ∀ x ∈ L, 0 ≤ x ∧ x ≤ 12) (b2 : ∀ x ∈ W, 0 ≤ x ∧ x ≤ 12) : ACalls Tryz.prog 152 [.ptr i 0] h (fun r h' => r = .v (.string ⟨(keyK L W).toArray⟩) ∧ h' = h) := by
 refine gE Tryz.func152 rfl (by kernel_rfl) 31 rfl fun c => ?_
 (first | refine gO rfl ?_ | ((first | refine gM zM12 ?_ | (with_reducible refine wM ?_ ?_) | ((with_reducible refine xR ?_); refine uE 5 zM12 zP6E zP6P 32 rfl (by kernel_rfl) ?_)) <;> ((try with_reducible intro K1 hK1); simp only [go_sem, ↓reduceIte, reduceCtorEq, nA, nB, nC, nD, nE, nF] <;> and_intros <;> first | (apply hK1; clear hK1 K1) | (intros; first | omega | decide | (simp_all <;> omega)) | skip))); (first | refine gO rfl ?_ | ((first | refine gM zM12 ?_ | (with_reducible refine wM ?_ ?_) | ((with_reducible refine xR ?_); refine uE 5 zM12 zP6E zP6P 32 rfl (by kernel_rfl) ?_)) <;> ((try with_reducible intro K1 hK1); simp only [go_sem, ↓reduceIte, reduceCtorEq, nA, nB, nC, nD, nE, nF] <;> and_intros <;> first | (apply hK1; clear hK1 K1) | (intros; first | omega | decide | (simp_all <;> omega)) | skip)))
 refine awp_seq (awp_allocT tyok rfl rfl ty205 (fun b hb => ?_))
 replace hb : h.H b = none := hb
 refine (?_ : Awp _ c _ _ ⟨((.ptr i 0) :: AV.junk :: ((.v (.string ⟨#[]⟩)) :: (.ptr b 0) :: (jnk 28 []))), [], ⟨upd h.H b (some (.obj 205 [.v (.pointer none), .v (.slice none 0 0)])), h.T⟩⟩)
 refine awp_ownBuf b 1 205 5 (cs := [.v (.pointer none), .v (.slice none 0 0)]) (upd_same _ _ _) rfl (fun k hk => ?_)
 replace hk : h.T k = none := hk
 have n1 : i ≠ b := fun e => by rw [← e, hi] at hb; cases hb
 have n2 : kl ≠ k := fun e => by rw [← e, hl] at hk; cases hk
 have n3 : kw ≠ k := fun e => by rw [← e, hw] at hk; cases hk
 have e1 : ∀ A, upd h.H b A i = some (.cells [R, .arr 1 kl L.length, .arr 1 kw L.length, X, Y]) := fun A => by rw [upd_other _ _ n1]; exact hi
 have e2 : ∀ A, upd h.T k A kl = some (.cont 1 (L.map encI)) := fun A => by rw [upd_other _ _ n2]; exact hl
 have e3 : ∀ A, upd h.T k A kw = some (.cont 1 (W.map encI)) := fun A => by rw [upd_other _ _ n3]; exact hw
 (repeat (first | refine gO rfl ?_ | ((first | refine gM zM12 ?_ | (with_reducible refine wM ?_ ?_) | ((with_reducible refine xR ?_); refine uE 5 zM12 zP6E zP6P 32 rfl (by kernel_rfl) ?_)) <;> ((try with_reducible intro K1 hK1); simp only [go_sem, ↓reduceIte, reduceCtorEq, nA, nB, nC, nD, nE, nF, upd_upd, e1] <;> and_intros <;> first | (apply hK1; clear hK1 K1) | (intros; first | omega | decide | (simp_all <;> omega)) | skip))))
 refine awp_loopC (rl false [0, 1, 2, 1, 5, 3, 20]) 0 (fun g s => ∃ (j : Nat) (X2 : AV), g + j = L.length ∧ (X2 = .v (.pointer none) ∨ X2 = .ptr b 0) ∧
  s = ⟨((.ptr i 0) :: AV.junk :: AV.junk :: ((.ptr b 0) :: (jnk 5 ((.arr 1 kl L.length) :: (.v (.int .i64 L.length)) :: (.v (.int .i64 j)) :: (jnk 20 []))))), [], ⟨upd h.H b (some (.obj 205 [X2, .arr 1 k (keyK (L.take j) (W.take j)).length])), upd h.T k (some (.buf 5 (rowB (keyK (L.take j) (W.take j)))))⟩⟩) L.length ⟨0, _, by omega, .inl rfl, rfl⟩ ?_
 rintro g _ ⟨j, X2, hj, hX2, rfl⟩
 (repeat (first | refine gO rfl ?_ | ((first | refine gM zM12 ?_ | (with_reducible refine wM ?_ ?_) | ((with_reducible refine xR ?_); refine uE 5 zM12 zP6E zP6P 32 rfl (by kernel_rfl) ?_)) <;> ((try with_reducible intro K1 hK1); simp only [go_sem, ↓reduceIte, reduceCtorEq, nA, nB, nC, nD, nE, nF] <;> and_intros <;> first | (apply hK1; clear hK1 K1) | (intros; first | omega | decide | (simp_all <;> omega)) | skip))))
 refine awp_cond (t := _) rfl (fun h5 => ?_) (fun h5 => ?_)
 ·simp only [decide_eq_true_eq] at h5
  have hjl : j < L.length := by omega
  have gl := getD_encI (L := L) (j := j) hjl
  have gw := getD_encI (L := W) (j := j) (by omega)
  have c1 := b1 _ (mem_getD L hjl)
  have c2 := b2 _ (mem_getD W (i := j) (by omega))
  have ht := keyK_take (L := L) (W := W) hjl (by omega)
  have hkl := keyK_len (L := L.take j) (W := W.take j) (fun x hx => b1 x (List.mem_of_mem_take hx)) (fun x hx => b2 x (List.mem_of_mem_take hx))
  rw [List.length_take] at hkl
  have hml : (L.map encI).length = L.length := by simp
  have hmw : (W.map encI).length = L.length := by simp [hlw]
  have h1l := oneK_len c1 c2
  have hos := one_str (L.getD j 0) (W.getD j 0)
  obtain ⟨l, hl9⟩ : ∃ l : Nat, L.getD j 0 = l := ⟨(L.getD j 0).toNat, by omega⟩
  obtain ⟨w, hw9⟩ : ∃ w : Nat, W.getD j 0 = w := ⟨(W.getD j 0).toNat, by omega⟩
  rw [hl9] at gl c1 ht hos h1l
  rw [hw9] at gw c2 ht hos h1l
  rw [Int.toNat_natCast, Int.toNat_natCast] at hos
  have hi1 := fun h => g_itoa l (by omega) h
  have hi2 := fun h => g_itoa w (by omega) h
  have hs1 : (⟨(Lib.decDigits l).toArray⟩ : ByteArray).size ≤ 2 := by
   have h9 : ∀ n : Fin 13, (dig n).length ≤ 2 := by decide
   have h8 := h9 ⟨l, by omega⟩
   rw [dec_dig (by omega)]
   exact h8
  have hs2 : (⟨(Lib.decDigits w).toArray⟩ : ByteArray).size ≤ 2 := by
   have h9 : ∀ n : Fin 13, (dig n).length ≤ 2 := by decide
   have h8 := h9 ⟨w, by omega⟩
   rw [dec_dig (by omega)]
   exact h8
  generalize (⟨(Lib.decDigits l).toArray⟩ : ByteArray) = S1 at *
  generalize (⟨(Lib.decDigits w).toArray⟩ : ByteArray) = S2 at *
  have q58 : (⟨#[58]⟩ : ByteArray).size = 1 := rfl
  have q32 : (⟨#[32]⟩ : ByteArray).size = 1 := rfl
  have q58' : #[(58 : UInt8)].size = 1 := rfl
  have q32' : #[(32 : UInt8)].size = 1 := rfl
  generalize keyK (L.take j) (W.take j) = kp at *
  (repeat (first | refine gO rfl ?_ | ((first | refine gM zM12 ?_ | (with_reducible refine wM ?_ ?_) | ((with_reducible refine xR ?_); refine uE 5 zM12 zP6E zP6P 32 rfl (by kernel_rfl) ?_)) <;> ((try with_reducible intro K1 hK1); simp only [go_sem, ↓reduceIte, reduceCtorEq, nA, nB, nC, nD, nE, nF, Int.toNat_natCast, e1, e2, e3, gl, gw, hml, hmw, hjl, ByteArray.size_append, q58, q32, q58', q32'] <;> and_intros <;> first | (apply hK1; clear hK1 K1) | (intros; first | omega | decide | (simp_all <;> omega)) | skip))))
  refine (hi1 _).mono ?_; rintro _ hz ⟨rfl, hh⟩; apply hK1; clear hK1 K1; rw [hh]; clear hh hz
  (repeat (first | refine gO rfl ?_ | ((first | refine gM zM12 ?_ | (with_reducible refine wM ?_ ?_) | ((with_reducible refine xR ?_); refine uE 5 zM12 zP6E zP6P 32 rfl (by kernel_rfl) ?_)) <;> ((try with_reducible intro K1 hK1); simp only [go_sem, ↓reduceIte, reduceCtorEq, nA, nB, nC, nD, nE, nF, Int.toNat_natCast, e1, e2, e3, gl, gw, hml, hmw, hjl, ByteArray.size_append, q58, q32, q58', q32'] <;> and_intros <;> first | (apply hK1; clear hK1 K1) | (intros; first | omega | decide | (simp_all <;> omega)) | skip))))
  refine (hi2 _).mono ?_; rintro _ hz ⟨rfl, hh⟩; apply hK1; clear hK1 K1; rw [hh]; clear hh hz
  (repeat (first | refine gO rfl ?_ | ((first | refine gM zM12 ?_ | (with_reducible refine wM ?_ ?_) | ((with_reducible refine xR ?_); refine uE 5 zM12 zP6E zP6P 32 rfl (by kernel_rfl) ?_)) <;> ((try with_reducible intro K1 hK1); simp only [go_sem, ↓reduceIte, reduceCtorEq, nA, nB, nC, nD, nE, nF, Int.toNat_natCast, e1, e2, e3, gl, gw, hml, hmw, hjl, ByteArray.size_append, q58, q32, q58', q32'] <;> and_intros <;> first | (apply hK1; clear hK1 K1) | (intros; first | omega | decide | (simp_all <;> omega)) | skip))))
  have hsz : (S1 ++ ⟨#[58]⟩ ++ S2 ++ ⟨#[32]⟩ : ByteArray).size ≤ 6 := by simp only [ByteArray.size_append, q58, q32]; omega
  have hS : kp.length + (S1 ++ ⟨#[58]⟩ ++ S2 ++ ⟨#[32]⟩ : ByteArray).size = (kp ++ oneK l w).length := by
   rw [List.length_append, ← hos]; rfl
  generalize (S1 ++ ⟨#[58]⟩ ++ S2 ++ ⟨#[32]⟩ : ByteArray) = S at *
  refine (g_writeString b k kp.length X2 S kp _ (upd_same _ _ _) hX2 (upd_same _ _ _) rfl (by omega)).mono ?_
  rintro _ h9 ⟨rfl, rfl⟩
  apply hK1; clear hK1 K1
  (repeat (first | refine gO rfl ?_ | ((first | refine gM zM12 ?_ | (with_reducible refine wM ?_ ?_) | ((with_reducible refine xR ?_); refine uE 5 zM12 zP6E zP6P 32 rfl (by kernel_rfl) ?_)) <;> ((try with_reducible intro K1 hK1); simp only [go_sem, ↓reduceIte, reduceCtorEq, nA, nB, nC, nD, nE, nF, upd_upd] <;> and_intros <;> first | (apply hK1; clear hK1 K1) | (intros; first | omega | decide | (simp_all <;> omega)) | skip))))
  exact ⟨g - 1, by omega, j + 1, _, by omega, .inr rfl, by rw [ht, hS, hos]; rfl⟩
 ·simp only [decide_eq_false_iff_not] at h5
  have hjl : j = L.length := by omega
  subst hjl
  have t1 : L.take L.length = L := List.take_of_length_le (Nat.le_refl _)
  have t2 : W.take L.length = W := List.take_of_length_le (by omega)
  rw [t1, t2]
  have hne := keyK_ne h0 hlw
  generalize keyK L W = kp at *
  (repeat (first | refine gO rfl ?_ | ((first | refine gM zM12 ?_ | (with_reducible refine wM ?_ ?_) | ((with_reducible refine xR ?_); refine uE 5 zM12 zP6E zP6P 32 rfl (by kernel_rfl) ?_)) <;> ((try with_reducible intro K1 hK1); simp only [go_sem, ↓reduceIte, reduceCtorEq, nA, nB, nC, nD, nE, nF] <;> and_intros <;> first | (apply hK1; clear hK1 K1) | (intros; first | omega | decide | (simp_all <;> omega)) | skip))))
  refine (g_bString b k X2 kp _ (upd_same _ _ _) (upd_same _ _ _) hne).mono ?_
  rintro _ h9 ⟨rfl, rfl⟩
  apply hK1; clear hK1 K1
  (repeat (first | refine gO rfl ?_ | ((first | refine gM zM12 ?_ | (with_reducible refine wM ?_ ?_) | ((with_reducible refine xR ?_); refine uE 5 zM12 zP6E zP6P 32 rfl (by kernel_rfl) ?_)) <;> ((try with_reducible intro K1 hK1); simp only [go_sem, ↓reduceIte, reduceCtorEq, nA, nB, nC, nD, nE, nF, upd_upd] <;> and_intros <;> first | (apply hK1; clear hK1 K1) | (intros; first | omega | decide | (simp_all <;> omega)) | skip))))
  simp only [Tryz.results152, go_sem, ↓reduceIte, reduceCtorEq, nA, nB, nC, nD, nE, nF]
  refine ⟨_, h, Weak.refl _, ⟨fun q => ?_, fun q => ?_⟩, rfl, rfl⟩
  ·by_cases e : q = b
   ·left; rw [e]; exact hb
   ·right; show _ = upd _ _ _ _; rw [upd_other _ _ e]
  ·by_cases e : q = k
   ·left; rw [e]; exact hk
   ·right; show _ = upd _ _ _ _; rw [upd_other _ _ e]
theorem arr_of_own {G : Gh} {h : Hp} {w w' : World} (hs : HSim G h w) (hb : RowKit.Below w.heap.size w w') {v : Value} {n z : Nat} {E : TypeId} {vs : List Value} {xs : List (List AV)} (ho : w'.ownsRow w.heap.size E z v n vs) (hn : xs.length = n) (h0 : 0 < n) (hz : ∀ x ∈ xs, x.length = z) (hr : RepL G xs.flatten vs) :
  ∃ G' k, h.T k = none ∧ GLe G G' ∧ Fr G h w G' { h with T := upd h.T k (some (.cont z xs)) } w' ∧ HSim G' { h with T := upd h.T k (some (.cont z xs)) } w' ∧ Rep G' (.arr z k n) v := by
 obtain ⟨hl, ho⟩ := ho
 rcases ho with ⟨_, e0⟩ | ⟨g, cap, cur, rfl, hg, hh, hnc, hcm, hsz, htk⟩
 ·omega
 ·have sm : Sim G [] ⟨[], [], h⟩ ⟨#[], []⟩ w := ⟨hs, Nat.le_refl _, fun t ht => by simp at ht, rfl, ⟨rfl, fun j b cs e => by simp at e, fun b hb => by simp at hb, List.nodup_nil⟩⟩
  obtain ⟨hT, s1, g1, f1⟩ := sm.newTok (o := .cont z []) (.inr (.inl ⟨z, rfl⟩))
  have hlen := flatten_len hz
  subst hn
  obtain ⟨G', rfl, s2, g2, f2⟩ := s1.setCont (k := G.nx) (z := z) (xs := xs) (B := g) (c := cap) (w' := w') (arr := cur) (E := E) (upd_same _ _ _) (fun b hb' _ => hb.block b hb') hh hsz
   (fun o => sm.hs.val_new hg o) hz (by rw [hlen, htk]; exact hr.mono g1) hnc hcm h0 (.inl (by simpa using h0)) (.inl hg) hb.os hb.tape hb.output hb.size
  simp only [upd_upd] at s2 f2
  exact ⟨_, G.nx, hT, g1.trans g2, f1.trans f2, s2.hs, rep_arr (upd_same _ _ _) (by simp [Gh.newTk]) hnc⟩
theorem flat_encI2 (l : List Int) : (l.map encI).flatten = l.map fun x => AV.v (.int .i64 x) := by
 induction l with
 | nil => rfl
 | cons x q ih => simp [encI, ih]
theorem repL_ints (G : Gh) (l : List Int) : RepL G (l.map encI).flatten (l.map (Value.int .i64)) := by
 rw [flat_encI2]
 refine ⟨by simp, fun j a b => ?_⟩
 simp only [List.getElem_map]
 exact ⟨.v _ rfl, rfl⟩
theorem repL_ints_inv {G : Gh} {l : List Int} {us : List Value} (h : RepL G (l.map encI).flatten us) : us = l.map (Value.int .i64) := by
 rw [flat_encI2] at h
 obtain ⟨h1, h2⟩ := h
 apply List.ext_getElem (by simpa using h1)
 intro j a b
 have h3 := (h2 j (by simpa using b) a).1
 simp only [List.getElem_map] at h3 ⊢
 generalize us[j] = y at h3
 cases h3; rfl
theorem g_cloneArr (kw n : Nat) (W : List Int) (h : Hp) (hT : h.T kw = some (.cont 1 (W.map encI))) (hn : W.length = n) (h0 : 0 < n) (hb : n ≤ 1000) :
  ACalls Tryz.prog 64 [.arr 1 kw n] h (fun r h' => ∃ q, h.T q = none ∧ r = .arr 1 q n ∧ h' = { h with T := upd h.T q (some (.cont 1 (W.map encI))) }) := by
 refine acalls_mk (by kernel_rfl) fun G w vs hs hv ha => ?_
 have hr := ha 0 (by simp)
 have hvs : vs = #[vs.getD 0 undef] := by
  have hv1 : vs.size = 1 := hv
  apply Array.ext (by simpa using hv1)
  intro j hj hj'
  simp only [List.size_toArray, List.length_cons, List.length_nil] at hj'
  obtain rfl : j = 0 := by omega
  simp [Array.getD, hv1]
 rw [hvs]
 generalize vs.getD 0 undef = v at hr
 simp only [List.getElem_cons_zero] at hr
 subst hn
 have hml : (W.map encI).length = W.length := by simp
 cases hr with
 | arr _ _ _ q m c ho =>
 obtain ⟨_, ⟨q', c', e2, _, _⟩, hm⟩ := ho
 rcases hs.tok kw _ hT with ⟨_, e1⟩ | ⟨tt, cur, E, htl, htm, htp, hth, hts, htc, htcm, htf, htz, hzx, htr⟩
 ·rw [e1] at hml; simp at hml; omega
 rw [htl] at hm
 obtain ⟨hxe, _⟩ := hm.2 (by rw [htm, hml])
 simp only [Value.slice.injEq] at hxe e2
 obtain ⟨rfl, rfl, rfl⟩ := hxe
 have hfl : (W.map encI).flatten.length = W.length := by rw [flatten_len hzx, hml, Nat.mul_one]
 rw [hfl] at htr
 have hcs := repL_ints_inv htr
 have hcell : ∀ j, j < W.length → w.cell? ⟨tt.g, 0 + j, none⟩ = some (.int .i64 (W.getD j 0)) := fun j hj => by
  have h1 : (cur.toList.take W.length)[j]? = some (.int .i64 (W.getD j 0)) := by rw [hcs, List.getElem?_map, List.getElem?_eq_getElem hj, List.getD_eq_getElem?_getD, List.getElem?_eq_getElem hj]; rfl
  rw [List.getElem?_take, if_pos hj] at h1
  rw [Nat.zero_add]; simpa [World.cell?, hth] using h1
 refine (Tryz.slices_Clone_int tt.g 0 W.length tt.c W w (by omega) (by omega) hcell).mono ?_
 rintro e w' ⟨v', rfl, own, _, bel⟩
 rw [List.take_of_length_le (by omega)] at own
 obtain ⟨G', k, hk, g1, f1, s1, r1⟩ := arr_of_own hs bel own (xs := W.map encI) hml h0 (fun x hx => by obtain ⟨y, _, rfl⟩ := List.mem_map.1 hx; rfl) (repL_ints G W)
 exact ⟨v', rfl, _, _, G', ⟨k, hk, rfl, rfl⟩, g1, f1, s1, r1⟩
end Go.Proofs.YtidkkmoiolffnaaGreatDoor
