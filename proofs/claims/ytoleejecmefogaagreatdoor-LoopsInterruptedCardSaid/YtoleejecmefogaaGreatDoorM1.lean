/- The numbers that a stream hands out. -/
import Derived.Test.YtoleejecmefogaaGreatDoorAvRun
import Derived.Test.YtoleejecmefogaaGreatDoorAvTy
import Derived.Test.YtoleejecmefogaaGreatDoorAvFz
import Derived.WalkKit
import Derived.WalkSpells
import Derived.WalkLawsBesides
import Derived.Deep.QuietTactic
import Derived.BigQuiet
import Derived.Lib.Hide
import Derived.Test.YtoleejecmefogaaGreatDoorProg
import Derived.Test.YtoleejecmefogaaGreatDoorShelf
import Derived.Deep.DeepCutAuto
import Derived.Deep.LoopGhost
import Derived.Shelf.Strings.SlTrimAscii
namespace Go.Proofs.YtoleejecmefogaaGreatDoor
open Go
set_option linter.unusedVariables false
set_option linter.unusedSimpArgs false
open Nat renaming reduceAdd → nA, reduceSub → nB, reduceMul → nC, reduceLT → nD, reduceLeDiff → nE, reduceEqDiff → nF, reduceMod → nG, reduceDiv → nH, reducePow → nI
abbrev zM10 : Option Tmp → Nat := mdL []
abbrev zM11 : Option Tmp → Nat := mdL [(5, 1)]
abbrev zM12 : Option Tmp → Nat := mdL [(5, 1), (12, 2)]
abbrev zM13 : Option Tmp → Nat := mdL [(5, 1), (14, 2)]
abbrev zM14 : Option Tmp → Nat := mdL [(6, 1)]
abbrev zK10 : Nat := 37778931862959175098861
abbrev zK11 : Nat := 35184372150525
abbrev zK12 : Nat := 274877939775
abbrev zK13 : Nat := 9905787658939656716169610695
attribute [go_sem] zM10 zM11 zM12 zM13 zM14 zK10 zK11 zK12 zK13
abbrev zP0E : List Nat := [0, 1, 2, 3, 4, 5, 6, 7, 8, 9, 10, 11]
abbrev zP0P : List (Nat × List Nat × List Nat) := []
abbrev zP1E : List Nat := [0, 1, 2, 3, 4, 5, 6, 7, 8, 9, 10, 11]
abbrev zP1P : List (Nat × List Nat × List Nat) := []
attribute [go_sem] zP0E zP0P zP1E zP1P
set_option maxRecDepth 100000
theorem a_outside (x lo hi : Int) (h : Hp) : ACalls Tryz.prog 91 [.v (.int .i64 x), .v (.int .i64 lo), .v (.int .i64 hi)] h (fun r h' => r = .v (.bool (decide (x < lo) || decide (hi < x))) ∧ h' = h) := by
 refine gE Tryz.func91 rfl (by kernel_rfl) 12 rfl fun c => ?_
 (repeat (first | refine gO rfl ?_ | (refine gR fun K1 hK1 => ?_; simp only [go_sem, ↓reduceIte, reduceCtorEq, nA, nB, nC, nD, nE, nF] <;> and_intros <;> (apply hK1; clear hK1 K1))))
 simp only [Tryz.results91, go_sem, ↓reduceIte, reduceCtorEq, nA, nB, nC, nD, nE, nF]
 exact ⟨_, _, Weak.refl _, Hp.le.refl _, rfl, rfl⟩
def belowV (x n : Int) : Int := if n < 1 then 0 else x % n
theorem a_below (x n : Int) (h : Hp) (hx : -9223372036854775808 ≤ x ∧ x ≤ 9223372036854775807) (hn : n ≤ 9000000000000000000) : ACalls Tryz.prog 119 [.v (.int .i64 x), .v (.int .i64 n)] h (fun r h' => r = .v (.int .i64 (belowV x n)) ∧ h' = h) := by
 refine gE Tryz.func119 rfl (by kernel_rfl) 14 rfl fun c => ?_
 (repeat (first | refine gO rfl ?_ | (refine gR fun K1 hK1 => ?_; simp only [go_sem, ↓reduceIte, reduceCtorEq, nA, nB, nC, nD, nE, nF] <;> and_intros <;> (apply hK1; clear hK1 K1))))
 refine awp_cond (t := _) rfl (fun h1 => ?_) (fun h1 => ?_)
 ·(repeat (first | refine gO rfl ?_ | (refine gR fun K1 hK1 => ?_; simp only [go_sem, ↓reduceIte, reduceCtorEq, nA, nB, nC, nD, nE, nF] <;> and_intros <;> (apply hK1; clear hK1 K1))))
  simp only [Tryz.results119, go_sem, ↓reduceIte, reduceCtorEq, nA, nB, nC, nD, nE, nF]
  exact ⟨_, _, Weak.refl _, Hp.le.refl _, by simp only [belowV]; rw [if_pos (by simpa using h1)], rfl⟩
 ·have h2 : 1 ≤ n := by simpa using h1
  (repeat (first | refine gO rfl ?_ | (refine gR fun K1 hK1 => ?_; simp only [go_sem, ↓reduceIte, reduceCtorEq, nA, nB, nC, nD, nE, nF] <;> and_intros <;> first | (apply hK1; clear hK1 K1) | (intros; (omega)))))
  have e1 : x.tmod n = if 0 ≤ x ∨ n ∣ x then x % n else x % n - n := by rw [Int.tmod_eq_emod]; split <;> omega
  have m0 := Int.emod_nonneg x (show n ≠ 0 by omega)
  have m1 := Int.emod_lt_of_pos x (show 0 < n by omega)
  refine awp_cond (t := _) rfl (fun h3 => ?_) (fun h3 => ?_)
  ·(repeat (first | refine gO rfl ?_ | (refine gR fun K1 hK1 => ?_; simp only [go_sem, ↓reduceIte, reduceCtorEq, nA, nB, nC, nD, nE, nF] <;> and_intros <;> first | (apply hK1; clear hK1 K1) | (intros; first | omega | (simp_all <;> omega)))))
   simp only [Tryz.results119, go_sem, ↓reduceIte, reduceCtorEq, nA, nB, nC, nD, nE, nF]
   exact ⟨_, _, Weak.refl _, Hp.le.refl _, by
    simp only [decide_eq_true_eq] at h3
    simp only [belowV]; rw [if_neg (by omega)]
    congr 3; rw [e1] at h3 ⊢; split at h3 <;> simp_all <;> omega, rfl⟩
  ·(repeat (first | refine gO rfl ?_ | (refine gR fun K1 hK1 => ?_; simp only [go_sem, ↓reduceIte, reduceCtorEq, nA, nB, nC, nD, nE, nF] <;> and_intros <;> (apply hK1; clear hK1 K1))))
   simp only [Tryz.results119, go_sem, ↓reduceIte, reduceCtorEq, nA, nB, nC, nD, nE, nF]
   exact ⟨_, _, Weak.refl _, Hp.le.refl _, by
    simp only [decide_eq_false_iff_not] at h3
    simp only [belowV]; rw [if_neg (by omega)]
    congr 3; rw [e1] at h3 ⊢; split at h3 <;> simp_all <;> omega, rfl⟩
theorem belowV_bd {x n : Int} (hn : 1 ≤ n) : 0 ≤ belowV x n ∧ belowV x n < n := by
 unfold belowV; rw [if_neg (by omega)]
 exact ⟨Int.emod_nonneg x (by omega), Int.emod_lt_of_pos x (by omega)⟩
def encI (x : Int) : List AV := [.v (.int .i64 x)]
def rowI (l : List Int) : AV := .row 1 (l.map encI) none
def strm (l : List Int) (a : Int) : AO := .cells [rowI l, .v (.int .i64 a)]
def nextV (l : List Int) (a n : Int) : Int := if l.length = 0 then belowV ((a + 1) * 7919) n else belowV (belowV (l.getD (a % l.length).toNat 0) 1073741824 + (a / l.length) * (7919 + a % l.length)) n
theorem a_next (i : Nat) (l : List Int) (a n : Int) (h : Hp) (hi : h.H i = some (strm l a)) (ha : 0 ≤ a ∧ a ≤ 1000000000) (hn : n ≤ 9000000000000000000) (hl : l.length ≤ 9223372036854775807) (hv : ∀ x ∈ l, -9223372036854775808 ≤ x ∧ x ≤ 9223372036854775807) :
  ACalls Tryz.prog 65 [.ptr i 0, .v (.int .i64 n)] h (fun r h' => r = .v (.int .i64 (nextV l a n)) ∧ h' = { h with H := upd h.H i (some (strm l (a + 1))) }) := by
 refine gE Tryz.func65 rfl (by kernel_rfl) 62 rfl fun c => ?_
 (repeat (first | refine gO rfl ?_ | ((refine gR fun K1 hK1 => ?_; simp only [go_sem, ↓reduceIte, reduceCtorEq, nA, nB, nC, nD, nE, nF, hi, strm, rowI] <;> and_intros <;> first | (apply hK1; clear hK1 K1) | (intros; (omega))))))
 refine awp_cond (t := _) rfl (fun h1 => ?_) (fun h1 => ?_)
 ·have h0 : l.length = 0 := by simpa using h1
  (repeat (((refine gR fun K1 hK1 => ?_; simp only [go_sem, ↓reduceIte, reduceCtorEq, nA, nB, nC, nD, nE, nF] <;> and_intros <;> first | (intros; (omega)) | skip))))
  refine (a_below ((a + 1) * 7919) n _ (by omega) hn).mono ?_; rintro _ _ ⟨rfl, rfl⟩; apply hK1; clear hK1 K1
  (repeat (first | refine gO rfl ?_ | ((refine gR fun K1 hK1 => ?_; simp only [go_sem, ↓reduceIte, reduceCtorEq, nA, nB, nC, nD, nE, nF] <;> and_intros <;> (apply hK1; clear hK1 K1)))))
  simp only [Tryz.results65, go_sem, ↓reduceIte, reduceCtorEq, nA, nB, nC, nD, nE, nF]
  exact ⟨_, _, Weak.refl _, Hp.le.refl _, by simp only [nextV]; rw [if_pos h0], rfl⟩
 ·have h0 : l.length ≠ 0 := by simpa using h1
  have hq : a.tdiv l.length = a / l.length := Int.tdiv_eq_ediv_of_nonneg ha.1
  have hr : a.tmod l.length = a % l.length := Int.tmod_eq_emod_of_nonneg ha.1
  have q0 : 0 ≤ a / (l.length : Int) := Int.ediv_nonneg ha.1 (by omega)
  have q1 : a / (l.length : Int) ≤ a := Int.ediv_le_self _ ha.1
  have r0 := Int.emod_nonneg a (show (l.length : Int) ≠ 0 by omega)
  have r1 := Int.emod_lt_of_pos a (show (0 : Int) < l.length by omega)
  have r2 : a % (l.length : Int) ≤ a := by
   have := Int.emod_add_mul_ediv a l.length
   have := Int.mul_nonneg (show (0 : Int) ≤ l.length by omega) q0
   omega
  have hg := getD_enc encI l (a % (l.length : Int)).toNat 0 (by omega)
  have hx : -9223372036854775808 ≤ l.getD (a % (l.length : Int)).toNat 0 ∧ l.getD (a % (l.length : Int)).toNat 0 ≤ 9223372036854775807 := by
   rw [List.getD_eq_getElem?_getD, List.getElem?_eq_getElem (show (a % (l.length : Int)).toNat < l.length by omega)]
   exact hv _ (List.getElem_mem _)
  have hm0 : 0 ≤ a / (l.length : Int) * (7919 + a % l.length) := Int.mul_nonneg q0 (by omega)
  have hm1 : a / (l.length : Int) * (7919 + a % l.length) ≤ 7920 * a := by
   have e1 : a / (l.length : Int) * (7919 + a % l.length) = 7919 * (a / l.length) + a / l.length * (a % l.length) := by rw [Int.mul_add, Int.mul_comm _ 7919]
   have e2 : a / (l.length : Int) * (a % l.length) ≤ a / l.length * l.length := Int.mul_le_mul_of_nonneg_left (by omega) q0
   have e3 : a / (l.length : Int) * l.length ≤ a := Int.ediv_mul_le a (by omega)
   omega
  have hb := belowV_bd (x := l.getD (a % (l.length : Int)).toNat 0) (n := 1073741824) (by omega)
  (repeat (first | refine gO rfl ?_ | ((first | refine gR ?_ | ((with_reducible refine xS ?_); refine uD 4 zM10 zP0E zP0P 64 rfl (by kernel_rfl) ?_) | ((with_reducible refine xS ?_); refine uD 5 zM10 zP1E zP1P 64 rfl (by kernel_rfl) ?_)) <;> ((try with_reducible intro K1 hK1); simp only [go_sem, ↓reduceIte, reduceCtorEq, nA, nB, nC, nD, nE, nF, hq, hr, hg, encI] <;> and_intros <;> first | (apply hK1; clear hK1 K1) | (intros; (omega)) | skip))))
  refine (a_below _ _ _ hx (by omega)).mono ?_; rintro _ _ ⟨rfl, rfl⟩; apply hK1; clear hK1 K1
  (repeat (((refine gR fun K1 hK1 => ?_; simp only [go_sem, ↓reduceIte, reduceCtorEq, nA, nB, nC, nD, nE, nF] <;> and_intros <;> first | (intros; (omega)) | skip))))
  refine (a_below _ _ _ (by omega) hn).mono ?_; rintro _ _ ⟨rfl, rfl⟩; apply hK1; clear hK1 K1
  (repeat (first | refine gO rfl ?_ | ((refine gR fun K1 hK1 => ?_; simp only [go_sem, ↓reduceIte, reduceCtorEq, nA, nB, nC, nD, nE, nF] <;> and_intros <;> (apply hK1; clear hK1 K1)))))
  simp only [Tryz.results65, go_sem, ↓reduceIte, reduceCtorEq, nA, nB, nC, nD, nE, nF]
  exact ⟨_, _, Weak.refl _, Hp.le.refl _, by simp only [nextV]; rw [if_neg h0], rfl⟩
def SOk (l : List Int) : Prop := l.length ≤ 9223372036854775807 ∧ ∀ x ∈ l, -9223372036854775808 ≤ x ∧ x ≤ 9223372036854775807
def Hp.st (h : Hp) (i : Nat) (l : List Int) (a : Int) : Hp := { h with H := upd h.H i (some (strm l a)) }
theorem st_at (h : Hp) (i : Nat) (l : List Int) (a : Int) : (h.st i l a).H i = some (strm l a) := upd_same _ _ _
theorem st_st (h : Hp) (i : Nat) (l : List Int) (a b : Int) : (h.st i l a).st i l b = h.st i l b := by
 simp only [Hp.st]
 congr 1
 exact upd_upd _ _ _ _
theorem st_T (h : Hp) (i : Nat) (l : List Int) (a : Int) : (h.st i l a).T = h.T := rfl
theorem nextV_bd {l : List Int} {a n : Int} (hn : 1 ≤ n) : 0 ≤ nextV l a n ∧ nextV l a n < n := by
 unfold nextV; split <;> exact belowV_bd hn
theorem g_next (i : Nat) (l : List Int) (a n : Int) (h : Hp) (hl : SOk l) (ha : 0 ≤ a ∧ a ≤ 1000000000) (hn : 1 ≤ n ∧ n ≤ 9000000000000000000) :
  ACalls Tryz.prog 65 [.ptr i 0, .v (.int .i64 n)] (h.st i l a) (fun r h' => ∃ x : Int, (0 ≤ x ∧ x < n) ∧ r = .v (.int .i64 x) ∧ h' = h.st i l (a + 1)) :=
 (a_next i l a n (h.st i l a) (st_at _ _ _ _) ha hn.2 hl.1 hl.2).mono fun r h' ⟨e, e2⟩ => ⟨nextV l a n, nextV_bd hn.1, e, e2.trans (st_st _ _ _ _ _)⟩
theorem g_flip (i : Nat) (l : List Int) (a n : Int) (h : Hp) (hl : SOk l) (ha : 0 ≤ a ∧ a ≤ 1000000000) (hn : 1 ≤ n ∧ n ≤ 9000000000000000000) :
  ACalls Tryz.prog 9 [.ptr i 0, .v (.int .i64 n)] (h.st i l a) (fun r h' => ∃ b : Bool, r = .v (.bool b) ∧ h' = h.st i l (a + 1)) := by
 refine gE Tryz.func9 rfl (by kernel_rfl) 7 rfl fun c => ?_
 (repeat (first | refine gO rfl ?_ | (refine gR fun K1 hK1 => ?_; simp only [go_sem, ↓reduceIte, reduceCtorEq, nA, nB, nC, nD, nE, nF] <;> and_intros <;> first | (apply hK1; clear hK1 K1) | skip)))
 refine (g_next i l a n h hl ha hn).mono ?_; rintro _ _ ⟨x, hx, rfl, rfl⟩; apply hK1; clear hK1 K1
 (repeat (first | refine gO rfl ?_ | (refine gR fun K1 hK1 => ?_; simp only [go_sem, ↓reduceIte, reduceCtorEq, nA, nB, nC, nD, nE, nF] <;> and_intros <;> (apply hK1; clear hK1 K1))))
 simp only [Tryz.results9, go_sem, ↓reduceIte, reduceCtorEq, nA, nB, nC, nD, nE, nF]
 exact ⟨_, _, Weak.refl _, Hp.le.refl _, _, rfl, rfl⟩
theorem g_range (i : Nat) (l : List Int) (a lo hi : Int) (h : Hp) (hl : SOk l) (ha : 0 ≤ a ∧ a ≤ 1000000000) (h1 : -4000000000000000000 ≤ lo) (h2 : lo ≤ hi) (h3 : hi ≤ 4000000000000000000) :
  ACalls Tryz.prog 53 [.ptr i 0, .v (.int .i64 lo), .v (.int .i64 hi)] (h.st i l a) (fun r h' => ∃ x : Int, (lo ≤ x ∧ x ≤ hi) ∧ r = .v (.int .i64 x) ∧ h' = h.st i l (a + 1)) := by
 refine gE Tryz.func53 rfl (by kernel_rfl) 16 rfl fun c => ?_
 (repeat (first | refine gO rfl ?_ | (refine gR fun K1 hK1 => ?_; simp only [go_sem, ↓reduceIte, reduceCtorEq, nA, nB, nC, nD, nE, nF] <;> and_intros <;> (apply hK1; clear hK1 K1))))
 refine awp_cond (t := _) rfl (fun h4 => ?_) (fun h4 => ?_)
 ·exfalso; simp only [decide_eq_true_eq] at h4; omega
 ·(repeat (first | refine gO rfl ?_ | (refine gR fun K1 hK1 => ?_; simp only [go_sem, ↓reduceIte, reduceCtorEq, nA, nB, nC, nD, nE, nF] <;> and_intros <;> first | (intros; (omega)) | skip)))
  refine (g_next i l a (hi - lo + 1) h hl ha (by omega)).mono ?_; rintro _ _ ⟨x, hx, rfl, rfl⟩; apply hK1; clear hK1 K1
  (repeat (first | refine gO rfl ?_ | (refine gR fun K1 hK1 => ?_; simp only [go_sem, ↓reduceIte, reduceCtorEq, nA, nB, nC, nD, nE, nF] <;> and_intros <;> first | (apply hK1; clear hK1 K1) | (intros; (omega)))))
  simp only [Tryz.results53, go_sem, ↓reduceIte, reduceCtorEq, nA, nB, nC, nD, nE, nF]
  exact ⟨_, _, Weak.refl _, Hp.le.refl _, lo + x, by omega, rfl, rfl⟩
theorem getD_mem {l : List Int} {x : Int} (h : 0 ≤ x ∧ x < l.length) : l.getD x.toNat 0 ∈ l := by
 rw [List.getD_eq_getElem?_getD, List.getElem?_eq_getElem (show x.toNat < l.length by omega)]
 exact List.getElem_mem _
theorem g_pick (i : Nat) (l : List Int) (a : Int) (ps : List Int) (k : Option Nat) (h : Hp) (hl : SOk l) (ha : 0 ≤ a ∧ a ≤ 1000000000) (hp : 1 ≤ ps.length ∧ ps.length ≤ 100) :
  ACalls Tryz.prog 19 [.ptr i 0, .row 1 (ps.map encI) k] (h.st i l a) (fun r h' => ∃ x ∈ ps, r = .v (.int .i64 x) ∧ h' = h.st i l (a + 1)) := by
 refine gE Tryz.func19 rfl (by kernel_rfl) 10 rfl fun c => ?_
 (repeat (first | refine gO rfl ?_ | (refine gR fun K1 hK1 => ?_; simp only [go_sem, ↓reduceIte, reduceCtorEq, nA, nB, nC, nD, nE, nF] <;> and_intros <;> first | (apply hK1; clear hK1 K1) | skip)))
 refine (g_next i l a ps.length h hl ha (by omega)).mono ?_; rintro _ _ ⟨x, hx, rfl, rfl⟩; apply hK1; clear hK1 K1
 have hg := getD_enc encI ps x.toNat 0 (by omega)
 (repeat (first | refine gO rfl ?_ | (refine gR fun K1 hK1 => ?_; simp only [go_sem, ↓reduceIte, reduceCtorEq, nA, nB, nC, nD, nE, nF, hg, encI] <;> and_intros <;> first | (apply hK1; clear hK1 K1) | (intros; (omega)))))
 simp only [Tryz.results19, go_sem, ↓reduceIte, reduceCtorEq, nA, nB, nC, nD, nE, nF]
 exact ⟨_, _, Weak.refl _, Hp.le.refl _, _, getD_mem hx, rfl, rfl⟩
def encS (x : ByteArray) : List AV := [.v (.string x)]
theorem getD_memS {l : List ByteArray} {x : Int} (h : 0 ≤ x ∧ x < l.length) (d : ByteArray) : l.getD x.toNat d ∈ l := by
 rw [List.getD_eq_getElem?_getD, List.getElem?_eq_getElem (show x.toNat < l.length by omega)]
 exact List.getElem_mem _
theorem g_some (i : Nat) (l : List Int) (a : Int) (ps : List ByteArray) (k : Option Nat) (h : Hp) (hl : SOk l) (ha : 0 ≤ a ∧ a ≤ 1000000000) (hp : 1 ≤ ps.length ∧ ps.length ≤ 100) :
  ACalls Tryz.prog 20 [.ptr i 0, .row 1 (ps.map encS) k] (h.st i l a) (fun r h' => ∃ x ∈ ps, r = .v (.string x) ∧ h' = h.st i l (a + 1)) := by
 refine gE Tryz.func20 rfl (by kernel_rfl) 10 rfl fun c => ?_
 (repeat (first | refine gO rfl ?_ | (refine gR fun K1 hK1 => ?_; simp only [go_sem, ↓reduceIte, reduceCtorEq, nA, nB, nC, nD, nE, nF] <;> and_intros <;> first | (apply hK1; clear hK1 K1) | skip)))
 refine (g_next i l a ps.length h hl ha (by omega)).mono ?_; rintro _ _ ⟨x, hx, rfl, rfl⟩; apply hK1; clear hK1 K1
 have hg := getD_enc encS ps x.toNat default (by omega)
 (repeat (first | refine gO rfl ?_ | (refine gR fun K1 hK1 => ?_; simp only [go_sem, ↓reduceIte, reduceCtorEq, nA, nB, nC, nD, nE, nF, hg, encS] <;> and_intros <;> first | (apply hK1; clear hK1 K1) | (intros; (omega)))))
 simp only [Tryz.results20, go_sem, ↓reduceIte, reduceCtorEq, nA, nB, nC, nD, nE, nF]
 exact ⟨_, _, Weak.refl _, Hp.le.refl _, _, getD_memS hx _, rfl, rfl⟩
theorem g_odd (i : Nat) (l : List Int) (a lo hi : Int) (h : Hp) (hl : SOk l) (ha : 0 ≤ a ∧ a ≤ 900000000) (h1 : -4000000000000000 ≤ lo) (h2 : lo ≤ hi) (h3 : hi ≤ 4000000000000000) :
  ACalls Tryz.prog 43 [.ptr i 0, .v (.int .i64 lo), .v (.int .i64 hi)] (h.st i l a) (fun r h' => ∃ x a' : Int, (-5000000000000000 ≤ x ∧ x ≤ 5000000000000000) ∧ (a ≤ a' ∧ a' ≤ a + 2) ∧ r = .v (.int .i64 x) ∧ h' = h.st i l a') := by
 refine gE Tryz.func43 rfl (by kernel_rfl) 19 rfl fun c => ?_
 (repeat (first | refine gO rfl ?_ | (refine gR fun K1 hK1 => ?_; simp only [go_sem, ↓reduceIte, reduceCtorEq, nA, nB, nC, nD, nE, nF] <;> and_intros <;> first | (apply hK1; clear hK1 K1) | skip)))
 refine (g_flip i l a 12 h hl (by omega) (by omega)).mono ?_; rintro _ _ ⟨b, rfl, rfl⟩; apply hK1; clear hK1 K1
 (repeat ((refine gO rfl ?_)))
 refine awp_cond (t := _) rfl (fun h4 => ?_) (fun h4 => ?_)
 ·(repeat ((refine gR fun K1 hK1 => ?_; simp only [go_sem, ↓reduceIte, reduceCtorEq, nA, nB, nC, nD, nE, nF] <;> and_intros <;> first | (intros; first | omega | decide) | skip)))
  refine (g_pick i l (a + 1) [lo - 1, hi + 1, lo, hi, -1099511627776, 1099511627776] none h hl (by omega) (by simp)).mono ?_; rintro _ _ ⟨x, hx, rfl, rfl⟩; apply hK1; clear hK1 K1
  (repeat (first | refine gO rfl ?_ | (refine gR fun K1 hK1 => ?_; simp only [go_sem, ↓reduceIte, reduceCtorEq, nA, nB, nC, nD, nE, nF] <;> and_intros <;> (apply hK1; clear hK1 K1))))
  simp only [Tryz.results43, go_sem, ↓reduceIte, reduceCtorEq, nA, nB, nC, nD, nE, nF]
  exact ⟨_, _, Weak.refl _, Hp.le.refl _, x, a + 1 + 1, by simp at hx; omega, by omega, rfl, rfl⟩
 ·(repeat (first | refine gO rfl ?_ | (refine gR fun K1 hK1 => ?_; simp only [go_sem, ↓reduceIte, reduceCtorEq, nA, nB, nC, nD, nE, nF] <;> and_intros)))
  refine (g_range i l (a + 1) lo hi h hl (by omega) (by omega) h2 (by omega)).mono ?_; rintro _ _ ⟨x, hx, rfl, rfl⟩; apply hK1; clear hK1 K1
  (repeat (first | refine gO rfl ?_ | (refine gR fun K1 hK1 => ?_; simp only [go_sem, ↓reduceIte, reduceCtorEq, nA, nB, nC, nD, nE, nF] <;> and_intros <;> (apply hK1; clear hK1 K1))))
  simp only [Tryz.results43, go_sem, ↓reduceIte, reduceCtorEq, nA, nB, nC, nD, nE, nF]
  exact ⟨_, _, Weak.refl _, Hp.le.refl _, x, a + 1 + 1, by omega, by omega, rfl, rfl⟩
inductive LT where
 | mk (kind : Int) (item : ByteArray) (long many : Int) (kids : List LT) (shares : List Int)
instance : Inhabited LT := ⟨.mk 0 default 0 0 [] []⟩
def nilOr (z : Nat) : List (List AV) → AV
 | [] => .v (.slice none 0 0)
 | x :: xs => .row z (x :: xs) none
def encX : LT → List AV
 | .mk kind item long many kids shares => [.v (.int .i64 kind), .v (.string item), .v (.int .i64 long), .v (.int .i64 many), nilOr 6 (kids.map encX), nilOr 1 (shares.map encI)]
def encL : LT → List AV
 | .mk kind item long many kids shares => [.v (.int .i64 kind), .v (.string item), .v (.int .i64 long), .v (.int .i64 many), .row 6 (kids.map encL) none, .row 1 (shares.map encI) none]
theorem encX_eq (kind : Int) (item : ByteArray) (long many : Int) (kids : List LT) (shares : List Int) : encX (.mk kind item long many kids shares) = [.v (.int .i64 kind), .v (.string item), .v (.int .i64 long), .v (.int .i64 many), nilOr 6 (kids.map encX), nilOr 1 (shares.map encI)] := by rw [encX]
theorem encL_eq (kind : Int) (item : ByteArray) (long many : Int) (kids : List LT) (shares : List Int) : encL (.mk kind item long many kids shares) = [.v (.int .i64 kind), .v (.string item), .v (.int .i64 long), .v (.int .i64 many), .row 6 (kids.map encL) none, .row 1 (shares.map encI) none] := by rw [encL]
theorem encX_len (t : LT) : (encX t).length = 6 := by cases t; rw [encX_eq]; rfl
theorem encL_len (t : LT) : (encL t).length = 6 := by cases t; rw [encL_eq]; rfl
def WL (cs ds : List AV) : Prop := cs.length = ds.length ∧ ∀ j, Weak (cs.getD j .junk) (ds.getD j .junk)
theorem WL.nil : WL [] [] := ⟨rfl, fun _ => Weak.refl _⟩
theorem WL.cons {a b : AV} {cs ds : List AV} (h : Weak a b) (k : WL cs ds) : WL (a :: cs) (b :: ds) := ⟨by simp [k.1], fun j => by
 cases j with
 | zero => exact h
 | succ j => exact k.2 j⟩
theorem Weak.agg {cs ds : List AV} (h : WL cs ds) : Weak (.agg cs) (.agg ds) := fun G v hr => by
 cases hr with
 | agg _ vs u hl hu hr h1 =>
  refine .agg _ vs u (by rw [hl, h.1]) (fun j hj => hu j (by rw [h.1]; exact hj)) (fun j hj => ?_) (fun j hj => h1 j (by rw [h.1]; exact hj))
  have hj' : j < cs.length := by rw [h.1]; exact hj
  have := h.2 j G _ (by rw [List.getD_eq_getElem?_getD, List.getElem?_eq_getElem hj']; exact hr j hj')
  rwa [List.getD_eq_getElem?_getD, List.getElem?_eq_getElem hj] at this
theorem le_st {h : Hp} {T2 : Nat → Option TO} (hT : ∀ k, h.T k ≠ none → T2 k = h.T k) (i : Nat) (l : List Int) (a : Int) : Hp.le (h.st i l a) (Hp.st ⟨h.H, T2⟩ i l a) :=
 ⟨fun _ => .inr rfl, fun k => by
  by_cases hk : h.T k = none
  ·exact .inl hk
  ·exact .inr (hT k hk).symm⟩
theorem getD_encX {l : List LT} {k : Nat} (h : k < l.length) : (l.map encX).getD k [] = encX (l.getD k default) := getD_enc encX l k default h
def NB (x : Int) : Prop := -5000000000000000 ≤ x ∧ x ≤ 5000000000000000
def LB : Nat → LT → Prop
 | 0, _ => False
 | d + 1, .mk kind item long many kids shares => NB kind ∧ item.size ≤ 2 ∧ NB long ∧ NB many ∧ kids.length ≤ 3 ∧ shares.length ≤ 4 ∧ (∀ x ∈ shares, NB x) ∧ ∀ k ∈ kids, LB d k
theorem LB.mono : ∀ {d e : Nat} {t : LT}, LB d t → d ≤ e → LB e t
 | 0, _, _, h, _ => h.elim
 | d + 1, 0, _, _, h => by omega
 | d + 1, e + 1, .mk .., h, hd => ⟨h.1, h.2.1, h.2.2.1, h.2.2.2.1, h.2.2.2.2.1, h.2.2.2.2.2.1, h.2.2.2.2.2.2.1, fun k hk => (h.2.2.2.2.2.2.2 k hk).mono (by omega)⟩
def OneV (r : AV) : Prop := uside r = True ∧ unw r = r ∧ r.noLoc = true ∧ isOpt r = false ∧ r.cellsB = some [r]
theorem nilOr_one (z : Nat) (xs : List (List AV)) : OneV (nilOr z xs) := by cases xs <;> exact ⟨rfl, rfl, rfl, rfl, rfl⟩
def OLd (b : Bool) (T : Nat → Option TO) (S : Nat → Prop) : Nat → List AV → Prop
 | 0, _ => False
 | d + 1, cs => ∃ (kind : Int) (item : ByteArray) (long many : Int) (K Sh : AV), cs = [.v (.int .i64 kind), .v (.string item), .v (.int .i64 long), .v (.int .i64 many), K, Sh] ∧
   (NB kind ∧ item.size ≤ 2 ∧ NB long ∧ NB many) ∧
   (K = .v (.slice none 0 0) ∨ (∃ q css, S q ∧ T q = some (.cont 6 css) ∧ K = .arr 6 q css.length ∧ 0 < css.length ∧ css.length ≤ 3 ∧ ∀ c ∈ css, OLd b T S d c) ∨ (b = false ∧ ∃ css, K = .row 6 css none ∧ css.length ≤ 3 ∧ ∀ c ∈ css, OLd b T S d c)) ∧
   (Sh = .v (.slice none 0 0) ∨ ∃ (xs : List Int) (k : Nat), Sh = .row 1 (xs.map encI) (some k) ∧ xs.length ≤ 5 ∧ (∀ x ∈ xs, NB x) ∧ (b = true → S k ∧ T k = some (.tail xs.length) ∧ xs.length ≤ 4))
theorem OLd.len {b : Bool} {T : Nat → Option TO} {S : Nat → Prop} {d : Nat} {cs : List AV} (h : OLd b T S d cs) : cs.length = 6 := by
 cases d with
 | zero => exact h.elim
 | succ d => obtain ⟨_, _, _, _, _, _, rfl, _⟩ := h; rfl
theorem OLd.keep {b : Bool} {T T' : Nat → Option TO} {S : Nat → Prop} (hT : ∀ k, S k → (∃ x, T k = some (.cont 6 x)) → T' k = T k) (hs : b = true → ∀ k n, T k = some (.tail n) → T' k = some (.tail n)) : ∀ {d : Nat} {cs : List AV}, OLd b T S d cs → OLd b T' S d cs
 | 0, _, h => h.elim
 | d + 1, cs, ⟨kind, item, long, many, K, Sh, e, h1, h2, h3⟩ => by
  refine ⟨kind, item, long, many, K, Sh, e, h1, ?_, ?_⟩
  ·rcases h2 with h2 | ⟨q, css, hq, hTq, hK, hp, hl, hc⟩ | ⟨hbf, css, hK, hl, hc⟩
   ·exact .inl h2
   ·exact .inr (.inl ⟨q, css, hq, by rw [hT q hq ⟨css, hTq⟩]; exact hTq, hK, hp, hl, fun c hc' => (hc c hc').keep hT hs⟩)
   ·exact .inr (.inr ⟨hbf, css, hK, hl, fun c hc' => (hc c hc').keep hT hs⟩)
  ·rcases h3 with h3 | ⟨xs, k, h3, hl, hx, hb⟩
   ·exact .inl h3
   ·exact .inr ⟨xs, k, h3, hl, hx, fun hb' => ⟨(hb hb').1, hs hb' k _ (hb hb').2.1, (hb hb').2.2⟩⟩
theorem OLd.more {b : Bool} {T : Nat → Option TO} {S S' : Nat → Prop} (hS : ∀ k, S k → S' k) : ∀ {d : Nat} {cs : List AV}, OLd b T S d cs → OLd b T S' d cs
 | 0, _, h => h.elim
 | d + 1, cs, ⟨kind, item, long, many, K, Sh, e, h1, h2, h3⟩ => by
  have h3' : Sh = .v (.slice none 0 0) ∨ ∃ (xs : List Int) (k : Nat), Sh = .row 1 (xs.map encI) (some k) ∧ xs.length ≤ 5 ∧ (∀ x ∈ xs, NB x) ∧ (b = true → S' k ∧ T k = some (.tail xs.length) ∧ xs.length ≤ 4) := by
   rcases h3 with h3 | ⟨xs, k, h3, h4, h5, h6⟩
   ·exact .inl h3
   ·exact .inr ⟨xs, k, h3, h4, h5, fun hb => ⟨hS k (h6 hb).1, (h6 hb).2⟩⟩
  refine ⟨kind, item, long, many, K, Sh, e, h1, ?_, h3'⟩
  rcases h2 with h2 | ⟨q, css, hq, hTq, hK, hp, hl, hc⟩ | ⟨hbf, css, hK, hl, hc⟩
  ·exact .inl h2
  ·exact .inr (.inl ⟨q, css, hS q hq, hTq, hK, hp, hl, fun c hc' => (hc c hc').more hS⟩)
  ·exact .inr (.inr ⟨hbf, css, hK, hl, fun c hc' => (hc c hc').more hS⟩)
theorem OLd.up {b : Bool} {T : Nat → Option TO} {S : Nat → Prop} : ∀ {d e : Nat} {cs : List AV}, d ≤ e → OLd b T S d cs → OLd b T S e cs
 | 0, _, _, _, h => h.elim
 | d + 1, 0, _, he, _ => by omega
 | d + 1, e + 1, cs, he, ⟨kind, item, long, many, K, Sh, e', h1, h2, h3⟩ => by
  refine ⟨kind, item, long, many, K, Sh, e', h1, ?_, h3⟩
  rcases h2 with h2 | ⟨q, css, hq, hTq, hK, hp, hl, hc⟩ | ⟨hbf, css, hK, hl, hc⟩
  ·exact .inl h2
  ·exact .inr (.inl ⟨q, css, hq, hTq, hK, hp, hl, fun c hc' => (hc c hc').up (by omega)⟩)
  ·exact .inr (.inr ⟨hbf, css, hK, hl, fun c hc' => (hc c hc').up (by omega)⟩)
theorem OLd.weaken {T : Nat → Option TO} {S : Nat → Prop} : ∀ {d : Nat} {cs : List AV}, OLd true T S d cs → OLd false T S d cs
 | 0, _, h => h.elim
 | d + 1, cs, ⟨kind, item, long, many, K, Sh, e, h1, h2, h3⟩ => by
  refine ⟨kind, item, long, many, K, Sh, e, h1, ?_, ?_⟩
  ·rcases h2 with h2 | ⟨q, css, hq, hTq, hK, hp, hl, hc⟩ | ⟨hbf, css, hK, hl, hc⟩
   ·exact .inl h2
   ·exact .inr (.inl ⟨q, css, hq, hTq, hK, hp, hl, fun c hc' => (hc c hc').weaken⟩)
   ·cases hbf --.inr (.inr ⟨hbf, css, hK, hl, fun c hc' => (hc c hc').weaken⟩)
  ·rcases h3 with h3 | ⟨xs, k, h3, hl, hx, hb⟩
   ·exact .inl h3
   ·exact .inr ⟨xs, k, h3, hl, hx, fun hb' => by cases hb'⟩
theorem OLd.write {T T' : Nat → Option TO} {S : Nat → Prop} {q : Nat} {css : List (List AV)} {j : Nat} {c' : List AV} (hq : T q = some (.cont 6 css)) (hq' : T' q = some (.cont 6 (css.set j c'))) (hT : ∀ k, S k → k ≠ q → T' k = T k)
  (hc : ∀ e, OLd false T' S e (css.getD j []) → OLd false T' S e c') : ∀ {d : Nat} {cs : List AV}, OLd false T S d cs → OLd false T' S d cs
 | 0, _, h => h.elim
 | d + 1, cs, ⟨kind, item, long, many, K, Sh, e, h1, h2, h3⟩ => by
  refine ⟨kind, item, long, many, K, Sh, e, h1, ?_, ?_⟩
  ·rcases h2 with h2 | ⟨p, dss, hp, hTp, hK, hpos, hl, hcs⟩ | ⟨hbf, dss, hK, hl, hcs⟩
   ·exact .inl h2
   ·by_cases hpq : p = q
    ·subst hpq
     rw [hq] at hTp
     cases hTp
     refine .inr (.inl ⟨p, _, hp, hq', by rw [List.length_set]; exact hK, by rw [List.length_set]; exact hpos, by rw [List.length_set]; exact hl, fun c hcm => ?_⟩)
     rcases List.mem_or_eq_of_mem_set hcm with h | h
     ·exact (hcs c h).write hq hq' hT hc
     ·subst h
      by_cases hj : j < css.length
      ·have hm : css.getD j [] ∈ css := by rw [List.getD_eq_getElem?_getD, List.getElem?_eq_getElem hj]; exact List.getElem_mem _
       exact hc _ ((hcs _ hm).write hq hq' hT hc)
      ·rw [List.set_eq_of_length_le (by omega)] at hcm
       exact (hcs _ hcm).write hq hq' hT hc
    ·exact .inr (.inl ⟨p, dss, hp, by rw [hT p hp hpq]; exact hTp, hK, hpos, hl, fun c hc' => (hcs c hc').write hq hq' hT hc⟩)
   ·exact .inr (.inr ⟨hbf, dss, hK, hl, fun c hc' => (hcs c hc').write hq hq' hT hc⟩)
  ·rcases h3 with h3 | ⟨xs, k, h3, hl, hx, hb⟩
   ·exact .inl h3
   ·exact .inr ⟨xs, k, h3, hl, hx, fun hb' => by cases hb'⟩
theorem RepL.of6 {G G' : Gh} {a b c d e f a' b' c' d' e' f' : AV} {us : List Value} (h : RepL G [a, b, c, d, e, f] us) (h0 : ∀ x, Rep G a x → Rep G' a' x) (h1 : ∀ x, Rep G b x → Rep G' b' x) (h2 : ∀ x, Rep G c x → Rep G' c' x) (h3 : ∀ x, Rep G d x → Rep G' d' x)
  (h4 : ∀ x, Rep G e x → Rep G' e' x) (h5 : ∀ x, Rep G f x → Rep G' f' x) : RepL G' [a', b', c', d', e', f'] us := by
 refine ⟨h.1, fun j hj hj' => ⟨?_, (h.2 j hj hj').2⟩⟩
 have h9 := (h.2 j hj hj').1
 match j, hj with
 | 0, _ => exact h0 _ h9
 | 1, _ => exact h1 _ h9
 | 2, _ => exact h2 _ h9
 | 3, _ => exact h3 _ h9
 | 4, _ => exact h4 _ h9
 | 5, _ => exact h5 _ h9
 | j + 6, hj => simp at hj; omega
def LC : Nat → LT → Prop
 | 0, _ => False
 | d + 1, .mk kind item long many kids shares => NB kind ∧ item.size ≤ 2 ∧ NB long ∧ NB many ∧ kids.length ≤ 3 ∧ shares.length ≤ 5 ∧ (∀ x ∈ shares, NB x) ∧ ∀ k ∈ kids, LC d k
theorem LC.mono : ∀ {d e : Nat} {t : LT}, LC d t → d ≤ e → LC e t
 | 0, _, _, h, _ => h.elim
 | d + 1, 0, _, _, h => by omega
 | d + 1, e + 1, .mk .., h, hd => ⟨h.1, h.2.1, h.2.2.1, h.2.2.2.1, h.2.2.2.2.1, h.2.2.2.2.2.1, h.2.2.2.2.2.2.1, fun k hk => (h.2.2.2.2.2.2.2 k hk).mono (by omega)⟩
theorem OLd.list {b : Bool} {T : Nat → Option TO} {S : Nat → Prop} {G G' : Gh} {d : Nat} (ih : ∀ cs, OLd b T S d cs → ∃ t, LC d t ∧ ∀ us, RepL G cs us → RepL G' (encL t) us) : ∀ (css : List (List AV)) (_ : ∀ c ∈ css, OLd b T S d c),
  ∃ ts : List LT, ts.length = css.length ∧ (∀ t ∈ ts, LC d t) ∧ ∀ us, RepL G css.flatten us → RepL G' (ts.map encL).flatten us
 | [], _ => ⟨[], rfl, by simp, fun us h => by cases us with | nil => exact RepL.nil _ | cons => have := h.1; simp at this⟩
 | c :: css, h => by
  obtain ⟨t, ht, hr⟩ := ih c (h c (by simp))
  obtain ⟨ts, hl, hts, hrs⟩ := OLd.list ih css fun c hc => h c (by simp [hc])
  refine ⟨t :: ts, by simp [hl], by simpa using ⟨ht, hts⟩, fun us hu => ?_⟩
  have h1 := hu.take c.length
  have h2 := hu.drop c.length
  simp only [List.flatten_cons, List.take_left, List.drop_left] at h1 h2
  have := (hr _ h1).append (hrs _ h2)
  rw [List.take_append_drop] at this
  exact this
theorem OLd.freeze {b : Bool} {T : Nat → Option TO} {S : Nat → Prop} {G G' : Gh} (hle : GLe G G') (hf : Fzs T S G G') : ∀ (d : Nat) (cs : List AV), OLd b T S d cs → ∃ t, LC d t ∧ ∀ us, RepL G cs us → RepL G' (encL t) us
 | 0, _, h => h.elim
 | d + 1, cs, ⟨kind, item, long, many, K, Sh, e, ⟨b1, b2, b3, b4⟩, h2, h3⟩ => by
  subst e
  have hK : ∃ ts : List LT, ts.length ≤ 3 ∧ (∀ t ∈ ts, LC d t) ∧ ∀ x, Rep G K x → Rep G' (.row 6 (ts.map encL) none) x := by
   have hz : ∀ ts : List LT, ∀ y ∈ ts.map encL, y.length = 6 := fun ts y hy => by
    obtain ⟨t, _, rfl⟩ := List.mem_map.1 hy
    exact encL_len t
   rcases h2 with rfl | ⟨q, css, hq, hT, rfl, _, hl, hc⟩ | ⟨_, css, rfl, hl, hc⟩
   ·exact ⟨[], by simp, by simp, fun x hx => Weak.nil 6 0 0 ⟨rfl, rfl⟩ G' x (hx.mono hle)⟩
   ·obtain ⟨ts, htl, htb, hts⟩ := OLd.list (OLd.freeze hle hf d) css hc
    exact ⟨ts, by omega, htb, fun x hx => hf q 6 css x hq hT hx _ (by simpa using htl) (hz ts) hts⟩
   ·obtain ⟨ts, htl, htb, hts⟩ := OLd.list (OLd.freeze hle hf d) css hc
    exact ⟨ts, by omega, htb, fun x hx => hx.rowFlat hle (by simpa using htl) (hz ts) hts⟩
  have hS : ∃ xs : List Int, xs.length ≤ 5 ∧ (∀ x ∈ xs, NB x) ∧ ∀ x, Rep G Sh x → Rep G' (.row 1 (xs.map encI) none) x := by
   rcases h3 with rfl | ⟨xs, k, rfl, hl, hx, _⟩
   ·exact ⟨[], by simp, by simp, fun x hx => Weak.nil 1 0 0 ⟨rfl, rfl⟩ G' x (hx.mono hle)⟩
   ·exact ⟨xs, hl, hx, fun x hx => Weak.row _ _ _ G' x (hx.mono hle)⟩
  obtain ⟨ts, hl, htb, hts⟩ := hK
  obtain ⟨xs, hxl, hxb, hxs⟩ := hS
  refine ⟨.mk kind item long many ts xs, ⟨b1, b2, b3, b4, hl, hxl, hxb, htb⟩, fun us hu => ?_⟩
  rw [encL_eq]
  exact hu.of6 (fun x hx => hx.mono hle) (fun x hx => hx.mono hle) (fun x hx => hx.mono hle) (fun x hx => hx.mono hle) hts hxs
inductive AT where
 | mk (i c : Nat) (kids : List AT)
instance : Inhabited AT := ⟨.mk 0 0 []⟩
inductive PS where
 | mk (had : Int) (of : List Int) (kids : List PS)
instance : Inhabited PS := ⟨.mk 0 [] []⟩
def AT.id : AT → Nat
 | .mk i _ _ => i
def idsT : AT → List Nat
 | .mk i _ ks => i :: (ks.map idsT).flatten
def toksT : AT → List Nat
 | .mk _ c ks => c :: (ks.map toksT).flatten
theorem idsT_eq (i c : Nat) (ks : List AT) : idsT (.mk i c ks) = i :: (ks.map idsT).flatten := by rw [idsT]
theorem toksT_eq (i c : Nat) (ks : List AT) : toksT (.mk i c ks) = c :: (ks.map toksT).flatten := by rw [toksT]
theorem idsT_kid {i c : Nat} {ks : List AT} {j : Nat} (h : j < ks.length) {x : Nat} (hx : x ∈ idsT (ks.getD j default)) : x ∈ idsT (.mk i c ks) := by
 rw [idsT_eq]
 refine List.mem_cons_of_mem _ (List.mem_flatten.2 ⟨_, List.mem_map.2 ⟨_, ?_, rfl⟩, hx⟩)
 rw [List.getD_eq_getElem?_getD, List.getElem?_eq_getElem h]; exact List.getElem_mem _
theorem toksT_kid {i c : Nat} {ks : List AT} {j : Nat} (h : j < ks.length) {x : Nat} (hx : x ∈ toksT (ks.getD j default)) : x ∈ toksT (.mk i c ks) := by
 rw [toksT_eq]
 refine List.mem_cons_of_mem _ (List.mem_flatten.2 ⟨_, List.mem_map.2 ⟨_, ?_, rfl⟩, hx⟩)
 rw [List.getD_eq_getElem?_getD, List.getElem?_eq_getElem h]; exact List.getElem_mem _
def Sep : Nat → AT → Prop
 | 0, _ => False
 | d + 1, .mk i c az => ∀ j, j < az.length → (i ∉ idsT (az.getD j default) ∧ c ∉ toksT (az.getD j default) ∧ Sep d (az.getD j default)) ∧
   ∀ l, l < az.length → l ≠ j → (∀ x ∈ idsT (az.getD j default), x ∉ idsT (az.getD l default)) ∧ (∀ x ∈ toksT (az.getD j default), x ∉ toksT (az.getD l default))
structure RK where
 ex : LT → List AV
 cf : Int → List Int → List Int
def kidsC (az : List AT) (K : AV) : Prop := az = [] ∧ K = .v (.slice none 0 0) ∨ ∃ tk, K = .row 1 (az.map fun a => [.ptr a.id 0]) tk
def RAt (X : RK) (h : Hp) : Nat → LT → AT → PS → Prop
 | 0, _, _, _ => False
 | d + 1, .mk kind item long many kids shares, .mk i c az, .mk p cs ks =>
  (∃ K, h.H i = some (.cells ([.v (.int .i64 kind), .v (.string item), .v (.int .i64 long), .v (.int .i64 many), .row 6 (kids.map encL) none, .row 1 (shares.map encI) none, K, .v (.int .i64 p), .arr 1 c kids.length] ++ X.ex (.mk kind item long many kids shares))) ∧ kidsC az K) ∧
  h.T c = some (.cont 1 ((X.cf kind cs).map encI)) ∧ ((X.cf kind cs).length = kids.length ∧ cs.length = kids.length ∧ az.length = kids.length ∧ ks.length = kids.length) ∧
  ∀ j, j < kids.length → RAt X h d (kids.getD j default) (az.getD j default) (ks.getD j default)
theorem RAt.frame {X : RK} {h h' : Hp} : ∀ {d : Nat} {t : LT} {a : AT} {s : PS}, RAt X h d t a s → (∀ i ∈ idsT a, h'.H i = h.H i) → (∀ c ∈ toksT a, h'.T c = h.T c) → RAt X h' d t a s
 | 0, _, _, _, h, _, _ => h.elim
 | d + 1, .mk kind item long many kids shares, .mk i c az, .mk p cs ks, ⟨⟨K, h1, hK⟩, h2, h3, h4⟩, hi, hc =>
  ⟨⟨K, by rw [hi i (by rw [idsT_eq]; simp)]; exact h1, hK⟩, by rw [hc c (by rw [toksT_eq]; simp)]; exact h2, h3, fun j hj =>
   (h4 j hj).frame (fun x hx => hi x (idsT_kid (by omega) hx)) (fun x hx => hc x (toksT_kid (by omega) hx))⟩
def PSB : Nat → LT → PS → Int → Prop
 | 0, _, _, _ => True
 | d + 1, .mk _ _ _ _ kids _, .mk p cs ks, n => (0 ≤ p ∧ p ≤ n) ∧ (∀ x ∈ cs, 0 ≤ x ∧ x ≤ n) ∧ ∀ j, j < kids.length → PSB d (kids.getD j default) (ks.getD j default) n
theorem PSB.mono {n m : Int} (hnm : n ≤ m) : ∀ {d : Nat} {t : LT} {s : PS}, PSB d t s n → PSB d t s m
 | 0, _, _, _ => trivial
 | d + 1, .mk .., .mk p cs ks, ⟨h1, h2, h3⟩ => ⟨by omega, fun x hx => by have := h2 x hx; omega, fun j hj => (h3 j hj).mono hnm⟩
def ps0 : LT → PS
 | .mk _ _ _ _ kids _ => .mk 0 (kids.map fun _ => 0) (kids.map ps0)
theorem ps0_eq (kind : Int) (item : ByteArray) (long many : Int) (kids : List LT) (shares : List Int) : ps0 (.mk kind item long many kids shares) = .mk 0 (kids.map fun _ => 0) (kids.map ps0) := by rw [ps0]
def bestTo (f : Nat → Int) : Nat → Nat
 | 0 => 0
 | j + 1 => if f j > f (bestTo f j) then j else bestTo f j
theorem bestTo_lt (f : Nat → Int) : ∀ n, 0 < n → bestTo f n < n
 | 0, h => by omega
 | n + 1, _ => by
  simp only [bestTo]
  split
  ·omega
  ·cases n with
   | zero => simp [bestTo]
   | succ n => have := bestTo_lt f (n + 1) (by omega); omega
def shareV (shares : List Int) (p : Int) (cs : List Int) (j : Nat) : Int := shares.getD j 0 * (p + 1) - cs.getD j 0 * shares.sum
def nextF (shares : List Int) (p : Int) (cs : List Int) : Nat := bestTo (shareV shares p cs) shares.length
def idxL (kind p many : Int) (nk nx : Nat) : List Nat :=
 if kind = 1 then [] else if kind = 2 then List.range nk else if kind = 3 then [(p.tmod nk).toNat] else if kind = 4 then [nx] else List.replicate many.toNat 0
def stepU (f : LT → PS → PS × List (ByteArray × Int)) (kids : List LT) (a : (List Int × List PS) × List (ByteArray × Int)) (i : Nat) : (List Int × List PS) × List (ByteArray × Int) :=
 ((a.1.1.set i (a.1.1.getD i 0 + 1), a.1.2.set i (f (kids.getD i default) (a.1.2.getD i default)).1), a.2 ++ (f (kids.getD i default) (a.1.2.getD i default)).2)
def passU : Nat → LT → PS → PS × List (ByteArray × Int)
 | 0, _, s => (s, [])
 | d + 1, .mk kind item long many kids shares, .mk p cs ks =>
  let r := (idxL kind p many kids.length (nextF shares p cs)).foldl (stepU (passU d) kids) ((cs, ks), if kind = 1 then [(item, long)] else [])
  (.mk (p + 1) r.1.1 r.1.2, r.2)
theorem passU_succ (d : Nat) (kind : Int) (item : ByteArray) (long many : Int) (kids : List LT) (shares : List Int) (p : Int) (cs : List Int) (ks : List PS) : passU (d + 1) (.mk kind item long many kids shares) (.mk p cs ks) =
  (.mk (p + 1) ((idxL kind p many kids.length (nextF shares p cs)).foldl (stepU (passU d) kids) ((cs, ks), if kind = 1 then [(item, long)] else [])).1.1 ((idxL kind p many kids.length (nextF shares p cs)).foldl (stepU (passU d) kids) ((cs, ks), if kind = 1 then [(item, long)] else [])).1.2, ((idxL kind p many kids.length (nextF shares p cs)).foldl (stepU (passU d) kids) ((cs, ks), if kind = 1 then [(item, long)] else [])).2) := rfl
def VL : Nat → LT → Prop
 | 0, _ => False
 | d + 1, .mk kind _ _ many kids shares => (1 ≤ kind ∧ kind ≤ 5) ∧ (kind = 1 → kids = []) ∧ (kind ≠ 1 → kids ≠ []) ∧ (kind = 5 → kids.length = 1 ∧ 1 ≤ many ∧ many ≤ 100) ∧ (kind = 4 → shares.length = kids.length) ∧ (∀ n ∈ shares, 1 ≤ n ∧ n ≤ 1000) ∧
   (kids.length ≤ 1000 ∧ shares.length ≤ 1000) ∧ ∀ k ∈ kids, VL d k
def encStep (x : ByteArray × Int) : List AV := [.v (.string x.1), .v (.int .i64 x.2)]
def OutAt (h : Hp) (o k : Nat) (ex : List AV) (xs : List (ByteArray × Int)) : Prop := h.H o = some (.cells (.row 2 (xs.map encStep) (some k) :: ex)) ∧ h.T k = some (.tail xs.length)
section
variable {P : Program} {c : Cx} {Q : Exit → St → Prop} {s : St}
theorem awp_weakS (t : Nat) {a a' : AV} {x : Code} (ht : s.sl.getD t .junk = a) (hn : a.noLoc = true) (hw : Weak a a') (h : Awp P c x Q { s with sl := s.sl.set t a' }) : Awp P c x Q s := by
 rintro ac w ⟨G, L, sm, hg, hf, hL⟩
 refine h ac w ⟨G, L, ⟨sm.hs, by simpa using sm.sz, fun u hu => ?_, sm.df, sm.ls⟩, hg, hf, hL⟩
 have hu' : u < s.sl.length := by simpa using hu
 have h1 := sm.sl u hu'
 simp only [List.getElem_set]
 split
 ·rename_i e
  subst e
  rw [List.getD_eq_getElem?_getD, List.getElem?_eq_getElem hu'] at ht
  simp only [Option.getD_some] at ht
  rw [ht] at h1
  exact RepT.of (hw _ _ (h1.base hn))
 ·exact h1
theorem awp_frz (t k z : Nat) {xs : List (List AV)} {x : Code} (ht : s.sl.getD t .junk = .arr z k xs.length) (hT : s.h.T k = some (.cont z xs)) (hz : ∀ y ∈ xs, y.length = z) (h : Awp P c x Q { s with sl := s.sl.set t (.row z xs none), h := { s.h with T := upd s.h.T k none } }) : Awp P c x Q s := by
 rintro ac w ⟨G, L, sm, hg, hf, hL⟩
 obtain ⟨G', hle, hfr, hs2, hfz⟩ := sm.hs.freeze (h2 := { s.h with T := upd s.h.T k none }) (fun j => j = k) rfl (fun j hj => by subst hj; exact upd_same _ _ _) (fun j hj => upd_other _ _ hj)
 refine h ac w ⟨G', L, ⟨hs2, by simpa using sm.sz, fun u hu => ?_, sm.df, sm.ls.fr hle hfr⟩, hg.trans hle, hf.trans hfr, hL⟩
 have hu' : u < s.sl.length := by simpa using hu
 have h1 := sm.sl u hu'
 simp only [List.getElem_set]
 split
 ·rename_i e
  subst e
  rw [List.getD_eq_getElem?_getD, List.getElem?_eq_getElem hu'] at ht
  simp only [Option.getD_some] at ht
  rw [ht] at h1
  exact RepT.of (hfz k z xs _ rfl hT (h1.base rfl) xs rfl hz fun us hus => hus.mono hle)
 ·exact h1.mono hle
theorem awp_ownPtr (o i z : Nat) {x : Code} {cs : List AV} (hj : s.h.H o = some (.cells cs)) (hi : cs[i]? = some (.v (.slice none 0 0))) (h : ∀ k, s.h.T k = none → Awp P c x Q { s with h := { H := upd s.h.H o (some (.cells (cs.set i (.row z [] (some k))))), T := upd s.h.T k (some (.tail 0)) } }) : Awp P c x Q s := by
 rintro a w ⟨G, L, sm, hg, hf, hL⟩
 obtain ⟨hT, s1, g1, f1⟩ := sm.newTok (o := .tail 0) (.inl rfl)
 obtain ⟨b, ob, hb, hw, hr, hv⟩ := s1.hs.obj o _ hj
 obtain ⟨vs, E, rfl, hrl⟩ := hr
 have hil : i < cs.length := (List.getElem?_eq_some_iff.1 hi).1
 obtain ⟨s2, f2⟩ := s1.setObj (i := o) (g := b) (x := .cells cs) (y := .cells (cs.set i (.row z [] (some G.nx)))) hj hb (fun _ _ => rfl) hw ⟨vs, E, rfl, by
  refine ⟨by simpa using hrl.1, fun q hq hq' => ?_⟩
  have hq2 : q < cs.length := by simpa using hq
  simp only [List.length_set] at hq'
  have h3 := hrl.2 q hq2 hq'
  simp only [List.length_set]
  refine ⟨?_, h3.2⟩
  simp only [List.getElem_set]
  split
  ·rename_i eiq
   subst eiq
   have h4 := h3.1
   rw [show cs[i] = AV.v (.slice none 0 0) by rw [List.getElem?_eq_getElem hq2] at hi; simpa using hi] at h4
   have hv := (RepT.of (L := []) h4).v_inv
   rw [hv]
   refine .nil z _ ⟨by simp [Gh.newTk], ?_⟩
   have : G.newTk.tl G.nx = some none := upd_same _ _ _
   rw [this]
   exact ⟨rfl, none, rfl⟩
  ·exact h3.1⟩ rfl rfl rfl (Nat.le_refl _)
 exact h G.nx hT a w ⟨G.newTk, L, s2, hg.trans g1, (hf.trans f1).trans f2, hL⟩
end
open Go
set_option linter.unusedVariables false
set_option linter.unusedSimpArgs false
open Nat renaming reduceAdd → nA, reduceSub → nB, reduceMul → nC, reduceLT → nD, reduceLeDiff → nE, reduceEqDiff → nF, reduceMod → nG, reduceDiv → nH, reducePow → nI
set_option maxRecDepth 100000
set_option maxHeartbeats 8000000
def manyF : LT → Int
 | .mk _ _ _ _ kids _ => (kids.map manyF).sum + 1
def deepF : LT → Int
 | .mk _ _ _ _ kids _ => (kids.map deepF).foldl max 0 + 1
theorem manyF_eq (kind : Int) (item : ByteArray) (long many : Int) (kids : List LT) (shares : List Int) : manyF (.mk kind item long many kids shares) = (kids.map manyF).sum + 1 := by rw [manyF]
theorem deepF_eq (kind : Int) (item : ByteArray) (long many : Int) (kids : List LT) (shares : List Int) : deepF (.mk kind item long many kids shares) = (kids.map deepF).foldl max 0 + 1 := by rw [deepF]
theorem sum_bd {α : Type} (f : α → Int) (b : Int) (hb : 0 ≤ b) : ∀ (l : List α), (∀ x ∈ l, 0 ≤ f x ∧ f x ≤ b) → 0 ≤ (l.map f).sum ∧ (l.map f).sum ≤ l.length * b
 | [], _ => by simp
 | x :: l, h => by
  have h1 := h x (by simp)
  have h2 := sum_bd f b hb l fun y hy => h y (by simp [hy])
  have e : ((l.length + 1 : Nat) : Int) * b = l.length * b + b := by rw [show ((l.length + 1 : Nat) : Int) = l.length + 1 by omega, Int.add_mul, Int.one_mul]
  simp only [List.map_cons, List.sum_cons, List.length_cons, e]
  omega
theorem max_bd {α : Type} (f : α → Int) (b : Int) : ∀ (l : List α) (a : Int), a ≤ b → (∀ x ∈ l, f x ≤ b) → a ≤ (l.map f).foldl max a ∧ (l.map f).foldl max a ≤ b
 | [], a, ha, _ => by simp; omega
 | x :: l, a, ha, h => by
  have h1 := h x (by simp)
  have h2 := max_bd f b l (max a (f x)) (by omega) fun y hy => h y (by simp [hy])
  simp only [List.map_cons, List.foldl_cons]
  omega
def KC : Nat → LT → Prop
 | 0, _ => False
 | d + 1, .mk kind item long many kids shares => NB kind ∧ item.size ≤ 2 ∧ NB long ∧ NB many ∧ kids.length ≤ 1000 ∧ shares.length ≤ 1000 ∧ (∀ x ∈ shares, NB x) ∧ ∀ k ∈ kids, KC d k
theorem KC.mono : ∀ {d e : Nat} {t : LT}, KC d t → d ≤ e → KC e t
 | 0, _, _, h, _ => h.elim
 | d + 1, 0, _, _, h => by omega
 | d + 1, e + 1, .mk .., h, hd => ⟨h.1, h.2.1, h.2.2.1, h.2.2.2.1, h.2.2.2.2.1, h.2.2.2.2.2.1, h.2.2.2.2.2.2.1, fun k hk => (h.2.2.2.2.2.2.2 k hk).mono (by omega)⟩
theorem LC.kc : ∀ {d : Nat} {t : LT}, LC d t → KC d t
 | 0, _, h => h.elim
 | d + 1, .mk .., h => ⟨h.1, h.2.1, h.2.2.1, h.2.2.2.1, by have := h.2.2.2.2.1; omega, by have := h.2.2.2.2.2.1; omega, h.2.2.2.2.2.2.1, fun k hk => (h.2.2.2.2.2.2.2 k hk).kc⟩
theorem size_small : ∀ (d : Nat) (t : LT), LC d t → 1 ≤ manyF t ∧ manyF t ≤ 4 ^ d
 | 0, _, h => h.elim
 | d + 1, .mk kind item long many kids shares, h => by
  obtain ⟨_, _, _, _, hk, _, _, hkk⟩ := h
  have h1 := sum_bd manyF (4 ^ d) (Int.le_of_lt (Int.pow_pos (by decide))) kids fun x hx => by have := size_small d x (hkk x hx); omega
  have h3 : (kids.length : Int) * 4 ^ d ≤ 3 * 4 ^ d := Int.mul_le_mul_of_nonneg_right (by omega) (Int.le_of_lt (Int.pow_pos (by decide)))
  have h4 : (1 : Int) ≤ 4 ^ d := Int.pow_pos (by decide)
  rw [manyF_eq]
  refine ⟨by omega, ?_⟩
  rw [Int.pow_succ]; omega
theorem size_small23 {t : LT} (h : LC 23 t) : manyF t ≤ 1000000000000000 ∧ 23 ≤ 1000 := by
 have := (size_small 23 t h).2
 have e : (4 : Int) ^ 23 = 70368744177664 := by decide
 omega
theorem size_bd : ∀ (d : Nat) (t : LT), KC d t → 1 ≤ manyF t ∧ 1 ≤ deepF t ∧ deepF t ≤ d
 | 0, _, h => h.elim
 | d + 1, .mk kind item long many kids shares, h => by
  obtain ⟨_, _, _, _, hk, _, _, hkk⟩ := h
  have h1 : ∀ l : List LT, (∀ x ∈ l, KC d x) → 0 ≤ (l.map manyF).sum := fun l => by
   induction l with
   | nil => simp
   | cons x l ih => intro h; have h1 := size_bd d x (h x (by simp)); have h2 := ih fun y hy => h y (by simp [hy]); simp only [List.map_cons, List.sum_cons]; omega
  have h0 := h1 kids hkk
  have h2 := max_bd deepF d kids 0 (by omega) fun x hx => (size_bd d x (hkk x hx)).2.2
  rw [manyF_eq, deepF_eq]
  omega
theorem many_take {kids : List LT} (hp : ∀ x ∈ kids, 0 ≤ manyF x) (j : Nat) : 0 ≤ ((kids.take j).map manyF).sum ∧ ((kids.take j).map manyF).sum ≤ (kids.map manyF).sum := by
 have e : (kids.map manyF).sum = ((kids.take j).map manyF).sum + ((kids.drop j).map manyF).sum := by rw [← List.sum_append, ← List.map_append, List.take_append_drop]
 have : ∀ l : List LT, (∀ x ∈ l, 0 ≤ manyF x) → 0 ≤ (l.map manyF).sum := fun l => by
  induction l with
  | nil => simp
  | cons x l ih => intro h; have h1 := h x (by simp); have h2 := ih fun y hy => h y (by simp [hy]); simp only [List.map_cons, List.sum_cons]; omega
 have a := this (kids.drop j) fun x hx => hp x (List.mem_of_mem_drop hx)
 have b := this (kids.take j) fun x hx => hp x (List.mem_of_mem_take hx)
 omega
theorem many_kid {kids : List LT} (hp : ∀ x ∈ kids, 0 ≤ manyF x) {k : LT} (hk : k ∈ kids) : manyF k ≤ (kids.map manyF).sum := by
 induction kids with
 | nil => cases hk
 | cons x l ih =>
  have h2 := many_take (kids := l) (fun y hy => hp y (by simp [hy])) 0
  have h1 := hp x (by simp)
  simp only [List.take_zero, List.map_nil, List.sum_nil] at h2
  simp only [List.map_cons, List.sum_cons]
  rcases List.mem_cons.1 hk with rfl | h
  ·omega
  ·have := ih (fun y hy => hp y (by simp [hy])) h; omega
theorem take_succ_map {α : Type} {β : Type} [Inhabited α] (f : α → β) (l : List α) (j : Nat) (h : j < l.length) : (l.take (j + 1)).map f = (l.take j).map f ++ [f (l.getD j default)] := by
 rw [List.take_add_one, List.getD_eq_getElem?_getD, List.getElem?_eq_getElem h]; simp only [List.map_append, Option.toList_some, List.map_cons, List.map_nil, Option.getD_some]
theorem getD_mem' {α : Type} (l : List α) (j : Nat) (d : α) (h : j < l.length) : l.getD j d ∈ l := by
 rw [List.getD_eq_getElem?_getD, List.getElem?_eq_getElem h]; exact List.getElem_mem _
def SizeI (kids : List LT) (h : Hp) (g : Nat) (s : St) : Prop :=
 ∃ j : Nat, g + j = kids.length ∧ s = ⟨(AV.junk :: AV.junk :: ((.v (.int .i64 ((kids.take j).map manyF).sum)) :: (.v (.int .i64 (((kids.take j).map deepF).foldl max 0))) :: (jnk 5 ((.row 6 (kids.map encL) none) :: (.v (.int .i64 kids.length)) :: (.v (.int .i64 j)) :: (jnk 19 []))))), [], h⟩
theorem g_size : ∀ (d : Nat) (t : LT) (h : Hp), KC d t → manyF t ≤ 1000000000000000 ∧ d ≤ 1000 → ACalls Tryz.prog 66 [.agg (encL t)] h (fun r h' => r = .tup [.v (.int .i64 (manyF t)), .v (.int .i64 (deepF t))] ∧ h' = h)
 | 0, _, _, hb, _ => hb.elim
 | d + 1, t, h, hb, hd => by
  cases t with
  | mk kind item long many kids shares =>
  have hb0 := hb
  obtain ⟨b1, b2, b3, b4, b5, b6, b7, b8⟩ := hb
  have hlen0 := encL_len (.mk kind item long many kids shares)
  have hp0 : ∀ x ∈ kids, 0 ≤ manyF x := fun x hx => by have := size_bd d x (b8 x hx); omega
  have hbd : ∀ x ∈ kids, (0 ≤ manyF x ∧ manyF x ≤ 1000000000000000) ∧ deepF x ≤ d := fun x hx => by
   have := size_bd d x (b8 x hx)
   have := many_kid hp0 hx
   have := hd.1
   rw [manyF_eq] at this
   omega
  have hsum : ∀ j, 0 ≤ ((kids.take j).map manyF).sum ∧ ((kids.take j).map manyF).sum ≤ 1000000000000000 := fun j => by
   have := many_take hp0 j
   have := hd.1
   rw [manyF_eq] at this
   omega
  have hmax : ∀ j, 0 ≤ ((kids.take j).map deepF).foldl max 0 ∧ ((kids.take j).map deepF).foldl max 0 ≤ 1000 := fun j => by
   have h1 := max_bd deepF d (kids.take j) 0 (by omega) fun x hx => (hbd x (List.mem_of_mem_take hx)).2
   omega
  refine gE Tryz.func66 rfl (by kernel_rfl) 30 rfl fun c => ?_
  rw [encL_eq]
  (repeat (first | refine gO rfl ?_ | (refine gM zM11 fun K1 hK1 => ?_; simp only [go_sem, ↓reduceIte, reduceCtorEq, nA, nB, nC, nD, nE, nF] <;> and_intros <;> (apply hK1; clear hK1 K1))))
  refine awp_loopC (rl false [2, 2, 5, 3, 19]) 0 (fun g s => SizeI kids h g s) kids.length ⟨0, by omega, rfl⟩ ?_
  rintro g _ ⟨j, hj, rfl⟩
  have hs := hsum j
  have hm := hmax j
  (repeat (first | refine gO rfl ?_ | (refine gM zM11 fun K1 hK1 => ?_; simp only [go_sem, ↓reduceIte, reduceCtorEq, nA, nB, nC, nD, nE, nF] <;> and_intros <;> (apply hK1; clear hK1 K1))))
  refine awp_cond (t := _) rfl (fun h1 => ?_) (fun h1 => ?_)
  ·simp only [decide_eq_true_eq] at h1
   have hjk : j < kids.length := by omega
   have hg : (kids.map encL).getD j [] = encL (kids.getD j default) := getD_enc encL kids j default hjk
   have hmem := getD_mem' kids j default hjk
   have e1 := take_succ_map manyF kids j hjk
   have e2 := take_succ_map deepF kids j hjk
   have hbx := hbd _ hmem
   have hbt := b8 _ hmem
   generalize kids.getD j default = t2 at hg hmem e1 e2 hbx hbt
   have hlen := encL_len t2
   have htk : List.take 6 (encL t2) = encL t2 := List.take_of_length_le (Nat.le_of_eq hlen)
   have hdr : List.drop 6 (encL t2) = [] := List.drop_of_length_le (Nat.le_of_eq hlen)
   (repeat (first | refine gO rfl ?_ | (refine gM zM11 fun K1 hK1 => ?_; simp only [go_sem, ↓reduceIte, reduceCtorEq, nA, nB, nC, nD, nE, nF, Int.toNat_natCast, hg, hlen, htk, hdr] <;> and_intros <;> first | (apply hK1; clear hK1 K1) | (intros; (omega)) | skip)))
   refine (g_size d t2 h hbt ⟨hbx.1.2, by omega⟩).mono ?_; rintro _ _ ⟨rfl, rfl⟩; apply hK1; clear hK1 K1
   (repeat (first | refine gO rfl ?_ | (refine gM zM11 fun K1 hK1 => ?_; simp only [go_sem, ↓reduceIte, reduceCtorEq, nA, nB, nC, nD, nE, nF] <;> and_intros <;> first | (apply hK1; clear hK1 K1) | (intros; (omega)))))
   refine ⟨g - 1, by omega, j + 1, by omega, ?_⟩
   rw [e1, e2, List.sum_append, List.foldl_append]
   simp only [List.sum_cons, List.sum_nil, List.foldl_cons, List.foldl_nil, Int.add_zero]
   rfl
  ·simp only [decide_eq_false_iff_not] at h1
   have hjk : j = kids.length := by omega
   subst hjk
   simp only [List.take_length] at hs hm ⊢
   (repeat (first | refine gO rfl ?_ | (refine gM zM11 fun K1 hK1 => ?_; simp only [go_sem, ↓reduceIte, reduceCtorEq, nA, nB, nC, nD, nE, nF] <;> and_intros <;> first | (apply hK1; clear hK1 K1) | (intros; (omega)))))
   simp only [Tryz.results66, go_sem, ↓reduceIte, reduceCtorEq, nA, nB, nC, nD, nE, nF]
   exact ⟨_, _, Weak.refl _, Hp.le.refl _, by rw [manyF_eq, deepF_eq], rfl⟩
abbrev zP2E : List Nat := [0, 1, 2, 3]
abbrev zP2P : List (Nat × List Nat × List Nat) := [(4, [0], [5]), (6, [], [7])]
abbrev zP3E : List Nat := [0, 1, 2, 3, 4, 5]
abbrev zP3P : List (Nat × List Nat × List Nat) := [(6, [4], [7]), (8, [], [9, 10]), (11, [], [])]
attribute [go_sem] zP2E zP2P zP3E zP3P
theorem mem_idsT {i c : Nat} {az : List AT} {x : Nat} (h : x ∈ idsT (.mk i c az)) : x = i ∨ ∃ j, j < az.length ∧ x ∈ idsT (az.getD j default) := by
 rw [idsT_eq] at h
 rcases List.mem_cons.1 h with h | h
 ·exact .inl h
 ·obtain ⟨l, hl, hx⟩ := List.mem_flatten.1 h
  obtain ⟨a, ha, rfl⟩ := List.mem_map.1 hl
  obtain ⟨j, hj, rfl⟩ := List.getElem_of_mem ha
  exact .inr ⟨j, hj, by rw [List.getD_eq_getElem?_getD, List.getElem?_eq_getElem hj]; exact hx⟩
theorem mem_toksT {i c : Nat} {az : List AT} {x : Nat} (h : x ∈ toksT (.mk i c az)) : x = c ∨ ∃ j, j < az.length ∧ x ∈ toksT (az.getD j default) := by
 rw [toksT_eq] at h
 rcases List.mem_cons.1 h with h | h
 ·exact .inl h
 ·obtain ⟨l, hl, hx⟩ := List.mem_flatten.1 h
  obtain ⟨a, ha, rfl⟩ := List.mem_map.1 hl
  obtain ⟨j, hj, rfl⟩ := List.getElem_of_mem ha
  exact .inr ⟨j, hj, by rw [List.getD_eq_getElem?_getD, List.getElem?_eq_getElem hj]; exact hx⟩
theorem RAt.ne {X : RK} {h : Hp} : ∀ {d : Nat} {t : LT} {a : AT} {s : PS}, RAt X h d t a s → (∀ i ∈ idsT a, h.H i ≠ none) ∧ (∀ c ∈ toksT a, h.T c ≠ none)
 | 0, _, _, _, h => h.elim
 | d + 1, .mk kind item long many kids shares, .mk i c az, .mk p cs ks, ⟨⟨K, h1, hK⟩, h2, h3, h4⟩ => by
  refine ⟨fun x hx => ?_, fun x hx => ?_⟩
  ·rcases mem_idsT hx with rfl | ⟨j, hj, hx⟩
   ·rw [h1]; simp
   ·exact (h4 j (by omega)).ne.1 x hx
  ·rcases mem_toksT hx with rfl | ⟨j, hj, hx⟩
   ·rw [h2]; simp
   ·exact (h4 j (by omega)).ne.2 x hx
theorem RAt.cont {X : RK} {h : Hp} : ∀ {d : Nat} {t : LT} {a : AT} {s : PS}, RAt X h d t a s → ∀ c ∈ toksT a, ∃ xs, h.T c = some (.cont 1 xs)
 | 0, _, _, _, h => h.elim
 | d + 1, .mk kind item long many kids shares, .mk i c az, .mk p cs ks, ⟨_, h2, h3, h4⟩ => fun x hx => by
  rcases mem_toksT hx with rfl | ⟨j, hj, hx⟩
  ·exact ⟨_, h2⟩
  ·exact (h4 j (by omega)).cont x hx
def XR : RK := ⟨fun _ => [], fun _ cs => cs⟩
def cells9 (kind : Int) (item : ByteArray) (long many : Int) (kids : List LT) (shares : List Int) (K : AV) (p : Int) (c : Nat) : List AV :=
 [.v (.int .i64 kind), .v (.string item), .v (.int .i64 long), .v (.int .i64 many), .row 6 (kids.map encL) none, .row 1 (shares.map encI) none, K, .v (.int .i64 p), .arr 1 c kids.length]
def NewI (X : RK) (d : Nat) (kids : List LT) (h : Hp) (i c : Nat) (az : List AT) (h' : Hp) : Prop :=
 (∀ l, l < az.length → RAt X h' d (kids.getD l default) (az.getD l default) (ps0 (kids.getD l default)) ∧ (i ∉ idsT (az.getD l default) ∧ c ∉ toksT (az.getD l default) ∧ Sep d (az.getD l default)) ∧
  (∀ x ∈ idsT (az.getD l default), h.H x = none) ∧ (∀ x ∈ toksT (az.getD l default), h.T x = none)) ∧
 (∀ j l, j < az.length → l < az.length → l ≠ j → (∀ x ∈ idsT (az.getD j default), x ∉ idsT (az.getD l default)) ∧ (∀ x ∈ toksT (az.getD j default), x ∉ toksT (az.getD l default))) ∧
 (∀ x, h.H x ≠ none → h'.H x = h.H x) ∧ (∀ x, h.T x ≠ none → h'.T x = h.T x)
def kidsK (h : Hp) (az : List AT) (K : AV) (T : Nat → Option TO) : Prop := az = [] ∧ K = .v (.slice none 0 0) ∨ ∃ tk, az ≠ [] ∧ K = .row 1 (az.map fun a => [.ptr a.id 0]) (some tk) ∧ T tk = some (.tail az.length) ∧ h.T tk = none
def NewR (X : RK) (d : Nat) (t : LT) (h : Hp) (r : AV) (h' : Hp) : Prop :=
 ∃ a, r = .ptr a.id 0 ∧ RAt X h' d t a (ps0 t) ∧ Sep d a ∧ (∀ i ∈ idsT a, h.H i = none) ∧ (∀ c ∈ toksT a, h.T c = none) ∧ (∀ i, h.H i ≠ none → h'.H i = h.H i) ∧ (∀ k, h.T k ≠ none → h'.T k = h.T k)
theorem getD_snoc {α : Type} (l : List α) (x d : α) (j : Nat) : (l ++ [x]).getD j d = if j = l.length then x else l.getD j d := by
 simp only [List.getD_eq_getElem?_getD]
 split
 ·rename_i h; subst h; simp
 ·rename_i h
  by_cases hj : j < l.length
  ·rw [List.getElem?_append_left hj]
  ·rw [List.getElem?_eq_none (by simp; omega), List.getElem?_eq_none (by omega)]
theorem NewI.more {X : RK} {d : Nat} {kids : List LT} {h h1 h2 : Hp} {i c : Nat} {az : List AT} (hI : NewI X d kids h i c az h1) (hi0 : h.H i = none) (hi : h1.H i ≠ none) (hc : h1.T c ≠ none) {a : AT}
  (hR : RAt X h2 d (kids.getD az.length default) a (ps0 (kids.getD az.length default))) (hS : Sep d a) (hn1 : ∀ x ∈ idsT a, h1.H x = none) (hn2 : ∀ x ∈ toksT a, h1.T x = none) (hk1 : ∀ x, h1.H x ≠ none → x ≠ i → h2.H x = h1.H x) (hk2 : ∀ x xs, h1.T x = some (.cont 1 xs) → h2.T x = h1.T x) (hk3 : ∀ x, h.T x ≠ none → h2.T x = h.T x) : NewI X d kids h i c (az ++ [a]) h2 := by
 obtain ⟨g1, g2, g3, g4⟩ := hI
 have o1 : ∀ x, h1.H x = none → h.H x = none := fun x hx => by
  cases e : h.H x with
  | none => rfl
  | some y => have := g3 x (by rw [e]; simp); rw [hx, e] at this; cases this
 have o2 : ∀ x, h1.T x = none → h.T x = none := fun x hx => by
  cases e : h.T x with
  | none => rfl
  | some y => have := g4 x (by rw [e]; simp); rw [hx, e] at this; cases this
 refine ⟨fun l hl => ?_, fun j l hj hl hne => ?_, fun x hx => (hk1 x (by rw [g3 x hx]; exact hx) (fun e => by subst e; exact hx hi0)).trans (g3 x hx), hk3⟩
 ·rw [getD_snoc]
  split
  ·rename_i e
   subst e
   exact ⟨hR, ⟨fun hx => hi (hn1 _ hx), fun hx => hc (hn2 _ hx), hS⟩, fun x hx => o1 x (hn1 x hx), fun x hx => o2 x (hn2 x hx)⟩
  ·rename_i e
   obtain ⟨f1, f2, f3, f4⟩ := g1 l (by simp at hl; omega)
   exact ⟨f1.frame (fun x hx => hk1 x (f1.ne.1 x hx) (fun e => by subst e; exact f2.1 hx)) (fun x hx => let ⟨xs, e⟩ := f1.cont x hx; hk2 x xs e), f2, f3, f4⟩
 ·simp only [List.length_append, List.length_cons, List.length_nil] at hj hl
  rw [getD_snoc, getD_snoc]
  split <;> split
  ·omega
  ·have f1 := (g1 l (by omega)).1
   exact ⟨fun x hx hx2 => f1.ne.1 x hx2 (hn1 x hx), fun x hx hx2 => f1.ne.2 x hx2 (hn2 x hx)⟩
  ·have f1 := (g1 j (by omega)).1
   exact ⟨fun x hx hx2 => f1.ne.1 x hx (hn1 x hx2), fun x hx hx2 => f1.ne.2 x hx (hn2 x hx2)⟩
  ·exact g2 j l (by omega) (by omega) hne
def NewRI (d : Nat) (kind : Int) (item : ByteArray) (long many : Int) (kids : List LT) (shares : List Int) (h : Hp) (i c : Nat) (g : Nat) (s : St) : Prop :=
 ∃ (az : List AT) (K : AV) (h' : Hp), g + az.length = kids.length ∧ NewI XR d kids h i c az h' ∧ kidsK h az K h'.T ∧ h'.H i = some (.cells (cells9 kind item long many kids shares K 0 c)) ∧ h'.T c = some (.cont 1 ((kids.map fun _ => (0 : Int)).map encI)) ∧
  s = ⟨((jnk 3 ((.ptr i 0) :: (jnk 10 ((.row 6 (kids.map encL) none) :: (.v (.int .i64 kids.length)) :: (.v (.int .i64 az.length)) :: (jnk 16 [])))))), [], h'⟩
theorem g_newRunner : ∀ (d : Nat) (t : LT) (h : Hp), KC d t → ACalls Tryz.prog 134 [.agg (encL t)] h (NewR XR d t h)
 | 0, _, _, hb => hb.elim
 | d + 1, .mk kind item long many kids shares, h, hb => by
  obtain ⟨b1, b2, b3, b4, b5, b6, b7, b8⟩ := id hb
  simp only [encL_eq]
  refine gE Tryz.func134 rfl (by kernel_rfl) 32 rfl fun c => ?_
  (repeat (first | refine gO rfl ?_ | ((first | refine gM zM12 ?_ | ((with_reducible refine xS ?_); refine uD 1 zM12 zP2E zP2P 33 rfl (by kernel_rfl) ?_)) <;> ((try with_reducible intro K1 hK1); simp only [go_sem, ↓reduceIte, reduceCtorEq, nA, nB, nC, nD, nE, nF, Int.toNat_natCast] <;> and_intros <;> first | (apply hK1; clear hK1 K1) | (intros; (omega)) | skip))))
  intro c0 hc0
  refine hK1 _ ?_; clear hK1 K1
  (repeat (((first | refine gM zM12 ?_ | (with_reducible refine wM ?_ ?_)) <;> ((try with_reducible intro K1 hK1); simp only [go_sem, ↓reduceIte, reduceCtorEq, nA, nB, nC, nD, nE, nF, Int.toNat_natCast] <;> and_intros <;> first | (apply hK1; clear hK1 K1) | (intros; first | decide | (simp_all <;> omega)) | skip))))
  intro i hi
  refine hK1 _ ?_; clear hK1 K1
  (repeat (first | refine gO rfl ?_ | ((first | refine gM zM12 ?_ | (with_reducible refine wM ?_ ?_)) <;> ((try with_reducible intro K1 hK1); simp only [go_sem, ↓reduceIte, reduceCtorEq, nA, nB, nC, nD, nE, nF, Int.toNat_natCast] <;> and_intros <;> (apply hK1; clear hK1 K1)))))
  have hrep : List.replicate kids.length [AV.v (.int .i64 0)] = (kids.map fun _ => (0 : Int)).map encI := by
   rw [List.map_map, ← List.map_const]; rfl
  refine awp_loopC (rl false [3, 1, 10, 3, 16]) 0 (fun g s => NewRI d kind item long many kids shares h i c0 g s) kids.length ⟨[], _, _, by simp, ⟨fun l hl => by simp at hl, fun j l hj => by simp at hj, fun x hx => upd_other _ _ (fun e => by subst e; exact hx hi), fun x hx => upd_other _ _ (fun e => by subst e; exact hx hc0)⟩, .inl ⟨rfl, rfl⟩, upd_same _ _ _, by rw [← hrep]; exact upd_same _ _ _, rfl⟩ ?_
  rintro g _ ⟨az, K, h', hg, hI, hK, hH, hT, rfl⟩
  have hH0 : h'.H i = some (.cells [.v (.int .i64 kind), .v (.string item), .v (.int .i64 long), .v (.int .i64 many), .row 6 (kids.map encL) none, .row 1 (shares.map encI) none, K, .v (.int .i64 0), .arr 1 c0 kids.length]) := hH
  (repeat (first | refine gO rfl ?_ | ((refine gM zM12 fun K1 hK1 => ?_; simp only [go_sem, ↓reduceIte, reduceCtorEq, nA, nB, nC, nD, nE, nF] <;> and_intros <;> (apply hK1; clear hK1 K1)))))
  refine awp_cond (t := _) rfl (fun h6 => ?_) (fun h6 => ?_)
  ·simp only [decide_eq_true_eq] at h6
   have hjk : az.length < kids.length := by omega
   have hge : (kids.map encL).getD az.length [] = encL (kids.getD az.length default) := getD_enc encL kids az.length default hjk
   have hmem := getD_mem' kids az.length default hjk
   have hbt := b8 _ hmem
   have hlen := encL_len (kids.getD az.length default)
   have htk : List.take 6 (encL (kids.getD az.length default)) = encL (kids.getD az.length default) := List.take_of_length_le (Nat.le_of_eq hlen)
   have hdr : List.drop 6 (encL (kids.getD az.length default)) = [] := List.drop_of_length_le (Nat.le_of_eq hlen)
   obtain ⟨jn, hjn⟩ : ∃ jn, az.length = jn := ⟨_, rfl⟩
   rw [hjn] at hjk hge hmem hbt hlen htk hdr h6 hg ⊢
   rcases hK with ⟨rfl, rfl⟩ | ⟨tk, hne, rfl, htkT, htk0⟩
   ·(repeat (first | refine gO rfl ?_ | ((first | refine gM zM12 ?_ | ((with_reducible refine xR ?_); refine uE 5 zM12 zP3E zP3P 33 rfl (by kernel_rfl) ?_)) <;> ((try with_reducible intro K1 hK1); simp only [go_sem, ↓reduceIte, reduceCtorEq, nA, nB, nC, nD, nE, nF, Int.toNat_natCast, hge, hlen, htk, hdr, hH0] <;> and_intros <;> first | (apply hK1; clear hK1 K1) | (intros; (omega)) | skip))))
    refine (g_newRunner d (kids.getD jn default) h' hbt).mono ?_
    rintro _ h2 ⟨a, rfl, hR, hS, hn1, hn2, hk1, hk2⟩
    have hH2 := (hk1 i (by rw [hH0]; simp)).trans hH0
    have hT2 := (hk2 c0 (by rw [hT]; simp)).trans hT
    refine hK1 _ ?_; clear hK1 K1
    (repeat (((first | refine gM zM12 ?_ | (with_reducible refine wM ?_ ?_)) <;> ((try with_reducible intro K1 hK1); simp only [go_sem, ↓reduceIte, reduceCtorEq, nA, nB, nC, nD, nE, nF, Int.toNat_natCast, hge, hlen, htk, hdr, hH2] <;> and_intros <;> first | (apply hK1; clear hK1 K1) | (intros; first | decide | (simp_all <;> omega)) | skip))))
    intro tk htkn
    refine hK1 _ ?_; clear hK1 K1
    replace htkn : h2.T tk = none := htkn
    (repeat (first | refine gO rfl ?_ | ((first | refine gM zM12 ?_ | (with_reducible refine wM ?_ ?_)) <;> ((try with_reducible intro K1 hK1); simp only [go_sem, ↓reduceIte, reduceCtorEq, nA, nB, nC, nD, nE, nF, Int.toNat_natCast, hge, hlen, htk, hdr, hH2] <;> and_intros <;> first | (apply hK1; clear hK1 K1) | (intros; (omega))))))
    have htk1 : h'.T tk = none := Classical.byContradiction fun hn => by have := hk2 tk hn; rw [htkn] at this; exact hn this.symm
    have htk0 : h.T tk = none := Classical.byContradiction fun hn => by have := hI.2.2.2 tk hn; rw [htk1] at this; exact hn this.symm
    have hfr : ∀ (Y : AO) (n : Nat) (tk : Nat), (∀ xs, h2.T tk ≠ some (.cont 1 xs)) → RAt XR { H := upd h2.H i (some Y), T := upd h2.T tk (some (.tail n)) } d (kids.getD jn default) a (ps0 (kids.getD jn default)) := fun Y n tk htk => hR.frame (fun x hx => upd_other _ _ (fun e => by subst e; exact absurd (hn1 _ hx) (by rw [hH0]; simp))) (fun x hx => upd_other _ _ (fun e => by subst e; obtain ⟨xs, e2⟩ := hR.cont _ hx; exact htk xs e2))
    refine ⟨g - 1, by omega, ([] : List AT) ++ [a], .row 1 ((([] : List AT) ++ [a]).map fun a => [.ptr a.id 0]) (some tk), { H := upd h2.H i (some (.cells (cells9 kind item long many kids shares (.row 1 ((([] : List AT) ++ [a]).map fun a => [.ptr a.id 0]) (some tk)) 0 c0))), T := upd h2.T tk (some (.tail 1)) }, by simp at hjn hg ⊢; omega, NewI.more (c := c0) (az := ([] : List AT)) hI hi (by rw [hH0]; simp) (by rw [hT]; simp) (by rw [hjn]; exact hfr _ 1 tk (fun xs e => by rw [htkn] at e; cases e)) hS hn1 hn2 (fun x hx hxi => (upd_other _ _ hxi).trans (hk1 x hx)) (fun x xs hx => (upd_other _ _ (fun e => by subst e; exact (by have := hk2 _ (show h'.T _ ≠ none by rw [hx]; simp); rw [hx, htkn] at this; cases this))).trans (hk2 x (by rw [hx]; simp))) (fun x hx => (upd_other _ _ (fun e => by subst e; exact hx htk0)).trans ((hk2 x (by rw [hI.2.2.2 x hx]; exact hx)).trans (hI.2.2.2 x hx))),
     .inr ⟨tk, by simp, rfl, by rw [show (([] : List AT) ++ [a]).length = 1 from rfl]; exact upd_same _ _ _, htk0⟩, upd_same _ _ _, (upd_other _ _ (fun e => by subst e; exact (by rw [hT2] at htkn; cases htkn))).trans hT2, by subst hjn; rfl⟩
   ·(repeat (first | refine gO rfl ?_ | ((first | refine gM zM12 ?_ | ((with_reducible refine xR ?_); refine uE 5 zM12 zP3E zP3P 33 rfl (by kernel_rfl) ?_)) <;> ((try with_reducible intro K1 hK1); simp only [go_sem, ↓reduceIte, reduceCtorEq, nA, nB, nC, nD, nE, nF, Int.toNat_natCast, hge, hlen, htk, hdr, hH0] <;> and_intros <;> first | (apply hK1; clear hK1 K1) | (intros; (omega)) | skip))))
    refine (g_newRunner d (kids.getD jn default) h' hbt).mono ?_
    rintro _ h2 ⟨a, rfl, hR, hS, hn1, hn2, hk1, hk2⟩
    have hH2 := (hk1 i (by rw [hH0]; simp)).trans hH0
    have hT2 := (hk2 c0 (by rw [hT]; simp)).trans hT
    refine hK1 _ ?_; clear hK1 K1
    have htk2 := (hk2 tk (by rw [htkT]; simp)).trans htkT
    (repeat (first | refine gO rfl ?_ | ((first | refine gM zM12 ?_ | (with_reducible refine wM ?_ ?_)) <;> ((try with_reducible intro K1 hK1); simp only [go_sem, ↓reduceIte, reduceCtorEq, nA, nB, nC, nD, nE, nF, Int.toNat_natCast, hge, hlen, htk, hdr, hH2, htk2] <;> and_intros <;> first | (apply hK1; clear hK1 K1) | (intros; first | omega | decide | (simp_all <;> omega))))))
    have hfr : ∀ (Y : AO) (n : Nat) (tk : Nat), (∀ xs, h2.T tk ≠ some (.cont 1 xs)) → RAt XR { H := upd h2.H i (some Y), T := upd h2.T tk (some (.tail n)) } d (kids.getD jn default) a (ps0 (kids.getD jn default)) := fun Y n tk htk => hR.frame (fun x hx => upd_other _ _ (fun e => by subst e; exact absurd (hn1 _ hx) (by rw [hH0]; simp))) (fun x hx => upd_other _ _ (fun e => by subst e; obtain ⟨xs, e2⟩ := hR.cont _ hx; exact htk xs e2))
    have hrow : az.map (fun a : AT => [AV.ptr a.id 0]) ++ [[AV.ptr a.id 0]] = (az ++ [a]).map (fun a : AT => [AV.ptr a.id 0]) := by simp
    rw [hrow]
    refine ⟨g - 1, by omega, az ++ [a], .row 1 ((az ++ [a]).map fun a => [.ptr a.id 0]) (some tk), { H := upd h2.H i (some (.cells (cells9 kind item long many kids shares (.row 1 ((az ++ [a]).map fun a => [.ptr a.id 0]) (some tk)) 0 c0))), T := upd h2.T tk (some (.tail (az.length + 1))) }, by simp at hjn hg ⊢; omega, NewI.more (c := c0) (az := az) hI hi (by rw [hH0]; simp) (by rw [hT]; simp) (by rw [hjn]; exact hfr _ (jn + 1) tk (fun xs e => by rw [htk2] at e; cases e)) hS hn1 hn2 (fun x hx hxi => (upd_other _ _ hxi).trans (hk1 x hx)) (fun x xs hx => (upd_other _ _ (fun e => by subst e; exact (by rw [htkT] at hx; cases hx))).trans (hk2 x (by rw [hx]; simp))) (fun x hx => (upd_other _ _ (fun e => by subst e; exact hx htk0)).trans ((hk2 x (by rw [hI.2.2.2 x hx]; exact hx)).trans (hI.2.2.2 x hx))),
     .inr ⟨tk, by simp, rfl, by rw [show (az ++ [a]).length = az.length + 1 by simp]; exact upd_same _ _ _, htk0⟩, upd_same _ _ _, (upd_other _ _ (fun e => by subst e; exact (by rw [hT2] at htk2; cases htk2))).trans hT2, by rw [show ((az ++ [a]).length : Int) = (jn : Int) + 1 by simp; omega]; rfl⟩
  ·simp only [decide_eq_false_iff_not] at h6
   have hjk : az.length = kids.length := by omega
   (repeat (first | refine gO rfl ?_ | ((refine gM zM12 fun K1 hK1 => ?_; simp only [go_sem, ↓reduceIte, reduceCtorEq, nA, nB, nC, nD, nE, nF] <;> and_intros <;> (apply hK1; clear hK1 K1)))))
   simp only [Tryz.results134, go_sem, ↓reduceIte, reduceCtorEq, nA, nB, nC, nD, nE, nF]
   obtain ⟨g1, g2, g3, g4⟩ := hI
   refine ⟨_, _, Weak.refl _, Hp.le.refl _, .mk i c0 az, rfl, ?_, ?_, ?_, ?_, g3, g4⟩
   ·rw [ps0_eq]
    refine ⟨⟨K, hH, ?_⟩, hT, by simp [XR]; omega, fun j hj => ?_⟩
    ·rcases hK with ⟨rfl, rfl⟩ | ⟨tk, _, rfl, _, _⟩
     ·exact .inl ⟨rfl, rfl⟩
     ·exact .inr ⟨some tk, rfl⟩
    ·have e : (kids.map ps0).getD j default = ps0 (kids.getD j default) := by
      rw [List.getD_eq_getElem?_getD, List.getD_eq_getElem?_getD, List.getElem?_map, List.getElem?_eq_getElem hj]; rfl
     rw [e]; exact (g1 j (by omega)).1
   ·exact fun j hj => ⟨(g1 j hj).2.1, fun l hl hne => g2 j l hj hl hne⟩
   ·intro x hx
    rcases mem_idsT hx with rfl | ⟨j, hj, hx⟩
    ·exact hi
    ·exact (g1 j hj).2.2.1 x hx
   ·intro x hx
    rcases mem_toksT hx with rfl | ⟨j, hj, hx⟩
    ·exact hc0
    ·exact (g1 j hj).2.2.2 x hx
abbrev zP4E : List Nat := [0, 1, 2, 3]
abbrev zP4P : List (Nat × List Nat × List Nat) := [(4, [0], [5]), (6, [], [7])]
abbrev zP5E : List Nat := [0, 1, 2, 3, 4, 5]
abbrev zP5P : List (Nat × List Nat × List Nat) := [(6, [4], [7]), (8, [], [9, 10]), (11, [], [])]
attribute [go_sem] zP4E zP4P zP5E zP5P
def XP : RK := ⟨fun t => match t with | .mk _ _ _ _ _ shares => [.v (.int .i64 shares.sum)], fun kind cs => if kind = 4 then cs else List.replicate cs.length 0⟩
theorem upd_self {α : Type} {f : Nat → Option α} {i : Nat} {x : Option α} (h : f i = x) : upd f i x = f := by
 funext j
 by_cases hj : j = i
 ·subst hj; rw [upd_same, h]
 ·rw [upd_other _ _ hj]
theorem sum_nb : ∀ (l : List Int), (∀ x ∈ l, NB x) → -(l.length * 5000000000000000) ≤ l.sum ∧ l.sum ≤ l.length * 5000000000000000
 | [], _ => by simp
 | x :: l, h => by
  have h1 := h x (by simp)
  have h2 := sum_nb l fun y hy => h y (by simp [hy])
  unfold NB at h1
  simp only [List.sum_cons, List.length_cons]
  omega
def NewPI (d : Nat) (kind : Int) (item : ByteArray) (long many : Int) (kids : List LT) (shares : List Int) (h : Hp) (i c : Nat) (g : Nat) (s : St) : Prop :=
 ∃ (az : List AT) (K : AV) (h' : Hp), g + az.length = kids.length ∧ NewI XP d kids h i c az h' ∧ kidsK h az K h'.T ∧ h'.H i = some (.cells (cells9 kind item long many kids shares K 0 c ++ [.v (.int .i64 0)])) ∧ h'.T c = some (.cont 1 ((kids.map fun _ => (0 : Int)).map encI)) ∧
  s = ⟨(AV.junk :: ((.ref [.v (.int .i64 kind), .v (.string item), .v (.int .i64 long), .v (.int .i64 many), .row 6 (kids.map encL) none, .row 1 (shares.map encI) none] 0) :: AV.junk :: ((.ptr i 0) :: (jnk 12 ((.row 6 (kids.map encL) none) :: (.v (.int .i64 kids.length)) :: (.v (.int .i64 az.length)) :: (jnk 32 [])))))), [], h'⟩
theorem g_newPart : ∀ (d : Nat) (t : LT) (h : Hp), KC d t → ACalls Tryz.prog 130 [.agg (encL t)] h (NewR XP d t h)
 | 0, _, _, hb => hb.elim
 | d + 1, .mk kind item long many kids shares, h, hb => by
  obtain ⟨b1, b2, b3, b4, b5, b6, b7, b8⟩ := id hb
  simp only [encL_eq]
  refine gE Tryz.func130 rfl (by kernel_rfl) 50 rfl fun c => ?_
  (repeat (first | refine gO rfl ?_ | ((first | refine gM zM13 ?_ | ((with_reducible refine xS ?_); refine uD 1 zM13 zP4E zP4P 51 rfl (by kernel_rfl) ?_)) <;> ((try with_reducible intro K1 hK1); simp only [go_sem, ↓reduceIte, reduceCtorEq, nA, nB, nC, nD, nE, nF, Int.toNat_natCast] <;> and_intros <;> first | (apply hK1; clear hK1 K1) | (intros; (omega)) | skip))))
  intro c0 hc0
  refine hK1 _ ?_; clear hK1 K1
  (repeat (((first | refine gM zM13 ?_ | (with_reducible refine wM ?_ ?_)) <;> ((try with_reducible intro K1 hK1); simp only [go_sem, ↓reduceIte, reduceCtorEq, nA, nB, nC, nD, nE, nF, Int.toNat_natCast] <;> and_intros <;> first | (apply hK1; clear hK1 K1) | (intros; first | decide | (simp_all <;> omega)) | skip))))
  intro i hi
  refine hK1 _ ?_; clear hK1 K1
  (repeat (first | refine gO rfl ?_ | ((first | refine gM zM13 ?_ | (with_reducible refine wM ?_ ?_)) <;> ((try with_reducible intro K1 hK1); simp only [go_sem, ↓reduceIte, reduceCtorEq, nA, nB, nC, nD, nE, nF, Int.toNat_natCast] <;> and_intros <;> (apply hK1; clear hK1 K1)))))
  have hrep : List.replicate kids.length [AV.v (.int .i64 0)] = (kids.map fun _ => (0 : Int)).map encI := by
   rw [List.map_map, ← List.map_const]; rfl
  refine awp_loopC (rl false [1, 1, 1, 1, 12, 3, 32]) 0 (fun g s => NewPI d kind item long many kids shares h i c0 g s) kids.length ⟨[], _, _, by simp, ⟨fun l hl => by simp at hl, fun j l hj => by simp at hj, fun x hx => upd_other _ _ (fun e => by subst e; exact hx hi), fun x hx => upd_other _ _ (fun e => by subst e; exact hx hc0)⟩, .inl ⟨rfl, rfl⟩, upd_same _ _ _, by rw [← hrep]; exact upd_same _ _ _, rfl⟩ ?_
  rintro g _ ⟨az, K, h', hg, hI, hK, hH, hT, rfl⟩
  have hH0 : h'.H i = some (.cells [.v (.int .i64 kind), .v (.string item), .v (.int .i64 long), .v (.int .i64 many), .row 6 (kids.map encL) none, .row 1 (shares.map encI) none, K, .v (.int .i64 0), .arr 1 c0 kids.length, .v (.int .i64 0)]) := hH
  (repeat (first | refine gO rfl ?_ | ((refine gM zM13 fun K1 hK1 => ?_; simp only [go_sem, ↓reduceIte, reduceCtorEq, nA, nB, nC, nD, nE, nF] <;> and_intros <;> (apply hK1; clear hK1 K1)))))
  refine awp_cond (t := _) rfl (fun h6 => ?_) (fun h6 => ?_)
  ·simp only [decide_eq_true_eq] at h6
   have hjk : az.length < kids.length := by omega
   have hge : (kids.map encL).getD az.length [] = encL (kids.getD az.length default) := getD_enc encL kids az.length default hjk
   have hmem := getD_mem' kids az.length default hjk
   have hbt := b8 _ hmem
   have hlen := encL_len (kids.getD az.length default)
   have htk : List.take 6 (encL (kids.getD az.length default)) = encL (kids.getD az.length default) := List.take_of_length_le (Nat.le_of_eq hlen)
   have hdr : List.drop 6 (encL (kids.getD az.length default)) = [] := List.drop_of_length_le (Nat.le_of_eq hlen)
   obtain ⟨jn, hjn⟩ : ∃ jn, az.length = jn := ⟨_, rfl⟩
   rw [hjn] at hjk hge hmem hbt hlen htk hdr h6 hg ⊢
   rcases hK with ⟨rfl, rfl⟩ | ⟨tk, hne, rfl, htkT, htk0⟩
   ·(repeat (first | refine gO rfl ?_ | ((first | refine gM zM13 ?_ | ((with_reducible refine xR ?_); refine uE 5 zM13 zP5E zP5P 51 rfl (by kernel_rfl) ?_)) <;> ((try with_reducible intro K1 hK1); simp only [go_sem, ↓reduceIte, reduceCtorEq, nA, nB, nC, nD, nE, nF, Int.toNat_natCast, hge, hlen, htk, hdr, hH0] <;> and_intros <;> first | (apply hK1; clear hK1 K1) | (intros; (omega)) | skip))))
    refine (g_newPart d (kids.getD jn default) h' hbt).mono ?_
    rintro _ h2 ⟨a, rfl, hR, hS, hn1, hn2, hk1, hk2⟩
    have hH2 := (hk1 i (by rw [hH0]; simp)).trans hH0
    have hT2 := (hk2 c0 (by rw [hT]; simp)).trans hT
    refine hK1 _ ?_; clear hK1 K1
    (repeat (((first | refine gM zM13 ?_ | (with_reducible refine wM ?_ ?_)) <;> ((try with_reducible intro K1 hK1); simp only [go_sem, ↓reduceIte, reduceCtorEq, nA, nB, nC, nD, nE, nF, Int.toNat_natCast, hge, hlen, htk, hdr, hH2] <;> and_intros <;> first | (apply hK1; clear hK1 K1) | (intros; first | decide | (simp_all <;> omega)) | skip))))
    intro tk htkn
    refine hK1 _ ?_; clear hK1 K1
    replace htkn : h2.T tk = none := htkn
    (repeat (first | refine gO rfl ?_ | ((first | refine gM zM13 ?_ | (with_reducible refine wM ?_ ?_)) <;> ((try with_reducible intro K1 hK1); simp only [go_sem, ↓reduceIte, reduceCtorEq, nA, nB, nC, nD, nE, nF, Int.toNat_natCast, hge, hlen, htk, hdr, hH2] <;> and_intros <;> first | (apply hK1; clear hK1 K1) | (intros; (omega))))))
    have htk1 : h'.T tk = none := Classical.byContradiction fun hn => by have := hk2 tk hn; rw [htkn] at this; exact hn this.symm
    have htk0 : h.T tk = none := Classical.byContradiction fun hn => by have := hI.2.2.2 tk hn; rw [htk1] at this; exact hn this.symm
    have hfr : ∀ (Y : AO) (n : Nat) (tk : Nat), (∀ xs, h2.T tk ≠ some (.cont 1 xs)) → RAt XP { H := upd h2.H i (some Y), T := upd h2.T tk (some (.tail n)) } d (kids.getD jn default) a (ps0 (kids.getD jn default)) := fun Y n tk htk => hR.frame (fun x hx => upd_other _ _ (fun e => by subst e; exact absurd (hn1 _ hx) (by rw [hH0]; simp))) (fun x hx => upd_other _ _ (fun e => by subst e; obtain ⟨xs, e2⟩ := hR.cont _ hx; exact htk xs e2))
    refine ⟨g - 1, by omega, ([] : List AT) ++ [a], .row 1 ((([] : List AT) ++ [a]).map fun a => [.ptr a.id 0]) (some tk), { H := upd h2.H i (some (.cells (cells9 kind item long many kids shares (.row 1 ((([] : List AT) ++ [a]).map fun a => [.ptr a.id 0]) (some tk)) 0 c0 ++ [.v (.int .i64 0)]))), T := upd h2.T tk (some (.tail 1)) }, by simp at hjn hg ⊢; omega, NewI.more (c := c0) (az := ([] : List AT)) hI hi (by rw [hH0]; simp) (by rw [hT]; simp) (by rw [hjn]; exact hfr _ 1 tk (fun xs e => by rw [htkn] at e; cases e)) hS hn1 hn2 (fun x hx hxi => (upd_other _ _ hxi).trans (hk1 x hx)) (fun x xs hx => (upd_other _ _ (fun e => by subst e; exact (by have := hk2 _ (show h'.T _ ≠ none by rw [hx]; simp); rw [hx, htkn] at this; cases this))).trans (hk2 x (by rw [hx]; simp))) (fun x hx => (upd_other _ _ (fun e => by subst e; exact hx htk0)).trans ((hk2 x (by rw [hI.2.2.2 x hx]; exact hx)).trans (hI.2.2.2 x hx))),
     .inr ⟨tk, by simp, rfl, by rw [show (([] : List AT) ++ [a]).length = 1 from rfl]; exact upd_same _ _ _, htk0⟩, upd_same _ _ _, (upd_other _ _ (fun e => by subst e; exact (by rw [hT2] at htkn; cases htkn))).trans hT2, by subst hjn; rfl⟩
   ·(repeat (first | refine gO rfl ?_ | ((first | refine gM zM13 ?_ | ((with_reducible refine xR ?_); refine uE 5 zM13 zP5E zP5P 51 rfl (by kernel_rfl) ?_)) <;> ((try with_reducible intro K1 hK1); simp only [go_sem, ↓reduceIte, reduceCtorEq, nA, nB, nC, nD, nE, nF, Int.toNat_natCast, hge, hlen, htk, hdr, hH0] <;> and_intros <;> first | (apply hK1; clear hK1 K1) | (intros; (omega)) | skip))))
    refine (g_newPart d (kids.getD jn default) h' hbt).mono ?_
    rintro _ h2 ⟨a, rfl, hR, hS, hn1, hn2, hk1, hk2⟩
    have hH2 := (hk1 i (by rw [hH0]; simp)).trans hH0
    have hT2 := (hk2 c0 (by rw [hT]; simp)).trans hT
    refine hK1 _ ?_; clear hK1 K1
    have htk2 := (hk2 tk (by rw [htkT]; simp)).trans htkT
    (repeat (first | refine gO rfl ?_ | ((first | refine gM zM13 ?_ | (with_reducible refine wM ?_ ?_)) <;> ((try with_reducible intro K1 hK1); simp only [go_sem, ↓reduceIte, reduceCtorEq, nA, nB, nC, nD, nE, nF, Int.toNat_natCast, hge, hlen, htk, hdr, hH2, htk2] <;> and_intros <;> first | (apply hK1; clear hK1 K1) | (intros; first | omega | decide | (simp_all <;> omega))))))
    have hfr : ∀ (Y : AO) (n : Nat) (tk : Nat), (∀ xs, h2.T tk ≠ some (.cont 1 xs)) → RAt XP { H := upd h2.H i (some Y), T := upd h2.T tk (some (.tail n)) } d (kids.getD jn default) a (ps0 (kids.getD jn default)) := fun Y n tk htk => hR.frame (fun x hx => upd_other _ _ (fun e => by subst e; exact absurd (hn1 _ hx) (by rw [hH0]; simp))) (fun x hx => upd_other _ _ (fun e => by subst e; obtain ⟨xs, e2⟩ := hR.cont _ hx; exact htk xs e2))
    have hrow : az.map (fun a : AT => [AV.ptr a.id 0]) ++ [[AV.ptr a.id 0]] = (az ++ [a]).map (fun a : AT => [AV.ptr a.id 0]) := by simp
    rw [hrow]
    refine ⟨g - 1, by omega, az ++ [a], .row 1 ((az ++ [a]).map fun a => [.ptr a.id 0]) (some tk), { H := upd h2.H i (some (.cells (cells9 kind item long many kids shares (.row 1 ((az ++ [a]).map fun a => [.ptr a.id 0]) (some tk)) 0 c0 ++ [.v (.int .i64 0)]))), T := upd h2.T tk (some (.tail (az.length + 1))) }, by simp at hjn hg ⊢; omega, NewI.more (c := c0) (az := az) hI hi (by rw [hH0]; simp) (by rw [hT]; simp) (by rw [hjn]; exact hfr _ (jn + 1) tk (fun xs e => by rw [htk2] at e; cases e)) hS hn1 hn2 (fun x hx hxi => (upd_other _ _ hxi).trans (hk1 x hx)) (fun x xs hx => (upd_other _ _ (fun e => by subst e; exact (by rw [htkT] at hx; cases hx))).trans (hk2 x (by rw [hx]; simp))) (fun x hx => (upd_other _ _ (fun e => by subst e; exact hx htk0)).trans ((hk2 x (by rw [hI.2.2.2 x hx]; exact hx)).trans (hI.2.2.2 x hx))),
     .inr ⟨tk, by simp, rfl, by rw [show (az ++ [a]).length = az.length + 1 by simp]; exact upd_same _ _ _, htk0⟩, upd_same _ _ _, (upd_other _ _ (fun e => by subst e; exact (by rw [hT2] at htk2; cases htk2))).trans hT2, by rw [show ((az ++ [a]).length : Int) = (jn : Int) + 1 by simp; omega]; rfl⟩
  ·simp only [decide_eq_false_iff_not] at h6
   have hjk : az.length = kids.length := by omega
   have hK' : kidsC az K := by
    rcases hK with ⟨rfl, rfl⟩ | ⟨tk, _, rfl, _, _⟩
    ·exact .inl ⟨rfl, rfl⟩
    ·exact .inr ⟨some tk, rfl⟩
   clear hK hH0
   (repeat ((refine gQ rfl ?_)))
   refine awp_seq ?_
   (repeat (first | refine gO rfl ?_ | ((refine gM zM13 fun K1 hK1 => ?_; simp only [go_sem, ↓reduceIte, reduceCtorEq, nA, nB, nC, nD, nE, nF] <;> and_intros <;> (apply hK1; clear hK1 K1)))))
   refine awp_loopC (rl false [3, 1, 31, 3, 13]) 0 (fun g s => ∃ j : Nat, g + j = shares.length ∧ s = ⟨((jnk 3 ((.ptr i 0) :: (jnk 31 ((.row 1 (shares.map encI) none) :: (.v (.int .i64 shares.length)) :: (.v (.int .i64 j)) :: (jnk 13 [])))))), [],
    { H := upd h'.H i (some (.cells (cells9 kind item long many kids shares K 0 c0 ++ [.v (.int .i64 (shares.take j).sum)]))), T := h'.T }⟩) shares.length ⟨0, by omega, ?_⟩ ?_
   ·have e0 : ({ H := upd h'.H i (some (.cells (cells9 kind item long many kids shares K 0 c0 ++ [.v (.int .i64 (shares.take 0).sum)]))), T := h'.T } : Hp) = h' := by
     show (⟨upd h'.H i (some (.cells (cells9 kind item long many kids shares K 0 c0 ++ [.v (.int .i64 0)]))), h'.T⟩ : Hp) = h'
     rw [upd_self hH]
    rw [e0]; rfl
   rintro g _ ⟨j, hj, rfl⟩
   have hnb := sum_nb (shares.take j) fun x hx => b7 x (List.mem_of_mem_take hx)
   have hjl : (shares.take j).length ≤ 1000 := by simp; omega
   have hH1 : (upd h'.H i (some (AO.cells (cells9 kind item long many kids shares K 0 c0 ++ [.v (.int .i64 (shares.take j).sum)])))) i = some (.cells [.v (.int .i64 kind), .v (.string item), .v (.int .i64 long), .v (.int .i64 many), .row 6 (kids.map encL) none, .row 1 (shares.map encI) none, K, .v (.int .i64 0), .arr 1 c0 kids.length, .v (.int .i64 (shares.take j).sum)]) := upd_same _ _ _
   (repeat (first | refine gO rfl ?_ | ((refine gM zM13 fun K1 hK1 => ?_; simp only [go_sem, ↓reduceIte, reduceCtorEq, nA, nB, nC, nD, nE, nF] <;> and_intros <;> (apply hK1; clear hK1 K1)))))
   refine awp_cond (t := _) rfl (fun h7 => ?_) (fun h7 => ?_)
   ·simp only [decide_eq_true_eq] at h7
    have hjs : j < shares.length := by omega
    have hgs : (shares.map encI).getD j [] = encI (shares.getD j 0) := getD_enc encI shares j 0 hjs
    have hms := b7 _ (getD_mem' shares j 0 hjs)
    have e1 : (shares.take (j + 1)).sum = (shares.take j).sum + shares.getD j 0 := by
     rw [List.take_add_one, List.getD_eq_getElem?_getD, List.getElem?_eq_getElem hjs, List.sum_append]; simp only [Option.toList_some, List.sum_cons, List.sum_nil, Option.getD_some]; omega
    have hb2 : NB (shares.getD j 0) := hms
    unfold NB at hb2
    (repeat (first | refine gO rfl ?_ | ((refine gM zM13 fun K1 hK1 => ?_; simp only [go_sem, ↓reduceIte, reduceCtorEq, nA, nB, nC, nD, nE, nF, Int.toNat_natCast, hgs, encI, cells9] <;> and_intros <;> first | (apply hK1; clear hK1 K1) | (intros; (omega))))))
    refine ⟨g - 1, by omega, j + 1, by omega, ?_⟩
    rw [e1]; rfl
   ·simp only [decide_eq_false_iff_not] at h7
    have hjs : j = shares.length := by omega
    subst hjs
    rw [List.take_length]
    (repeat (first | refine gO rfl ?_ | ((refine gM zM13 fun K1 hK1 => ?_; simp only [go_sem, ↓reduceIte, reduceCtorEq, nA, nB, nC, nD, nE, nF] <;> and_intros <;> (apply hK1; clear hK1 K1)))))
    simp only [Tryz.results130, go_sem, ↓reduceIte, reduceCtorEq, nA, nB, nC, nD, nE, nF]
    obtain ⟨g1, g2, g3, g4⟩ := hI
    refine ⟨_, _, Weak.refl _, Hp.le.refl _, .mk i c0 az, rfl, ?_, ?_, ?_, ?_, fun x hx => (upd_other _ _ (fun e => by subst e; exact hx hi)).trans (g3 x hx), g4⟩
    ·rw [ps0_eq]
     have hcf : XP.cf kind (kids.map fun _ => (0 : Int)) = kids.map fun _ => (0 : Int) := by
      simp only [XP]
      split
      ·rfl
      ·rw [List.length_map, ← List.map_const]; rfl
     refine ⟨⟨K, upd_same _ _ _, hK'⟩, by rw [hcf]; exact hT, by rw [hcf]; simp; omega, fun j hj => ?_⟩
     have e : (kids.map ps0).getD j default = ps0 (kids.getD j default) := by
      rw [List.getD_eq_getElem?_getD, List.getD_eq_getElem?_getD, List.getElem?_map, List.getElem?_eq_getElem hj]; rfl
     rw [e]
     exact (g1 j (by omega)).1.frame (fun x hx => upd_other _ _ (fun e => by subst e; exact (g1 j (by omega)).2.1.1 hx)) (fun _ _ => rfl)
    ·exact fun j hj => ⟨(g1 j hj).2.1, fun l hl hne => g2 j l hj hl hne⟩
    ·intro x hx
     rcases mem_idsT hx with rfl | ⟨j, hj, hx⟩
     ·exact hi
     ·exact (g1 j hj).2.2.1 x hx
    ·intro x hx
     rcases mem_toksT hx with rfl | ⟨j, hj, hx⟩
     ·exact hc0
     ·exact (g1 j hj).2.2.2 x hx
abbrev zP6E : List Nat := [0, 1, 2, 3, 4, 5, 6, 7, 8, 9, 10, 11, 12, 13, 14, 15, 16, 17, 18, 19, 20, 21, 22, 23, 24, 25, 26, 27, 28, 29, 30, 31, 32, 33, 34, 35, 36, 37, 38, 39, 40, 41]
abbrev zP6P : List (Nat × List Nat × List Nat) := []
attribute [go_sem] zP6E zP6P
theorem mul_bd {a b A B : Int} (ha : 0 ≤ a ∧ a ≤ A) (hb : 0 ≤ b ∧ b ≤ B) : 0 ≤ a * b ∧ a * b ≤ A * B :=
 ⟨Int.mul_nonneg ha.1 hb.1, Int.mul_le_mul ha.2 hb.2 hb.1 (by omega)⟩
theorem sum_take_succ (l : List Int) (j : Nat) (h : j < l.length) : (l.take (j + 1)).sum = (l.take j).sum + l.getD j 0 := by
 rw [List.take_add_one, List.getD_eq_getElem?_getD, List.getElem?_eq_getElem h, List.sum_append]; simp only [Option.toList_some, List.sum_cons, List.sum_nil, Option.getD_some]; omega
theorem sum_01 : ∀ (l : List Int), (∀ x ∈ l, 1 ≤ x ∧ x ≤ 1000) → 0 ≤ l.sum ∧ l.sum ≤ l.length * 1000
 | [], _ => by simp
 | x :: l, h => by
  have h1 := h x (by simp)
  have h2 := sum_01 l fun y hy => h y (by simp [hy])
  simp only [List.sum_cons, List.length_cons]
  omega
theorem g_next46 (kind : Int) (item : ByteArray) (long many : Int) (kr : AV) (shares : List Int) (K : AV) (p : Int) (i c0 : Nat) (cs : List Int) (h : Hp) (hH : h.H i = some (.cells [.v (.int .i64 kind), .v (.string item), .v (.int .i64 long), .v (.int .i64 many), kr, .row 1 (shares.map encI) none, K, .v (.int .i64 p), .arr 1 c0 shares.length]))
  (hT : h.T c0 = some (.cont 1 (cs.map encI))) (hl : cs.length = shares.length) (hl2 : shares.length ≤ 1000) (hs : ∀ x ∈ shares, 1 ≤ x ∧ x ≤ 1000) (hp : 0 ≤ p ∧ p ≤ 1000000) (hc : ∀ x ∈ cs, 0 ≤ x ∧ x ≤ 1000000) :
  ACalls Tryz.prog 182 [.ptr i 0] h (fun r h' => r = .v (.int .i64 (nextF shares p cs)) ∧ h' = h) := by
 refine gE Tryz.func182 rfl (by kernel_rfl) 78 rfl fun c => ?_
 (repeat (first | refine gQ rfl ?_ | ((((with_reducible refine yS ?_); refine awp_keep zK10 100 (kS ?_))) <;> ((try with_reducible intro K1 hK1); simp only [go_sem, ↓reduceIte, reduceCtorEq, nA, nB, nC, nD, nE, nF, hH, nG, nH, nI] <;> and_intros <;> (apply hK1; clear hK1 K1)))))
 refine awp_seq ?_
 (repeat (first | refine gO rfl ?_ | ((((with_reducible refine yS ?_); refine awp_keep zK10 100 (kS ?_))) <;> ((try with_reducible intro K1 hK1); simp only [go_sem, ↓reduceIte, reduceCtorEq, nA, nB, nC, nD, nE, nF, hH, nG, nH, nI] <;> and_intros <;> (apply hK1; clear hK1 K1)))))
 refine awp_loopC (rl false [0, 1, 2, 1, 9, 3, 63]) 0 (fun g s => ∃ j : Nat, g + j = shares.length ∧ s = ⟨((.ptr i 0) :: AV.junk :: AV.junk :: ((.v (.int .i64 (shares.take j).sum)) :: (jnk 9 ((.row 1 (shares.map encI) none) :: (.v (.int .i64 shares.length)) :: (.v (.int .i64 j)) :: (jnk 63 []))))), [], h⟩) shares.length ⟨0, by omega, rfl⟩ ?_
 rintro g _ ⟨j, hj, rfl⟩
 have hsj := sum_01 (shares.take j) fun x hx => hs x (List.mem_of_mem_take hx)
 have hjl : (shares.take j).length ≤ 1000 := by simp; omega
 (repeat (first | refine gO rfl ?_ | ((((with_reducible refine yS ?_); refine awp_keep zK10 100 (kS ?_))) <;> ((try with_reducible intro K1 hK1); simp only [go_sem, ↓reduceIte, reduceCtorEq, nA, nB, nC, nD, nE, nF, hH, nG, nH, nI] <;> and_intros <;> (apply hK1; clear hK1 K1)))))
 refine awp_cond (t := _) rfl (fun h1 => ?_) (fun h1 => ?_)
 ·simp only [decide_eq_true_eq] at h1
  have hjs : j < shares.length := by omega
  have hg : (shares.map encI).getD j [] = encI (shares.getD j 0) := getD_enc encI shares j 0 hjs
  have e1 := sum_take_succ shares j hjs
  have hb := hs _ (getD_mem' shares j 0 hjs)
  generalize shares.getD j 0 = x at hg e1 hb
  (repeat (first | refine gO rfl ?_ | ((first | ((with_reducible refine yS ?_); refine awp_keep zK10 100 (kS ?_)) | ((with_reducible refine yR ?_); refine awp_keep zK10 100 (kR ?_))) <;> ((try with_reducible intro K1 hK1); simp only [go_sem, ↓reduceIte, reduceCtorEq, nA, nB, nC, nD, nE, nF, Int.toNat_natCast, hg, encI, nG, nH, nI] <;> and_intros <;> first | (apply hK1; clear hK1 K1) | (intros; (omega))))))
  exact ⟨g - 1, by omega, j + 1, by omega, by rw [e1]; rfl⟩
 ·simp only [decide_eq_false_iff_not] at h1
  have hjs : j = shares.length := by omega
  subst hjs
  rw [List.take_length] at hsj ⊢
  clear h1 hjl hj
  (repeat (first | refine gQ rfl ?_ | ((((with_reducible refine yS ?_); refine awp_keep zK10 100 (kS ?_))) <;> ((try with_reducible intro K1 hK1); simp only [go_sem, ↓reduceIte, reduceCtorEq, nA, nB, nC, nD, nE, nF, hH, nG, nH, nI] <;> and_intros <;> (apply hK1; clear hK1 K1)))))
  refine awp_seq ?_
  (repeat (first | refine gO rfl ?_ | ((((with_reducible refine yS ?_); refine awp_keep zK10 100 (kS ?_))) <;> ((try with_reducible intro K1 hK1); simp only [go_sem, ↓reduceIte, reduceCtorEq, nA, nB, nC, nD, nE, nF, hH, nG, nH, nI] <;> and_intros <;> (apply hK1; clear hK1 K1)))))
  refine awp_loopC (rl false [0, 1, 2, 1, 2, 1, 20, 3, 49]) 0 (fun g s => ∃ j : Nat, g + j = shares.length ∧ s = ⟨((.ptr i 0) :: AV.junk :: AV.junk :: ((.v (.int .i64 shares.sum)) :: AV.junk :: AV.junk :: ((.v (.int .i64 (bestTo (shareV shares p cs) j))) :: (jnk 20 ((.row 1 (shares.map encI) none) :: (.v (.int .i64 shares.length)) :: (.v (.int .i64 j)) :: (jnk 49 [])))))), [], h⟩) shares.length ⟨0, by omega, rfl⟩ ?_
  rintro g _ ⟨j, hj, rfl⟩
  (repeat (first | refine gO rfl ?_ | ((((with_reducible refine yS ?_); refine awp_keep zK10 100 (kS ?_))) <;> ((try with_reducible intro K1 hK1); simp only [go_sem, ↓reduceIte, reduceCtorEq, nA, nB, nC, nD, nE, nF, hH, nG, nH, nI] <;> and_intros <;> (apply hK1; clear hK1 K1)))))
  refine awp_cond (t := _) rfl (fun h1 => ?_) (fun h1 => ?_)
  ·simp only [decide_eq_true_eq] at h1
   have hjs : j < shares.length := by omega
   have hbl : bestTo (shareV shares p cs) j < shares.length := by
    cases j with
    | zero => exact hjs
    | succ j => have := bestTo_lt (shareV shares p cs) (j + 1) (by omega); omega
   have e2 : bestTo (shareV shares p cs) (j + 1) = if shareV shares p cs j > shareV shares p cs (bestTo (shareV shares p cs) j) then j else bestTo (shareV shares p cs) j := rfl
   generalize bestTo (shareV shares p cs) j = b at *
   have e2t : shareV shares p cs b < shareV shares p cs j → bestTo (shareV shares p cs) (j + 1) = j := fun h => by rw [e2, if_pos h]
   have e2f : ¬ shareV shares p cs b < shareV shares p cs j → bestTo (shareV shares p cs) (j + 1) = b := fun h => by rw [e2, if_neg h]
   clear e2
   have hg : (shares.map encI).getD j [] = encI (shares.getD j 0) := getD_enc encI shares j 0 hjs
   have hgb : (shares.map encI).getD b [] = encI (shares.getD b 0) := getD_enc encI shares b 0 hbl
   have hcj : (cs.map encI).getD j [] = encI (cs.getD j 0) := getD_enc encI cs j 0 (by omega)
   have hcb : (cs.map encI).getD b [] = encI (cs.getD b 0) := getD_enc encI cs b 0 (by omega)
   have b1 := hs _ (getD_mem' shares j 0 hjs)
   have b2 := hs _ (getD_mem' shares b 0 hbl)
   have b3 := hc _ (getD_mem' cs j 0 (by omega))
   have b4 := hc _ (getD_mem' cs b 0 (by omega))
   have hss := sum_01 shares hs
   have m1 := mul_bd (a := shares.getD j 0) (b := p + 1) (A := 1000) (B := 1000001) (by omega) (by omega)
   have m2 := mul_bd (a := shares.getD b 0) (b := p + 1) (A := 1000) (B := 1000001) (by omega) (by omega)
   have m3 := mul_bd (a := cs.getD j 0) (b := shares.sum) (A := 1000000) (B := 1000000) (by omega) (by omega)
   have m4 := mul_bd (a := cs.getD b 0) (b := shares.sum) (A := 1000000) (B := 1000000) (by omega) (by omega)
   (repeat (first | refine gO rfl ?_ | ((first | ((with_reducible refine yS ?_); refine awp_keep zK10 100 (kS ?_)) | ((with_reducible refine xS ?_); refine awp_keep zK10 100 (uD 11 zM10 zP6E zP6P 79 rfl (by kernel_rfl) ?_))) <;> ((try with_reducible intro K1 hK1); simp only [go_sem, ↓reduceIte, reduceCtorEq, nA, nB, nC, nD, nE, nF, hH, hT, hl, Int.toNat_natCast, hg, hgb, hcj, hcb, encI, nG, nH, nI] <;> and_intros <;> first | (apply hK1; clear hK1 K1) | (intros; (omega))))))
   refine awp_cond (t := _) rfl (fun h2 => ?_) (fun h2 => ?_)
   ·(repeat (first | refine gO rfl ?_ | ((((with_reducible refine yR ?_); refine awp_keep zK10 100 (kR ?_))) <;> ((try with_reducible intro K1 hK1); simp only [go_sem, ↓reduceIte, reduceCtorEq, nA, nB, nC, nD, nE, nF, nG, nH, nI] <;> and_intros <;> first | (apply hK1; clear hK1 K1) | (intros; (omega))))))
    refine ⟨g - 1, by omega, j + 1, by omega, ?_⟩
    simp only [decide_eq_true_eq] at h2
    rw [e2t h2]; rfl
   ·(repeat (first | refine gO rfl ?_ | ((((with_reducible refine yR ?_); refine awp_keep zK10 100 (kR ?_))) <;> ((try with_reducible intro K1 hK1); simp only [go_sem, ↓reduceIte, reduceCtorEq, nA, nB, nC, nD, nE, nF, nG, nH, nI] <;> and_intros <;> first | (apply hK1; clear hK1 K1) | (intros; (omega))))))
    refine ⟨g - 1, by omega, j + 1, by omega, ?_⟩
    simp only [decide_eq_false_iff_not] at h2
    rw [e2f h2]; rfl
  ·simp only [decide_eq_false_iff_not] at h1
   have hjs : j = shares.length := by omega
   subst hjs
   (repeat (first | refine gO rfl ?_ | ((((with_reducible refine yS ?_); refine awp_keep zK10 100 (kS ?_))) <;> ((try with_reducible intro K1 hK1); simp only [go_sem, ↓reduceIte, reduceCtorEq, nA, nB, nC, nD, nE, nF, nG, nH, nI] <;> and_intros <;> (apply hK1; clear hK1 K1)))))
   simp only [Tryz.results182, go_sem, ↓reduceIte, reduceCtorEq, nA, nB, nC, nD, nE, nF]
   exact ⟨_, _, Weak.refl _, Hp.le.refl _, rfl, rfl⟩
abbrev zP7E : List Nat := [0, 1, 2, 3, 4, 5, 6, 7, 8, 9, 10, 11, 12, 13, 14, 15, 16, 17, 18, 19, 20]
abbrev zP7P : List (Nat × List Nat × List Nat) := []
abbrev zP8E : List Nat := [0, 1, 2, 3, 4, 5, 6, 7, 8, 9, 10]
abbrev zP8P : List (Nat × List Nat × List Nat) := []
attribute [go_sem] zP7E zP7P zP8E zP8P
theorem g_behind45 (kind : Int) (item : ByteArray) (long many : Int) (kr : AV) (shares : List Int) (K : AV) (p : Int) (i c0 : Nat) (cs : List Int) (h : Hp) (hH : h.H i = some (.cells [.v (.int .i64 kind), .v (.string item), .v (.int .i64 long), .v (.int .i64 many), kr, .row 1 (shares.map encI) none, K, .v (.int .i64 p), .arr 1 c0 shares.length, .v (.int .i64 shares.sum)]))
  (hT : h.T c0 = some (.cont 1 (cs.map encI))) (hl : cs.length = shares.length) (hl2 : shares.length ≤ 1000) (hs : ∀ x ∈ shares, 1 ≤ x ∧ x ≤ 1000) (hp : 0 ≤ p ∧ p ≤ 1000000) (hc : ∀ x ∈ cs, 0 ≤ x ∧ x ≤ 1000000) :
  ACalls Tryz.prog 181 [.ptr i 0] h (fun r h' => r = .v (.int .i64 (nextF shares p cs)) ∧ h' = h) := by
 refine gE Tryz.func181 rfl (by kernel_rfl) 49 rfl fun c => ?_
 (repeat (first | refine gQ rfl ?_ | ((((with_reducible refine yS ?_); refine awp_keep zK11 100 (kS ?_))) <;> ((try with_reducible intro K1 hK1); simp only [go_sem, ↓reduceIte, reduceCtorEq, nA, nB, nC, nD, nE, nF, hH, nG, nH, nI] <;> and_intros <;> (apply hK1; clear hK1 K1)))))
 refine awp_seq ?_
 (repeat (first | refine gO rfl ?_ | ((((with_reducible refine yS ?_); refine awp_keep zK11 100 (kS ?_))) <;> ((try with_reducible intro K1 hK1); simp only [go_sem, ↓reduceIte, reduceCtorEq, nA, nB, nC, nD, nE, nF, hH, nG, nH, nI] <;> and_intros <;> (apply hK1; clear hK1 K1)))))
 refine awp_loopC (rl false [0, 1, 2, 2, 7, 3, 35]) 0 (fun g s => ∃ (j : Nat) (m : Int), g + j = shares.length ∧ (j ≠ 0 → m = shareV shares p cs (bestTo (shareV shares p cs) j)) ∧ (-10000000000000 ≤ m ∧ m ≤ 10000000000000) ∧
  s = ⟨((.ptr i 0) :: AV.junk :: AV.junk :: ((.v (.int .i64 (bestTo (shareV shares p cs) j))) :: (.v (.int .i64 m)) :: (jnk 7 ((.row 1 (shares.map encI) none) :: (.v (.int .i64 shares.length)) :: (.v (.int .i64 j)) :: (jnk 35 []))))), [], h⟩) shares.length ⟨0, 0, by omega, fun h => absurd rfl h, by omega, rfl⟩ ?_
 rintro g _ ⟨j, m, hj, hm, hmb, rfl⟩
 (repeat (first | refine gO rfl ?_ | ((((with_reducible refine yS ?_); refine awp_keep zK11 100 (kS ?_))) <;> ((try with_reducible intro K1 hK1); simp only [go_sem, ↓reduceIte, reduceCtorEq, nA, nB, nC, nD, nE, nF, hH, nG, nH, nI] <;> and_intros <;> (apply hK1; clear hK1 K1)))))
 refine awp_cond (t := _) rfl (fun h1 => ?_) (fun h1 => ?_)
 ·simp only [decide_eq_true_eq] at h1
  have hjs : j < shares.length := by omega
  have e2 : bestTo (shareV shares p cs) (j + 1) = if shareV shares p cs j > shareV shares p cs (bestTo (shareV shares p cs) j) then j else bestTo (shareV shares p cs) j := rfl
  have e0 : j = 0 → bestTo (shareV shares p cs) (j + 1) = j := fun h => by subst h; simp [bestTo]
  have e2t : j ≠ 0 → m < shareV shares p cs j → bestTo (shareV shares p cs) (j + 1) = j := fun h0 h => by rw [e2, if_pos (by rw [hm h0] at h; exact h)]
  have e2f : j ≠ 0 → ¬ m < shareV shares p cs j → bestTo (shareV shares p cs) (j + 1) = bestTo (shareV shares p cs) j := fun h0 h => by rw [e2, if_neg (by rw [hm h0] at h; exact h)]
  clear e2
  have hg : (shares.map encI).getD j [] = encI (shares.getD j 0) := getD_enc encI shares j 0 hjs
  have hcj : (cs.map encI).getD j [] = encI (cs.getD j 0) := getD_enc encI cs j 0 (by omega)
  have b1 := hs _ (getD_mem' shares j 0 hjs)
  have b3 := hc _ (getD_mem' cs j 0 (by omega))
  have hss := sum_01 shares hs
  have m1 := mul_bd (a := shares.getD j 0) (b := p + 1) (A := 1000) (B := 1000001) (by omega) (by omega)
  have m3 := mul_bd (a := cs.getD j 0) (b := shares.sum) (A := 1000000) (B := 1000000) (by omega) (by omega)
  have hv : shareV shares p cs j = shares.getD j 0 * (p + 1) - cs.getD j 0 * shares.sum := rfl
  (repeat (first | refine gO rfl ?_ | ((first | ((with_reducible refine yS ?_); refine awp_keep zK11 100 (kS ?_)) | ((with_reducible refine xS ?_); refine awp_keep zK11 100 (uD 5 zM10 zP7E zP7P 50 rfl (by kernel_rfl) ?_))) <;> ((try with_reducible intro K1 hK1); simp only [go_sem, ↓reduceIte, reduceCtorEq, nA, nB, nC, nD, nE, nF, hH, hT, hl, Int.toNat_natCast, hg, hcj, encI, nG, nH, nI] <;> and_intros <;> first | (apply hK1; clear hK1 K1) | (intros; (omega))))))
  refine awp_cond (t := _) rfl (fun h2 => ?_) (fun h2 => ?_)
  ·(repeat (first | refine gO rfl ?_ | ((((with_reducible refine yR ?_); refine awp_keep zK11 100 (kR ?_))) <;> ((try with_reducible intro K1 hK1); simp only [go_sem, ↓reduceIte, reduceCtorEq, nA, nB, nC, nD, nE, nF, nG, nH, nI] <;> and_intros <;> first | (apply hK1; clear hK1 K1) | (intros; (omega))))))
   have e3 : bestTo (shareV shares p cs) (j + 1) = j := by
    simp only [Bool.or_eq_true, beq_iff_eq, decide_eq_true_eq] at h2
    by_cases h0 : j = 0
    ·exact e0 h0
    ·exact e2t h0 (by rw [hv]; omega)
   exact ⟨g - 1, by omega, j + 1, shares.getD j 0 * (p + 1) - cs.getD j 0 * shares.sum, by omega, fun _ => by rw [e3, hv], by omega, by rw [e3]; rfl⟩
  ·(repeat (first | refine gO rfl ?_ | ((((with_reducible refine yR ?_); refine awp_keep zK11 100 (kR ?_))) <;> ((try with_reducible intro K1 hK1); simp only [go_sem, ↓reduceIte, reduceCtorEq, nA, nB, nC, nD, nE, nF, nG, nH, nI] <;> and_intros <;> first | (apply hK1; clear hK1 K1) | (intros; (omega))))))
   simp only [Bool.or_eq_false_iff, beq_eq_false_iff_ne, decide_eq_false_iff_not] at h2
   have h0 : j ≠ 0 := by omega
   have e3 := e2f h0 (by rw [hv]; omega)
   exact ⟨g - 1, by omega, j + 1, m, by omega, fun _ => by rw [e3]; exact hm h0, by omega, by rw [e3]; rfl⟩
 ·simp only [decide_eq_false_iff_not] at h1
  have hjs : j = shares.length := by omega
  subst hjs
  (repeat (first | refine gO rfl ?_ | ((((with_reducible refine yS ?_); refine awp_keep zK11 100 (kS ?_))) <;> ((try with_reducible intro K1 hK1); simp only [go_sem, ↓reduceIte, reduceCtorEq, nA, nB, nC, nD, nE, nF, nG, nH, nI] <;> and_intros <;> (apply hK1; clear hK1 K1)))))
  simp only [Tryz.results181, go_sem, ↓reduceIte, reduceCtorEq, nA, nB, nC, nD, nE, nF]
  exact ⟨_, _, Weak.refl _, Hp.le.refl _, rfl, rfl⟩
theorem g_full28 (o k : Nat) (h : Hp) (xs : List (ByteArray × Int)) (hO : OutAt h o k [.v (.int .i64 5000)] xs) : ACalls Tryz.prog 133 [.ptr o 0] h (fun r h' => r = .v (.bool (decide (5000 < (xs.length : Int)))) ∧ h' = h) := by
 have hH : h.H o = some (.cells [.row 2 (xs.map encStep) (some k), .v (.int .i64 5000)]) := hO.1
 refine gE Tryz.func133 rfl (by kernel_rfl) 12 rfl fun c => ?_
 (repeat (first | refine gO rfl ?_ | ((first | refine gR ?_ | ((with_reducible refine xS ?_); refine uD 1 zM10 zP8E zP8P 13 rfl (by kernel_rfl) ?_)) <;> ((try with_reducible intro K1 hK1); simp only [go_sem, ↓reduceIte, reduceCtorEq, nA, nB, nC, nD, nE, nF, hH] <;> and_intros <;> (apply hK1; clear hK1 K1)))))
 simp only [Tryz.results133, go_sem, ↓reduceIte, reduceCtorEq, nA, nB, nC, nD, nE, nF]
 exact ⟨_, _, Weak.refl _, Hp.le.refl _, rfl, rfl⟩
def FrP (a : AT) (o k : Nat) (h h' : Hp) : Prop := (∀ i, i ∉ idsT a → i ≠ o → h'.H i = h.H i) ∧ (∀ c, c ∉ toksT a → c ≠ k → h'.T c = h.T c)
theorem FrP.trans {a : AT} {o k : Nat} {h h1 h2 : Hp} (f : FrP a o k h h1) (g : FrP a o k h1 h2) : FrP a o k h h2 :=
 ⟨fun i x y => (g.1 i x y).trans (f.1 i x y), fun i x y => (g.2 i x y).trans (f.2 i x y)⟩
theorem FrP.kid {i c : Nat} {az : List AT} {j : Nat} {o k : Nat} {h h' : Hp} (hj : j < az.length) (f : FrP (az.getD j default) o k h h') : FrP (.mk i c az) o k h h' :=
 ⟨fun x hx ho => f.1 x (fun h => hx (idsT_kid hj h)) ho, fun x hx ho => f.2 x (fun h => hx (toksT_kid hj h)) ho⟩
theorem getD_setS {α : Type} (l : List α) (j : Nat) (x d : α) (h : j < l.length) : (l.set j x).getD j d = x := by rw [List.getD_eq_getElem?_getD, List.getElem?_set_self h]; rfl
theorem getD_setN {α : Type} (l : List α) (j i : Nat) (x d : α) (h : j ≠ i) : (l.set j x).getD i d = l.getD i d := by rw [List.getD_eq_getElem?_getD, List.getElem?_set_ne h, ← List.getD_eq_getElem?_getD]
theorem RAt.kid {X : RK} {h h' : Hp} {d : Nat} {kind : Int} {item : ByteArray} {long many : Int} {kids : List LT} {shares : List Int} {i c : Nat} {az : List AT} {p : Int} {cs : List Int} {ks : List PS}
  (hR : RAt X h (d + 1) (.mk kind item long many kids shares) (.mk i c az) (.mk p cs ks)) (hS : Sep (d + 1) (.mk i c az)) {o k : Nat} (ho : o ∉ idsT (.mk i c az)) (hk : k ∉ toksT (.mk i c az)) {j : Nat} (hj : j < kids.length) {s' : PS}
  (hj' : RAt X h' d (kids.getD j default) (az.getD j default) s') (hf : FrP (az.getD j default) o k h h') : RAt X h' (d + 1) (.mk kind item long many kids shares) (.mk i c az) (.mk p cs (ks.set j s')) := by
 obtain ⟨⟨K, h1, hK⟩, h2, ⟨l1, l2, l3, l4⟩, h4⟩ := hR
 have hjz : j < az.length := by omega
 have hSj := hS j hjz
 refine ⟨⟨K, (hf.1 i hSj.1.1 (fun e => ho (by rw [idsT_eq, e]; simp))).trans h1, hK⟩, (hf.2 c hSj.1.2.1 (fun e => hk (by rw [toksT_eq, e]; simp))).trans h2, ⟨l1, l2, l3, by simpa using l4⟩, fun l hl => ?_⟩
 by_cases hlj : j = l
 ·subst hlj
  rw [getD_setS _ _ _ _ (by omega)]
  exact hj'
 ·rw [getD_setN _ _ _ _ _ hlj]
  have hd := hSj.2 l (by omega) (fun e => hlj e.symm)
  exact (h4 l hl).frame (fun x hx => hf.1 x (fun hx2 => hd.1 x hx2 hx) (fun e => ho (by rw [← e]; exact idsT_kid (by omega) hx))) (fun x hx => hf.2 x (fun hx2 => hd.2 x hx2 hx) (fun e => hk (by rw [← e]; exact toksT_kid (by omega) hx)))
theorem RAt.tokNe {X : RK} {h : Hp} {d : Nat} {t : LT} {a : AT} {s : PS} (hR : RAt X h d t a s) {k n : Nat} (hk : h.T k = some (.tail n)) : k ∉ toksT a := fun hx => by
 obtain ⟨xs, e⟩ := hR.cont k hx
 rw [hk] at e; cases e
def FOk (d : Nat) (kids : List LT) (n : Int) (a : List Int × List PS) : Prop :=
 (a.1.length = kids.length ∧ a.2.length = kids.length) ∧ (∀ x ∈ a.1, 0 ≤ x ∧ x ≤ n) ∧ ∀ j, j < kids.length → PSB d (kids.getD j default) (a.2.getD j default) n
theorem mem_set_or {l : List Int} {j : Nat} {v x : Int} (h : x ∈ l.set j v) : x ∈ l ∨ x = v := List.mem_or_eq_of_mem_set h
theorem stepU_ok {d : Nat} {f : LT → PS → PS × List (ByteArray × Int)} {kids : List LT} {n : Int} {a : (List Int × List PS) × List (ByteArray × Int)} (hf : FOk d kids n a.1) {i : Nat} (hi : i < kids.length) {m : Nat}
  (hm : (f (kids.getD i default) (a.1.2.getD i default)).2.length = m) (hm1 : 1 ≤ m) (hp : PSB d (kids.getD i default) (f (kids.getD i default) (a.1.2.getD i default)).1 (n + m)) : FOk d kids (n + m) (stepU f kids a i).1 ∧ (stepU f kids a i).2.length = a.2.length + m := by
 obtain ⟨⟨l1, l2⟩, h1, h2⟩ := hf
 refine ⟨⟨⟨by simp [stepU, l1], by simp [stepU, l2]⟩, fun x hx => ?_, fun j hj => ?_⟩, by simp only [stepU, List.length_append, hm]⟩
 ·rcases mem_set_or hx with h | h
  ·have := h1 x h; omega
  ·have := h1 _ (getD_mem' a.1.1 i 0 (by omega)); omega
 ·simp only [stepU]
  by_cases hij : i = j
  ·subst hij; rw [getD_setS _ _ _ _ (by omega)]; exact hp
  ·rw [getD_setN _ _ _ _ _ hij]; exact (h2 j hj).mono (by omega)
theorem idxL_lt {kind p many : Int} {nk nx : Nat} (hk : 1 ≤ kind ∧ kind ≤ 5) (hn : kind ≠ 1 → 0 < nk) (hx : kind = 4 → nx < nk) (hp : 0 ≤ p) : ∀ i ∈ idxL kind p many nk nx, i < nk := by
 intro i hi
 unfold idxL at hi
 split at hi
 ·simp at hi
 ·rename_i h1
  have h0 := hn h1
  split at hi
  ·simpa using hi
  ·split at hi
   ·simp only [List.mem_singleton] at hi
    subst hi
    have := Int.tmod_lt_of_pos p (show (0 : Int) < nk by omega)
    have := Int.tmod_nonneg (nk : Int) hp
    omega
   ·split at hi
    ·simp only [List.mem_singleton] at hi; subst hi; exact hx (by assumption)
    ·have := (List.mem_replicate.1 hi).2; omega
theorem idxL_ne {kind p many : Int} {nk nx : Nat} (hk : 1 ≤ kind ∧ kind ≤ 5) (h1 : kind ≠ 1) (hn : 0 < nk) (hm : kind = 5 → 1 ≤ many) : idxL kind p many nk nx ≠ [] := by
 unfold idxL
 rw [if_neg h1]
 split
 ·intro h; have := congrArg List.length h; simp at this; omega
 ·split
  ·simp
  ·split
   ·simp
   ·intro h; have := congrArg List.length h; simp at this; have := hm (by omega); omega
def Fits : Nat → LT → PS → Prop
 | 0, _, _ => False
 | d + 1, .mk _ _ _ _ kids _, .mk _ cs ks => (cs.length = kids.length ∧ ks.length = kids.length) ∧ ∀ j, j < kids.length → Fits d (kids.getD j default) (ks.getD j default)
theorem RAt.fits {X : RK} {h : Hp} : ∀ {d : Nat} {t : LT} {a : AT} {s : PS}, RAt X h d t a s → Fits d t s
 | 0, _, _, _, h => h.elim
 | d + 1, .mk .., .mk .., .mk .., ⟨_, _, h3, h4⟩ => ⟨⟨h3.2.1, h3.2.2.2⟩, fun j hj => (h4 j hj).fits⟩
theorem passU_ok : ∀ (d : Nat) (t : LT) (s : PS) (n : Int), VL d t → Fits d t s → 0 ≤ n → PSB d t s n → 1 ≤ (passU d t s).2.length ∧ PSB d t (passU d t s).1 (n + (passU d t s).2.length) ∧ Fits d t (passU d t s).1
 | 0, _, _, _, h, _, _, _ => h.elim
 | d + 1, .mk kind item long many kids shares, .mk p cs ks, n, hv, hft, hn, hb => by
  obtain ⟨v1, v2, v3, v4, v5, v6, v7, v8⟩ := hv
  obtain ⟨⟨f1, f2⟩, f3⟩ := hft
  obtain ⟨c1, c2, c3⟩ := hb
  rw [passU_succ]
  have hnk : kind ≠ 1 → 0 < kids.length := fun h => List.length_pos_iff.2 (v3 h)
  have hidx := idxL_lt (many := many) (nx := nextF shares p cs) v1 hnk (fun h4 => by rw [← v5 h4]; exact bestTo_lt _ _ (by rw [v5 h4]; exact hnk (by omega))) c1.1
  have hne := fun h => idxL_ne (p := p) (nx := nextF shares p cs) v1 h (hnk h) (fun h5 => (v4 h5).2.1)
  have hnil : kind = 1 → idxL kind p many kids.length (nextF shares p cs) = [] := fun h => by unfold idxL; rw [if_pos h]
  generalize idxL kind p many kids.length (nextF shares p cs) = L at *
  -- the fold
  have key : ∀ (L : List Nat), (∀ i ∈ L, i < kids.length) → ∀ (a : (List Int × List PS) × List (ByteArray × Int)) (m : Int), 0 ≤ m → FOk d kids m a.1 → (∀ j, j < kids.length → Fits d (kids.getD j default) (a.1.2.getD j default)) →
    FOk d kids (m + ((L.foldl (stepU (passU d) kids) a).2.length - a.2.length)) (L.foldl (stepU (passU d) kids) a).1 ∧ (∀ j, j < kids.length → Fits d (kids.getD j default) ((L.foldl (stepU (passU d) kids) a).1.2.getD j default)) ∧
    a.2.length + L.length ≤ (L.foldl (stepU (passU d) kids) a).2.length := by
   intro L
   induction L with
   | nil => intro _ a m _ ha hfi; exact ⟨by simpa using ha, hfi, by simp⟩
   | cons i L ih =>
    intro hL a m hm ha hfi
    have hi := hL i (by simp)
    have hmem := getD_mem' kids i default hi
    obtain ⟨g1, g2, g3⟩ := passU_ok d (kids.getD i default) (a.1.2.getD i default) m (v8 _ hmem) (hfi i hi) hm (ha.2.2 i hi)
    obtain ⟨s1, s2⟩ := stepU_ok (f := passU d) ha hi rfl g1 g2
    have hfi2 : ∀ j, j < kids.length → Fits d (kids.getD j default) ((stepU (passU d) kids a i).1.2.getD j default) := fun j hj => by
     simp only [stepU]
     by_cases hij : i = j
     ·subst hij; rw [getD_setS _ _ _ _ (by rw [ha.1.2]; exact hi)]; exact g3
     ·rw [getD_setN _ _ _ _ _ hij]; exact hfi j hj
    obtain ⟨r1, r2, r3⟩ := ih (fun j hj => hL j (by simp [hj])) (stepU (passU d) kids a i) _ (by omega) s1 hfi2
    simp only [List.foldl_cons]
    refine ⟨?_, r2, by simp only [List.length_cons]; omega⟩
    have e : m + (((L.foldl (stepU (passU d) kids) (stepU (passU d) kids a i)).2.length : Int) - a.2.length) = m + ((passU d (kids.getD i default) (a.1.2.getD i default)).2.length) + (((L.foldl (stepU (passU d) kids) (stepU (passU d) kids a i)).2.length : Int) - (stepU (passU d) kids a i).2.length) := by rw [s2]; omega
    rw [e]; exact r1
  obtain ⟨r1, r2, r3⟩ := key L hidx ((cs, ks), if kind = 1 then [(item, long)] else []) n hn ⟨⟨f1, f2⟩, c2, c3⟩ f3
  have hlen : 1 ≤ (L.foldl (stepU (passU d) kids) ((cs, ks), if kind = 1 then [(item, long)] else [])).2.length ∧ n + (((L.foldl (stepU (passU d) kids) ((cs, ks), if kind = 1 then [(item, long)] else [])).2.length : Int) - (if kind = 1 then [(item, long)] else []).length) ≤ n + (L.foldl (stepU (passU d) kids) ((cs, ks), if kind = 1 then [(item, long)] else [])).2.length := by
   by_cases h1 : kind = 1
   ·rw [hnil h1]; simp [h1]; omega
   ·have := List.length_pos_iff.2 (hne h1)
    rw [if_neg h1] at r3 ⊢
    simp only [List.length_nil] at r3 ⊢
    omega
  refine ⟨hlen.1, ⟨by simp only []; omega, fun x hx => ⟨(r1.2.1 x hx).1, Int.le_trans (r1.2.1 x hx).2 hlen.2⟩, fun j hj => (r1.2.2 j hj).mono hlen.2⟩, ⟨r1.1, r2⟩⟩
theorem RAt.count {X : RK} {h : Hp} {d : Nat} {kind : Int} {item : ByteArray} {long many : Int} {kids : List LT} {shares : List Int} {i c : Nat} {az : List AT} {p : Int} {cs cs' : List Int} {ks : List PS}
  (hR : RAt X h (d + 1) (.mk kind item long many kids shares) (.mk i c az) (.mk p cs ks)) (hS : Sep (d + 1) (.mk i c az)) (hl : cs'.length = cs.length) (hl2 : (X.cf kind cs').length = kids.length) :
  RAt X { h with T := upd h.T c (some (.cont 1 ((X.cf kind cs').map encI))) } (d + 1) (.mk kind item long many kids shares) (.mk i c az) (.mk p cs' ks) := by
 obtain ⟨h1, h2, ⟨l1, l2, l3, l4⟩, h4⟩ := hR
 exact ⟨h1, upd_same _ _ _, ⟨hl2, by omega, l3, l4⟩, fun j hj => (h4 j hj).frame (fun _ _ => rfl) (fun x hx => upd_other _ _ (fun e => by subst e; exact (hS j (by omega)).1.2.1 hx))⟩
theorem RAt.hadOne {X : RK} {h : Hp} {d : Nat} {kind : Int} {item : ByteArray} {long many : Int} {kids : List LT} {shares : List Int} {i c : Nat} {az : List AT} {p p' : Int} {cs : List Int} {ks : List PS} {K : AV}
  (hR : RAt X h (d + 1) (.mk kind item long many kids shares) (.mk i c az) (.mk p cs ks)) (hS : Sep (d + 1) (.mk i c az)) (hK : kidsC az K) :
  RAt X { h with H := upd h.H i (some (.cells (cells9 kind item long many kids shares K p' c ++ X.ex (.mk kind item long many kids shares)))) } (d + 1) (.mk kind item long many kids shares) (.mk i c az) (.mk p' cs ks) := by
 obtain ⟨h1, h2, ⟨l1, l2, l3, l4⟩, h4⟩ := hR
 exact ⟨⟨K, upd_same _ _ _, hK⟩, h2, ⟨l1, l2, l3, l4⟩, fun j hj => (h4 j hj).frame (fun x hx => upd_other _ _ (fun e => by subst e; exact (hS j (by omega)).1.1 hx)) (fun _ _ => rfl)⟩
theorem fold_mono {f : LT → PS → PS × List (ByteArray × Int)} {kids : List LT} : ∀ (L : List Nat) (a : (List Int × List PS) × List (ByteArray × Int)), a.2.length ≤ (L.foldl (stepU f kids) a).2.length
 | [], _ => Nat.le_refl _
 | i :: L, a => by
  have := fold_mono (f := f) (kids := kids) L (stepU f kids a i)
  simp only [List.foldl_cons]
  refine Nat.le_trans ?_ this
  simp [stepU]
def LT.kd : LT → Int
 | .mk k _ _ _ _ _ => k
def LT.mn : LT → Int
 | .mk _ _ _ m _ _ => m
def LT.ks : LT → List LT
 | .mk _ _ _ _ l _ => l
def LT.hd (t : LT) : LT := t.ks.getD 0 default
def repK (n : Int) (l : List LT) : LT := .mk 5 ⟨#[]⟩ 0 n l []
def rowT (l : List LT) : LT := .mk 2 ⟨#[]⟩ 0 0 l []
def cnt (t : LT) : Option (LT × Int) := if t.kd = 1 then some (t, 1) else if t.kd = 5 ∧ t.hd.kd = 1 then some (t.hd, t.mn) else none
open Classical in
noncomputable def runN (it : LT) : List LT → Int × Nat
 | [] => (0, 0)
 | x :: xs => match cnt x with
  | some (y, n) => if y = it then (n + (runN it xs).1, (runN it xs).2 + 1) else (0, 0)
  | none => (0, 0)
def manyT (it : LT) (n : Nat) : List LT := List.replicate (n / 100) (repK 100 [it]) ++ if n % 100 = 0 then [] else if n % 100 = 1 then [it] else [repK (n % 100 : Nat) [it]]
noncomputable def gathF : Nat → List LT → List LT
 | 0, _ => []
 | _ + 1, [] => []
 | f + 1, x :: xs => match cnt x with
  | none => x :: gathF f xs
  | some (it, n) => manyT it (n + (runN it xs).1).toNat ++ gathF f (xs.drop (runN it xs).2)
noncomputable def gath (l : List LT) : List LT := gathF l.length l
def flatT (l : List LT) : List LT := l.flatMap fun k => if k.kd = 2 then k.ks else [k]
def gcdN : List Nat → Nat
 | [] => 0
 | x :: xs => Nat.gcd x (gcdN xs)
theorem foldl_gcd : ∀ (l : List Nat) (a : Nat), l.foldl Nat.gcd a = Nat.gcd a (gcdN l)
 | [], a => by simp [gcdN]
 | x :: xs, a => by rw [List.foldl_cons, foldl_gcd xs, gcdN, Nat.gcd_assoc]
theorem gcdN_dvd : ∀ (l : List Nat), ∀ x ∈ l, gcdN l ∣ x
 | y :: ys, x, hx => by
  rcases List.mem_cons.1 hx with rfl | h
  ·exact Nat.gcd_dvd_left _ _
  ·exact Nat.dvd_trans (Nat.gcd_dvd_right _ _) (gcdN_dvd ys x h)
def gcdI (l : List Int) : Nat := gcdN (l.map Int.toNat)
def divI (g : Nat) (l : List Int) : List Int := l.map fun x => x / (g : Int)
theorem gcdI_pos {l : List Int} (h : ∀ x ∈ l, 1 ≤ x) (hn : l ≠ []) : 0 < gcdI l := by
 cases l with
 | nil => exact absurd rfl hn
 | cons x xs =>
  rw [gcdI, List.map_cons, gcdN]
  exact Nat.gcd_pos_of_pos_left _ (by have := h x (by simp); omega)
theorem gcdI_dvd {l : List Int} (h : ∀ x ∈ l, 1 ≤ x) {x : Int} (hx : x ∈ l) : (gcdI l : Int) ∣ x := by
 have h1 := gcdN_dvd (l.map Int.toNat) x.toNat (List.mem_map.2 ⟨x, hx, rfl⟩)
 have h2 : ((x.toNat : Nat) : Int) = x := by have := h x hx; omega
 rw [← h2]
 exact Int.natCast_dvd_natCast.2 h1
def plainT : LT → Bool
 | .mk kind _ _ _ kids _ => kind != 3 && kind != 4 && (kids.map plainT).all id
def WF : LT → Prop
 | .mk kind item long many kids shares => (1 ≤ kind ∧ kind ≤ 5) ∧ (kind = 1 → kids = [] ∧ shares = [] ∧ many = 0) ∧ (kind ≠ 1 → item = ⟨#[]⟩ ∧ long = 0 ∧ kids ≠ []) ∧ (kind = 5 → kids.length = 1 ∧ 1 ≤ many ∧ many ≤ 100) ∧ (kind ≠ 5 → many = 0) ∧
   (kind = 4 → shares.length = kids.length) ∧ (kind ≠ 4 → shares = []) ∧ (∀ x ∈ shares, 1 ≤ x ∧ x ≤ 1000) ∧ (NB long ∧ item.size ≤ 2) ∧ ∀ k ∈ kids, WF k
theorem WF_eq (kind : Int) (item : ByteArray) (long many : Int) (kids : List LT) (shares : List Int) : WF (.mk kind item long many kids shares) = ((1 ≤ kind ∧ kind ≤ 5) ∧ (kind = 1 → kids = [] ∧ shares = [] ∧ many = 0) ∧ (kind ≠ 1 → item = ⟨#[]⟩ ∧ long = 0 ∧ kids ≠ []) ∧ (kind = 5 → kids.length = 1 ∧ 1 ≤ many ∧ many ≤ 100) ∧ (kind ≠ 5 → many = 0) ∧
   (kind = 4 → shares.length = kids.length) ∧ (kind ≠ 4 → shares = []) ∧ (∀ x ∈ shares, 1 ≤ x ∧ x ≤ 1000) ∧ (NB long ∧ item.size ≤ 2) ∧ ∀ k ∈ kids, WF k) := by rw [WF]
open Classical in
noncomputable def stepT : LT → Option LT
 | .mk kind item long many kids shares =>
  if kind = 1 then none
  else if kind = 5 then if many = 1 then some (kids.getD 0 default) else if (kids.getD 0 default).kd = 5 ∧ many * (kids.getD 0 default).mn ≤ 100 then some (repK (many * (kids.getD 0 default).mn) (kids.getD 0 default).ks) else none
  else if kids.length = 1 then some (kids.getD 0 default)
  else if kind = 2 then if gath (flatT kids) = kids then none else some (rowT (gath (flatT kids)))
  else if kind = 4 then if 1 < gcdI shares then some (.mk 4 item long many kids (divI (gcdI shares) shares)) else none
  else if plainT (kids.getD 0 default) = true ∧ ∀ k ∈ kids, k = kids.getD 0 default then some (kids.getD 0 default) else none
def HS : LT → Prop
 | .mk kind item long many kids shares => stepT (.mk kind item long many kids shares) = none ∧ ∀ k ∈ kids, HS k
theorem HS_eq (kind : Int) (item : ByteArray) (long many : Int) (kids : List LT) (shares : List Int) : HS (.mk kind item long many kids shares) = (stepT (.mk kind item long many kids shares) = none ∧ ∀ k ∈ kids, HS k) := by rw [HS]
theorem HS.st {t : LT} (h : HS t) : stepT t = none := by cases t; rw [HS_eq] at h; exact h.1
theorem HS.kids {t : LT} (h : HS t) : ∀ k ∈ t.ks, HS k := by cases t; rw [HS_eq] at h; exact h.2
theorem WF.kids {t : LT} (h : WF t) : ∀ k ∈ t.ks, WF k := by cases t; rw [WF_eq] at h; exact h.2.2.2.2.2.2.2.2.2
theorem WF.ne {t : LT} (h : WF t) (hk : t.kd ≠ 1) : t.ks ≠ [] := by
 cases t; rw [WF_eq] at h; exact (h.2.2.1 hk).2.2
abbrev zP9E : List Nat := [0, 1, 2, 3, 4, 5, 6, 7, 8, 9, 10, 11]
abbrev zP9P : List (Nat × List Nat × List Nat) := []
attribute [go_sem] zP9E zP9P
def formB (kind : Int) (item : ByteArray) (long many : Int) (nk ns : Int) : Bool :=
 (kind == 1 && nk != 0) || (kind == 5 && nk != 1) || (kind != 1 && nk == 0) || (kind == 4 && ns != nk) || (kind != 4 && ns != 0) || (kind != 1 && (item != ⟨#[]⟩ || long != 0)) || (kind != 5 && many != 0)
theorem g_form (kind : Int) (item : ByteArray) (long many : Int) (kids : List LT) (shares : List Int) (h : Hp) (hk : kids.length ≤ 1000) (hs : shares.length ≤ 1000) :
  ACalls Tryz.prog 173 [.agg (encL (.mk kind item long many kids shares))] h (fun r h' => r = .v (.bool (formB kind item long many kids.length shares.length)) ∧ h' = h) := by
 rw [encL_eq]
 have key : ∀ b1 b4 b5 : Bool, (kind == 1) = b1 → (kind == 4) = b4 → (kind == 5) = b5 → (b1 && b4) = false → (b1 && b5) = false → (b4 && b5) = false →
   ACalls Tryz.prog 173 [.agg [.v (.int .i64 kind), .v (.string item), .v (.int .i64 long), .v (.int .i64 many), .row 6 (kids.map encL) none, .row 1 (shares.map encI) none]] h (fun r h' => r = .v (.bool (formB kind item long many kids.length shares.length)) ∧ h' = h) := by
  intro b1 b4 b5 e1 e4 e5
  cases b1 <;> cases b4 <;> cases b5 <;> intro f1 f2 f3 <;> first | (cases f1; done) | (cases f2; done) | (cases f3; done) | skip
  all_goals
   refine gE Tryz.func173 rfl (by kernel_rfl) 77 rfl fun c => ?_
   (repeat' (first | refine gO rfl ?_ | ((first | ((with_reducible refine yS ?_); refine awp_keep zK12 100 (kS ?_)) | ((with_reducible refine yR ?_); refine awp_keep zK12 100 (kR ?_)) | refine gR ?_ | (with_reducible refine wM ?_ ?_) | ((with_reducible refine xS ?_); refine awp_keep zK12 100 (uD 1 zM10 zP9E zP9P 78 rfl (by kernel_rfl) ?_))) <;> ((try with_reducible intro K1 hK1); simp only [go_sem, ↓reduceIte, reduceCtorEq, nA, nB, nC, nD, nE, nF, e1, e4, e5, nG, nH, nI] <;> and_intros <;> first | (apply hK1; clear hK1 K1) | (intros; first | omega | decide | (simp_all <;> omega)) | skip)) | (refine awp_cond (t := _) rfl (fun hcnd => ?_) (fun hcnd => ?_) <;> first | (cases hcnd; done) | (simp only [hcnd]) | skip)))
  all_goals simp only [Tryz.results173, go_sem, ↓reduceIte, reduceCtorEq, nA, nB, nC, nD, nE, nF]
  all_goals exact ⟨_, _, Weak.refl _, Hp.le.refl _, by clear hs hk c; simp only [formB, bne, Bool.not_eq_true', Bool.not_eq_false'] at *; simp only [*, Bool.not_true, Bool.not_false, Bool.false_and, Bool.true_and, Bool.and_false, Bool.false_or, Bool.true_or, Bool.or_true, Bool.or_false], rfl⟩
 exact key _ _ _ rfl rfl rfl (by simp; omega) (by simp; omega) (by simp; omega)
open Go.RowKit
theorem gb_refl (w : World) (r : Option Nat) : w.grownBy w r := ⟨rfl, rfl, rfl, Nat.le_refl _, fun _ _ _ => rfl⟩
theorem gb_trans {a b c : World} {r : Option Nat} (h : a.grownBy b r) (k : b.grownBy c r) : a.grownBy c r :=
  ⟨k.os.trans h.os, k.tape.trans h.tape, k.output.trans h.output, Nat.le_trans h.size k.size, fun i hi hn => (k.block i (Nat.lt_of_lt_of_le hi h.size) hn).trans (h.block i hi hn)⟩
theorem gb_drewN {a w : World} {r : Option Nat} (h : a.grownBy w r) (n : Nat) : a.grownBy (w.drewN n) r := ⟨h.os, h.tape, h.output, h.size, h.block⟩
theorem gb_alloc {a w : World} {r : Option Nat} (h : a.grownBy w r) (o : Obj) : a.grownBy (w.alloc o) r :=
  ⟨h.os, h.tape, h.output, Nat.le_trans h.size (by simp), fun i hi hne => (Below.heap_alloc w o i (Nat.lt_of_lt_of_le hi h.size)).trans (h.block i hi hne)⟩
theorem gb_below {a w : World} (h : Below a.heap.size a w) (r : Option Nat) : a.grownBy w r := ⟨h.os, h.tape, h.output, h.size, fun i hi _ => h.block i hi⟩
def Lst (w : World) (lo size : Nat) (v : Value) (xs : List Value) : Prop :=
  ∃ (A : Option Addr) (n c : Nat), v = .slice A n c ∧ n ≤ c ∧ c ≤ maxLen ∧ xs.length = n * size ∧
    (0 < n → ∃ g o, A = some ⟨g, o, none⟩ ∧ lo ≤ g ∧ g < w.heap.size ∧ ∀ j u, xs[j]? = some u → w.cell? ⟨g, o + j, none⟩ = some u)
theorem Lst.mono {w : World} {lo lo' size : Nat} {v : Value} {xs : List Value} (h : Lst w lo size v xs) (hl : lo' ≤ lo) : Lst w lo' size v xs := by
  obtain ⟨A, n, c, hv, hn, hc, hx, hr⟩ := h
  exact ⟨A, n, c, hv, hn, hc, hx, fun h0 => let ⟨g, o, hA, hg, hlt, hcell⟩ := hr h0; ⟨g, o, hA, Nat.le_trans hl hg, hlt, hcell⟩⟩
theorem Lst.keep {w w' : World} {lo size : Nat} {v : Value} {xs : List Value} (h : Lst w lo size v xs) (hs : w.heap.size ≤ w'.heap.size)
    (hk : ∀ k, lo ≤ k → k < w.heap.size → w'.heap[k]? = w.heap[k]?) : Lst w' lo size v xs := by
  obtain ⟨A, n, c, hv, hn, hc, hx, hr⟩ := h
  refine ⟨A, n, c, hv, hn, hc, hx, fun h0 => ?_⟩
  obtain ⟨g, o, hA, hg, hlt, hcell⟩ := hr h0
  exact ⟨g, o, hA, hg, Nat.lt_of_lt_of_le hlt hs, fun j u hu => (World.cell?_of_block (w := w) (hk g hg hlt)).trans (hcell j u hu)⟩
theorem Lst.below {w w' : World} {lo size : Nat} {v : Value} {xs : List Value} (h : Lst w lo size v xs) (hb : Below w.heap.size w w') : Lst w' lo size v xs :=
  h.keep hb.size fun k _ hk => hb.block k hk
theorem Lst.nil (w : World) (lo size : Nat) : Lst w lo size (.slice none 0 0) [] := ⟨none, 0, 0, rfl, Nat.le_refl _, Nat.zero_le _, by simp, fun h => absurd h (by omega)⟩
theorem Lst.at_ {w : World} {lo n c k : Nat} {A : Option Addr} {xs : List Value} (h : Lst w lo 1 (.slice A n c) xs) (hk : k < n) :
    ∃ g o u, A = some ⟨g, o, none⟩ ∧ lo ≤ g ∧ g < w.heap.size ∧ xs[k]? = some u ∧ w.cell? ⟨g, o + k, none⟩ = some u := by
  obtain ⟨A', n', c', hv, hn, hc, hx, hr⟩ := h
  simp only [Value.slice.injEq] at hv
  obtain ⟨rfl, rfl, rfl⟩ := hv
  obtain ⟨g, o, hA, hg, hlt, hcell⟩ := hr (by omega)
  have hl : k < xs.length := by omega
  exact ⟨g, o, xs[k], hA, hg, hlt, List.getElem?_eq_getElem hl, hcell k _ (List.getElem?_eq_getElem hl)⟩
def IsStream (ts : TypeId) (w : World) (b M : Nat) : Prop :=
  ∃ (a : Option Addr) (len cap : Nat) (at_ : Nat), w.heap[b]? = some (.cells #[.slice a len cap, .int .i64 (at_ : Int)] ts (0, 0)) ∧ at_ ≤ M ∧ len ≤ 9223372036854775807 ∧
    (0 < len → ∃ x, a = some x ∧ x.block < b ∧ x.spot = none ∧ ∀ i, i < len → ∃ z : Int, w.cell? ⟨x.block, x.off + i, none⟩ = some (.int .i64 z))
theorem block_lt {w : World} {b : Nat} {o : Obj} (h : w.heap[b]? = some o) : b < w.heap.size := by
  rcases Nat.lt_or_ge b w.heap.size with hl | hl
  · exact hl
  · rw [Array.getElem?_eq_none hl] at h; cases h
theorem IsStream.lt {ts : TypeId} {w : World} {b M : Nat} (h : IsStream ts w b M) : b < w.heap.size := by
  obtain ⟨_, _, _, _, hh, _⟩ := h
  exact block_lt hh
theorem IsStream.below {ts : TypeId} {w w' : World} {b M : Nat} (h : IsStream ts w b M) (hb : Below w.heap.size w w') : IsStream ts w' b M := by
  have hlt := h.lt
  obtain ⟨a, len, cap, at_, hh, h1, h2, h3⟩ := h
  refine ⟨a, len, cap, at_, (hb.block b hlt).trans hh, h1, h2, fun h0 => ?_⟩
  obtain ⟨x, hx, hxb, hs, hc⟩ := h3 h0
  refine ⟨x, hx, hxb, hs, fun i hi => ?_⟩
  obtain ⟨z, hz⟩ := hc i hi
  exact ⟨z, (hb.cell (p := ⟨x.block, x.off + i, none⟩) (by show x.block < _; omega)).trans hz⟩
theorem IsStream.mono {ts : TypeId} {w : World} {b M M' : Nat} (h : IsStream ts w b M) (hM : M ≤ M') : IsStream ts w b M' := by
  obtain ⟨a, len, cap, at_, hh, h1, h2⟩ := h
  exact ⟨a, len, cap, at_, hh, by omega, h2⟩
theorem IsStream.alloc {ts : TypeId} {w : World} {b M : Nat} (h : IsStream ts w b M) (o : Obj) : IsStream ts (w.alloc o) b M :=
  h.below ((Below.refl _ _).alloc (Nat.le_refl _) o)
theorem IsStream.drewN {ts : TypeId} {w : World} {b M : Nat} (h : IsStream ts w b M) (n : Nat) : IsStream ts (w.drewN n) b M := h
structure Goes (ts : TypeId) (b M k : Nat) (w w' : World) : Prop where
  is : IsStream ts w' b (M + k)
  gb : w.grownBy w' (some b)
theorem Goes.refl {ts : TypeId} {b M k : Nat} {w : World} (h : IsStream ts w b M) : Goes ts b M k w w := ⟨h.mono (by omega), gb_refl _ _⟩
theorem Goes.trans {ts : TypeId} {b M k j m : Nat} {w w1 w2 : World} (h : Goes ts b M k w w1) (h' : Goes ts b (M + k) j w1 w2) (hm : k + j ≤ m) : Goes ts b M m w w2 :=
  ⟨h'.is.mono (by omega), gb_trans h.gb h'.gb⟩
theorem Goes.more {ts : TypeId} {b M k k' : Nat} {w w1 : World} (h : Goes ts b M k w w1) (hk : k ≤ k') : Goes ts b M k' w w1 := ⟨h.is.mono (by omega), h.gb⟩
theorem Goes.below {ts : TypeId} {b M k : Nat} {w w1 w2 : World} (h : Goes ts b M k w w1) (hb : Below w1.heap.size w1 w2) : Goes ts b M k w w2 :=
  ⟨h.is.below hb, gb_trans h.gb (gb_below hb _)⟩
theorem Goes.alloc {ts : TypeId} {b M k : Nat} {w w1 : World} (h : Goes ts b M k w w1) (o : Obj) : Goes ts b M k w (w1.alloc o) := ⟨h.is.alloc o, gb_alloc h.gb o⟩
theorem Goes.drewN {ts : TypeId} {b M k : Nat} {w w1 : World} (h : Goes ts b M k w w1) (n : Nat) : Goes ts b M k w (w1.drewN n) := ⟨h.is, gb_drewN h.gb n⟩
def outsideB (n lo hi : Int) : Bool := decide (n < lo) || decide (hi < n)
set_option maxHeartbeats 400000 in
theorem in_any (n lo hi : Int) (w : World) :
    Calls Tryz.prog 87 #[.int .i64 n, .int .i64 lo, .int .i64 hi] w fun e w' => e = .returned (.bool (!outsideB n lo hi)) ∧ w = w' := by
  by_cases h1 : lo ≤ n
  · go_enter Tryz.func87, Tryz.ntmps87
    go_wp2
    go_ret
    exact ⟨by have : ¬ n < lo := by omega
              simp [outsideB, this, ← Int.not_lt], rfl⟩
  · have h1' : decide (lo ≤ n) = false := by simpa using h1
    go_enter Tryz.func87, Tryz.ntmps87
    go_wp2
    go_ret
    exact ⟨by have : n < lo := by omega
              simp [outsideB, this], rfl⟩
def keyByte (i n : Nat) : Bool := (decide (97 ≤ n) && decide (n ≤ 122)) || (decide (0 < i) && ((decide (48 ≤ n) && decide (n ≤ 57)) || n == 45 || n == 95))
def keyTo (s : ByteArray) : Nat → Bool
  | 0 => true
  | k + 1 => keyTo s k && keyByte k (s.data.toList.getD k 0).toNat
def keyB (s : ByteArray) : Bool := keyTo s s.size && decide (1 ≤ s.size) && decide (s.size ≤ 40)
theorem keyTo_le (s : ByteArray) {k m : Nat} (h : k ≤ m) (hm : keyTo s m = true) : keyTo s k = true := by
  induction m with
  | zero => obtain rfl : k = 0 := by omega
            rfl
  | succ m ih =>
    by_cases e : k = m + 1
    · rw [e]; exact hm
    · rw [keyTo, Bool.and_eq_true] at hm
      exact ih (by omega) hm.1
theorem keyB_no (s : ByteArray) {k : Nat} (h : k ≤ s.size) (hk : keyTo s k = false) : keyB s = false := by
  have h2 : keyTo s s.size = false := by
    cases h3 : keyTo s s.size with
    | false => rfl
    | true => rw [keyTo_le s h h3] at hk; cases hk
  simp [keyB, h2]
theorem getD_byte (s : ByteArray) (k : Nat) (h : k < s.size) : s.data.toList.getD k 0 = s[k] := by
  have h' : k < s.data.toList.length := h
  simp [List.getD, List.getElem?_eq_getElem h']; rfl
set_option maxRecDepth 100000 in
set_option maxHeartbeats 2000000 in
theorem isKey_any (s : ByteArray) (hsz : s.size ≤ 1000000000000) (w : World) :
    Calls Tryz.prog 86 #[.string s] w fun e w' => e = .returned (.bool (keyB s)) ∧ w = w' := by
  go_enter Tryz.func86, Tryz.ntmps86
  go_wp2_with fail
  go_loopg [3, 4] s.size (fun g i _ wr => ∃ k : Nat, k + g = s.size ∧ i = .int .i64 k ∧ keyTo s k = true ∧ w = wr)
  case atStart => exact ⟨0, by omega, rfl, rfl, rfl⟩
  case round =>
    obtain ⟨k, hk, rfl, hkey, rfl⟩ := hrel
    have HK := Lib.hid hkey
    clear hkey
    by_cases hg : gk = 0
    · obtain rfl : k = s.size := by omega
      by_cases h0 : s.size = 0
      · have e0 : s = ⟨#[]⟩ := by
          obtain ⟨⟨l⟩⟩ := s
          have : l = [] := List.eq_nil_of_length_eq_zero h0
          rw [this]
        subst e0
        go_wp2_with fail
        go_ret
        exact ⟨rfl, rfl⟩
      · have hne : s.toList.isEmpty = false := by
          rw [ByteArray.toList_eq]
          cases hl : s.data.toList with
          | nil => exact absurd (show s.data.toList.length = 0 by rw [hl]; rfl) h0
          | cons _ _ => rfl
        go_wp2_with fail
        go_ret
        refine ⟨?_, rfl⟩
        have e1 : keyB s = decide ((s.size : Int) ≤ 40) := by
          have h1 : decide (1 ≤ s.size) = true := by simp; omega
          rw [keyB, HK.out, h1, Bool.true_and, Bool.true_and, Bool.eq_iff_iff]; simp; omega
        rw [e1]; rfl
    · have hlt : k < s.size := by omega
      have HG := Lib.hid (show keyTo s (k + 1) = (keyTo s k && keyByte k s[k].toNat) by rw [keyTo, getD_byte s k hlt])
      go_upto_region 5 with fail
      generalize s[k].toNat = n at *
      go_cut [40] (fun s40 wx => s40 = .bool (!keyByte k n) ∧ w = wx)
      case first =>
        by_cases c1 : n < 97
        · by_cases ck : k ≤ 0
          · have HV := Lib.hid (show keyByte k n = false by simp [keyByte]; omega)
            go_wp2_with fail
            go_meet
            exact ⟨by rw [HV.out]; first | rfl | (simp; omega), rfl⟩
          · have ck' : 0 < k := by omega
            by_cases c2 : n < 48
            · by_cases c3 : n = 45
              · have b3 : ((n : Int) == 45) = true := by simp; omega
                have HV := Lib.hid (show keyByte k n = true by simp [keyByte]; omega)
                go_wp2_with fail
                go_meet
                exact ⟨by rw [HV.out]; first | rfl | (simp; omega), rfl⟩
              · have b3 : ((n : Int) == 45) = false := by simp; omega
                have b4 : ((n : Int) == 95) = false := by simp; omega
                have HV := Lib.hid (show keyByte k n = false by simp [keyByte]; omega)
                go_wp2_with fail
                go_meet
                exact ⟨by rw [HV.out]; first | rfl | (simp; omega), rfl⟩
            · by_cases c3 : n ≤ 57
              · have HV := Lib.hid (show keyByte k n = true by simp [keyByte]; omega)
                go_wp2_with fail
                go_meet
                exact ⟨by rw [HV.out]; first | rfl | (simp; omega), rfl⟩
              · have b3 : ((n : Int) == 45) = false := by simp; omega
                by_cases c4 : n = 95
                · have b4 : ((n : Int) == 95) = true := by simp; omega
                  have HV := Lib.hid (show keyByte k n = true by simp [keyByte]; omega)
                  go_wp2_with fail
                  go_meet
                  exact ⟨by rw [HV.out]; first | rfl | (simp; omega), rfl⟩
                · have b4 : ((n : Int) == 95) = false := by simp; omega
                  have HV := Lib.hid (show keyByte k n = false by simp [keyByte]; omega)
                  go_wp2_with fail
                  go_meet
                  exact ⟨by rw [HV.out]; first | rfl | (simp; omega), rfl⟩
        · by_cases c2 : n ≤ 122
          · have HV := Lib.hid (show keyByte k n = true by simp [keyByte]; omega)
            go_wp2_with fail
            go_meet
            exact ⟨by rw [HV.out]; first | rfl | (simp; omega), rfl⟩
          · by_cases ck : k ≤ 0
            · have HV := Lib.hid (show keyByte k n = false by simp [keyByte]; omega)
              go_wp2_with fail
              go_meet
              exact ⟨by rw [HV.out]; first | rfl | (simp; omega), rfl⟩
            · have ck' : 0 < k := by omega
              have b3 : ((n : Int) == 45) = false := by simp; omega
              have b4 : ((n : Int) == 95) = false := by simp; omega
              have HV := Lib.hid (show keyByte k n = false by simp [keyByte]; omega)
              go_wp2_with fail
              go_meet
              exact ⟨by rw [HV.out]; first | rfl | (simp; omega), rfl⟩
      case rest =>
        obtain ⟨rfl, rfl⟩ := hcut
        rcases Bool.eq_false_or_eq_true (keyByte k n) with c | c
        · rw [c]
          go_wp2_with fail
          go_roundg (gk - 1)
          case measure => omega
          case rel => exact ⟨k + 1, by omega, by go_num, by rw [HG.out, HK.out, c]; rfl, rfl⟩
        · rw [c]
          go_wp2_with fail
          go_ret
          refine ⟨?_, rfl⟩
          have : keyB s = false := keyB_no s (show k + 1 ≤ s.size by omega) (by rw [HG.out, c, Bool.and_false])
          rw [this]; rfl
theorem dropWhile_nil {α : Type} (p : α → Bool) : ∀ l : List α, (l.dropWhile p).isEmpty = l.all p
  | [] => rfl
  | x :: l => by
    rw [List.dropWhile_cons, List.all_cons]
    cases h : p x with
    | true => simpa using dropWhile_nil p l
    | false => simp
theorem dropWhile_head {α : Type} (p : α → Bool) : ∀ (l : List α) (x : α) (r : List α), l.dropWhile p = x :: r → p x = false
  | [], x, r, h => by simp at h
  | y :: l, x, r, h => by
    rw [List.dropWhile_cons] at h
    cases hy : p y with
    | true => rw [hy] at h; exact dropWhile_head p l x r (by simpa using h)
    | false => rw [hy] at h; simp at h; rw [← h.1]; exact hy
theorem trimS_empty (l cs : List UInt8) : (Lib.trimS l cs).isEmpty = l.all (cs.contains ·) := by
  unfold Lib.trimS Lib.trimLeftS Lib.trimRightS
  rw [dropWhile_nil, List.all_reverse]
  cases h : l.reverse.dropWhile (cs.contains ·) with
  | nil =>
    have := dropWhile_nil (cs.contains ·) l.reverse
    rw [h, List.all_reverse] at this
    rw [← this]; rfl
  | cons x r =>
    have h1 := dropWhile_head _ _ _ _ h
    have h2 := dropWhile_nil (cs.contains ·) l.reverse
    rw [h, List.all_reverse] at h2
    rw [List.all_cons, h1, ← h2]; rfl
def smallL : List UInt8 := [97, 98, 99, 100, 101, 102, 103, 104, 105, 106, 107, 108, 109, 110, 111, 112, 113, 114, 115, 116, 117, 118, 119, 120, 121, 122]
def keySet : List UInt8 := [97, 98, 99, 100, 101, 102, 103, 104, 105, 106, 107, 108, 109, 110, 111, 112, 113, 114, 115, 116, 117, 118, 119, 120, 121, 122, 48, 49, 50, 51, 52, 53, 54, 55, 56, 57, 45, 95]
theorem keySet_byte : ∀ n, n < 256 → keySet.contains (UInt8.ofNat n) = keyByte 1 n := by decide +kernel
theorem small_byte : ∀ n, n < 256 → decide (0 ≤ Lib.indexByte smallL (UInt8.ofNat n)) = keyByte 0 n := by decide +kernel
theorem keyByte_pos (i n : Nat) (h : 0 < i) : keyByte i n = keyByte 1 n := by simp [keyByte, h]
theorem keyByte_zero (n : Nat) (h : keyByte 0 n = true) : keyByte 1 n = true := by simp [keyByte] at h ⊢; omega
theorem ofNat_toNat8 (b : UInt8) : UInt8.ofNat b.toNat = b := by simp
theorem keyTo_all (s : ByteArray) (x : UInt8) (r : List UInt8) (h : s.data.toList = x :: r) : ∀ k, k ≤ r.length → keyTo s (k + 1) = (keyByte 0 x.toNat && (r.take k).all (keySet.contains ·))
  | 0, _ => by simp [keyTo, h]
  | k + 1, hk => by
    rw [keyTo, keyTo_all s x r h k (by omega), h]
    have hg : (x :: r).getD (k + 1) 0 = r[k]'(by omega) := by simp [List.getD, List.getElem?_eq_getElem (show k < r.length by omega)]
    rw [hg, keyByte_pos (k + 1) _ (by omega), ← keySet_byte _ (UInt8.toNat_lt _), ofNat_toNat8, List.take_succ_eq_append_getElem (by omega), List.all_append, List.all_cons, List.all_nil, Bool.and_true, Bool.and_assoc]
theorem keyB_eq (s : ByteArray) (x : UInt8) (r : List UInt8) (h : s.data.toList = x :: r) (h40 : s.size ≤ 40) :
    keyB s = ((x :: r).all (keySet.contains ·) && decide (0 ≤ Lib.indexByte smallL x)) := by
  have hl : s.size = r.length + 1 := by show s.data.toList.length = _; rw [h]; rfl
  have h1 : decide (1 ≤ s.size) = true := by simp; omega
  have h2 : decide (s.size ≤ 40) = true := by simpa using h40
  rw [keyB, h1, h2, Bool.and_true, Bool.and_true, hl, keyTo_all s x r h r.length (Nat.le_refl _), List.take_length, List.all_cons]
  have e := small_byte x.toNat (UInt8.toNat_lt _)
  have e2 := keySet_byte x.toNat (UInt8.toNat_lt _)
  rw [ofNat_toNat8] at e e2
  rw [e, e2]
  cases h0 : keyByte 0 x.toNat with
  | false => simp
  | true => rw [keyByte_zero _ h0]; simp
theorem mk_toList (l : List UInt8) : (ByteArray.mk l.toArray).toList = l := by rw [ByteArray.toList_eq]
set_option maxRecDepth 100000 in
set_option maxHeartbeats 1000000 in
theorem Key_any (s : ByteArray) (hsz : s.size ≤ 1000000000000) (w : World) :
    Calls Tryz.prog 88 #[.string s] w fun e w' => e = .returned (.bool (keyB s)) ∧ Below w.heap.size w w' := by
  rcases Bool.eq_false_or_eq_true (outsideB (s.size : Int) 1 40) with o | o
  · have HV := Lib.hid (show keyB s = false by
      simp [outsideB] at o
      have : (decide (1 ≤ s.size) && decide (s.size ≤ 40)) = false := by simp; omega
      rw [keyB, Bool.and_assoc, this, Bool.and_false])
    go_enter Tryz.func88, Tryz.ntmps88
    go_wp2_with fail
    refine (in_any _ _ _ _).mono ?_
    rintro e w' ⟨rfl, rfl⟩
    rw [o]
    go_wp2_with fail
    go_ret
    exact ⟨by rw [HV.out]; rfl, Below.refl _ _⟩
  · have hb : 1 ≤ s.size ∧ s.size ≤ 40 := by simp [outsideB] at o; omega
    obtain ⟨hb1, hb2⟩ := hb
    obtain ⟨x, r, hl⟩ : ∃ x r, s.data.toList = x :: r := by
      cases hl : s.data.toList with
      | nil => exact absurd (show s.data.toList.length = 0 by rw [hl]; rfl) (by show s.size ≠ 0; omega)
      | cons x r => exact ⟨x, r, rfl⟩
    have hx : s[0]'(by omega) = x := by rw [← getD_byte s 0 (by omega), hl]; rfl
    have HV := Lib.hid (keyB_eq s x r hl hb2)
    have HT := Lib.hid (show (Lib.trimS s.data.toList keySet).isEmpty = (x :: r).all (keySet.contains ·) by rw [trimS_empty, hl])
    clear hl
    go_enter Tryz.func88, Tryz.ntmps88
    go_wp2_with fail
    refine (in_any _ _ _ _).mono ?_
    rintro e w' ⟨rfl, rfl⟩
    rw [o]
    go_wp2_with fail
    refine (Any.strings_Trim_laid Tryz.lays160 (by kernel_rfl) s ⟨keySet.toArray⟩ w (by omega) (by decide) (ascii_of_all (by decide))).mono ?_
    rintro e w1 ⟨rfl, hb⟩
    have hq : (ByteArray.mk (Lib.trimS s.data.toList keySet).toArray).toList.isEmpty = (x :: r).all (keySet.contains ·) := by rw [mk_toList]; exact HT.out
    generalize ByteArray.mk (Lib.trimS s.data.toList keySet).toArray = tr at *
    rcases Bool.eq_false_or_eq_true ((x :: r).all (keySet.contains ·)) with c | c
    · rw [c] at hq HV
      clear c HT
      go_wp2_with fail
      refine (Tryz.strings_IndexByte ⟨smallL.toArray⟩ (x.toNat : Int) w1).mono ?_
      rintro e w2 ⟨rfl, rfl⟩
      rw [show ((x.toNat : Int).toNat.toUInt8) = x by simp]
      go_wp2_with fail
      go_ret
      exact ⟨by rw [HV.out, Bool.true_and]; rfl, hb⟩
    · rw [c] at hq HV
      clear c HT
      go_wp2_with fail
      go_ret
      exact ⟨by rw [HV.out]; rfl, hb⟩
theorem acalls_pure {P : Program} {f : Nat} (hok : fnOk P f = true) (xs : List Value) {v : Value} (h1 : v.oneCell' = true) (hc : ∀ w, Calls P f xs.toArray w fun e w' => e = .returned v ∧ RowKit.Below w.heap.size w w') (h : Hp) : ACalls P f (xs.map .v) h (fun r h' => r = .v v ∧ h' = h) := by
 refine ⟨hok, fun G w vs hs hl ha => ?_⟩
 have e : vs = xs.toArray := by
  apply Array.ext
  ·simpa using hl
  ·intro j hj hj'
   have hjx : j < (xs.map AV.v).length := by rw [← hl]; exact hj
   have := ha j hjx
   simp only [List.getElem_map] at this
   have h2 : vs.getD j undef = vs[j] := by simp [Array.getD, hj]
   rw [h2] at this
   simp only [List.getElem_toArray]
   generalize vs[j] = y at this
   cases this
   rfl
 subst e
 refine (hc w).mono ?_
 rintro _ w' ⟨rfl, hb⟩
 have hb' : ∀ b, b < w.heap.size → w'.heap[b]? = w.heap[b]? := fun b hb2 => hb.block b hb2
 exact ⟨_, h, G, v, rfl, ⟨rfl, rfl⟩, GLe.refl _, Fr.below (Fr.refl _ _ _) hb' hb.os hb.tape hb.output hb.size, hs.below hb', .v _ h1⟩
theorem a_isKey (s : ByteArray) (hs : s.size ≤ 1000000000000) (h : Hp) : ACalls Tryz.prog 86 [.v (.string s)] h (fun r h' => r = .v (.bool (keyB s)) ∧ h' = h) :=
 acalls_pure (by kernel_rfl) [.string s] rfl (fun w => (isKey_any s hs w).mono fun e w' ⟨h1, h2⟩ => ⟨h1, by subst h2; exact ⟨rfl, rfl, rfl, Nat.le_refl _, fun _ _ => rfl⟩⟩) h
theorem a_key (s : ByteArray) (hs : s.size ≤ 1000000000000) (h : Hp) : ACalls Tryz.prog 88 [.v (.string s)] h (fun r h' => r = .v (.bool (keyB s)) ∧ h' = h) :=
 acalls_pure (by kernel_rfl) [.string s] rfl (fun w => Key_any s hs w) h
abbrev zPAE : List Nat := [0, 1, 2, 3, 4, 5, 6, 7, 8, 9, 10]
abbrev zPAP : List (Nat × List Nat × List Nat) := []
attribute [go_sem] zPAE zPAP
theorem a_in (x lo hi : Int) (h : Hp) : ACalls Tryz.prog 87 [.v (.int .i64 x), .v (.int .i64 lo), .v (.int .i64 hi)] h (fun r h' => r = .v (.bool (decide (lo ≤ x) && decide (x ≤ hi))) ∧ h' = h) := by
 refine gE Tryz.func87 rfl (by kernel_rfl) 12 rfl fun c => ?_
 (repeat (first | refine gO rfl ?_ | (refine gR fun K1 hK1 => ?_; simp only [go_sem, ↓reduceIte, reduceCtorEq, nA, nB, nC, nD, nE, nF] <;> and_intros <;> (apply hK1; clear hK1 K1))))
 simp only [Tryz.results87, go_sem, ↓reduceIte, reduceCtorEq, nA, nB, nC, nD, nE, nF]
 exact ⟨_, _, Weak.refl _, Hp.le.refl _, rfl, rfl⟩
theorem a_when (b : Bool) (e : Int) (h : Hp) : ACalls Tryz.prog 28 [.v (.bool b), .v (.int .i64 e)] h (fun r h' => r = .v (.int .i64 (if b then e else 0)) ∧ h' = h) := by
 refine gE Tryz.func28 rfl (by kernel_rfl) 5 rfl fun c => ?_
 (repeat (first | refine gO rfl ?_ | (refine gR fun K1 hK1 => ?_; simp only [go_sem, ↓reduceIte, reduceCtorEq, nA, nB, nC, nD, nE, nF] <;> and_intros <;> (apply hK1; clear hK1 K1))))
 refine awp_cond (t := _) rfl (fun h1 => ?_) (fun h1 => ?_)
 ·subst h1
  (repeat (first | refine gO rfl ?_ | (refine gR fun K1 hK1 => ?_; simp only [go_sem, ↓reduceIte, reduceCtorEq, nA, nB, nC, nD, nE, nF] <;> and_intros <;> (apply hK1; clear hK1 K1))))
  simp only [Tryz.results28, go_sem, ↓reduceIte, reduceCtorEq, nA, nB, nC, nD, nE, nF]
  exact ⟨_, _, Weak.refl _, Hp.le.refl _, rfl, rfl⟩
 ·subst h1
  (repeat (first | refine gO rfl ?_ | (refine gR fun K1 hK1 => ?_; simp only [go_sem, ↓reduceIte, reduceCtorEq, nA, nB, nC, nD, nE, nF] <;> and_intros <;> (apply hK1; clear hK1 K1))))
  simp only [Tryz.results28, go_sem, ↓reduceIte, reduceCtorEq, nA, nB, nC, nD, nE, nF]
  exact ⟨_, _, Weak.refl _, Hp.le.refl _, rfl, rfl⟩
def aggOf (cs : List AV) : AV := .agg cs
theorem g_index51 (fid : Nat) (caps : List AV) (xs : List (List AV)) (hx : ∀ j, j < xs.length → (xs.getD j []).length = 6) (hl : xs.length ≤ 100000) (I P : Nat → Hp → Prop) (h : Hp) (h0 : I 0 h)
  (step : ∀ j h, j < xs.length → I j h → ACalls Tryz.prog fid (aggOf (xs.getD j []) :: caps) h (fun r h' => ∃ b, r = .v (.bool b) ∧ (b = true → P j h') ∧ (b = false → I (j + 1) h'))) :
  ACalls Tryz.prog 170 [.row 6 xs none, .fn fid caps] h (fun r h' => (∃ j : Nat, j < xs.length ∧ r = .v (.int .i64 j) ∧ P j h') ∨ r = .v (.int .i64 (-1)) ∧ I xs.length h') := by
 refine gE Tryz.func170 rfl (by kernel_rfl) 17 rfl fun c => ?_
 (repeat (first | refine gO rfl ?_ | (refine gR fun K1 hK1 => ?_; simp only [go_sem, ↓reduceIte, reduceCtorEq, nA, nB, nC, nD, nE, nF] <;> and_intros <;> (apply hK1; clear hK1 K1))))
 refine awp_loopC (rl false [0, 2, 5, 2, 10]) 0 (fun g s => ∃ (j : Nat) (h' : Hp), g + j = xs.length ∧ I j h' ∧ s = ⟨((.row 6 xs none) :: (.fn fid caps) :: (jnk 5 ((.v (.int .i64 xs.length)) :: (.v (.int .i64 j)) :: (jnk 10 [])))), [], h'⟩) xs.length ⟨0, h, by omega, h0, rfl⟩ ?_
 rintro g _ ⟨j, h', hj, hI, rfl⟩
 (repeat (first | refine gO rfl ?_ | (refine gR fun K1 hK1 => ?_; simp only [go_sem, ↓reduceIte, reduceCtorEq, nA, nB, nC, nD, nE, nF] <;> and_intros <;> (apply hK1; clear hK1 K1))))
 refine awp_cond (t := _) rfl (fun h1 => ?_) (fun h1 => ?_)
 ·simp only [decide_eq_true_eq] at h1
  have hjk : j < xs.length := by omega
  have hlen := hx j hjk
  have st := step j h' hjk hI
  (repeat (first | refine gO rfl ?_ | (refine gR fun K1 hK1 => ?_; simp only [go_sem, ↓reduceIte, reduceCtorEq, nA, nB, nC, nD, nE, nF, Int.toNat_natCast, hlen] <;> and_intros <;> first | (apply hK1; clear hK1 K1) | (intros; (omega)) | skip)))
  rw [show List.take 6 (xs.getD j []) = xs.getD j [] from List.take_of_length_le (Nat.le_of_eq hlen)]
  refine st.mono ?_; rintro _ _ ⟨b, rfl, hb1, hb2⟩; apply hK1; clear hK1 K1
  (repeat ((refine gO rfl ?_)))
  refine awp_cond (t := _) rfl (fun h2 => ?_) (fun h2 => ?_)
  ·(repeat (first | refine gO rfl ?_ | (refine gR fun K1 hK1 => ?_; simp only [go_sem, ↓reduceIte, reduceCtorEq, nA, nB, nC, nD, nE, nF] <;> and_intros <;> (apply hK1; clear hK1 K1))))
   simp only [Tryz.results170, go_sem, ↓reduceIte, reduceCtorEq, nA, nB, nC, nD, nE, nF]
   exact ⟨_, _, Weak.refl _, Hp.le.refl _, .inl ⟨j, hjk, rfl, hb1 h2⟩⟩
  ·(repeat (first | refine gO rfl ?_ | (refine gR fun K1 hK1 => ?_; simp only [go_sem, ↓reduceIte, reduceCtorEq, nA, nB, nC, nD, nE, nF] <;> and_intros <;> first | (apply hK1; clear hK1 K1) | (intros; (omega)))))
   exact ⟨g - 1, by omega, j + 1, _, by omega, hb2 h2, rfl⟩
 ·simp only [decide_eq_false_iff_not] at h1
  have hjk : j = xs.length := by omega
  subst hjk
  (repeat (first | refine gO rfl ?_ | (refine gR fun K1 hK1 => ?_; simp only [go_sem, ↓reduceIte, reduceCtorEq, nA, nB, nC, nD, nE, nF] <;> and_intros <;> (apply hK1; clear hK1 K1))))
  simp only [Tryz.results170, go_sem, ↓reduceIte, reduceCtorEq, nA, nB, nC, nD, nE, nF]
  exact ⟨_, _, Weak.refl _, Hp.le.refl _, .inr ⟨rfl, hI⟩⟩
theorem g_contains41 (fid : Nat) (caps : List AV) (xs : List (List AV)) (hx : ∀ j, j < xs.length → (xs.getD j []).length = 6) (hl : xs.length ≤ 100000) (I P : Nat → Hp → Prop) (h : Hp) (h0 : I 0 h)
  (step : ∀ j h, j < xs.length → I j h → ACalls Tryz.prog fid (aggOf (xs.getD j []) :: caps) h (fun r h' => ∃ b, r = .v (.bool b) ∧ (b = true → P j h') ∧ (b = false → I (j + 1) h'))) :
  ACalls Tryz.prog 123 [.row 6 xs none, .fn fid caps] h (fun r h' => (∃ j : Nat, j < xs.length ∧ r = .v (.bool true) ∧ P j h') ∨ r = .v (.bool false) ∧ I xs.length h') := by
 refine gE Tryz.func123 rfl (by kernel_rfl) 7 rfl fun c => ?_
 (repeat (first | refine gO rfl ?_ | (refine gR fun K1 hK1 => ?_; simp only [go_sem, ↓reduceIte, reduceCtorEq, nA, nB, nC, nD, nE, nF] <;> and_intros <;> first | (apply hK1; clear hK1 K1) | skip)))
 refine (g_index51 fid caps xs hx hl I P h h0 step).mono ?_
 rintro _ h' (⟨j, hj, rfl, hp⟩ | ⟨rfl, hi⟩)
 ·refine hK1 _ ?_; clear hK1 K1
  (repeat (first | refine gO rfl ?_ | (refine gR fun K1 hK1 => ?_; simp only [go_sem, ↓reduceIte, reduceCtorEq, nA, nB, nC, nD, nE, nF] <;> and_intros <;> (apply hK1; clear hK1 K1))))
  simp only [Tryz.results123, go_sem, ↓reduceIte, reduceCtorEq, nA, nB, nC, nD, nE, nF]
  exact ⟨_, _, Weak.refl _, Hp.le.refl _, .inl ⟨j, hj, by simp, hp⟩⟩
 ·refine hK1 _ ?_; clear hK1 K1
  (repeat (first | refine gO rfl ?_ | (refine gR fun K1 hK1 => ?_; simp only [go_sem, ↓reduceIte, reduceCtorEq, nA, nB, nC, nD, nE, nF] <;> and_intros <;> (apply hK1; clear hK1 K1))))
  simp only [Tryz.results123, go_sem, ↓reduceIte, reduceCtorEq, nA, nB, nC, nD, nE, nF]
  exact ⟨_, _, Weak.refl _, Hp.le.refl _, .inr ⟨by simp, hi⟩⟩
theorem g_index50 (fid : Nat) (caps : List AV) (xs : List Int) (hl : xs.length ≤ 100000) (I P : Nat → Hp → Prop) (h : Hp) (h0 : I 0 h)
  (step : ∀ j h, j < xs.length → I j h → ACalls Tryz.prog fid (.v (.int .i64 (xs.getD j 0)) :: caps) h (fun r h' => ∃ b, r = .v (.bool b) ∧ (b = true → P j h') ∧ (b = false → I (j + 1) h'))) :
  ACalls Tryz.prog 168 [.row 1 (xs.map encI) none, .fn fid caps] h (fun r h' => (∃ j : Nat, j < xs.length ∧ r = .v (.int .i64 j) ∧ P j h') ∨ r = .v (.int .i64 (-1)) ∧ I xs.length h') := by
 refine gE Tryz.func168 rfl (by kernel_rfl) 17 rfl fun c => ?_
 (repeat (first | refine gO rfl ?_ | (refine gR fun K1 hK1 => ?_; simp only [go_sem, ↓reduceIte, reduceCtorEq, nA, nB, nC, nD, nE, nF] <;> and_intros <;> (apply hK1; clear hK1 K1))))
 refine awp_loopC (rl false [0, 2, 5, 2, 10]) 0 (fun g s => ∃ (j : Nat) (h' : Hp), g + j = xs.length ∧ I j h' ∧ s = ⟨((.row 1 (xs.map encI) none) :: (.fn fid caps) :: (jnk 5 ((.v (.int .i64 xs.length)) :: (.v (.int .i64 j)) :: (jnk 10 [])))), [], h'⟩) xs.length ⟨0, h, by omega, h0, rfl⟩ ?_
 rintro g _ ⟨j, h', hj, hI, rfl⟩
 (repeat (first | refine gO rfl ?_ | (refine gR fun K1 hK1 => ?_; simp only [go_sem, ↓reduceIte, reduceCtorEq, nA, nB, nC, nD, nE, nF] <;> and_intros <;> (apply hK1; clear hK1 K1))))
 refine awp_cond (t := _) rfl (fun h1 => ?_) (fun h1 => ?_)
 ·simp only [decide_eq_true_eq] at h1
  have hjk : j < xs.length := by omega
  have hg : (xs.map encI).getD j [] = encI (xs.getD j 0) := getD_enc encI xs j 0 hjk
  have st := step j h' hjk hI
  (repeat (first | refine gO rfl ?_ | (refine gR fun K1 hK1 => ?_; simp only [go_sem, ↓reduceIte, reduceCtorEq, nA, nB, nC, nD, nE, nF, Int.toNat_natCast, hg, encI] <;> and_intros <;> first | (apply hK1; clear hK1 K1) | (intros; (omega)) | skip)))
  refine st.mono ?_; rintro _ _ ⟨b, rfl, hb1, hb2⟩; apply hK1; clear hK1 K1
  (repeat ((refine gO rfl ?_)))
  refine awp_cond (t := _) rfl (fun h2 => ?_) (fun h2 => ?_)
  ·(repeat (first | refine gO rfl ?_ | (refine gR fun K1 hK1 => ?_; simp only [go_sem, ↓reduceIte, reduceCtorEq, nA, nB, nC, nD, nE, nF] <;> and_intros <;> (apply hK1; clear hK1 K1))))
   simp only [Tryz.results168, go_sem, ↓reduceIte, reduceCtorEq, nA, nB, nC, nD, nE, nF]
   exact ⟨_, _, Weak.refl _, Hp.le.refl _, .inl ⟨j, hjk, rfl, hb1 h2⟩⟩
  ·(repeat (first | refine gO rfl ?_ | (refine gR fun K1 hK1 => ?_; simp only [go_sem, ↓reduceIte, reduceCtorEq, nA, nB, nC, nD, nE, nF] <;> and_intros <;> first | (apply hK1; clear hK1 K1) | (intros; (omega)))))
   exact ⟨g - 1, by omega, j + 1, _, by omega, hb2 h2, rfl⟩
 ·simp only [decide_eq_false_iff_not] at h1
  have hjk : j = xs.length := by omega
  subst hjk
  (repeat (first | refine gO rfl ?_ | (refine gR fun K1 hK1 => ?_; simp only [go_sem, ↓reduceIte, reduceCtorEq, nA, nB, nC, nD, nE, nF] <;> and_intros <;> (apply hK1; clear hK1 K1))))
  simp only [Tryz.results168, go_sem, ↓reduceIte, reduceCtorEq, nA, nB, nC, nD, nE, nF]
  exact ⟨_, _, Weak.refl _, Hp.le.refl _, .inr ⟨rfl, hI⟩⟩
theorem g_contains39 (fid : Nat) (caps : List AV) (xs : List Int) (hl : xs.length ≤ 100000) (I P : Nat → Hp → Prop) (h : Hp) (h0 : I 0 h)
  (step : ∀ j h, j < xs.length → I j h → ACalls Tryz.prog fid (.v (.int .i64 (xs.getD j 0)) :: caps) h (fun r h' => ∃ b, r = .v (.bool b) ∧ (b = true → P j h') ∧ (b = false → I (j + 1) h'))) :
  ACalls Tryz.prog 120 [.row 1 (xs.map encI) none, .fn fid caps] h (fun r h' => (∃ j : Nat, j < xs.length ∧ r = .v (.bool true) ∧ P j h') ∨ r = .v (.bool false) ∧ I xs.length h') := by
 refine gE Tryz.func120 rfl (by kernel_rfl) 7 rfl fun c => ?_
 (repeat (first | refine gO rfl ?_ | (refine gR fun K1 hK1 => ?_; simp only [go_sem, ↓reduceIte, reduceCtorEq, nA, nB, nC, nD, nE, nF] <;> and_intros <;> first | (apply hK1; clear hK1 K1) | skip)))
 refine (g_index50 fid caps xs hl I P h h0 step).mono ?_
 rintro _ h' (⟨j, hj, rfl, hp⟩ | ⟨rfl, hi⟩)
 ·refine hK1 _ ?_; clear hK1 K1
  (repeat (first | refine gO rfl ?_ | (refine gR fun K1 hK1 => ?_; simp only [go_sem, ↓reduceIte, reduceCtorEq, nA, nB, nC, nD, nE, nF] <;> and_intros <;> (apply hK1; clear hK1 K1))))
  simp only [Tryz.results120, go_sem, ↓reduceIte, reduceCtorEq, nA, nB, nC, nD, nE, nF]
  exact ⟨_, _, Weak.refl _, Hp.le.refl _, .inl ⟨j, hj, by simp, hp⟩⟩
 ·refine hK1 _ ?_; clear hK1 K1
  (repeat (first | refine gO rfl ?_ | (refine gR fun K1 hK1 => ?_; simp only [go_sem, ↓reduceIte, reduceCtorEq, nA, nB, nC, nD, nE, nF] <;> and_intros <;> (apply hK1; clear hK1 K1))))
  simp only [Tryz.results120, go_sem, ↓reduceIte, reduceCtorEq, nA, nB, nC, nD, nE, nF]
  exact ⟨_, _, Weak.refl _, Hp.le.refl _, .inr ⟨by simp, hi⟩⟩
def outB (x lo hi : Int) : Bool := decide (x < lo) || decide (hi < x)
def firstNZ : List Int → Int
 | [] => 0
 | x :: xs => if x = 0 then firstNZ xs else x
def partF : LT → Int
 | .mk kind item long many kids shares =>
  if outB kind 1 5 then 4 else if formB kind item long many kids.length shares.length then 3 else if kind == 1 && !keyB item then 5 else if kind == 1 && outB long 1 3600000 then 1
   else if kind == 5 && outB many 1 100 then 1 else if shares.any (fun n => outB n 1 1000) then 1 else firstNZ (kids.map partF)
theorem partF_eq (kind : Int) (item : ByteArray) (long many : Int) (kids : List LT) (shares : List Int) : partF (.mk kind item long many kids shares) =
  if outB kind 1 5 then 4 else if formB kind item long many kids.length shares.length then 3 else if kind == 1 && !keyB item then 5 else if kind == 1 && outB long 1 3600000 then 1
   else if kind == 5 && outB many 1 100 then 1 else if shares.any (fun n => outB n 1 1000) then 1 else firstNZ (kids.map partF) := by rw [partF]
theorem firstNZ_app (l : List Int) (x : Int) : firstNZ (l ++ [x]) = if firstNZ l = 0 then x else firstNZ l := by
 induction l with
 | nil => simp only [List.nil_append, firstNZ]; split <;> simp_all
 | cons y l ih =>
  simp only [List.cons_append, firstNZ]
  split
  ·exact ih
  ·simp_all
theorem firstNZ_pre : ∀ (l : List Int) (j : Nat) (x : Int), l[j]? = some x → x ≠ 0 → firstNZ (l.take j) = 0 → firstNZ l = x
 | [], _, _, h, _, _ => by simp at h
 | y :: l, 0, x, h, hx, _ => by simp at h; subst h; simp [firstNZ, hx]
 | y :: l, j + 1, x, h, hx, h0 => by
  simp only [List.take_succ_cons, firstNZ] at h0 ⊢
  split at h0
  ·rename_i hy; rw [if_pos hy]; exact firstNZ_pre l j x (by simpa using h) hx h0
  ·rename_i hy; exact absurd h0 hy
theorem g_part24 : ∀ (d : Nat) (t : LT) (h : Hp), KC d t → ACalls Tryz.prog 128 [.agg (encL t)] h (fun r h' => r = .v (.int .i64 (partF t)) ∧ h' = h)
 | 0, _, _, hb => hb.elim
 | d + 1, .mk kind item long many kids shares, h0, hb => by
  obtain ⟨b1, b2, b3, b4, b5, b6, b7, b8⟩ := hb
  have hf := fun h => g_form kind item long many kids shares h b5 b6
  simp only [encL_eq] at hf ⊢
  refine gE Tryz.func128 rfl (by kernel_rfl) 63 rfl fun c => ?_
  (repeat (first | refine gO rfl ?_ | (refine gM zM14 fun K1 hK1 => ?_; simp only [go_sem, ↓reduceIte, reduceCtorEq, nA, nB, nC, nD, nE, nF] <;> and_intros <;> first | (apply hK1; clear hK1 K1) | skip)))
  refine (a_outside kind 1 5 _).mono ?_; rintro _ hz ⟨rfl, hh⟩; apply hK1; clear hK1 K1; rw [hh]; clear hh hz
  (repeat ((refine gO rfl ?_)))
  refine awp_cond (t := _) rfl (fun h1 => ?_) (fun h1 => ?_)
  ·(repeat (first | refine gO rfl ?_ | (refine gM zM14 fun K1 hK1 => ?_; simp only [go_sem, ↓reduceIte, reduceCtorEq, nA, nB, nC, nD, nE, nF] <;> and_intros <;> (apply hK1; clear hK1 K1))))
   simp only [Tryz.results128, go_sem, ↓reduceIte, reduceCtorEq, nA, nB, nC, nD, nE, nF]
   exact ⟨_, _, Weak.refl _, Hp.le.refl _, by rw [partF_eq, show outB kind 1 5 = true from h1]; rfl, rfl⟩
  ·(repeat (first | refine gO rfl ?_ | (refine gM zM14 fun K1 hK1 => ?_; simp only [go_sem, ↓reduceIte, reduceCtorEq, nA, nB, nC, nD, nE, nF] <;> and_intros)))
   refine (hf _).mono ?_; rintro _ hz ⟨rfl, hh⟩; apply hK1; clear hK1 K1; rw [hh]; clear hh hz
   (repeat ((refine gO rfl ?_)))
   refine awp_cond (t := _) rfl (fun h2 => ?_) (fun h2 => ?_)
   ·(repeat (first | refine gO rfl ?_ | (refine gM zM14 fun K1 hK1 => ?_; simp only [go_sem, ↓reduceIte, reduceCtorEq, nA, nB, nC, nD, nE, nF] <;> and_intros <;> (apply hK1; clear hK1 K1))))
    simp only [Tryz.results128, go_sem, ↓reduceIte, reduceCtorEq, nA, nB, nC, nD, nE, nF]
    exact ⟨_, _, Weak.refl _, Hp.le.refl _, by rw [partF_eq, show outB kind 1 5 = false from h1, h2]; rfl, rfl⟩
   ·(repeat ((refine gQ rfl ?_)))
    refine awp_seq ?_
    refine awp_join (rl false [1, 1, 62]) 0 (fun s => ((kind == 1 && !keyB item) = false ∧ (kind == 1 && outB long 1 3600000) = false ∧ (kind == 5 && outB many 1 100) = false) ∧
     s = ⟨(AV.junk :: ((.ref [.v (.int .i64 kind), .v (.string item), .v (.int .i64 long), .v (.int .i64 many), .row 6 (kids.map encL) none, .row 1 (shares.map encI) none] 0) :: (jnk 62 []))), [], h0⟩) ?_ ?_
    ·have key : ∀ q1 q5 : Bool, (kind == 1) = q1 → (kind == 5) = q5 → (q1 && q5) = false → (q1 = true ∧ q5 = false ∨ q1 = false ∧ q5 = true ∨ q1 = false ∧ q5 = false) := by intro q1 q5 _ _; cases q1 <;> cases q5 <;> simp
     rcases key _ _ rfl rfl (by simp; omega) with ⟨e1, e5⟩ | ⟨e1, e5⟩ | ⟨e1, e5⟩
     ·(repeat (first | refine gO rfl ?_ | (refine gM zM14 fun K1 hK1 => ?_; simp only [go_sem, ↓reduceIte, reduceCtorEq, nA, nB, nC, nD, nE, nF, e1, e5] <;> and_intros <;> first | (intros; (simp_all <;> omega)) | skip)))
      refine (a_isKey item (by omega) _).mono ?_; rintro _ hz ⟨rfl, hh⟩; refine ⟨rfl, hK1 _ ?_⟩; clear hK1 K1; rw [hh]; clear hh hz
      (repeat (first | refine gO rfl ?_ | (refine gM zM14 fun K1 hK1 => ?_; simp only [go_sem, ↓reduceIte, reduceCtorEq, nA, nB, nC, nD, nE, nF, e1, e5] <;> and_intros <;> (apply hK1; clear hK1 K1))))
      refine awp_cond (t := _) rfl (fun h3 => ?_) (fun h3 => ?_)
      ·(repeat (first | refine gO rfl ?_ | (refine gM zM14 fun K1 hK1 => ?_; simp only [go_sem, ↓reduceIte, reduceCtorEq, nA, nB, nC, nD, nE, nF] <;> and_intros <;> (apply hK1; clear hK1 K1))))
       simp only [Tryz.results128, go_sem, ↓reduceIte, reduceCtorEq, nA, nB, nC, nD, nE, nF]
       exact ⟨_, _, Weak.refl _, Hp.le.refl _, by rw [partF_eq, show outB kind 1 5 = false from h1, h2, e1, h3]; rfl, rfl⟩
      ·(repeat ((refine gM zM14 fun K1 hK1 => ?_; simp only [go_sem, ↓reduceIte, reduceCtorEq, nA, nB, nC, nD, nE, nF, e1, e5] <;> and_intros <;> first | (intros; (simp_all <;> omega)) | skip)))
       refine (a_outside long 1 3600000 _).mono ?_; rintro _ hz ⟨rfl, hh⟩; refine ⟨rfl, hK1 _ ?_⟩; clear hK1 K1; rw [hh]; clear hh hz
       (repeat (first | refine gO rfl ?_ | (refine gM zM14 fun K1 hK1 => ?_; simp only [go_sem, ↓reduceIte, reduceCtorEq, nA, nB, nC, nD, nE, nF, e1, e5] <;> and_intros <;> (apply hK1; clear hK1 K1))))
       refine awp_cond (t := _) rfl (fun h4 => ?_) (fun h4 => ?_)
       ·(repeat (first | refine gO rfl ?_ | (refine gM zM14 fun K1 hK1 => ?_; simp only [go_sem, ↓reduceIte, reduceCtorEq, nA, nB, nC, nD, nE, nF] <;> and_intros <;> (apply hK1; clear hK1 K1))))
        simp only [Tryz.results128, go_sem, ↓reduceIte, reduceCtorEq, nA, nB, nC, nD, nE, nF]
        exact ⟨_, _, Weak.refl _, Hp.le.refl _, by rw [partF_eq, show outB kind 1 5 = false from h1, h2, e1, h3, show outB long 1 3600000 = true from h4]; rfl, rfl⟩
       ·(repeat (first | refine gO rfl ?_ | (refine gM zM14 fun K1 hK1 => ?_; simp only [go_sem, ↓reduceIte, reduceCtorEq, nA, nB, nC, nD, nE, nF, e1, e5] <;> and_intros <;> (apply hK1; clear hK1 K1))))
        refine awp_cond (t := _) rfl (fun h5 => by cases h5) (fun h5 => ?_)
        (repeat ((refine gO rfl ?_)))
        exact ⟨⟨by simp only [e1, e5, h3, Bool.true_and, Bool.false_and], by simp only [e1, e5, outB, h4, Bool.true_and, Bool.false_and], by simp only [e1, e5, outB, h4, Bool.true_and, Bool.false_and]⟩, rfl⟩
     ·(repeat (first | refine gO rfl ?_ | (refine gM zM14 fun K1 hK1 => ?_; simp only [go_sem, ↓reduceIte, reduceCtorEq, nA, nB, nC, nD, nE, nF, e1, e5] <;> and_intros <;> first | (apply hK1; clear hK1 K1) | skip)))
      refine ⟨.v (.bool false), rfl, True.intro, hK1 _ ?_⟩; clear hK1 K1
      (repeat ((refine gO rfl ?_)))
      refine awp_cond (t := _) rfl (fun h5 => by cases h5) (fun h5 => ?_)
      (repeat (first | refine gO rfl ?_ | (refine gM zM14 fun K1 hK1 => ?_; simp only [go_sem, ↓reduceIte, reduceCtorEq, nA, nB, nC, nD, nE, nF, e1, e5] <;> and_intros <;> (apply hK1; clear hK1 K1))))
      refine awp_cond (t := _) rfl (fun h5 => by cases h5) (fun h5 => ?_)
      (repeat ((refine gM zM14 fun K1 hK1 => ?_; simp only [go_sem, ↓reduceIte, reduceCtorEq, nA, nB, nC, nD, nE, nF, e1, e5] <;> and_intros <;> first | (intros; (simp_all <;> omega)) | skip)))
      refine (a_outside many 1 100 _).mono ?_; rintro _ hz ⟨rfl, hh⟩; refine ⟨rfl, hK1 _ ?_⟩; clear hK1 K1; rw [hh]; clear hh hz
      (repeat (first | refine gO rfl ?_ | (refine gM zM14 fun K1 hK1 => ?_; simp only [go_sem, ↓reduceIte, reduceCtorEq, nA, nB, nC, nD, nE, nF, e1, e5] <;> and_intros <;> (apply hK1; clear hK1 K1))))
      refine awp_cond (t := _) rfl (fun h4 => ?_) (fun h4 => ?_)
      ·(repeat (first | refine gO rfl ?_ | (refine gM zM14 fun K1 hK1 => ?_; simp only [go_sem, ↓reduceIte, reduceCtorEq, nA, nB, nC, nD, nE, nF] <;> and_intros <;> (apply hK1; clear hK1 K1))))
       simp only [Tryz.results128, go_sem, ↓reduceIte, reduceCtorEq, nA, nB, nC, nD, nE, nF]
       exact ⟨_, _, Weak.refl _, Hp.le.refl _, by rw [partF_eq, show outB kind 1 5 = false from h1, h2, e1, e5, show outB many 1 100 = true from h4]; rfl, rfl⟩
      ·(repeat ((refine gO rfl ?_)))
       exact ⟨⟨by simp only [e1, e5, h4, Bool.true_and, Bool.false_and], by simp only [e1, e5, outB, h4, Bool.true_and, Bool.false_and], by simp only [e1, e5, outB, h4, Bool.true_and, Bool.false_and]⟩, rfl⟩
     ·(repeat (first | refine gO rfl ?_ | (refine gM zM14 fun K1 hK1 => ?_; simp only [go_sem, ↓reduceIte, reduceCtorEq, nA, nB, nC, nD, nE, nF, e1, e5] <;> and_intros <;> first | (apply hK1; clear hK1 K1) | skip)))
      refine ⟨.v (.bool false), rfl, True.intro, hK1 _ ?_⟩; clear hK1 K1
      (repeat ((refine gO rfl ?_)))
      refine awp_cond (t := _) rfl (fun h5 => by cases h5) (fun h5 => ?_)
      (repeat (first | refine gO rfl ?_ | (refine gM zM14 fun K1 hK1 => ?_; simp only [go_sem, ↓reduceIte, reduceCtorEq, nA, nB, nC, nD, nE, nF, e1, e5] <;> and_intros <;> (apply hK1; clear hK1 K1))))
      refine awp_cond (t := _) rfl (fun h5 => by cases h5) (fun h5 => ?_)
      (repeat (first | refine gO rfl ?_ | (refine gM zM14 fun K1 hK1 => ?_; simp only [go_sem, ↓reduceIte, reduceCtorEq, nA, nB, nC, nD, nE, nF, e1, e5] <;> and_intros <;> (apply hK1; clear hK1 K1))))
      refine awp_cond (t := _) rfl (fun h5 => by cases h5) (fun h5 => ?_)
      (repeat ((refine gO rfl ?_)))
      exact ⟨⟨by simp only [e1, e5, h1, Bool.true_and, Bool.false_and], by simp only [e1, e5, outB, h1, Bool.true_and, Bool.false_and], by simp only [e1, e5, outB, h1, Bool.true_and, Bool.false_and]⟩, rfl⟩
    ·rintro _ ⟨⟨h3, h4, h5⟩, rfl⟩
     have hpf : partF (.mk kind item long many kids shares) = if shares.any (fun n => outB n 1 1000) then 1 else firstNZ (kids.map partF) := by
      rw [partF_eq, show outB kind 1 5 = false from h1, h2, h3, h4, h5]; rfl
     skip
     refine awp_seq ?_
     refine awp_join (rl false [1, 1, 62]) 0 (fun s => shares.any (fun n => outB n 1 1000) = false ∧
      s = ⟨(AV.junk :: ((.ref [.v (.int .i64 kind), .v (.string item), .v (.int .i64 long), .v (.int .i64 many), .row 6 (kids.map encL) none, .row 1 (shares.map encI) none] 0) :: (jnk 62 []))), [], h0⟩) ?_ ?_
     ·(repeat (first | refine gO rfl ?_ | (refine gM zM14 fun K1 hK1 => ?_; simp only [go_sem, ↓reduceIte, reduceCtorEq, nA, nB, nC, nD, nE, nF] <;> and_intros <;> (apply hK1; clear hK1 K1))))
      refine awp_loopC (rl false [1, 1, 40, 3, 19]) 0 (fun g s => ∃ j : Nat, g + j = shares.length ∧ (shares.take j).any (fun n => outB n 1 1000) = false ∧
       s = ⟨(AV.junk :: ((.ref [.v (.int .i64 kind), .v (.string item), .v (.int .i64 long), .v (.int .i64 many), .row 6 (kids.map encL) none, .row 1 (shares.map encI) none] 0) :: (jnk 40 ((.row 1 (shares.map encI) none) :: (.v (.int .i64 shares.length)) :: (.v (.int .i64 j)) :: (jnk 19 []))))), [], h0⟩) shares.length ⟨0, by omega, rfl, rfl⟩ ?_
      rintro g _ ⟨j, hj, hany, rfl⟩
      (repeat (first | refine gO rfl ?_ | (refine gM zM14 fun K1 hK1 => ?_; simp only [go_sem, ↓reduceIte, reduceCtorEq, nA, nB, nC, nD, nE, nF] <;> and_intros <;> (apply hK1; clear hK1 K1))))
      refine awp_cond (t := _) rfl (fun h6 => ?_) (fun h6 => ?_)
      ·simp only [decide_eq_true_eq] at h6
       have hjk : j < shares.length := by omega
       have hg : (shares.map encI).getD j [] = encI (shares.getD j default) := getD_enc encI shares j default hjk
       have e1 := take_succ_map (fun n => outB n 1 1000) shares j hjk
       generalize hsv : shares.getD j default = sv at hg e1
       have hmem := getD_mem' shares j default hjk
       rw [hsv] at hmem
       (repeat (first | refine gO rfl ?_ | (refine gM zM14 fun K1 hK1 => ?_; simp only [go_sem, ↓reduceIte, reduceCtorEq, nA, nB, nC, nD, nE, nF, Int.toNat_natCast, hg, encI] <;> and_intros <;> first | (apply hK1; clear hK1 K1) | (intros; (omega)) | skip)))
       refine (a_outside sv 1 1000 _).mono ?_; rintro _ hz ⟨rfl, hh⟩; apply hK1; clear hK1 K1; rw [hh]; clear hh hz
       (repeat ((refine gO rfl ?_)))
       refine awp_cond (t := _) rfl (fun h7 => ?_) (fun h7 => ?_)
       ·(repeat (first | refine gO rfl ?_ | (refine gM zM14 fun K1 hK1 => ?_; simp only [go_sem, ↓reduceIte, reduceCtorEq, nA, nB, nC, nD, nE, nF] <;> and_intros <;> (apply hK1; clear hK1 K1))))
        simp only [Tryz.results128, go_sem, ↓reduceIte, reduceCtorEq, nA, nB, nC, nD, nE, nF]
        exact ⟨_, _, Weak.refl _, Hp.le.refl _, by rw [hpf, if_pos (List.any_eq_true.2 ⟨sv, hmem, h7⟩)], rfl⟩
       ·(repeat (first | refine gO rfl ?_ | (refine gM zM14 fun K1 hK1 => ?_; simp only [go_sem, ↓reduceIte, reduceCtorEq, nA, nB, nC, nD, nE, nF] <;> and_intros <;> first | (apply hK1; clear hK1 K1) | (intros; (omega)))))
        refine ⟨g - 1, by omega, j + 1, by omega, ?_, rfl⟩
        rw [List.any_eq_false] at hany ⊢
        intro x hx
        rw [List.take_add_one] at hx
        rcases List.mem_append.1 hx with hx | hx
        ·exact hany x hx
        ·rw [List.getElem?_eq_getElem hjk] at hx
         rw [List.getD_eq_getElem?_getD, List.getElem?_eq_getElem hjk] at hsv
         simp at hx hsv
         rw [hx, hsv]
         exact by simpa [outB] using h7
      ·simp only [decide_eq_false_iff_not] at h6
       have hjk : j = shares.length := by omega
       subst hjk
       rw [List.take_length] at hany
       (repeat ((refine gO rfl ?_)))
       exact ⟨hany, rfl⟩
     ·rintro _ ⟨hany, rfl⟩
      rw [if_neg (by rw [hany]; simp)] at hpf
      (repeat (first | refine gO rfl ?_ | (refine gM zM14 fun K1 hK1 => ?_; simp only [go_sem, ↓reduceIte, reduceCtorEq, nA, nB, nC, nD, nE, nF] <;> and_intros <;> (apply hK1; clear hK1 K1))))
      refine awp_loopC (rl false [52, 3, 9]) 0 (fun g s => ∃ j : Nat, g + j = kids.length ∧ firstNZ ((kids.map partF).take j) = 0 ∧
       s = ⟨((jnk 52 ((.row 6 (kids.map encL) none) :: (.v (.int .i64 kids.length)) :: (.v (.int .i64 j)) :: (jnk 9 [])))), [], h0⟩) kids.length ⟨0, by omega, rfl, rfl⟩ ?_
      rintro g _ ⟨j, hj, hnz, rfl⟩
      (repeat (first | refine gO rfl ?_ | (refine gM zM14 fun K1 hK1 => ?_; simp only [go_sem, ↓reduceIte, reduceCtorEq, nA, nB, nC, nD, nE, nF] <;> and_intros <;> (apply hK1; clear hK1 K1))))
      refine awp_cond (t := _) rfl (fun h6 => ?_) (fun h6 => ?_)
      ·simp only [decide_eq_true_eq] at h6
       have hjk : j < kids.length := by omega
       have hg : (kids.map encL).getD j [] = encL (kids.getD j default) := getD_enc encL kids j default hjk
       have hmem := getD_mem' kids j default hjk
       have hbt := b8 _ hmem
       have hgp : (kids.map partF)[j]? = some (partF (kids.getD j default)) := by rw [List.getElem?_map, List.getElem?_eq_getElem hjk, List.getD_eq_getElem?_getD, List.getElem?_eq_getElem hjk]; rfl
       have e1 : (kids.map partF).take (j + 1) = (kids.map partF).take j ++ [partF (kids.getD j default)] := by rw [List.take_add_one, hgp]; rfl
       generalize kids.getD j default = t2 at hg hmem hbt hgp e1
       have hlen := encL_len t2
       have htk : List.take 6 (encL t2) = encL t2 := List.take_of_length_le (Nat.le_of_eq hlen)
       have hdr : List.drop 6 (encL t2) = [] := List.drop_of_length_le (Nat.le_of_eq hlen)
       (repeat (first | refine gO rfl ?_ | (refine gM zM14 fun K1 hK1 => ?_; simp only [go_sem, ↓reduceIte, reduceCtorEq, nA, nB, nC, nD, nE, nF, Int.toNat_natCast, hg, hlen, htk, hdr] <;> and_intros <;> first | (apply hK1; clear hK1 K1) | (intros; (omega)) | skip)))
       refine (g_part24 d t2 h0 hbt).mono ?_; rintro _ hz ⟨rfl, hh⟩; apply hK1; clear hK1 K1; rw [hh]; clear hh hz
       (repeat (first | refine gO rfl ?_ | (refine gM zM14 fun K1 hK1 => ?_; simp only [go_sem, ↓reduceIte, reduceCtorEq, nA, nB, nC, nD, nE, nF] <;> and_intros <;> (apply hK1; clear hK1 K1))))
       refine awp_cond (t := _) rfl (fun h7 => ?_) (fun h7 => ?_)
       ·(repeat (first | refine gO rfl ?_ | (refine gM zM14 fun K1 hK1 => ?_; simp only [go_sem, ↓reduceIte, reduceCtorEq, nA, nB, nC, nD, nE, nF] <;> and_intros <;> (apply hK1; clear hK1 K1))))
        simp only [Tryz.results128, go_sem, ↓reduceIte, reduceCtorEq, nA, nB, nC, nD, nE, nF]
        exact ⟨_, _, Weak.refl _, Hp.le.refl _, by rw [hpf, firstNZ_pre _ j _ hgp (by simpa using h7) hnz], rfl⟩
       ·(repeat (first | refine gO rfl ?_ | (refine gM zM14 fun K1 hK1 => ?_; simp only [go_sem, ↓reduceIte, reduceCtorEq, nA, nB, nC, nD, nE, nF] <;> and_intros <;> first | (apply hK1; clear hK1 K1) | (intros; (omega)))))
        refine ⟨g - 1, by omega, j + 1, by omega, ?_, rfl⟩
        rw [e1, firstNZ_app, if_pos hnz]
        simpa using h7
      ·simp only [decide_eq_false_iff_not] at h6
       have hjk : j = kids.length := by omega
       rw [List.take_of_length_le (by simp; omega)] at hnz
       (repeat (first | refine gO rfl ?_ | (refine gM zM14 fun K1 hK1 => ?_; simp only [go_sem, ↓reduceIte, reduceCtorEq, nA, nB, nC, nD, nE, nF] <;> and_intros <;> (apply hK1; clear hK1 K1))))
       simp only [Tryz.results128, go_sem, ↓reduceIte, reduceCtorEq, nA, nB, nC, nD, nE, nF]
       exact ⟨_, _, Weak.refl _, Hp.le.refl _, by rw [hpf, hnz], rfl⟩
theorem firstNZ_all : ∀ (l : List Int), firstNZ l = 0 → ∀ x ∈ l, x = 0
 | [], _, x, hx => by simp at hx
 | y :: l, h, x, hx => by
  simp only [firstNZ] at h
  split at h
  ·rename_i h0
   rcases List.mem_cons.1 hx with rfl | hx
   ·exact h0
   ·exact firstNZ_all l h x hx
  ·rename_i h0; exact absurd h h0
theorem vl_of : ∀ (d : Nat) (t : LT), KC d t → partF t = 0 → VL d t
 | 0, _, h, _ => h.elim
 | d + 1, .mk kind item long many kids shares, hb, hp => by
  obtain ⟨b1, b2, b3, b4, b5, b6, b7, b8⟩ := hb
  rw [partF_eq] at hp
  by_cases h1 : outB kind 1 5
  ·rw [if_pos h1] at hp; omega
  rw [if_neg h1] at hp
  by_cases h2 : formB kind item long many kids.length shares.length
  ·rw [if_pos h2] at hp; omega
  rw [if_neg h2] at hp
  by_cases h3 : (kind == 1 && !keyB item) = true
  ·rw [if_pos h3] at hp; omega
  rw [if_neg h3] at hp
  by_cases h4 : (kind == 1 && outB long 1 3600000) = true
  ·rw [if_pos h4] at hp; omega
  rw [if_neg h4] at hp
  by_cases h5 : (kind == 5 && outB many 1 100) = true
  ·rw [if_pos h5] at hp; omega
  rw [if_neg h5] at hp
  by_cases h6 : shares.any (fun n => outB n 1 1000)
  ·rw [if_pos h6] at hp; omega
  rw [if_neg h6] at hp
  have hk := firstNZ_all _ hp
  simp only [outB, Bool.or_eq_true, decide_eq_true_eq, not_or, Int.not_lt] at h1
  simp only [formB, Bool.or_eq_true, Bool.and_eq_true, beq_iff_eq, bne_iff_ne, ne_eq, not_or, not_and, Decidable.not_not] at h2
  simp only [outB, Bool.and_eq_true, beq_iff_eq, Bool.or_eq_true, decide_eq_true_eq, not_and, not_or, Int.not_lt] at h5
  obtain ⟨⟨⟨⟨⟨⟨g1, g2⟩, g3⟩, g4⟩, g5⟩, g6⟩, g7⟩ := h2
  refine ⟨by omega, fun h => List.eq_nil_of_length_eq_zero (by have := g1 h; omega), fun h hn => by subst hn; exact g3 h rfl, fun h => ⟨by have := g2 h; omega, (h5 h).1, (h5 h).2⟩, fun h => by have := g4 h; omega, fun n hn => ?_, ⟨b5, b6⟩, fun k hkm => vl_of d k (b8 k hkm) (hk _ (List.mem_map.2 ⟨k, hkm, rfl⟩))⟩
  have h7 : outB n 1 1000 = false := by
   cases e : outB n 1 1000 with
   | false => rfl
   | true => exact absurd (List.any_eq_true.2 ⟨n, hn, e⟩) h6
  simp only [outB, Bool.or_eq_false_iff, decide_eq_false_iff_not, Int.not_lt] at h7
  exact h7
theorem psb0 : ∀ (d : Nat) (t : LT), PSB d t (ps0 t) 0
 | 0, _ => trivial
 | d + 1, .mk kind item long many kids shares => by
  rw [ps0_eq]
  refine ⟨by omega, fun x hx => ?_, fun j hj => ?_⟩
  ·obtain ⟨_, _, rfl⟩ := List.mem_map.1 hx; omega
  ·have e : (kids.map ps0).getD j default = ps0 (kids.getD j default) := by
    rw [List.getD_eq_getElem?_getD, List.getD_eq_getElem?_getD, List.getElem?_map, List.getElem?_eq_getElem hj]; rfl
   rw [e]; exact psb0 d _
def passesU (d : Nat) (t : LT) : Nat → PS × List (ByteArray × Int)
 | 0 => (ps0 t, [])
 | n + 1 => ((passU d t (passesU d t n).1).1, (passesU d t n).2 ++ (passU d t (passesU d t n).1).2)
theorem passesU_mono (d : Nat) (t : LT) : ∀ {m n : Nat}, m ≤ n → (passesU d t m).2.length ≤ (passesU d t n).2.length
 | m, 0, h => by
  obtain rfl : m = 0 := by omega
  exact Nat.le_refl _
 | m, n + 1, h => by
  by_cases e : m = n + 1
  ·rw [e]; exact Nat.le_refl _
  ·have := passesU_mono d t (m := m) (n := n) (by omega)
   simp only [passesU, List.length_append]; omega
theorem fits0 : ∀ (d : Nat) (t : LT), VL d t → Fits d t (ps0 t)
 | 0, _, h => h.elim
 | d + 1, .mk kind item long many kids shares, h => by
  obtain ⟨_, _, _, _, _, _, _, v8⟩ := h
  rw [ps0_eq]
  refine ⟨⟨by simp, by simp⟩, fun j hj => ?_⟩
  have e : (kids.map ps0).getD j default = ps0 (kids.getD j default) := by
   rw [List.getD_eq_getElem?_getD, List.getD_eq_getElem?_getD, List.getElem?_map, List.getElem?_eq_getElem hj]; rfl
  rw [e]
  exact fits0 d _ (v8 _ (getD_mem' kids j default hj))
theorem passesU_ok (d : Nat) (t : LT) (hv : VL d t) : ∀ n, PSB d t (passesU d t n).1 (passesU d t n).2.length ∧ Fits d t (passesU d t n).1 ∧ n ≤ (passesU d t n).2.length
 | 0 => ⟨psb0 d t, fits0 d t hv, Nat.zero_le _⟩
 | n + 1 => by
  obtain ⟨h1, h2, h3⟩ := passesU_ok d t hv n
  obtain ⟨q1, q2, q3⟩ := passU_ok d t _ _ hv h2 (by omega) h1
  exact ⟨by simp only [passesU, List.length_append]; exact_mod_cast q2, q3, by simp only [passesU, List.length_append]; omega⟩
def everyF (kind : Int) (nk : Nat) (shares : List Int) : Int := if kind = 3 then nk else if kind = 4 then shares.sum / gcdI shares else 1
def homeF : Nat → LT → PS → Bool
 | 0, _, _ => true
 | d + 1, .mk kind _ _ _ kids shares, .mk p _ ks => (p.tmod (everyF kind kids.length shares) == 0) && (List.range kids.length).all fun j => homeF d (kids.getD j default) (ks.getD j default)
theorem gcdI_le_sum {l : List Int} (h : ∀ x ∈ l, 1 ≤ x ∧ x ≤ 1000) (hn : l ≠ []) : (gcdI l : Int) ≤ l.sum := by
 cases l with
 | nil => exact absurd rfl hn
 | cons x xs =>
  have h1 := Int.le_of_dvd (by have := (h x (by simp)).1; omega) (gcdI_dvd (fun y hy => (h y hy).1) (List.mem_cons_self (a := x) (l := xs)))
  have : ∀ l : List Int, (∀ x ∈ l, 1 ≤ x ∧ x ≤ 1000) → 0 ≤ l.sum := fun l => by
   induction l with
   | nil => simp
   | cons y l ih => intro h; have := h y (by simp); have := ih fun z hz => h z (by simp [hz]); simp only [List.sum_cons]; omega
  have := this xs fun z hz => h z (by simp [hz])
  simp only [List.sum_cons]; omega
theorem every_pos {d : Nat} {kind : Int} {item : ByteArray} {long many : Int} {kids : List LT} {shares : List Int} (hv : VL (d + 1) (.mk kind item long many kids shares)) : 1 ≤ everyF kind kids.length shares ∧ everyF kind kids.length shares ≤ 1000000 := by
 obtain ⟨v1, v2, v3, v4, v5, v6, v7, v8⟩ := hv
 unfold everyF
 split
 ·have := List.length_pos_iff.2 (v3 (by omega)); omega
 ·split
  ·rename_i h4
   have hn : shares ≠ [] := fun e => v3 (by omega) (List.eq_nil_of_length_eq_zero (by rw [← v5 h4, e]; rfl))
   have h1 := gcdI_le_sum v6 hn
   have h2 := gcdI_pos (fun x hx => (v6 x hx).1) hn
   have h3 : ∀ l : List Int, (∀ x ∈ l, 1 ≤ x ∧ x ≤ 1000) → l.sum ≤ l.length * 1000 := fun l => by
    induction l with
    | nil => simp
    | cons y l ih => intro h; have := h y (by simp); have := ih fun z hz => h z (by simp [hz]); simp only [List.sum_cons, List.length_cons]; omega
   have h4 := h3 shares v6
   have h5 : shares.sum / (gcdI shares : Int) ≤ shares.sum := Int.ediv_le_self _ (by omega)
   refine ⟨?_, by omega⟩
   have := Int.le_ediv_of_mul_le (a := 1) (b := shares.sum) (c := (gcdI shares : Int)) (by omega) (by omega)
   omega
  ·omega
def RoundIs (d : Nat) (t : LT) (N : Nat) : Prop := (1 ≤ N ∧ N ≤ 5000) ∧ (passesU d t N).2.length ≤ 5000 ∧ homeF d t (passesU d t N).1 = true ∧ ∀ n, 1 ≤ n → n < N → homeF d t (passesU d t n).1 = false
theorem RoundIs.eq {d : Nat} {t : LT} {N M : Nat} (h : RoundIs d t N) (k : RoundIs d t M) : N = M := by
 obtain ⟨a, _, b, c⟩ := h
 obtain ⟨a', _, b', c'⟩ := k
 rcases Nat.lt_trichotomy N M with h | h | h
 ·rw [c' N a.1 h] at b; cases b
 ·exact h
 ·rw [c M a'.1 h] at b'; cases b'
open Classical in
noncomputable def roundN (d : Nat) (t : LT) : Nat := if h : ∃ N, RoundIs d t N then h.choose else 0
theorem roundN_some {d : Nat} {t : LT} {N : Nat} (h : RoundIs d t N) : roundN d t = N := by
 have hx : ∃ N, RoundIs d t N := ⟨N, h⟩
 rw [roundN, dif_pos hx]
 exact (hx.choose_spec).eq h
theorem roundN_none {d : Nat} {t : LT} (h : ∀ N, ¬ RoundIs d t N) : roundN d t = 0 := by
 rw [roundN, dif_neg fun ⟨N, hN⟩ => h N hN]
theorem roundN_is {d : Nat} {t : LT} (h : roundN d t ≠ 0) : RoundIs d t (roundN d t) := by
 by_cases hx : ∃ N, RoundIs d t N
 ·rw [roundN, dif_pos hx]; exact hx.choose_spec
 ·rw [roundN, dif_neg hx] at h; exact absurd rfl h
theorem round_long {d : Nat} {t : LT} {j : Nat} (hl : 5000 < (passesU d t (j + 1)).2.length) (hn : ∀ n, 1 ≤ n → n ≤ j → homeF d t (passesU d t n).1 = false) : roundN d t = 0 := roundN_none fun N ⟨a, b, c, _⟩ => by
 by_cases h : N ≤ j
 ·rw [hn N a.1 h] at c; cases c
 ·have := passesU_mono d t (m := j + 1) (n := N) (by omega)
  omega
noncomputable def roundS (d : Nat) (t : LT) : List (ByteArray × Int) := if roundN d t = 0 then [] else (passesU d t (roundN d t)).2
noncomputable def roundE (d : Nat) (t : LT) : Int := if roundN d t = 0 then 2 else 0
theorem roundS_len (d : Nat) (t : LT) : (roundS d t).length ≤ 5000 := by
 unfold roundS
 split
 ·simp
 ·rename_i h; exact (roundN_is h).2.1
theorem roundS_pos {d : Nat} {t : LT} (hv : VL d t) (h : roundE d t = 0) : 1 ≤ (roundS d t).length := by
 unfold roundE at h
 split at h
 ·cases h
 ·rename_i h0
  rw [roundS, if_neg h0]
  have := (passesU_ok d t hv (roundN d t)).2.2
  have := (roundN_is h0).1.1
  omega
def IL : Nat → LT → Prop
 | 0, _ => True
 | d + 1, .mk kind _ long _ kids _ => (kind = 1 → 1 ≤ long ∧ long ≤ 3600000) ∧ ∀ k ∈ kids, IL d k
theorem IL.dflt : ∀ d, IL d default
 | 0 => trivial
 | d + 1 => show IL (d + 1) (.mk 0 default 0 0 [] []) from ⟨fun h => (by cases h), fun k hk => (by cases hk)⟩
theorem pass_long : ∀ (d : Nat) (t : LT) (s : PS), IL d t → ∀ x ∈ (passU d t s).2, 1 ≤ x.2 ∧ x.2 ≤ 3600000
 | 0, _, _, _ => by simp [passU]
 | d + 1, .mk kind item long many kids shares, .mk p cs ks, hi => by
  rw [passU_succ]
  have hk : ∀ i, IL d (kids.getD i default) := fun i => by
   by_cases h : i < kids.length
   ·exact hi.2 _ (getD_mem' kids i default h)
   ·rw [List.getD_eq_getElem?_getD, List.getElem?_eq_none (by omega)]; exact IL.dflt d
  have key : ∀ (L : List Nat) (a : (List Int × List PS) × List (ByteArray × Int)), (∀ x ∈ a.2, 1 ≤ x.2 ∧ x.2 ≤ 3600000) → ∀ x ∈ (L.foldl (stepU (passU d) kids) a).2, 1 ≤ x.2 ∧ x.2 ≤ 3600000 := fun L => by
   induction L with
   | nil => intro a h; exact h
   | cons i L ih =>
    intro a h
    refine ih _ (fun x hx => ?_)
    rcases List.mem_append.1 hx with h9 | h9
    ·exact h x h9
    ·exact pass_long d _ _ (hk i) x h9
  refine key _ _ ?_
  split
  ·rename_i h1
   intro x hx
   rw [List.mem_singleton.1 hx]
   exact hi.1 h1
  ·simp
theorem passes_long {d : Nat} {t : LT} (h : IL d t) : ∀ n, ∀ x ∈ (passesU d t n).2, 1 ≤ x.2 ∧ x.2 ≤ 3600000
 | 0 => by simp [passesU]
 | n + 1 => fun x hx => by
  rcases List.mem_append.1 hx with h9 | h9
  ·exact passes_long h n x h9
  ·exact pass_long d t _ h x h9
theorem roundS_long {d : Nat} {t : LT} (h : IL d t) : ∀ x ∈ roundS d t, 1 ≤ x.2 ∧ x.2 ≤ 3600000 := by
 unfold roundS
 split
 ·simp
 ·exact passes_long h _
theorem il_of : ∀ (d : Nat) (t : LT), partF t = 0 → IL d t
 | 0, _, _ => trivial
 | d + 1, .mk kind item long many kids shares, hp => by
  rw [partF_eq] at hp
  by_cases h1 : outB kind 1 5
  ·rw [if_pos h1] at hp; omega
  rw [if_neg h1] at hp
  by_cases h2 : formB kind item long many kids.length shares.length
  ·rw [if_pos h2] at hp; omega
  rw [if_neg h2] at hp
  by_cases h3 : (kind == 1 && !keyB item) = true
  ·rw [if_pos h3] at hp; omega
  rw [if_neg h3] at hp
  by_cases h4 : (kind == 1 && outB long 1 3600000) = true
  ·rw [if_pos h4] at hp; omega
  rw [if_neg h4] at hp
  by_cases h5 : (kind == 5 && outB many 1 100) = true
  ·rw [if_pos h5] at hp; omega
  rw [if_neg h5] at hp
  by_cases h6 : shares.any (fun n => outB n 1 1000)
  ·rw [if_pos h6] at hp; omega
  rw [if_neg h6] at hp
  have hnz : ∀ (l : List Int), firstNZ l = 0 → ∀ x ∈ l, x = 0 := fun l => by
   induction l with
   | nil => intro _ x hx; cases hx
   | cons y l ih =>
    intro h x hx
    simp only [firstNZ] at h
    split at h
    ·rename_i h0
     rcases List.mem_cons.1 hx with rfl | hx
     ·exact h0
     ·exact ih h x hx
    ·rename_i h0; exact absurd h h0
  have hk := hnz _ hp
  refine ⟨fun h => ?_, fun k hkm => il_of d k (hk _ (List.mem_map.2 ⟨k, hkm, rfl⟩))⟩
  subst h
  simpa [outB] using h4
abbrev zPBE : List Nat := [0, 1, 2, 3]
abbrev zPBP : List (Nat × List Nat × List Nat) := [(4, [], []), (5, [], [])]
abbrev zPCE : List Nat := [0, 1, 2, 3]
abbrev zPCP : List (Nat × List Nat × List Nat) := [(4, [], []), (5, [], [])]
attribute [go_sem] zPBE zPBP zPCE zPCP
theorem g_gcdP (a b : Nat) (h : Hp) (ha : a ≤ 1000000000000) (hb : b ≤ 1000000000000) : ACalls Tryz.prog 140 [.v (.int .i64 a), .v (.int .i64 b)] h (fun r h' => r = .v (.int .i64 (Nat.gcd a b : Nat)) ∧ h' = h) := by
 refine gE Tryz.func140 rfl (by kernel_rfl) 13 rfl fun c => ?_
 (repeat (first | refine gO rfl ?_ | ((refine gR fun K1 hK1 => ?_; simp only [go_sem, ↓reduceIte, reduceCtorEq, nA, nB, nC, nD, nE, nF] <;> and_intros <;> (apply hK1; clear hK1 K1)))))
 refine awp_loopC (rl false [0, 2, 13]) 0 (fun g s => ∃ x : Nat, Nat.gcd x g = Nat.gcd a b ∧ x ≤ 1000000000000 ∧ g ≤ 1000000000000 ∧ s = ⟨((.v (.int .i64 x)) :: (.v (.int .i64 g)) :: (jnk 13 [])), [], h⟩) b ⟨a, rfl, ha, hb, rfl⟩ ?_
 rintro g _ ⟨x, hx, hx1, hg1, rfl⟩
 (repeat (first | refine gO rfl ?_ | ((refine gR fun K1 hK1 => ?_; simp only [go_sem, ↓reduceIte, reduceCtorEq, nA, nB, nC, nD, nE, nF] <;> and_intros <;> (apply hK1; clear hK1 K1)))))
 refine awp_cond (t := _) rfl (fun h1 => ?_) (fun h1 => ?_)
 ·have hg : g ≠ 0 := by simpa using h1
  have hm : (x : Int).tmod (g : Int) = ((x % g : Nat) : Int) := rfl
  have hlt := Nat.mod_lt x (show 0 < g by omega)
  (repeat (first | refine gO rfl ?_ | ((first | refine gR ?_ | (with_reducible refine wM ?_ ?_) | ((with_reducible refine xR ?_); refine uE 2 zM10 zPBE zPBP 15 rfl (by kernel_rfl) ?_)) <;> ((try with_reducible intro K1 hK1); simp only [go_sem, ↓reduceIte, reduceCtorEq, nA, nB, nC, nD, nE, nF, hm] <;> and_intros <;> first | (apply hK1; clear hK1 K1) | (intros; (omega))))))
  exact ⟨x % g, hlt, g, by rw [← hx, Nat.gcd_comm x g, Nat.gcd_rec g x, Nat.gcd_comm], hg1, by omega, rfl⟩
 ·have hg : g = 0 := by simpa using h1
  subst hg
  rw [Nat.gcd_zero_right] at hx
  have hmx : max (x : Int) (-(x : Int)) = x := by omega
  (repeat (first | refine gO rfl ?_ | ((refine gR fun K1 hK1 => ?_; simp only [go_sem, ↓reduceIte, reduceCtorEq, nA, nB, nC, nD, nE, nF, hmx] <;> and_intros <;> first | (apply hK1; clear hK1 K1) | (intros; (omega))))))
  simp only [Tryz.results140, go_sem, ↓reduceIte, reduceCtorEq, nA, nB, nC, nD, nE, nF]
  exact ⟨_, _, Weak.refl _, Hp.le.refl _, by rw [← hx], rfl⟩
theorem g_gcdR (a b : Nat) (h : Hp) (ha : a ≤ 1000000000000) (hb : b ≤ 1000000000000) : ACalls Tryz.prog 125 [.v (.int .i64 a), .v (.int .i64 b)] h (fun r h' => r = .v (.int .i64 (Nat.gcd a b : Nat)) ∧ h' = h) := by
 refine gE Tryz.func125 rfl (by kernel_rfl) 10 rfl fun c => ?_
 (repeat (first | refine gO rfl ?_ | ((refine gR fun K1 hK1 => ?_; simp only [go_sem, ↓reduceIte, reduceCtorEq, nA, nB, nC, nD, nE, nF] <;> and_intros <;> (apply hK1; clear hK1 K1)))))
 refine awp_loopC (rl false [0, 2, 10]) 0 (fun g s => ∃ x : Nat, Nat.gcd x g = Nat.gcd a b ∧ x ≤ 1000000000000 ∧ g ≤ 1000000000000 ∧ s = ⟨((.v (.int .i64 x)) :: (.v (.int .i64 g)) :: (jnk 10 [])), [], h⟩) b ⟨a, rfl, ha, hb, rfl⟩ ?_
 rintro g _ ⟨x, hx, hx1, hg1, rfl⟩
 (repeat (first | refine gO rfl ?_ | ((refine gR fun K1 hK1 => ?_; simp only [go_sem, ↓reduceIte, reduceCtorEq, nA, nB, nC, nD, nE, nF] <;> and_intros <;> (apply hK1; clear hK1 K1)))))
 refine awp_cond (t := _) rfl (fun h1 => ?_) (fun h1 => ?_)
 ·have hg : g ≠ 0 := by simpa using h1
  have hm : (x : Int).tmod (g : Int) = ((x % g : Nat) : Int) := rfl
  have hlt := Nat.mod_lt x (show 0 < g by omega)
  (repeat (first | refine gO rfl ?_ | ((first | refine gR ?_ | (with_reducible refine wM ?_ ?_) | ((with_reducible refine xR ?_); refine uE 2 zM10 zPCE zPCP 12 rfl (by kernel_rfl) ?_)) <;> ((try with_reducible intro K1 hK1); simp only [go_sem, ↓reduceIte, reduceCtorEq, nA, nB, nC, nD, nE, nF, hm] <;> and_intros <;> first | (apply hK1; clear hK1 K1) | (intros; (omega))))))
  exact ⟨x % g, hlt, g, by rw [← hx, Nat.gcd_comm x g, Nat.gcd_rec g x, Nat.gcd_comm], hg1, by omega, rfl⟩
 ·have hg : g = 0 := by simpa using h1
  subst hg
  rw [Nat.gcd_zero_right] at hx
  have hmx : max (x : Int) (-(x : Int)) = x := by omega
  (repeat (first | refine gO rfl ?_ | ((refine gR fun K1 hK1 => ?_; simp only [go_sem, ↓reduceIte, reduceCtorEq, nA, nB, nC, nD, nE, nF, hmx] <;> and_intros <;> (apply hK1; clear hK1 K1)))))
  simp only [Tryz.results125, go_sem, ↓reduceIte, reduceCtorEq, nA, nB, nC, nD, nE, nF]
  exact ⟨_, _, Weak.refl _, Hp.le.refl _, by rw [← hx], rfl⟩
def gcdTo (l : List Int) (j : Nat) : Nat := ((l.take j).map Int.toNat).foldl Nat.gcd 0
theorem gcdTo_succ (l : List Int) (j : Nat) (h : j < l.length) : gcdTo l (j + 1) = Nat.gcd (gcdTo l j) (l.getD j 0).toNat := by
 rw [gcdTo, List.take_add_one, List.getElem?_eq_getElem h, List.map_append, List.foldl_append, List.getD_eq_getElem?_getD, List.getElem?_eq_getElem h]; rfl
theorem gcdTo_all (l : List Int) : gcdTo l l.length = gcdI l := by
 rw [gcdTo, List.take_length, foldl_gcd, Nat.gcd_zero_left]; rfl
theorem gcdTo_le (l : List Int) (h : ∀ x ∈ l, 1 ≤ x ∧ x ≤ 1000) : ∀ j, j ≤ l.length → gcdTo l j ≤ 1000
 | 0, _ => by simp [gcdTo]
 | j + 1, hj => by
  have hm : l.getD j 0 ∈ l := by rw [List.getD_eq_getElem?_getD, List.getElem?_eq_getElem (by omega)]; exact List.getElem_mem _
  have := h _ hm
  rw [gcdTo_succ l j (by omega)]
  exact Nat.le_trans (Nat.gcd_le_right _ (by omega)) (by omega)
theorem g_divisorP (l : List Int) (h : Hp) (hl : l.length ≤ 1000) (hs : ∀ x ∈ l, 1 ≤ x ∧ x ≤ 1000) : ACalls Tryz.prog 176 [.row 1 (l.map encI) none] h (fun r h' => r = .v (.int .i64 (gcdI l : Nat)) ∧ h' = h) := by
 refine gE Tryz.func176 rfl (by kernel_rfl) 16 rfl fun c => ?_
 (repeat (first | refine gO rfl ?_ | (refine gR fun K1 hK1 => ?_; simp only [go_sem, ↓reduceIte, reduceCtorEq, nA, nB, nC, nD, nE, nF] <;> and_intros <;> (apply hK1; clear hK1 K1))))
 refine awp_loopC (rl false [3, 1, 2, 3, 8]) 0 (fun g s => ∃ j : Nat, g + j = l.length ∧ s = ⟨((jnk 3 ((.v (.int .i64 (gcdTo l j : Nat))) :: AV.junk :: AV.junk :: ((.row 1 (l.map encI) none) :: (.v (.int .i64 l.length)) :: (.v (.int .i64 j)) :: (jnk 8 []))))), [], h⟩) l.length ⟨0, by omega, rfl⟩ ?_
 rintro g _ ⟨j, hj, rfl⟩
 (repeat (first | refine gO rfl ?_ | (refine gR fun K1 hK1 => ?_; simp only [go_sem, ↓reduceIte, reduceCtorEq, nA, nB, nC, nD, nE, nF] <;> and_intros <;> (apply hK1; clear hK1 K1))))
 refine awp_cond (t := _) rfl (fun h1 => ?_) (fun h1 => ?_)
 ·simp only [decide_eq_true_eq] at h1
  have hjl : j < l.length := by omega
  have gx : (l.map encI).getD j [] = encI (l.getD j 0) := getD_enc encI l j 0 hjl
  have hb := hs _ (getD_mem' l j 0 hjl)
  have e1 := gcdTo_succ l j hjl
  have hl1 := gcdTo_le l hs j (by omega)
  generalize l.getD j 0 = x at gx hb e1
  obtain ⟨y, rfl⟩ : ∃ y : Nat, x = y := ⟨x.toNat, by omega⟩
  rw [Int.toNat_natCast] at e1
  (repeat (first | refine gO rfl ?_ | (refine gR fun K1 hK1 => ?_; simp only [go_sem, ↓reduceIte, reduceCtorEq, nA, nB, nC, nD, nE, nF, Int.toNat_natCast, gx, encI] <;> and_intros <;> first | (apply hK1; clear hK1 K1) | (intros; (omega)) | skip)))
  refine (g_gcdP (gcdTo l j) y h (by omega) (by omega)).mono ?_; rintro _ hz ⟨rfl, hh⟩; apply hK1; clear hK1 K1; rw [hh]; clear hh hz
  (repeat (first | refine gO rfl ?_ | (refine gR fun K1 hK1 => ?_; simp only [go_sem, ↓reduceIte, reduceCtorEq, nA, nB, nC, nD, nE, nF] <;> and_intros <;> first | (apply hK1; clear hK1 K1) | (intros; (omega)))))
  exact ⟨g - 1, by omega, j + 1, by omega, by rw [e1]; rfl⟩
 ·simp only [decide_eq_false_iff_not] at h1
  have hjl : j = l.length := by omega
  subst hjl
  rw [gcdTo_all]
  (repeat (first | refine gO rfl ?_ | (refine gR fun K1 hK1 => ?_; simp only [go_sem, ↓reduceIte, reduceCtorEq, nA, nB, nC, nD, nE, nF] <;> and_intros <;> (apply hK1; clear hK1 K1))))
  simp only [Tryz.results176, go_sem, ↓reduceIte, reduceCtorEq, nA, nB, nC, nD, nE, nF]
  exact ⟨_, _, Weak.refl _, Hp.le.refl _, rfl, rfl⟩
abbrev zPDE : List Nat := [0, 1, 2, 3, 4, 5, 6, 7, 8]
abbrev zPDP : List (Nat × List Nat × List Nat) := [(9, [3], [10, 11])]
attribute [go_sem] zPDE zPDP
theorem g_ixP (fid : Nat) (xs : List AT) (K : AV) (hK : kidsC xs K) (hl : xs.length ≤ 100000) (I P : Nat → Hp → Prop) (h : Hp) (h0 : I 0 h)
  (step : ∀ j h, j < xs.length → I j h → ACalls Tryz.prog fid [.ptr (xs.getD j default).id 0] h (fun r h' => ∃ b, r = .v (.bool b) ∧ (b = true → P j h') ∧ (b = false → I (j + 1) h'))) :
  ACalls Tryz.prog 221 [K, .fn fid []] h (fun r h' => (∃ j : Nat, j < xs.length ∧ r = .v (.int .i64 j) ∧ P j h') ∨ r = .v (.int .i64 (-1)) ∧ I xs.length h') := by
 rcases hK with ⟨rfl, rfl⟩ | ⟨tk, rfl⟩
 ·refine gE Tryz.func221 rfl (by kernel_rfl) 17 rfl fun c => ?_
  (repeat (first | refine gO rfl ?_ | (refine gR fun K1 hK1 => ?_; simp only [go_sem, ↓reduceIte, reduceCtorEq, nA, nB, nC, nD, nE, nF] <;> and_intros <;> (apply hK1; clear hK1 K1))))
  refine awp_loopC (rl false [7, 2, 10]) 0 (fun g s => s = ⟨((jnk 7 ((.v (.int .i64 0)) :: (.v (.int .i64 0)) :: (jnk 10 [])))), [], h⟩) 0 rfl ?_
  rintro g _ rfl
  (repeat (first | refine gO rfl ?_ | (refine gR fun K1 hK1 => ?_; simp only [go_sem, ↓reduceIte, reduceCtorEq, nA, nB, nC, nD, nE, nF] <;> and_intros <;> (apply hK1; clear hK1 K1))))
  refine awp_cond (t := _) rfl (fun h1 => by cases h1) (fun h1 => ?_)
  (repeat (first | refine gO rfl ?_ | (refine gR fun K1 hK1 => ?_; simp only [go_sem, ↓reduceIte, reduceCtorEq, nA, nB, nC, nD, nE, nF] <;> and_intros <;> (apply hK1; clear hK1 K1))))
  simp only [Tryz.results221, go_sem, ↓reduceIte, reduceCtorEq, nA, nB, nC, nD, nE, nF]
  exact ⟨_, _, Weak.refl _, Hp.le.refl _, .inr ⟨rfl, h0⟩⟩
 ·refine gE Tryz.func221 rfl (by kernel_rfl) 17 rfl fun c => ?_
  (repeat (first | refine gO rfl ?_ | (refine gR fun K1 hK1 => ?_; simp only [go_sem, ↓reduceIte, reduceCtorEq, nA, nB, nC, nD, nE, nF] <;> and_intros <;> (apply hK1; clear hK1 K1))))
  refine awp_loopC (rl false [0, 2, 5, 2, 10]) 0 (fun g s => ∃ (j : Nat) (h' : Hp), g + j = xs.length ∧ I j h' ∧ s = ⟨((.row 1 (xs.map fun a => [.ptr a.id 0]) tk) :: (.fn fid []) :: (jnk 5 ((.v (.int .i64 xs.length)) :: (.v (.int .i64 j)) :: (jnk 10 [])))), [], h'⟩) xs.length ⟨0, h, by omega, h0, rfl⟩ ?_
  rintro g _ ⟨j, h', hj, hI, rfl⟩
  (repeat (first | refine gO rfl ?_ | (refine gR fun K1 hK1 => ?_; simp only [go_sem, ↓reduceIte, reduceCtorEq, nA, nB, nC, nD, nE, nF] <;> and_intros <;> (apply hK1; clear hK1 K1))))
  refine awp_cond (t := _) rfl (fun h1 => ?_) (fun h1 => ?_)
  ·simp only [decide_eq_true_eq] at h1
   have hjk : j < xs.length := by omega
   have hg : (xs.map fun a : AT => [AV.ptr a.id 0]).getD j [] = [.ptr (xs.getD j default).id 0] := getD_enc (fun a : AT => [AV.ptr a.id 0]) xs j default hjk
   have st := step j h' hjk hI
   (repeat (first | refine gO rfl ?_ | (refine gR fun K1 hK1 => ?_; simp only [go_sem, ↓reduceIte, reduceCtorEq, nA, nB, nC, nD, nE, nF, Int.toNat_natCast, hg] <;> and_intros <;> first | (apply hK1; clear hK1 K1) | (intros; (omega)) | skip)))
   refine st.mono ?_; rintro _ _ ⟨b, rfl, hb1, hb2⟩; apply hK1; clear hK1 K1
   (repeat ((refine gO rfl ?_)))
   refine awp_cond (t := _) rfl (fun h2 => ?_) (fun h2 => ?_)
   ·(repeat (first | refine gO rfl ?_ | (refine gR fun K1 hK1 => ?_; simp only [go_sem, ↓reduceIte, reduceCtorEq, nA, nB, nC, nD, nE, nF] <;> and_intros <;> (apply hK1; clear hK1 K1))))
    simp only [Tryz.results221, go_sem, ↓reduceIte, reduceCtorEq, nA, nB, nC, nD, nE, nF]
    exact ⟨_, _, Weak.refl _, Hp.le.refl _, .inl ⟨j, hjk, rfl, hb1 h2⟩⟩
   ·(repeat (first | refine gO rfl ?_ | (refine gR fun K1 hK1 => ?_; simp only [go_sem, ↓reduceIte, reduceCtorEq, nA, nB, nC, nD, nE, nF] <;> and_intros <;> first | (apply hK1; clear hK1 K1) | (intros; (omega)))))
    exact ⟨g - 1, by omega, j + 1, _, by omega, hb2 h2, rfl⟩
  ·simp only [decide_eq_false_iff_not] at h1
   have hjk : j = xs.length := by omega
   subst hjk
   (repeat (first | refine gO rfl ?_ | (refine gR fun K1 hK1 => ?_; simp only [go_sem, ↓reduceIte, reduceCtorEq, nA, nB, nC, nD, nE, nF] <;> and_intros <;> (apply hK1; clear hK1 K1))))
   simp only [Tryz.results221, go_sem, ↓reduceIte, reduceCtorEq, nA, nB, nC, nD, nE, nF]
   exact ⟨_, _, Weak.refl _, Hp.le.refl _, .inr ⟨rfl, hI⟩⟩
theorem g_coP (fid : Nat) (xs : List AT) (K : AV) (hK : kidsC xs K) (hl : xs.length ≤ 100000) (q : Nat → Bool) (h : Hp)
  (step : ∀ j, j < xs.length → ACalls Tryz.prog fid [.ptr (xs.getD j default).id 0] h (fun r h' => r = .v (.bool (!q j)) ∧ h' = h)) :
  ACalls Tryz.prog 179 [K, .fn fid []] h (fun r h' => r = .v (.bool (!(List.range xs.length).all q)) ∧ h' = h) := by
 have hi := g_ixP fid xs K hK hl (fun j h' => h' = h ∧ ∀ l, l < j → q l = true) (fun j h' => h' = h ∧ q j = false) h ⟨rfl, fun l hl => by omega⟩ (fun j h' hj ⟨e, hI⟩ => by
  rw [e]
  refine (step j hj).mono ?_
  rintro _ h2 ⟨rfl, e2⟩
  refine ⟨_, rfl, fun hb => ⟨e2, by simpa using hb⟩, fun hb => ⟨e2, fun l hl => ?_⟩⟩
  by_cases hlj : l = j
  ·rw [hlj]; simpa using hb
  ·exact hI l (by omega))
 have o3 : OneV K := by rcases hK with ⟨_, rfl⟩ | ⟨tk, rfl⟩ <;> exact ⟨rfl, rfl, rfl, rfl, rfl⟩
 obtain ⟨w1, w2, w3, w4, w5⟩ := o3
 unfold uside at w1; unfold unw at w2; unfold AV.noLoc at w3; unfold isOpt at w4; simp only [AV.cellsB, Value.oneCell'] at w5
 refine gE Tryz.func179 rfl (by kernel_rfl) 7 rfl fun c => ?_
 (repeat (first | refine gO rfl ?_ | (refine gR fun K1 hK1 => ?_; simp only [go_sem, ↓reduceIte, reduceCtorEq, nA, nB, nC, nD, nE, nF, w1, w2, w3, w4, w5] <;> and_intros <;> first | (apply hK1; clear hK1 K1) | skip)))
 refine hi.mono ?_
 rintro _ h' (⟨j, hj, rfl, rfl, hp⟩ | ⟨rfl, rfl, hi9⟩)
 ·refine hK1 _ ?_; clear hK1 K1
  have e9 : (List.range xs.length).all q = false := by
   rw [List.all_eq_false]
   exact ⟨j, by simpa using hj, by rw [hp]; simp⟩
  (repeat (first | refine gO rfl ?_ | (refine gR fun K1 hK1 => ?_; simp only [go_sem, ↓reduceIte, reduceCtorEq, nA, nB, nC, nD, nE, nF] <;> and_intros <;> (apply hK1; clear hK1 K1))))
  simp only [Tryz.results179, go_sem, ↓reduceIte, reduceCtorEq, nA, nB, nC, nD, nE, nF]
  exact ⟨_, _, Weak.refl _, Hp.le.refl _, by rw [e9]; simp, rfl⟩
 ·refine hK1 _ ?_; clear hK1 K1
  have e9 : (List.range xs.length).all q = true := by
   rw [List.all_eq_true]
   exact fun l hl => hi9 l (by simpa using hl)
  (repeat (first | refine gO rfl ?_ | (refine gR fun K1 hK1 => ?_; simp only [go_sem, ↓reduceIte, reduceCtorEq, nA, nB, nC, nD, nE, nF] <;> and_intros <;> (apply hK1; clear hK1 K1))))
  simp only [Tryz.results179, go_sem, ↓reduceIte, reduceCtorEq, nA, nB, nC, nD, nE, nF]
  exact ⟨_, _, Weak.refl _, Hp.le.refl _, by rw [e9]; simp, rfl⟩
theorem g_ixR (fid : Nat) (xs : List AT) (K : AV) (hK : kidsC xs K) (hl : xs.length ≤ 100000) (I P : Nat → Hp → Prop) (h : Hp) (h0 : I 0 h)
  (step : ∀ j h, j < xs.length → I j h → ACalls Tryz.prog fid [.ptr (xs.getD j default).id 0] h (fun r h' => ∃ b, r = .v (.bool b) ∧ (b = true → P j h') ∧ (b = false → I (j + 1) h'))) :
  ACalls Tryz.prog 222 [K, .fn fid []] h (fun r h' => (∃ j : Nat, j < xs.length ∧ r = .v (.int .i64 j) ∧ P j h') ∨ r = .v (.int .i64 (-1)) ∧ I xs.length h') := by
 rcases hK with ⟨rfl, rfl⟩ | ⟨tk, rfl⟩
 ·refine gE Tryz.func222 rfl (by kernel_rfl) 17 rfl fun c => ?_
  (repeat (first | refine gO rfl ?_ | (refine gR fun K1 hK1 => ?_; simp only [go_sem, ↓reduceIte, reduceCtorEq, nA, nB, nC, nD, nE, nF] <;> and_intros <;> (apply hK1; clear hK1 K1))))
  refine awp_loopC (rl false [7, 2, 10]) 0 (fun g s => s = ⟨((jnk 7 ((.v (.int .i64 0)) :: (.v (.int .i64 0)) :: (jnk 10 [])))), [], h⟩) 0 rfl ?_
  rintro g _ rfl
  (repeat (first | refine gO rfl ?_ | (refine gR fun K1 hK1 => ?_; simp only [go_sem, ↓reduceIte, reduceCtorEq, nA, nB, nC, nD, nE, nF] <;> and_intros <;> (apply hK1; clear hK1 K1))))
  refine awp_cond (t := _) rfl (fun h1 => by cases h1) (fun h1 => ?_)
  (repeat (first | refine gO rfl ?_ | (refine gR fun K1 hK1 => ?_; simp only [go_sem, ↓reduceIte, reduceCtorEq, nA, nB, nC, nD, nE, nF] <;> and_intros <;> (apply hK1; clear hK1 K1))))
  simp only [Tryz.results222, go_sem, ↓reduceIte, reduceCtorEq, nA, nB, nC, nD, nE, nF]
  exact ⟨_, _, Weak.refl _, Hp.le.refl _, .inr ⟨rfl, h0⟩⟩
 ·refine gE Tryz.func222 rfl (by kernel_rfl) 17 rfl fun c => ?_
  (repeat (first | refine gO rfl ?_ | (refine gR fun K1 hK1 => ?_; simp only [go_sem, ↓reduceIte, reduceCtorEq, nA, nB, nC, nD, nE, nF] <;> and_intros <;> (apply hK1; clear hK1 K1))))
  refine awp_loopC (rl false [0, 2, 5, 2, 10]) 0 (fun g s => ∃ (j : Nat) (h' : Hp), g + j = xs.length ∧ I j h' ∧ s = ⟨((.row 1 (xs.map fun a => [.ptr a.id 0]) tk) :: (.fn fid []) :: (jnk 5 ((.v (.int .i64 xs.length)) :: (.v (.int .i64 j)) :: (jnk 10 [])))), [], h'⟩) xs.length ⟨0, h, by omega, h0, rfl⟩ ?_
  rintro g _ ⟨j, h', hj, hI, rfl⟩
  (repeat (first | refine gO rfl ?_ | (refine gR fun K1 hK1 => ?_; simp only [go_sem, ↓reduceIte, reduceCtorEq, nA, nB, nC, nD, nE, nF] <;> and_intros <;> (apply hK1; clear hK1 K1))))
  refine awp_cond (t := _) rfl (fun h1 => ?_) (fun h1 => ?_)
  ·simp only [decide_eq_true_eq] at h1
   have hjk : j < xs.length := by omega
   have hg : (xs.map fun a : AT => [AV.ptr a.id 0]).getD j [] = [.ptr (xs.getD j default).id 0] := getD_enc (fun a : AT => [AV.ptr a.id 0]) xs j default hjk
   have st := step j h' hjk hI
   (repeat (first | refine gO rfl ?_ | (refine gR fun K1 hK1 => ?_; simp only [go_sem, ↓reduceIte, reduceCtorEq, nA, nB, nC, nD, nE, nF, Int.toNat_natCast, hg] <;> and_intros <;> first | (apply hK1; clear hK1 K1) | (intros; (omega)) | skip)))
   refine st.mono ?_; rintro _ _ ⟨b, rfl, hb1, hb2⟩; apply hK1; clear hK1 K1
   (repeat ((refine gO rfl ?_)))
   refine awp_cond (t := _) rfl (fun h2 => ?_) (fun h2 => ?_)
   ·(repeat (first | refine gO rfl ?_ | (refine gR fun K1 hK1 => ?_; simp only [go_sem, ↓reduceIte, reduceCtorEq, nA, nB, nC, nD, nE, nF] <;> and_intros <;> (apply hK1; clear hK1 K1))))
    simp only [Tryz.results222, go_sem, ↓reduceIte, reduceCtorEq, nA, nB, nC, nD, nE, nF]
    exact ⟨_, _, Weak.refl _, Hp.le.refl _, .inl ⟨j, hjk, rfl, hb1 h2⟩⟩
   ·(repeat (first | refine gO rfl ?_ | (refine gR fun K1 hK1 => ?_; simp only [go_sem, ↓reduceIte, reduceCtorEq, nA, nB, nC, nD, nE, nF] <;> and_intros <;> first | (apply hK1; clear hK1 K1) | (intros; (omega)))))
    exact ⟨g - 1, by omega, j + 1, _, by omega, hb2 h2, rfl⟩
  ·simp only [decide_eq_false_iff_not] at h1
   have hjk : j = xs.length := by omega
   subst hjk
   (repeat (first | refine gO rfl ?_ | (refine gR fun K1 hK1 => ?_; simp only [go_sem, ↓reduceIte, reduceCtorEq, nA, nB, nC, nD, nE, nF] <;> and_intros <;> (apply hK1; clear hK1 K1))))
   simp only [Tryz.results222, go_sem, ↓reduceIte, reduceCtorEq, nA, nB, nC, nD, nE, nF]
   exact ⟨_, _, Weak.refl _, Hp.le.refl _, .inr ⟨rfl, hI⟩⟩
theorem g_coR (fid : Nat) (xs : List AT) (K : AV) (hK : kidsC xs K) (hl : xs.length ≤ 100000) (q : Nat → Bool) (h : Hp)
  (step : ∀ j, j < xs.length → ACalls Tryz.prog fid [.ptr (xs.getD j default).id 0] h (fun r h' => r = .v (.bool (!q j)) ∧ h' = h)) :
  ACalls Tryz.prog 183 [K, .fn fid []] h (fun r h' => r = .v (.bool (!(List.range xs.length).all q)) ∧ h' = h) := by
 have hi := g_ixR fid xs K hK hl (fun j h' => h' = h ∧ ∀ l, l < j → q l = true) (fun j h' => h' = h ∧ q j = false) h ⟨rfl, fun l hl => by omega⟩ (fun j h' hj ⟨e, hI⟩ => by
  rw [e]
  refine (step j hj).mono ?_
  rintro _ h2 ⟨rfl, e2⟩
  refine ⟨_, rfl, fun hb => ⟨e2, by simpa using hb⟩, fun hb => ⟨e2, fun l hl => ?_⟩⟩
  by_cases hlj : l = j
  ·rw [hlj]; simpa using hb
  ·exact hI l (by omega))
 have o3 : OneV K := by rcases hK with ⟨_, rfl⟩ | ⟨tk, rfl⟩ <;> exact ⟨rfl, rfl, rfl, rfl, rfl⟩
 obtain ⟨w1, w2, w3, w4, w5⟩ := o3
 unfold uside at w1; unfold unw at w2; unfold AV.noLoc at w3; unfold isOpt at w4; simp only [AV.cellsB, Value.oneCell'] at w5
 refine gE Tryz.func183 rfl (by kernel_rfl) 7 rfl fun c => ?_
 (repeat (first | refine gO rfl ?_ | (refine gR fun K1 hK1 => ?_; simp only [go_sem, ↓reduceIte, reduceCtorEq, nA, nB, nC, nD, nE, nF, w1, w2, w3, w4, w5] <;> and_intros <;> first | (apply hK1; clear hK1 K1) | skip)))
 refine hi.mono ?_
 rintro _ h' (⟨j, hj, rfl, rfl, hp⟩ | ⟨rfl, rfl, hi9⟩)
 ·refine hK1 _ ?_; clear hK1 K1
  have e9 : (List.range xs.length).all q = false := by
   rw [List.all_eq_false]
   exact ⟨j, by simpa using hj, by rw [hp]; simp⟩
  (repeat (first | refine gO rfl ?_ | (refine gR fun K1 hK1 => ?_; simp only [go_sem, ↓reduceIte, reduceCtorEq, nA, nB, nC, nD, nE, nF] <;> and_intros <;> (apply hK1; clear hK1 K1))))
  simp only [Tryz.results183, go_sem, ↓reduceIte, reduceCtorEq, nA, nB, nC, nD, nE, nF]
  exact ⟨_, _, Weak.refl _, Hp.le.refl _, by rw [e9]; simp, rfl⟩
 ·refine hK1 _ ?_; clear hK1 K1
  have e9 : (List.range xs.length).all q = true := by
   rw [List.all_eq_true]
   exact fun l hl => hi9 l (by simpa using hl)
  (repeat (first | refine gO rfl ?_ | (refine gR fun K1 hK1 => ?_; simp only [go_sem, ↓reduceIte, reduceCtorEq, nA, nB, nC, nD, nE, nF] <;> and_intros <;> (apply hK1; clear hK1 K1))))
  simp only [Tryz.results183, go_sem, ↓reduceIte, reduceCtorEq, nA, nB, nC, nD, nE, nF]
  exact ⟨_, _, Weak.refl _, Hp.le.refl _, by rw [e9]; simp, rfl⟩
theorem homeF_eq (d : Nat) (kind : Int) (item : ByteArray) (long many : Int) (kids : List LT) (shares : List Int) (p : Int) (cs : List Int) (ks : List PS) :
  homeF (d + 1) (.mk kind item long many kids shares) (.mk p cs ks) = ((p.tmod (everyF kind kids.length shares) == 0) && (List.range kids.length).all fun j => homeF d (kids.getD j default) (ks.getD j default)) := rfl
theorem sum_bdI {l : List Int} (h : ∀ x ∈ l, 1 ≤ x ∧ x ≤ 1000) (hl : l.length ≤ 1000) : 0 ≤ l.sum ∧ l.sum ≤ 1000000 := by
 have key : ∀ l : List Int, (∀ x ∈ l, 1 ≤ x ∧ x ≤ 1000) → 0 ≤ l.sum ∧ l.sum ≤ l.length * 1000 := fun l => by
  induction l with
  | nil => simp
  | cons y l ih => intro h; have := h y (by simp); have := ih fun z hz => h z (by simp [hz]); simp only [List.sum_cons, List.length_cons]; omega
 have := key l h
 omega
theorem g_beginsG : ∀ (d : Nat) (t : LT) (a : AT) (s : PS) (h : Hp), VL d t → RAt XP h d t a s → PSB d t s 100000 → ACalls Tryz.prog 131 [.ptr a.id 0] h (fun r h' => r = .v (.bool (homeF d t s)) ∧ h' = h)
 | 0, _, _, _, _, hv, _, _ => hv.elim
 | d + 1, .mk kind item long many kids shares, .mk i c0 az, .mk p cs ks, h0, hv, hR, hB => by
  obtain ⟨v1, v2, v3, v4, v5, v6, v7, v8⟩ := id hv
  obtain ⟨⟨K, hH, hK⟩, hT, ⟨l1, l2, l3, l4⟩, hkids⟩ := id hR
  obtain ⟨c1, c2, c3⟩ := id hB
  have hH0 : h0.H i = some (.cells [.v (.int .i64 kind), .v (.string item), .v (.int .i64 long), .v (.int .i64 many), .row 6 (kids.map encL) none, .row 1 (shares.map encI) none, K, .v (.int .i64 p), .arr 1 c0 kids.length, .v (.int .i64 shares.sum)]) := hH
  have o3 : OneV K := by rcases hK with ⟨_, rfl⟩ | ⟨tk, rfl⟩ <;> exact ⟨rfl, rfl, rfl, rfl, rfl⟩
  obtain ⟨w1, w2, w3, w4, w5⟩ := o3
  unfold uside at w1; unfold unw at w2; unfold AV.noLoc at w3; unfold isOpt at w4; simp only [AV.cellsB, Value.oneCell'] at w5
  have hclo : ∀ j, j < az.length → ACalls Tryz.prog 180 [.ptr (az.getD j default).id 0] h0 (fun r h' => r = .v (.bool (!homeF d (kids.getD j default) (ks.getD j default))) ∧ h' = h0) := fun j hj => by
   have g1 := g_beginsG d _ _ _ h0 (v8 _ (getD_mem' kids j default (by omega))) (hkids j (by omega)) (c3 j (by omega))
   refine gE Tryz.func180 rfl (by kernel_rfl) 5 rfl fun c => ?_
   (repeat (first | refine gO rfl ?_ | (refine gR fun K1 hK1 => ?_; simp only [go_sem, ↓reduceIte, reduceCtorEq, nA, nB, nC, nD, nE, nF] <;> and_intros <;> first | (apply hK1; clear hK1 K1) | skip)))
   refine g1.mono ?_; rintro _ hz ⟨rfl, hh⟩; apply hK1; clear hK1 K1; rw [hh]; clear hh hz
   (repeat (first | refine gO rfl ?_ | (refine gR fun K1 hK1 => ?_; simp only [go_sem, ↓reduceIte, reduceCtorEq, nA, nB, nC, nD, nE, nF] <;> and_intros <;> (apply hK1; clear hK1 K1))))
   simp only [Tryz.results180, go_sem, ↓reduceIte, reduceCtorEq, nA, nB, nC, nD, nE, nF]
   exact ⟨_, _, Weak.refl _, Hp.le.refl _, rfl, rfl⟩
  have hcon := g_coP 180 az K hK (by omega) (fun j => homeF d (kids.getD j default) (ks.getD j default)) h0 hclo
  rw [l3] at hcon
  have hdiv := g_divisorP shares h0 v7.2 v6
  have hev := every_pos hv
  show ACalls Tryz.prog 131 [.ptr i 0] h0 _
  rw [homeF_eq]
  have hef : everyF kind kids.length shares = if kind = 3 then (kids.length : Int) else if kind = 4 then shares.sum / gcdI shares else 1 := rfl
  generalize hQ : (List.range kids.length).all (fun j => homeF d (kids.getD j default) (ks.getD j default)) = qq at *
  refine gE Tryz.func131 rfl (by kernel_rfl) 43 rfl fun c => ?_
  (repeat (first | refine gQ rfl ?_ | ((refine gR fun K1 hK1 => ?_; simp only [go_sem, ↓reduceIte, reduceCtorEq, nA, nB, nC, nD, nE, nF, hH0] <;> and_intros <;> (apply hK1; clear hK1 K1)))))
  refine awp_seq ?_
  refine awp_join (rl false [0, 1, 2, 1, 40]) 0 (fun s => s = ⟨((.ptr i 0) :: AV.junk :: AV.junk :: ((.v (.int .i64 (everyF kind kids.length shares))) :: (jnk 40 []))), [], h0⟩) ?_ ?_
  ·by_cases h3 : kind = 3
   ·have e3 : (kind == 3) = true := by simp; exact h3
    obtain ⟨tk, rfl⟩ : ∃ tk, K = .row 1 (az.map fun a => [.ptr a.id 0]) tk := by
     rcases hK with ⟨rfl, _⟩ | h9
     ·simp at l3; exact absurd (List.eq_nil_of_length_eq_zero l3.symm) (v3 (by omega))
     ·exact h9
    (repeat (first | refine gO rfl ?_ | ((refine gR fun K1 hK1 => ?_; simp only [go_sem, ↓reduceIte, reduceCtorEq, nA, nB, nC, nD, nE, nF, hH0, e3] <;> and_intros <;> (apply hK1; clear hK1 K1)))))
    refine awp_cond (t := _) rfl (fun _ => ?_) (fun h => by cases h)
    (repeat (first | refine gO rfl ?_ | ((refine gR fun K1 hK1 => ?_; simp only [go_sem, ↓reduceIte, reduceCtorEq, nA, nB, nC, nD, nE, nF, hH0, l3] <;> and_intros <;> (apply hK1; clear hK1 K1)))))
    rw [hef, if_pos h3]; rfl
   ·have e3 : (kind == 3) = false := by simp; exact h3
    by_cases h4 : kind = 4
    ·have e4 : (kind == 4) = true := by simp; exact h4
     have hne : shares ≠ [] := fun e => v3 (by omega) (List.eq_nil_of_length_eq_zero (by rw [← v5 h4, e]; rfl))
     have hgp := gcdI_pos (fun x hx => (v6 x hx).1) hne
     have hsb := sum_bdI v6 v7.2
     have hq2 : shares.sum.tdiv (gcdI shares : Int) = shares.sum / (gcdI shares : Int) := Int.tdiv_eq_ediv_of_nonneg hsb.1
     have hq3 : 0 ≤ shares.sum / (gcdI shares : Int) ∧ shares.sum / (gcdI shares : Int) ≤ shares.sum := ⟨Int.ediv_nonneg hsb.1 (by omega), Int.ediv_le_self _ hsb.1⟩
     (repeat (first | refine gO rfl ?_ | ((refine gR fun K1 hK1 => ?_; simp only [go_sem, ↓reduceIte, reduceCtorEq, nA, nB, nC, nD, nE, nF, hH0, e3, e4] <;> and_intros <;> (apply hK1; clear hK1 K1)))))
     refine awp_cond (t := _) rfl (fun h => by cases h) (fun _ => ?_)
     (repeat (first | refine gO rfl ?_ | ((refine gR fun K1 hK1 => ?_; simp only [go_sem, ↓reduceIte, reduceCtorEq, nA, nB, nC, nD, nE, nF, hH0, e3, e4] <;> and_intros <;> (apply hK1; clear hK1 K1)))))
     refine awp_cond (t := _) rfl (fun _ => ?_) (fun h => by cases h)
     (repeat (((first | refine gR ?_ | ((with_reducible refine xR ?_); refine uE 6 zM10 zPDE zPDP 44 rfl (by kernel_rfl) ?_)) <;> ((try with_reducible intro K1 hK1); simp only [go_sem, ↓reduceIte, reduceCtorEq, nA, nB, nC, nD, nE, nF, hH0, hq2] <;> and_intros <;> first | (apply hK1; clear hK1 K1) | skip))))
     refine hdiv.mono ?_; rintro _ hz ⟨rfl, hh⟩; apply hK1; clear hK1 K1; rw [hh]; clear hh hz
     (repeat (first | refine gO rfl ?_ | (((with_reducible refine wM ?_ ?_)) <;> ((try with_reducible intro K1 hK1); simp only [go_sem, ↓reduceIte, reduceCtorEq, nA, nB, nC, nD, nE, nF, hH0, hq2] <;> and_intros <;> first | (apply hK1; clear hK1 K1) | (intros; first | omega | decide | (simp_all <;> omega))))))
     rw [hef, if_neg h3, if_pos h4]; rfl
    ·have e4 : (kind == 4) = false := by simp; exact h4
     (repeat (first | refine gO rfl ?_ | ((refine gR fun K1 hK1 => ?_; simp only [go_sem, ↓reduceIte, reduceCtorEq, nA, nB, nC, nD, nE, nF, hH0, e3, e4] <;> and_intros <;> (apply hK1; clear hK1 K1)))))
     refine awp_cond (t := _) rfl (fun h => by cases h) (fun _ => ?_)
     (repeat (first | refine gO rfl ?_ | ((refine gR fun K1 hK1 => ?_; simp only [go_sem, ↓reduceIte, reduceCtorEq, nA, nB, nC, nD, nE, nF, hH0, e3, e4] <;> and_intros <;> (apply hK1; clear hK1 K1)))))
     refine awp_cond (t := _) rfl (fun h => by cases h) (fun _ => ?_)
     (repeat ((refine gO rfl ?_)))
     rw [hef, if_neg h3, if_neg h4]; rfl
  ·rintro _ rfl
   generalize everyF kind kids.length shares = ev at *
   rcases hb : (p.tmod ev == 0) with _ | _
   ·(repeat (((refine gR fun K1 hK1 => ?_; simp only [go_sem, ↓reduceIte, reduceCtorEq, nA, nB, nC, nD, nE, nF, hH0, w1, w2, w3, w4, w5, hb] <;> and_intros <;> first | (apply hK1; clear hK1 K1) | (intros; (omega)) | skip))))
    refine ⟨.v (.bool false), rfl, True.intro, hK1 _ ?_⟩; clear hK1 K1
    (repeat ((refine gO rfl ?_)))
    simp only [Tryz.results131, go_sem, ↓reduceIte, reduceCtorEq, nA, nB, nC, nD, nE, nF]
    exact ⟨_, _, Weak.refl _, Hp.le.refl _, rfl, rfl⟩
   ·(repeat (((refine gR fun K1 hK1 => ?_; simp only [go_sem, ↓reduceIte, reduceCtorEq, nA, nB, nC, nD, nE, nF, hH0, w1, w2, w3, w4, w5, hb] <;> and_intros <;> first | (intros; first | omega | (simp_all <;> omega)) | skip))))
    refine hcon.mono ?_; rintro _ hz ⟨rfl, hh⟩; refine ⟨rfl, hK1 _ ?_⟩; clear hK1 K1; rw [hh]; clear hh hz
    (repeat (first | refine gO rfl ?_ | ((refine gR fun K1 hK1 => ?_; simp only [go_sem, ↓reduceIte, reduceCtorEq, nA, nB, nC, nD, nE, nF, hH0, w1, w2, w3, w4, w5, hb] <;> and_intros <;> (apply hK1; clear hK1 K1)))))
    simp only [Tryz.results131, go_sem, ↓reduceIte, reduceCtorEq, nA, nB, nC, nD, nE, nF]
    exact ⟨_, _, Weak.refl _, Hp.le.refl _, by simp, rfl⟩
theorem g_homeG : ∀ (d : Nat) (t : LT) (a : AT) (s : PS) (h : Hp), VL d t → RAt XR h d t a s → PSB d t s 100000 → ACalls Tryz.prog 136 [.ptr a.id 0] h (fun r h' => r = .v (.bool (homeF d t s)) ∧ h' = h)
 | 0, _, _, _, _, hv, _, _ => hv.elim
 | d + 1, .mk kind item long many kids shares, .mk i c0 az, .mk p cs ks, h0, hv, hR, hB => by
  obtain ⟨v1, v2, v3, v4, v5, v6, v7, v8⟩ := id hv
  obtain ⟨⟨K, hH, hK⟩, hT, ⟨l1, l2, l3, l4⟩, hkids⟩ := id hR
  obtain ⟨c1, c2, c3⟩ := id hB
  have hH0 : h0.H i = some (.cells [.v (.int .i64 kind), .v (.string item), .v (.int .i64 long), .v (.int .i64 many), .row 6 (kids.map encL) none, .row 1 (shares.map encI) none, K, .v (.int .i64 p), .arr 1 c0 kids.length]) := hH
  have o3 : OneV K := by rcases hK with ⟨_, rfl⟩ | ⟨tk, rfl⟩ <;> exact ⟨rfl, rfl, rfl, rfl, rfl⟩
  obtain ⟨w1, w2, w3, w4, w5⟩ := o3
  unfold uside at w1; unfold unw at w2; unfold AV.noLoc at w3; unfold isOpt at w4; simp only [AV.cellsB, Value.oneCell'] at w5
  have hclo : ∀ j, j < az.length → ACalls Tryz.prog 184 [.ptr (az.getD j default).id 0] h0 (fun r h' => r = .v (.bool (!homeF d (kids.getD j default) (ks.getD j default))) ∧ h' = h0) := fun j hj => by
   have g1 := g_homeG d _ _ _ h0 (v8 _ (getD_mem' kids j default (by omega))) (hkids j (by omega)) (c3 j (by omega))
   refine gE Tryz.func184 rfl (by kernel_rfl) 5 rfl fun c => ?_
   (repeat (first | refine gO rfl ?_ | (refine gR fun K1 hK1 => ?_; simp only [go_sem, ↓reduceIte, reduceCtorEq, nA, nB, nC, nD, nE, nF] <;> and_intros <;> first | (apply hK1; clear hK1 K1) | skip)))
   refine g1.mono ?_; rintro _ hz ⟨rfl, hh⟩; apply hK1; clear hK1 K1; rw [hh]; clear hh hz
   (repeat (first | refine gO rfl ?_ | (refine gR fun K1 hK1 => ?_; simp only [go_sem, ↓reduceIte, reduceCtorEq, nA, nB, nC, nD, nE, nF] <;> and_intros <;> (apply hK1; clear hK1 K1))))
   simp only [Tryz.results184, go_sem, ↓reduceIte, reduceCtorEq, nA, nB, nC, nD, nE, nF]
   exact ⟨_, _, Weak.refl _, Hp.le.refl _, rfl, rfl⟩
  have hcon := g_coR 184 az K hK (by omega) (fun j => homeF d (kids.getD j default) (ks.getD j default)) h0 hclo
  rw [l3] at hcon
  have hev := every_pos hv
  show ACalls Tryz.prog 136 [.ptr i 0] h0 _
  rw [homeF_eq]
  have hef : everyF kind kids.length shares = if kind = 3 then (kids.length : Int) else if kind = 4 then shares.sum / gcdI shares else 1 := rfl
  generalize hQ : (List.range kids.length).all (fun j => homeF d (kids.getD j default) (ks.getD j default)) = qq at *
  refine gE Tryz.func136 rfl (by kernel_rfl) 53 rfl fun c => ?_
  (repeat (first | refine gQ rfl ?_ | (refine gR fun K1 hK1 => ?_; simp only [go_sem, ↓reduceIte, reduceCtorEq, nA, nB, nC, nD, nE, nF, hH0] <;> and_intros <;> (apply hK1; clear hK1 K1))))
  refine awp_seq ?_
  refine awp_join (rl false [0, 1, 2, 1, 50]) 0 (fun s => s = ⟨((.ptr i 0) :: AV.junk :: AV.junk :: ((.v (.int .i64 (everyF kind kids.length shares))) :: (jnk 50 []))), [], h0⟩) ?_ ?_
  ·by_cases h3 : kind = 3
   ·have e3 : (kind == 3) = true := by simp; exact h3
    obtain ⟨tk, rfl⟩ : ∃ tk, K = .row 1 (az.map fun a => [.ptr a.id 0]) tk := by
     rcases hK with ⟨rfl, _⟩ | h9
     ·simp at l3; exact absurd (List.eq_nil_of_length_eq_zero l3.symm) (v3 (by omega))
     ·exact h9
    (repeat (first | refine gO rfl ?_ | (refine gR fun K1 hK1 => ?_; simp only [go_sem, ↓reduceIte, reduceCtorEq, nA, nB, nC, nD, nE, nF, hH0, e3] <;> and_intros <;> (apply hK1; clear hK1 K1))))
    refine awp_cond (t := _) rfl (fun _ => ?_) (fun h => by cases h)
    (repeat (first | refine gO rfl ?_ | (refine gR fun K1 hK1 => ?_; simp only [go_sem, ↓reduceIte, reduceCtorEq, nA, nB, nC, nD, nE, nF, hH0, l3] <;> and_intros <;> (apply hK1; clear hK1 K1))))
    rw [hef, if_pos h3]; rfl
   ·have e3 : (kind == 3) = false := by simp; exact h3
    by_cases h4 : kind = 4
    ·have e4 : (kind == 4) = true := by simp; exact h4
     have hne : shares ≠ [] := fun e => v3 (by omega) (List.eq_nil_of_length_eq_zero (by rw [← v5 h4, e]; rfl))
     have hgp := gcdI_pos (fun x hx => (v6 x hx).1) hne
     have hsb := sum_bdI v6 v7.2
     have hq2 : shares.sum.tdiv (gcdI shares : Int) = shares.sum / (gcdI shares : Int) := Int.tdiv_eq_ediv_of_nonneg hsb.1
     have hq3 : 0 ≤ shares.sum / (gcdI shares : Int) ∧ shares.sum / (gcdI shares : Int) ≤ shares.sum := ⟨Int.ediv_nonneg hsb.1 (by omega), Int.ediv_le_self _ hsb.1⟩
     (repeat (first | refine gO rfl ?_ | (refine gR fun K1 hK1 => ?_; simp only [go_sem, ↓reduceIte, reduceCtorEq, nA, nB, nC, nD, nE, nF, hH0, e3, e4] <;> and_intros <;> (apply hK1; clear hK1 K1))))
     refine awp_cond (t := _) rfl (fun h => by cases h) (fun _ => ?_)
     (repeat (first | refine gO rfl ?_ | (refine gR fun K1 hK1 => ?_; simp only [go_sem, ↓reduceIte, reduceCtorEq, nA, nB, nC, nD, nE, nF, hH0, e3, e4] <;> and_intros <;> (apply hK1; clear hK1 K1))))
     refine awp_cond (t := _) rfl (fun _ => ?_) (fun h => by cases h)
     (repeat (first | refine gO rfl ?_ | (refine gR fun K1 hK1 => ?_; simp only [go_sem, ↓reduceIte, reduceCtorEq, nA, nB, nC, nD, nE, nF, hH0] <;> and_intros <;> (apply hK1; clear hK1 K1))))
     refine awp_loopC (rl false [0, 1, 2, 2, 20, 3, 26]) 0 (fun g s => ∃ j : Nat, g + j = shares.length ∧
      s = ⟨((.ptr i 0) :: AV.junk :: AV.junk :: ((.v (.int .i64 (shares.take j).sum)) :: (.v (.int .i64 (gcdTo shares j : Nat))) :: (jnk 20 ((.row 1 (shares.map encI) none) :: (.v (.int .i64 shares.length)) :: (.v (.int .i64 j)) :: (jnk 26 []))))), [], h0⟩) shares.length ⟨0, by omega, rfl⟩ ?_
     rintro g _ ⟨j, hj, rfl⟩
     have hst := sum_bdI (l := shares.take j) (fun x hx => v6 x (List.mem_of_mem_take hx)) (by simp; omega)
     (repeat (first | refine gO rfl ?_ | (refine gR fun K1 hK1 => ?_; simp only [go_sem, ↓reduceIte, reduceCtorEq, nA, nB, nC, nD, nE, nF] <;> and_intros <;> (apply hK1; clear hK1 K1))))
     refine awp_cond (t := _) rfl (fun h9 => ?_) (fun h9 => ?_)
     ·simp only [decide_eq_true_eq] at h9
      have hjl : j < shares.length := by omega
      have gx : (shares.map encI).getD j [] = encI (shares.getD j 0) := getD_enc encI shares j 0 hjl
      have hb := v6 _ (getD_mem' shares j 0 hjl)
      have e1 := gcdTo_succ shares j hjl
      have hl1 := gcdTo_le shares v6 j (by omega)
      have e2 := sum_take_succ shares j hjl
      generalize shares.getD j 0 = y at gx hb e1 e2
      obtain ⟨y, rfl⟩ : ∃ z : Nat, y = z := ⟨y.toNat, by omega⟩
      rw [Int.toNat_natCast] at e1
      (repeat (first | refine gO rfl ?_ | (refine gR fun K1 hK1 => ?_; simp only [go_sem, ↓reduceIte, reduceCtorEq, nA, nB, nC, nD, nE, nF, Int.toNat_natCast, gx, encI] <;> and_intros <;> first | (apply hK1; clear hK1 K1) | (intros; (omega)) | skip)))
      refine (g_gcdR (gcdTo shares j) y _ (by omega) (by omega)).mono ?_; rintro _ hz ⟨rfl, hh⟩; apply hK1; clear hK1 K1; rw [hh]; clear hh hz
      (repeat (first | refine gO rfl ?_ | (refine gR fun K1 hK1 => ?_; simp only [go_sem, ↓reduceIte, reduceCtorEq, nA, nB, nC, nD, nE, nF] <;> and_intros <;> first | (apply hK1; clear hK1 K1) | (intros; (omega)))))
      exact ⟨g - 1, by omega, j + 1, by omega, by rw [e1, e2]; rfl⟩
     ·simp only [decide_eq_false_iff_not] at h9
      have hjl : j = shares.length := by omega
      subst hjl
      rw [gcdTo_all, List.take_length]
      (repeat (first | refine gO rfl ?_ | (refine gR fun K1 hK1 => ?_; simp only [go_sem, ↓reduceIte, reduceCtorEq, nA, nB, nC, nD, nE, nF, hq2] <;> and_intros <;> first | (apply hK1; clear hK1 K1) | (intros; (omega)))))
      rw [hef, if_neg h3, if_pos h4]; rfl
    ·have e4 : (kind == 4) = false := by simp; exact h4
     (repeat (first | refine gO rfl ?_ | (refine gR fun K1 hK1 => ?_; simp only [go_sem, ↓reduceIte, reduceCtorEq, nA, nB, nC, nD, nE, nF, hH0, e3, e4] <;> and_intros <;> (apply hK1; clear hK1 K1))))
     refine awp_cond (t := _) rfl (fun h => by cases h) (fun _ => ?_)
     (repeat (first | refine gO rfl ?_ | (refine gR fun K1 hK1 => ?_; simp only [go_sem, ↓reduceIte, reduceCtorEq, nA, nB, nC, nD, nE, nF, hH0, e3, e4] <;> and_intros <;> (apply hK1; clear hK1 K1))))
     refine awp_cond (t := _) rfl (fun h => by cases h) (fun _ => ?_)
     (repeat ((refine gO rfl ?_)))
     rw [hef, if_neg h3, if_neg h4]; rfl
  ·rintro _ rfl
   generalize everyF kind kids.length shares = ev at *
   rcases hb : (p.tmod ev == 0) with _ | _
   ·have hb2 : (p.tmod ev != 0) = true := by rw [bne, hb]; rfl
    (repeat (first | refine gO rfl ?_ | (refine gR fun K1 hK1 => ?_; simp only [go_sem, ↓reduceIte, reduceCtorEq, nA, nB, nC, nD, nE, nF, hH0, hb2] <;> and_intros <;> first | (apply hK1; clear hK1 K1) | (intros; (omega)))))
    refine awp_cond (t := _) rfl (fun _ => ?_) (fun h => by cases h)
    (repeat (first | refine gO rfl ?_ | (refine gR fun K1 hK1 => ?_; simp only [go_sem, ↓reduceIte, reduceCtorEq, nA, nB, nC, nD, nE, nF] <;> and_intros <;> (apply hK1; clear hK1 K1))))
    simp only [Tryz.results136, go_sem, ↓reduceIte, reduceCtorEq, nA, nB, nC, nD, nE, nF]
    exact ⟨_, _, Weak.refl _, Hp.le.refl _, rfl, rfl⟩
   ·have hb2 : (p.tmod ev != 0) = false := by rw [bne, hb]; rfl
    (repeat (first | refine gO rfl ?_ | (refine gR fun K1 hK1 => ?_; simp only [go_sem, ↓reduceIte, reduceCtorEq, nA, nB, nC, nD, nE, nF, hH0, hb2] <;> and_intros <;> first | (apply hK1; clear hK1 K1) | (intros; (omega)))))
    refine awp_cond (t := _) rfl (fun h => by cases h) (fun _ => ?_)
    (repeat (first | refine gO rfl ?_ | (refine gR fun K1 hK1 => ?_; simp only [go_sem, ↓reduceIte, reduceCtorEq, nA, nB, nC, nD, nE, nF, hH0, w1, w2, w3, w4, w5] <;> and_intros)))
    refine hcon.mono ?_; rintro _ hz ⟨rfl, hh⟩; apply hK1; clear hK1 K1; rw [hh]; clear hh hz
    (repeat (first | refine gO rfl ?_ | (refine gR fun K1 hK1 => ?_; simp only [go_sem, ↓reduceIte, reduceCtorEq, nA, nB, nC, nD, nE, nF, hH0, w1, w2, w3, w4, w5] <;> and_intros <;> (apply hK1; clear hK1 K1))))
    simp only [Tryz.results136, go_sem, ↓reduceIte, reduceCtorEq, nA, nB, nC, nD, nE, nF]
    exact ⟨_, _, Weak.refl _, Hp.le.refl _, by simp, rfl⟩
abbrev zPEE : List Nat := [0, 1, 2, 3, 4, 5, 6, 7, 8, 9, 10, 11, 12, 13, 14, 15]
abbrev zPEP : List (Nat × List Nat × List Nat) := [(16, [], [17]), (18, [], [])]
abbrev zPFE : List Nat := [0, 1, 2, 3, 4, 5, 6, 7, 8, 9, 10, 11]
abbrev zPFP : List (Nat × List Nat × List Nat) := []
attribute [go_sem] zPEE zPEP zPFE zPFP
def encN (j : Nat) : List AV := [.v (.int .i64 (j : Int))]
theorem upd_none {α : Type} {f : Nat → Option α} {q : Nat} {x : Option α} (h : f q = none) : upd (upd f q x) q none = f := by
 funext j
 by_cases hj : j = q
 ·subst hj; rw [upd_same, h]
 ·rw [upd_other _ _ hj, upd_other _ _ hj]
def PRes (d : Nat) (t : LT) (a : AT) (s : PS) (h : Hp) (o k : Nat) (out : List (ByteArray × Int)) (r : AV) (h' : Hp) : Prop :=
 if out.length + (passU d t s).2.length ≤ 5000 then r = .v (.bool true) ∧ RAt XR h' d t a (passU d t s).1 ∧ OutAt h' o k [] (out ++ (passU d t s).2) ∧ FrP a o k h h' else r = .v (.bool false)
def PassJ (d : Nat) (kind : Int) (item : ByteArray) (long many : Int) (kids : List LT) (shares : List Int) (i c0 : Nat) (az : List AT) (p : Int) (cs : List Int) (ks : List PS) (h : Hp) (o k : Nat) (out : List (ByteArray × Int)) (s : St) : Prop :=
 ∃ hb v h1, RAt XR hb (d + 1) (.mk kind item long many kids shares) (.mk i c0 az) (.mk p cs ks) ∧ OutAt hb o k [] (out ++ if kind = 1 then [(item, long)] else []) ∧ FrP (.mk i c0 az) o k h hb ∧
  (v.noLoc = true ∧ Weak v (.row 1 ((idxL kind p many kids.length (nextF shares p cs)).map encN) none) ∧ Hp.le hb h1 ∨ ∃ q, v = .arr 1 q (idxL kind p many kids.length (nextF shares p cs)).length ∧ hb.T q = none ∧ h1 = { hb with T := upd hb.T q (some (.cont 1 ((idxL kind p many kids.length (nextF shares p cs)).map encN))) }) ∧
  s = ⟨((.ptr i 0) :: (.ptr o 0) :: (.v (.int .i64 5000)) :: (jnk 4 ((v) :: (jnk 109 [])))), [], h1⟩
theorem g_passR : ∀ (d : Nat) (t : LT) (a : AT) (s : PS) (h : Hp) (o k : Nat) (out : List (ByteArray × Int)), VL d t → RAt XR h d t a s → Sep d a → PSB d t s out.length → OutAt h o k [] out → o ∉ idsT a → out.length ≤ 5000 →
  ACalls Tryz.prog 135 [.ptr a.id 0, .ptr o 0, .v (.int .i64 5000)] h (PRes d t a s h o k out)
 | 0, _, _, _, _, _, _, _, hv, _, _, _, _, _, _ => hv.elim
 | d + 1, .mk kind item long many kids shares, .mk i c0 az, .mk p cs ks, h, o, k, out, hv, hR, hS, hB, hO, ho, hout => by
  have hfit := hR.fits
  have hkt := hR.tokNe hO.2
  obtain ⟨v1, v2, v3, v4, v5, v6, v7, v8⟩ := id hv
  obtain ⟨⟨K, hH, hK⟩, hT, ⟨l1, l2, l3, l4⟩, hkids⟩ := id hR
  have hH0 : h.H i = some (.cells [.v (.int .i64 kind), .v (.string item), .v (.int .i64 long), .v (.int .i64 many), .row 6 (kids.map encL) none, .row 1 (shares.map encI) none, K, .v (.int .i64 p), .arr 1 c0 kids.length]) := hH
  have hT0 : h.T c0 = some (.cont 1 (cs.map encI)) := hT
  have hO1 : h.H o = some (.cells [.row 2 (out.map encStep) (some k)]) := hO.1
  have hO2 : h.T k = some (.tail out.length) := hO.2
  have hpn : 0 ≤ p ∧ p ≤ 5000 := by have := hB.1; omega
  have hcn : ∀ x ∈ cs, 0 ≤ x ∧ x ≤ 1000000 := fun x hx => by have := hB.2.1 x hx; omega
  have hfr0 : FrP (.mk i c0 az) o k h h := ⟨fun _ _ _ => rfl, fun _ _ _ => rfl⟩
  show ACalls Tryz.prog 135 [.ptr i 0, .ptr o 0, .v (.int .i64 5000)] h _
  refine gE Tryz.func135 rfl (by kernel_rfl) 114 rfl fun c => ?_
  (repeat (first | refine gQ rfl ?_ | ((((with_reducible refine yS ?_); refine awp_keep zK13 100 (kS ?_))) <;> ((try with_reducible intro K1 hK1); simp only [go_sem, ↓reduceIte, reduceCtorEq, nA, nB, nC, nD, nE, nF, hH0, nG, nH, nI] <;> and_intros <;> (apply hK1; clear hK1 K1)))))
  refine awp_seq ?_
  refine awp_join (rl false [0, 3, 4, 1, 109]) 0 (fun s => PassJ d kind item long many kids shares i c0 az p cs ks h o k out s) ?_ ?_
  ·have hkz : kind ≠ 1 → ∃ tk, K = .row 1 (az.map fun a => [.ptr a.id 0]) tk := fun h1 => by
    rcases hK with ⟨rfl, _⟩ | h2
    ·simp at l3; exact absurd (List.eq_nil_of_length_eq_zero l3.symm) (v3 h1)
    ·exact h2
   rcases (show kind = 1 ∨ kind = 2 ∨ kind = 3 ∨ kind = 4 ∨ kind = 5 by omega) with rfl | rfl | rfl | rfl | rfl
   ·(repeat (first | refine gO rfl ?_ | ((((with_reducible refine yS ?_); refine awp_keep zK13 100 (kS ?_))) <;> ((try with_reducible intro K1 hK1); simp only [go_sem, ↓reduceIte, reduceCtorEq, nA, nB, nC, nD, nE, nF, hH0, nG, nH, nI] <;> and_intros <;> (apply hK1; clear hK1 K1)))))
    refine awp_cond (t := _) rfl (fun _ => ?_) (fun h1 => by cases h1)
    (repeat (first | refine gO rfl ?_ | ((first | refine gR ?_ | (with_reducible refine wM ?_ ?_) | ((with_reducible refine xR ?_); refine awp_keep zK13 100 (uE 4 zM10 zPEE zPEP 117 rfl (by kernel_rfl) ?_))) <;> ((try with_reducible intro K1 hK1); simp only [go_sem, ↓reduceIte, reduceCtorEq, nA, nB, nC, nD, nE, nF, hH0, hO1, hO2, nG, nH, nI] <;> and_intros <;> first | (apply hK1; clear hK1 K1) | (intros; first | omega | decide)))))
    refine ⟨{ H := upd h.H o (some (.cells [.row 2 (out.map encStep ++ [[.v (.string item), .v (.int .i64 long)]]) (some k)])), T := upd h.T k (some (.tail (out.length + 1))) }, .v (.slice none 0 0), _, hR.frame (fun x hx => upd_other _ _ (fun e => by subst e; exact ho hx)) (fun x hx => upd_other _ _ (fun e => by subst e; exact hkt hx)), ⟨?_, ?_⟩, ⟨fun x _ hx => upd_other _ _ hx, fun x _ hx => upd_other _ _ hx⟩, .inl ⟨rfl, Weak.nil 1 0 0 ⟨rfl, rfl⟩, Hp.le.refl _⟩, rfl⟩
    ·rw [show (out ++ if (1 : Int) = 1 then [(item, long)] else []).map encStep = out.map encStep ++ [[.v (.string item), .v (.int .i64 long)]] by simp [encStep]]
     exact upd_same _ _ _
    ·rw [show (out ++ if (1 : Int) = 1 then [(item, long)] else []).length = out.length + 1 by simp]
     exact upd_same _ _ _
   ·obtain ⟨tk, rfl⟩ := hkz (by omega)
    have hO' : OutAt h o k [] (out ++ if (2 : Int) = 1 then [(item, long)] else []) := by simpa using hO
    (repeat (first | refine gO rfl ?_ | ((((with_reducible refine yS ?_); refine awp_keep zK13 100 (kS ?_))) <;> ((try with_reducible intro K1 hK1); simp only [go_sem, ↓reduceIte, reduceCtorEq, nA, nB, nC, nD, nE, nF, hH0, nG, nH, nI] <;> and_intros <;> (apply hK1; clear hK1 K1)))))
    refine awp_cond (t := _) rfl (fun h1 => by cases h1) (fun _ => ?_)
    (repeat (first | refine gO rfl ?_ | ((((with_reducible refine yS ?_); refine awp_keep zK13 100 (kS ?_))) <;> ((try with_reducible intro K1 hK1); simp only [go_sem, ↓reduceIte, reduceCtorEq, nA, nB, nC, nD, nE, nF, hH0, nG, nH, nI] <;> and_intros <;> (apply hK1; clear hK1 K1)))))
    refine awp_cond (t := _) rfl (fun _ => ?_) (fun h1 => by cases h1)
    (repeat (first | refine gO rfl ?_ | ((((with_reducible refine yS ?_); refine awp_keep zK13 100 (kS ?_))) <;> ((try with_reducible intro K1 hK1); simp only [go_sem, ↓reduceIte, reduceCtorEq, nA, nB, nC, nD, nE, nF, hH0, nG, nH, nI] <;> and_intros <;> (apply hK1; clear hK1 K1)))))
    refine awp_own 7 1 rfl ⟨rfl, rfl⟩ (fun q hq => ?_)
    simp only [List.set_cons_zero, List.set_cons_succ]
    replace hq : h.T q = none := hq
    refine awp_loopC (rl false [0, 3, 4, 1, 34, 2, 73]) 0 (fun g s => ∃ j : Nat, g + j = kids.length ∧ s = ⟨((.ptr i 0) :: (.ptr o 0) :: (.v (.int .i64 5000)) :: (jnk 4 ((.row 1 ((List.range j).map encN) (some q)) :: (jnk 34 ((.v (.int .i64 kids.length)) :: (.v (.int .i64 j)) :: (jnk 73 [])))))), [], { h with T := upd h.T q (some (.tail j)) }⟩) kids.length ⟨0, by omega, by rw [← l3]; rfl⟩ ?_
    rintro g _ ⟨j, hj, rfl⟩
    (repeat (first | refine gO rfl ?_ | ((((with_reducible refine yS ?_); refine awp_keep zK13 100 (kS ?_))) <;> ((try with_reducible intro K1 hK1); simp only [go_sem, ↓reduceIte, reduceCtorEq, nA, nB, nC, nD, nE, nF, nG, nH, nI] <;> and_intros <;> (apply hK1; clear hK1 K1)))))
    refine awp_cond (t := _) rfl (fun h1 => ?_) (fun h1 => ?_)
    ·simp only [decide_eq_true_eq] at h1
     (repeat (first | refine gO rfl ?_ | ((first | ((with_reducible refine yS ?_); refine awp_keep zK13 100 (kS ?_)) | ((with_reducible refine yR ?_); refine awp_keep zK13 100 (kR ?_))) <;> ((try with_reducible intro K1 hK1); simp only [go_sem, ↓reduceIte, reduceCtorEq, nA, nB, nC, nD, nE, nF, List.length_range, nG, nH, nI] <;> and_intros <;> first | (apply hK1; clear hK1 K1) | (intros; first | omega | decide)))))
     refine ⟨g - 1, by omega, j + 1, by omega, ?_⟩
     rw [List.range_succ, List.map_append]; rfl
    ·simp only [decide_eq_false_iff_not] at h1
     have hjk : j = kids.length := by omega
     (repeat ((refine gO rfl ?_)))
     have hix : idxL 2 p many kids.length (nextF shares p cs) = List.range kids.length := by simp [idxL]
     refine ⟨h, .row 1 ((List.range kids.length).map encN) (some q), { h with T := upd h.T q (some (.tail kids.length)) }, hR, hO', hfr0, .inl ⟨rfl, by rw [hix]; exact Weak.row _ _ _, ⟨fun _ => .inr rfl, fun x => ?_⟩⟩, by rw [hjk]; rfl⟩
     by_cases hx : x = q
     ·subst hx; exact .inl hq
     ·exact .inr (upd_other _ _ hx).symm
   ·obtain ⟨tk, rfl⟩ := hkz (by omega)
    have hO' : OutAt h o k [] (out ++ if (3 : Int) = 1 then [(item, long)] else []) := by simpa using hO
    (repeat (first | refine gO rfl ?_ | ((((with_reducible refine yS ?_); refine awp_keep zK13 100 (kS ?_))) <;> ((try with_reducible intro K1 hK1); simp only [go_sem, ↓reduceIte, reduceCtorEq, nA, nB, nC, nD, nE, nF, hH0, nG, nH, nI] <;> and_intros <;> (apply hK1; clear hK1 K1)))))
    refine awp_cond (t := _) rfl (fun h1 => by cases h1) (fun _ => ?_)
    (repeat (first | refine gO rfl ?_ | ((((with_reducible refine yS ?_); refine awp_keep zK13 100 (kS ?_))) <;> ((try with_reducible intro K1 hK1); simp only [go_sem, ↓reduceIte, reduceCtorEq, nA, nB, nC, nD, nE, nF, hH0, nG, nH, nI] <;> and_intros <;> (apply hK1; clear hK1 K1)))))
    refine awp_cond (t := _) rfl (fun h1 => by cases h1) (fun _ => ?_)
    (repeat (first | refine gO rfl ?_ | ((((with_reducible refine yS ?_); refine awp_keep zK13 100 (kS ?_))) <;> ((try with_reducible intro K1 hK1); simp only [go_sem, ↓reduceIte, reduceCtorEq, nA, nB, nC, nD, nE, nF, hH0, nG, nH, nI] <;> and_intros <;> (apply hK1; clear hK1 K1)))))
    refine awp_cond (t := _) rfl (fun _ => ?_) (fun h1 => by cases h1)
    have hnk : 0 < kids.length := List.length_pos_iff.2 (v3 (by omega))
    have htm := Int.tmod_lt_of_pos p (show (0 : Int) < kids.length by omega)
    have htn := Int.tmod_nonneg (kids.length : Int) hpn.1
    have hzl : az.length = kids.length := l3
    (repeat (first | refine gO rfl ?_ | ((((with_reducible refine xR ?_); refine awp_keep zK13 100 (uE 12 zM10 zPFE zPFP 117 rfl (by kernel_rfl) ?_))) <;> ((try with_reducible intro K1 hK1); simp only [go_sem, ↓reduceIte, reduceCtorEq, nA, nB, nC, nD, nE, nF, hH0, hzl, nG, nH, nI] <;> and_intros <;> first | (apply hK1; clear hK1 K1) | (intros; first | omega | decide)))))
    have hix : idxL 3 p many kids.length (nextF shares p cs) = [(p.tmod kids.length).toNat] := by simp [idxL]
    refine ⟨h, .row 1 [[.v (.int .i64 (p.tmod kids.length))]] none, h, hR, hO', hfr0, .inl ⟨rfl, ?_, Hp.le.refl _⟩, rfl⟩
    rw [hix, List.map_cons, List.map_nil, encN, Int.toNat_of_nonneg htn]
    exact Weak.refl _
   ·obtain ⟨tk, rfl⟩ := hkz (by omega)
    have hO' : OutAt h o k [] (out ++ if (4 : Int) = 1 then [(item, long)] else []) := by simpa using hO
    (repeat (first | refine gO rfl ?_ | ((((with_reducible refine yS ?_); refine awp_keep zK13 100 (kS ?_))) <;> ((try with_reducible intro K1 hK1); simp only [go_sem, ↓reduceIte, reduceCtorEq, nA, nB, nC, nD, nE, nF, hH0, nG, nH, nI] <;> and_intros <;> (apply hK1; clear hK1 K1)))))
    refine awp_cond (t := _) rfl (fun h1 => by cases h1) (fun _ => ?_)
    (repeat (first | refine gO rfl ?_ | ((((with_reducible refine yS ?_); refine awp_keep zK13 100 (kS ?_))) <;> ((try with_reducible intro K1 hK1); simp only [go_sem, ↓reduceIte, reduceCtorEq, nA, nB, nC, nD, nE, nF, hH0, nG, nH, nI] <;> and_intros <;> (apply hK1; clear hK1 K1)))))
    refine awp_cond (t := _) rfl (fun h1 => by cases h1) (fun _ => ?_)
    (repeat (first | refine gO rfl ?_ | ((((with_reducible refine yS ?_); refine awp_keep zK13 100 (kS ?_))) <;> ((try with_reducible intro K1 hK1); simp only [go_sem, ↓reduceIte, reduceCtorEq, nA, nB, nC, nD, nE, nF, hH0, nG, nH, nI] <;> and_intros <;> (apply hK1; clear hK1 K1)))))
    refine awp_cond (t := _) rfl (fun h1 => by cases h1) (fun _ => ?_)
    (repeat (first | refine gO rfl ?_ | ((((with_reducible refine yS ?_); refine awp_keep zK13 100 (kS ?_))) <;> ((try with_reducible intro K1 hK1); simp only [go_sem, ↓reduceIte, reduceCtorEq, nA, nB, nC, nD, nE, nF, hH0, nG, nH, nI] <;> and_intros <;> (apply hK1; clear hK1 K1)))))
    refine awp_cond (t := _) rfl (fun _ => ?_) (fun h1 => by cases h1)
    have hsl := v5 rfl
    rw [← hsl] at hH0
    (repeat (((((with_reducible refine yR ?_); refine awp_keep zK13 100 (kR ?_))) <;> ((try with_reducible intro K1 hK1); simp only [go_sem, ↓reduceIte, reduceCtorEq, nA, nB, nC, nD, nE, nF, hH0, nG, nH, nI] <;> and_intros))))
    refine (g_next46 4 item long many (.row 6 (kids.map encL) none) shares (.row 1 (az.map fun a => [.ptr a.id 0]) tk) p i c0 cs h hH0 hT0 (by omega) (by omega) v6 (by omega) hcn).mono ?_; rintro _ hz ⟨rfl, hh⟩; apply hK1; clear hK1 K1; rw [hh]; clear hh hz
    (repeat (first | refine gO rfl ?_ | ((refine gR fun K1 hK1 => ?_; simp only [go_sem, ↓reduceIte, reduceCtorEq, nA, nB, nC, nD, nE, nF, nG, nH, nI] <;> and_intros <;> first | (apply hK1; clear hK1 K1) | (intros; (decide))))))
    have hix : idxL 4 p many kids.length (nextF shares p cs) = [nextF shares p cs] := by simp [idxL]
    exact ⟨h, .row 1 [[.v (.int .i64 (nextF shares p cs))]] none, h, hR, hO', hfr0, .inl ⟨rfl, by rw [hix]; exact Weak.refl _, Hp.le.refl _⟩, rfl⟩
   ·obtain ⟨tk, rfl⟩ := hkz (by omega)
    have hO' : OutAt h o k [] (out ++ if (5 : Int) = 1 then [(item, long)] else []) := by simpa using hO
    (repeat (first | refine gO rfl ?_ | ((((with_reducible refine yS ?_); refine awp_keep zK13 100 (kS ?_))) <;> ((try with_reducible intro K1 hK1); simp only [go_sem, ↓reduceIte, reduceCtorEq, nA, nB, nC, nD, nE, nF, hH0, nG, nH, nI] <;> and_intros <;> (apply hK1; clear hK1 K1)))))
    refine awp_cond (t := _) rfl (fun h1 => by cases h1) (fun _ => ?_)
    (repeat (first | refine gO rfl ?_ | ((((with_reducible refine yS ?_); refine awp_keep zK13 100 (kS ?_))) <;> ((try with_reducible intro K1 hK1); simp only [go_sem, ↓reduceIte, reduceCtorEq, nA, nB, nC, nD, nE, nF, hH0, nG, nH, nI] <;> and_intros <;> (apply hK1; clear hK1 K1)))))
    refine awp_cond (t := _) rfl (fun h1 => by cases h1) (fun _ => ?_)
    (repeat (first | refine gO rfl ?_ | ((((with_reducible refine yS ?_); refine awp_keep zK13 100 (kS ?_))) <;> ((try with_reducible intro K1 hK1); simp only [go_sem, ↓reduceIte, reduceCtorEq, nA, nB, nC, nD, nE, nF, hH0, nG, nH, nI] <;> and_intros <;> (apply hK1; clear hK1 K1)))))
    refine awp_cond (t := _) rfl (fun h1 => by cases h1) (fun _ => ?_)
    (repeat (first | refine gO rfl ?_ | ((((with_reducible refine yS ?_); refine awp_keep zK13 100 (kS ?_))) <;> ((try with_reducible intro K1 hK1); simp only [go_sem, ↓reduceIte, reduceCtorEq, nA, nB, nC, nD, nE, nF, hH0, nG, nH, nI] <;> and_intros <;> (apply hK1; clear hK1 K1)))))
    refine awp_cond (t := _) rfl (fun h1 => by cases h1) (fun _ => ?_)
    (repeat (first | refine gO rfl ?_ | ((((with_reducible refine yS ?_); refine awp_keep zK13 100 (kS ?_))) <;> ((try with_reducible intro K1 hK1); simp only [go_sem, ↓reduceIte, reduceCtorEq, nA, nB, nC, nD, nE, nF, hH0, nG, nH, nI] <;> and_intros <;> (apply hK1; clear hK1 K1)))))
    refine awp_cond (t := _) rfl (fun _ => ?_) (fun h1 => by cases h1)
    have hm5 := v4 rfl
    (repeat (((((with_reducible refine yR ?_); refine awp_keep zK13 100 (kR ?_))) <;> ((try with_reducible intro K1 hK1); simp only [go_sem, ↓reduceIte, reduceCtorEq, nA, nB, nC, nD, nE, nF, hH0, nG, nH, nI] <;> and_intros <;> first | (intros; (omega)) | skip))))
    intro q hq
    refine hK1 _ ?_; clear hK1 K1
    (repeat ((refine gO rfl ?_)))
    have hix : idxL 5 p many kids.length (nextF shares p cs) = List.replicate many.toNat 0 := by simp [idxL]
    refine ⟨h, .arr 1 q many.toNat, _, hR, hO', hfr0, .inr ⟨q, by rw [hix, List.length_replicate], hq, rfl⟩, ?_⟩
    rw [hix, List.map_replicate]; rfl
  ·rintro _ ⟨hb, v, h1, hRb, hOb, hFb, hv7, rfl⟩
   have hidx := idxL_lt (many := many) (nx := nextF shares p cs) v1 (fun h => List.length_pos_iff.2 (v3 h)) (fun h4 => by rw [← v5 h4]; exact bestTo_lt _ _ (by rw [v5 h4]; exact List.length_pos_iff.2 (v3 (by omega)))) hpn.1
   have hLn : (idxL kind p many kids.length (nextF shares p cs)).length ≤ 1000 := by
    unfold idxL
    split
    ·simp
    ·split
     ·simp; omega
     ·split
      ·simp
      ·split
       ·simp
       ·have := v4 (by omega); simp; omega
   have hL1 : (idxL kind p many kids.length (nextF shares p cs)).length ≠ 0 → kind ≠ 1 := fun h hk => h (by unfold idxL; rw [if_pos hk]; rfl)
   have hPS := passU_succ d kind item long many kids shares p cs ks
   generalize idxL kind p many kids.length (nextF shares p cs) = L at *
   have hzl : ∀ y ∈ L.map encN, y.length = 1 := fun y hy => by obtain ⟨x, _, rfl⟩ := List.mem_map.1 hy; rfl
   refine awp_via (fun s => s = ⟨((.ptr i 0) :: (.ptr o 0) :: (.v (.int .i64 5000)) :: (jnk 4 ((.row 1 (L.map encN) none) :: (jnk 109 [])))), [], hb⟩) ?_ ?_
   rotate_left
   ·intro main
    rcases hv7 with ⟨hn, hw, hle⟩ | ⟨q, rfl, hq, rfl⟩
    ·exact awp_less hle (awp_weakS 7 rfl hn hw (main _ rfl))
    ·refine awp_frz 7 q 1 (xs := L.map encN) (by rw [List.length_map]; rfl) (upd_same _ _ _) hzl (main _ ?_)
     simp only [upd_none hq]
     rfl
   rintro _ rfl
   clear hv7 h1 v
   skip
   refine awp_seq ?_
   (repeat (first | refine gO rfl ?_ | ((((with_reducible refine yS ?_); refine awp_keep zK13 100 (kS ?_))) <;> ((try with_reducible intro K1 hK1); simp only [go_sem, ↓reduceIte, reduceCtorEq, nA, nB, nC, nD, nE, nF, nG, nH, nI] <;> and_intros <;> (apply hK1; clear hK1 K1)))))
   refine awp_loopC (rl false [0, 3, 74, 3, 37]) 0 (fun g s => ∃ (j : Nat) (h1 : Hp) (acc : (List Int × List PS) × List (ByteArray × Int)), g + j = L.length ∧ acc = (L.take j).foldl (stepU (passU d) kids) ((cs, ks), if kind = 1 then [(item, long)] else []) ∧
    RAt XR h1 (d + 1) (.mk kind item long many kids shares) (.mk i c0 az) (.mk p acc.1.1 acc.1.2) ∧ OutAt h1 o k [] (out ++ acc.2) ∧ FrP (.mk i c0 az) o k h h1 ∧ FOk d kids (out.length + acc.2.length) acc.1 ∧ (L.length ≠ 0 → out.length + acc.2.length ≤ 5000) ∧ out.length + acc.2.length ≤ 5001 ∧
    s = ⟨((.ptr i 0) :: (.ptr o 0) :: (.v (.int .i64 5000)) :: (jnk 74 ((.row 1 (L.map encN) none) :: (.v (.int .i64 L.length)) :: (.v (.int .i64 j)) :: (jnk 37 [])))), [], h1⟩) L.length ⟨0, hb, ((cs, ks), if kind = 1 then [(item, long)] else []), by omega, rfl, hRb, hOb, hFb, ⟨⟨l2, l4⟩, fun x hx => ?_, fun j hj => (hB.2.2 j hj).mono ?_⟩, fun h => ?_, ?_, rfl⟩ ?_
   ·have := hB.2.1 x hx; simp only []; omega
   ·simp only []; omega
   ·rw [if_neg (hL1 h)]; simp; omega
   ·simp only []; split <;> simp <;> omega
   rintro g _ ⟨j, h1, acc, hj, hacc, hR1, hO1', hF1, hFk, hl5, hl6, rfl⟩
   (repeat (first | refine gO rfl ?_ | ((((with_reducible refine yS ?_); refine awp_keep zK13 100 (kS ?_))) <;> ((try with_reducible intro K1 hK1); simp only [go_sem, ↓reduceIte, reduceCtorEq, nA, nB, nC, nD, nE, nF, nG, nH, nI] <;> and_intros <;> (apply hK1; clear hK1 K1)))))
   refine awp_cond (t := _) rfl (fun h2 => ?_) (fun h2 => ?_)
   ·simp only [decide_eq_true_eq] at h2
    have hjL : j < L.length := by omega
    have hgL : (L.map encN).getD j [] = encN (L.getD j 0) := getD_enc encN L j 0 hjL
    have hx := hidx _ (getD_mem' L j 0 hjL)
    have hsplit : L.take (j + 1) = L.take j ++ [L.getD j 0] := by rw [List.take_add_one, List.getD_eq_getElem?_getD, List.getElem?_eq_getElem hjL]; rfl
    generalize L.getD j 0 = x at hgL hx hsplit
    obtain ⟨⟨K1', hH1, hK1'⟩, hT1, ⟨m1, m2, m3, m4⟩, hk1⟩ := id hR1
    obtain ⟨tk, rfl⟩ : ∃ tk, K1' = .row 1 (az.map fun a => [.ptr a.id 0]) tk := by
     rcases hK1' with ⟨rfl, _⟩ | h9
     ·simp at m3; omega
     ·exact h9
    have hH10 : h1.H i = some (.cells [.v (.int .i64 kind), .v (.string item), .v (.int .i64 long), .v (.int .i64 many), .row 6 (kids.map encL) none, .row 1 (shares.map encI) none, .row 1 (az.map fun a => [.ptr a.id 0]) tk, .v (.int .i64 p), .arr 1 c0 kids.length]) := hH1
    have hgz : (az.map fun a : AT => [AV.ptr a.id 0]).getD x [] = [.ptr (az.getD x default).id 0] := getD_enc (fun a : AT => [AV.ptr a.id 0]) az x default (by omega)
    have ho5 := hl5 (by omega)
    have hSx := hS x (by omega)
    (repeat (first | refine gO rfl ?_ | ((((with_reducible refine yS ?_); refine awp_keep zK13 100 (kS ?_))) <;> ((try with_reducible intro K1 hK1); simp only [go_sem, ↓reduceIte, reduceCtorEq, nA, nB, nC, nD, nE, nF, Int.toNat_natCast, hgL, encN, hH10, hgz, m3, nG, nH, nI] <;> and_intros <;> first | (apply hK1; clear hK1 K1) | (intros; (omega)) | skip))))
    refine (g_passR d (kids.getD x default) (az.getD x default) (acc.1.2.getD x default) h1 o k (out ++ acc.2) (v8 _ (getD_mem' kids x default hx)) (hk1 x hx) hSx.1.2.2 (by rw [List.length_append]; exact_mod_cast hFk.2.2 x hx) hO1' (fun h => ho (idsT_kid (by omega) h)) (by rw [List.length_append]; exact ho5)).mono ?_
    intro r h3 hres
    have hpo := passU_ok d (kids.getD x default) (acc.1.2.getD x default) (out.length + acc.2.length) (v8 _ (getD_mem' kids x default hx)) (hk1 x hx).fits (by omega) (hFk.2.2 x hx)
    unfold PRes at hres
    split at hres
    ·rename_i hle
     obtain ⟨rfl, hR3, hO3, hF3⟩ := hres
     have hkt1 := hR1.tokNe hO1'.2
     have hoi : i ≠ o := fun e => ho (by rw [idsT_eq, e]; simp)
     have hck : c0 ≠ k := fun e => hkt1 (by rw [toksT_eq, e]; simp)
     have hH3 := (hF3.1 i hSx.1.1 hoi).trans hH10
     have hT3 : h3.T c0 = some (.cont 1 (acc.1.1.map encI)) := (hF3.2 c0 hSx.1.2.1 hck).trans hT1
     have hgc : (acc.1.1.map encI).getD x [] = encI (acc.1.1.getD x 0) := getD_enc encI acc.1.1 x 0 (by omega)
     have hcb := hFk.2.1 _ (getD_mem' acc.1.1 x 0 (by omega))
     refine hK1 _ ?_; clear hK1 K1
     (repeat (first | refine gO rfl ?_ | ((refine gR fun K1 hK1 => ?_; simp only [go_sem, ↓reduceIte, reduceCtorEq, nA, nB, nC, nD, nE, nF, nG, nH, nI] <;> and_intros <;> (apply hK1; clear hK1 K1)))))
     refine awp_cond (t := _) rfl (fun h => by cases h) (fun _ => ?_)
     (repeat (first | refine gO rfl ?_ | ((((with_reducible refine yR ?_); refine awp_keep zK13 100 (kR ?_))) <;> ((try with_reducible intro K1 hK1); simp only [go_sem, ↓reduceIte, reduceCtorEq, nA, nB, nC, nD, nE, nF, hH3, hT3, m2, hgc, Int.toNat_natCast, encI, nG, nH, nI] <;> and_intros <;> first | (apply hK1; clear hK1 K1) | (intros; (omega))))))
     obtain ⟨s1, s2⟩ := stepU_ok (f := passU d) hFk hx rfl hpo.1 hpo.2.1
     rw [List.length_append] at hle
     refine ⟨g - 1, by omega, j + 1, { h3 with T := upd h3.T c0 (some (.cont 1 ((acc.1.1.set x (acc.1.1.getD x 0 + 1)).map encI))) }, stepU (passU d) kids acc x, by omega, by rw [hsplit, List.foldl_append, ← hacc]; rfl, ?_, ⟨?_, ?_⟩, hF1.trans ⟨fun y hy hyo => (hF3.kid (i := i) (c := c0) (by omega)).1 y hy hyo, fun y hy hyk => (upd_other _ _ (fun e => hy (by rw [toksT_eq, e]; simp))).trans ((hF3.kid (i := i) (c := c0) (by omega)).2 y hy hyk)⟩, ?_, fun _ => by rw [s2]; omega, by rw [s2]; omega, ?_⟩
     ·exact (hR1.kid hS ho hkt1 hx hR3 hF3).count hS (cs' := acc.1.1.set x (acc.1.1.getD x 0 + 1)) (by simp) (by simp [XR]; omega)
     ·rw [show (stepU (passU d) kids acc x).2 = acc.2 ++ (passU d (kids.getD x default) (acc.1.2.getD x default)).2 from rfl, ← List.append_assoc]
      exact hO3.1
     ·rw [show (stepU (passU d) kids acc x).2 = acc.2 ++ (passU d (kids.getD x default) (acc.1.2.getD x default)).2 from rfl, ← List.append_assoc]
      exact (upd_other _ _ (fun e => hck e.symm)).trans hO3.2
     ·rw [s2]
      have e5 : ((out.length : Int) + ((acc.2.length + (passU d (kids.getD x default) (acc.1.2.getD x default)).2.length : Nat) : Int)) = out.length + acc.2.length + (passU d (kids.getD x default) (acc.1.2.getD x default)).2.length := by omega
      rw [e5]; exact s1
     ·rw [List.map_set]; rfl
    ·rename_i hle
     subst hres
     refine hK1 _ ?_; clear hK1 K1
     (repeat (first | refine gO rfl ?_ | ((refine gR fun K1 hK1 => ?_; simp only [go_sem, ↓reduceIte, reduceCtorEq, nA, nB, nC, nD, nE, nF, nG, nH, nI] <;> and_intros <;> (apply hK1; clear hK1 K1)))))
     refine awp_cond (t := _) rfl (fun _ => ?_) (fun h => by cases h)
     (repeat (first | refine gO rfl ?_ | ((((with_reducible refine yS ?_); refine awp_keep zK13 100 (kS ?_))) <;> ((try with_reducible intro K1 hK1); simp only [go_sem, ↓reduceIte, reduceCtorEq, nA, nB, nC, nD, nE, nF, nG, nH, nI] <;> and_intros <;> (apply hK1; clear hK1 K1)))))
     simp only [Tryz.results135, go_sem, ↓reduceIte, reduceCtorEq, nA, nB, nC, nD, nE, nF]
     refine ⟨_, _, Weak.refl _, Hp.le.refl _, ?_⟩
     have hmo := fold_mono (f := passU d) (kids := kids) (L.drop (j + 1)) ((L.take (j + 1)).foldl (stepU (passU d) kids) ((cs, ks), if kind = 1 then [(item, long)] else []))
     rw [← List.foldl_append, List.take_append_drop, hsplit, List.foldl_append, ← hacc] at hmo
     have e6 : ([x].foldl (stepU (passU d) kids) acc).2.length = acc.2.length + (passU d (kids.getD x default) (acc.1.2.getD x default)).2.length := by simp [stepU]
     rw [e6] at hmo
     rw [List.length_append] at hle
     unfold PRes
     rw [hPS, if_neg (by simp only []; omega)]
   ·simp only [decide_eq_false_iff_not] at h2
    have hjL : j = L.length := by omega
    subst hjL
    rw [List.take_length] at hacc
    obtain ⟨⟨K1', hH1, hK1'⟩, hT1, ⟨m1, m2, m3, m4⟩, hk1⟩ := id hR1
    have hH10 : h1.H i = some (.cells [.v (.int .i64 kind), .v (.string item), .v (.int .i64 long), .v (.int .i64 many), .row 6 (kids.map encL) none, .row 1 (shares.map encI) none, K1', .v (.int .i64 p), .arr 1 c0 kids.length]) := hH1
    have hoi : o ≠ i := fun e => ho (by rw [idsT_eq, e]; simp)
    have hHo : ∀ y, upd h1.H i y o = some (.cells [.row 2 ((out ++ acc.2).map encStep) (some k)]) := fun y => (upd_other _ _ hoi).trans hO1'.1
    (repeat (first | refine gO rfl ?_ | ((((with_reducible refine yS ?_); refine awp_keep zK13 100 (kS ?_))) <;> ((try with_reducible intro K1 hK1); simp only [go_sem, ↓reduceIte, reduceCtorEq, nA, nB, nC, nD, nE, nF, hH10, hHo, nG, nH, nI] <;> and_intros <;> first | (apply hK1; clear hK1 K1) | (intros; (omega))))))
    simp only [Tryz.results135, go_sem, ↓reduceIte, reduceCtorEq, nA, nB, nC, nD, nE, nF]
    refine ⟨_, _, Weak.refl _, Hp.le.refl _, ?_⟩
    unfold PRes
    rw [hPS, ← hacc]
    have e9 : (out ++ acc.2).length = out.length + acc.2.length := List.length_append
    show (if out.length + acc.2.length ≤ 5000 then _ else _)
    split
    ·rename_i hle
     refine ⟨by simp only [AV.v.injEq, Value.bool.injEq, decide_eq_true_eq]; omega, hR1.hadOne hS hK1', ⟨hHo _, hO1'.2⟩, hF1.trans ⟨fun y hy _ => upd_other _ _ (fun e => hy (by rw [idsT_eq, e]; simp)), fun _ _ _ => rfl⟩⟩
    ·rename_i hle
     simp only [AV.v.injEq, Value.bool.injEq, decide_eq_false_iff_not]
     omega
end Go.Proofs.YtoleejecmefogaaGreatDoor
