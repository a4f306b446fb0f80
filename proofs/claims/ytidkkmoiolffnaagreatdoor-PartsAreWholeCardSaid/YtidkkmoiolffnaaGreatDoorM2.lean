/- cmp.Compare and cmp.Or of ints. -/
import Derived.Test.YtidkkmoiolffnaaGreatDoorM1
import Derived.Test.YtidkkmoiolffnaaGreatDoorShelf
import Derived.Test.YtidkkmoiolffnaaGreatDoorAvOld
import Derived.Test.YtidkkmoiolffnaaGreatDoorAvUn
import Derived.Test.YtidkkmoiolffnaaGreatDoorProg
import Derived.Laws.BitsAllLaws
import Derived.Laws.ShiftsVarLaws
import Derived.Laws.BytesArg
import Derived.Laws.NewBlocks
import Derived.Deep.DeepCutAuto
import Derived.Deep.LoopGhost
import Derived.Below
namespace Go.Proofs.YtidkkmoiolffnaaGreatDoor
open Go
set_option linter.unusedVariables false
set_option linter.unusedSimpArgs false
open Nat renaming reduceAdd → nA, reduceSub → nB, reduceMul → nC, reduceLT → nD, reduceLeDiff → nE, reduceEqDiff → nF, reduceMod → nG, reduceDiv → nH, reducePow → nI
set_option maxRecDepth 100000
set_option maxHeartbeats 8000000
abbrev zM20 : Option Tmp → Nat := mdL [(4, 3), (5, 1)]
abbrev zM21 : Option Tmp → Nat := mdL []
abbrev zM22 : Option Tmp → Nat := mdL [(8, 2), (77, 2)]
abbrev zM23 : Option Tmp → Nat := mdL [(32, 2)]
abbrev zM24 : Option Tmp → Nat := mdL [(6, 1)]
abbrev zM25 : Option Tmp → Nat := mdL [(3, 2)]
abbrev zM26 : Option Tmp → Nat := mdL [(5, 1), (14, 2)]
abbrev zM27 : Option Tmp → Nat := mdL [(2, 1), (6, 1), (8, 1), (12, 2)]
abbrev zM28 : Option Tmp → Nat := mdL [(2, 1)]
abbrev zM29 : Option Tmp → Nat := mdL [(4, 1)]
abbrev zM2A : Option Tmp → Nat := mdL [(9, 1)]
abbrev zM2B : Option Tmp → Nat := mdL [(5, 2)]
attribute [go_sem] zM20 zM21 zM22 zM23 zM24 zM25 zM26 zM27 zM28 zM29 zM2A zM2B
theorem g_nan (x : Int) (h : Hp) : ACalls Tryz.prog 232 [.v (.int .i64 x)] h (fun r h' => r = .v (.bool false) ∧ h' = h) := by
 refine gE Tryz.func232 rfl (by kernel_rfl) 5 rfl fun c => ?_
 (repeat (first | refine gO rfl ?_ | (refine gR fun K1 hK1 => ?_; simp only [go_sem, ↓reduceIte, reduceCtorEq, nA, nB, nC, nD, nE, nF] <;> and_intros <;> first | (apply hK1; clear hK1 K1) | (intros; first | omega | decide | (simp_all <;> omega)) | skip)))
 simp only [Tryz.results232, go_sem, ↓reduceIte, reduceCtorEq, nA, nB, nC, nD, nE, nF]
 exact ⟨_, _, Weak.refl _, Hp.le.refl _, by simp, rfl⟩
theorem g_cmpI (x y : Int) (h : Hp) : ACalls Tryz.prog 166 [.v (.int .i64 x), .v (.int .i64 y)] h (fun r h' => r = .v (.int .i64 (cmpI x y)) ∧ h' = h) := by
 have n1 := g_nan x h
 have n2 := g_nan y h
 refine gE Tryz.func166 rfl (by kernel_rfl) 18 rfl fun c => ?_
 (repeat (first | refine gO rfl ?_ | (refine gR fun K1 hK1 => ?_; simp only [go_sem, ↓reduceIte, reduceCtorEq, nA, nB, nC, nD, nE, nF] <;> and_intros <;> first | (apply hK1; clear hK1 K1) | (intros; first | omega | decide | (simp_all <;> omega)) | skip)))
 refine n1.mono ?_; rintro _ hz ⟨rfl, hh⟩; apply hK1; clear hK1 K1; rw [hh]; clear hh hz
 (repeat (first | refine gO rfl ?_ | (refine gR fun K1 hK1 => ?_; simp only [go_sem, ↓reduceIte, reduceCtorEq, nA, nB, nC, nD, nE, nF] <;> and_intros <;> first | (apply hK1; clear hK1 K1) | (intros; first | omega | decide) | skip)))
 refine n2.mono ?_; rintro _ hz ⟨rfl, hh⟩; apply hK1; clear hK1 K1; rw [hh]; clear hh hz
 (repeat (first | refine gO rfl ?_ | (refine gR fun K1 hK1 => ?_; simp only [go_sem, ↓reduceIte, reduceCtorEq, nA, nB, nC, nD, nE, nF] <;> and_intros <;> first | (apply hK1; clear hK1 K1) | (intros; first | omega | decide) | skip)))
 refine awp_cond (t := _) rfl (fun h9 => by cases h9) (fun _ => ?_)
 (repeat (first | refine gO rfl ?_ | (refine gR fun K1 hK1 => ?_; simp only [go_sem, ↓reduceIte, reduceCtorEq, nA, nB, nC, nD, nE, nF] <;> and_intros <;> first | (apply hK1; clear hK1 K1) | (intros; first | omega | decide) | skip)))
 refine awp_cond (t := _) rfl (fun h9 => by cases h9) (fun _ => ?_)
 (repeat (first | refine gO rfl ?_ | (refine gR fun K1 hK1 => ?_; simp only [go_sem, ↓reduceIte, reduceCtorEq, nA, nB, nC, nD, nE, nF] <;> and_intros <;> first | (apply hK1; clear hK1 K1) | (intros; first | omega | decide) | skip)))
 refine awp_cond (t := _) rfl (fun h1 => ?_) (fun h1 => ?_)
 ·simp only [decide_eq_true_eq] at h1
  (repeat (first | refine gO rfl ?_ | (refine gR fun K1 hK1 => ?_; simp only [go_sem, ↓reduceIte, reduceCtorEq, nA, nB, nC, nD, nE, nF] <;> and_intros <;> first | (apply hK1; clear hK1 K1) | (intros; first | omega | decide) | skip)))
  simp only [Tryz.results166, go_sem, ↓reduceIte, reduceCtorEq, nA, nB, nC, nD, nE, nF]
  exact ⟨_, _, Weak.refl _, Hp.le.refl _, by rw [cmpI, if_pos h1], rfl⟩
 ·simp only [decide_eq_false_iff_not] at h1
  (repeat (first | refine gO rfl ?_ | (refine gR fun K1 hK1 => ?_; simp only [go_sem, ↓reduceIte, reduceCtorEq, nA, nB, nC, nD, nE, nF] <;> and_intros <;> first | (apply hK1; clear hK1 K1) | (intros; first | omega | decide) | skip)))
  refine awp_cond (t := _) rfl (fun h2 => ?_) (fun h2 => ?_)
  ·simp only [decide_eq_true_eq] at h2
   (repeat (first | refine gO rfl ?_ | (refine gR fun K1 hK1 => ?_; simp only [go_sem, ↓reduceIte, reduceCtorEq, nA, nB, nC, nD, nE, nF] <;> and_intros <;> first | (apply hK1; clear hK1 K1) | (intros; first | omega | decide) | skip)))
   simp only [Tryz.results166, go_sem, ↓reduceIte, reduceCtorEq, nA, nB, nC, nD, nE, nF]
   exact ⟨_, _, Weak.refl _, Hp.le.refl _, by rw [cmpI, if_neg h1, if_pos (by omega)], rfl⟩
  ·simp only [decide_eq_false_iff_not] at h2
   (repeat (first | refine gO rfl ?_ | (refine gR fun K1 hK1 => ?_; simp only [go_sem, ↓reduceIte, reduceCtorEq, nA, nB, nC, nD, nE, nF] <;> and_intros <;> first | (apply hK1; clear hK1 K1) | (intros; first | omega | decide) | skip)))
   simp only [Tryz.results166, go_sem, ↓reduceIte, reduceCtorEq, nA, nB, nC, nD, nE, nF]
   exact ⟨_, _, Weak.refl _, Hp.le.refl _, by rw [cmpI, if_neg h1, if_neg (by omega)], rfl⟩
theorem g_order1 {x : Kp} {p : Nat} {h : Hp} (hp : h.H p = some (.cells (encKp x))) :
  ACalls Tryz.prog 305 ([.ptr p 0] ++ []) h (fun r h' => r = .v (.bool x.2.2.1) ∧ h' = h) := by
 obtain ⟨k, b, pi, ca, la, ma⟩ := x
 refine gE Tryz.func305 rfl (by kernel_rfl) 6 rfl fun c => ?_
 (repeat (first | refine gO rfl ?_ | (refine gR fun K1 hK1 => ?_; simp only [go_sem, ↓reduceIte, reduceCtorEq, nA, nB, nC, nD, nE, nF, hp, encKp] <;> and_intros <;> first | (apply hK1; clear hK1 K1) | (intros; first | omega | decide | (simp_all <;> omega)) | skip)))
 simp only [Tryz.results305, go_sem, ↓reduceIte, reduceCtorEq, nA, nB, nC, nD, nE, nF]
 exact ⟨_, _, Weak.refl _, Hp.le.refl _, rfl, rfl⟩
theorem g_cloneK (k : Nat) (ps : List Nat) (h : Hp) (hT : h.T k = some (.cont 1 (ps.map encR))) (hl : ps.length ≤ 100000) :
  ACalls Tryz.prog 304 [.arr 1 k ps.length] h (fun r h' => ∃ q, r = .arr 1 q ps.length ∧ h.T q = none ∧ h' = ⟨h.H, upd h.T q (some (.cont 1 (ps.map encR)))⟩) := by
 have hml : (ps.map encR).length = ps.length := List.length_map _
 refine gE Tryz.func304 rfl (by kernel_rfl) 7 rfl fun c => ?_
 (repeat (first | refine gO rfl ?_ | (refine gM zM20 fun K1 hK1 => ?_; simp only [go_sem, ↓reduceIte, reduceCtorEq, nA, nB, nC, nD, nE, nF] <;> and_intros <;> first | (apply hK1; clear hK1 K1) | (intros; first | omega | decide | (simp_all <;> omega)) | skip)))
 ·intro h0
  refine hK1 _ ?_; clear hK1 K1
  (repeat (first | refine gO rfl ?_ | (refine gM zM20 fun K1 hK1 => ?_; simp only [go_sem, ↓reduceIte, reduceCtorEq, nA, nB, nC, nD, nE, nF] <;> and_intros <;> first | (apply hK1; clear hK1 K1) | (intros; first | omega | decide) | skip)))
  refine awp_cond (t := _) rfl (fun _ => ?_) (fun h9 => by cases h9)
  (repeat refine gO rfl ?_)
  refine awp_seq ?_
  refine awp_AL ?_
  refine AL.cons rfl (Quiet.aop (q_move (.inr rfl)) ?_)
  refine AL.nil ?_
  refine awp_ownA 2 1 rfl ⟨rfl, rfl⟩ (fun q hq => ?_)
  refine awp_cut (rl false [2, 1, 5]) 0 (?_ : Awp _ _ _ _ ⟨(AV.junk :: AV.junk :: ((.arr 1 q 0) :: (jnk 5 []))), [], ⟨h.H, upd h.T q (some (.cont 1 []))⟩⟩)
  obtain rfl := List.eq_nil_of_length_eq_zero h0
  (repeat (first | refine gO rfl ?_ | (refine gM zM20 fun K1 hK1 => ?_; simp only [go_sem, ↓reduceIte, reduceCtorEq, nA, nB, nC, nD, nE, nF] <;> and_intros <;> first | (apply hK1; clear hK1 K1) | (intros; first | omega | decide) | skip)))
  simp only [Tryz.results304, go_sem, ↓reduceIte, reduceCtorEq, nA, nB, nC, nD, nE, nF]
  exact ⟨_, _, Weak.refl _, Hp.le.refl _, q, rfl, hq, rfl⟩
 ·(repeat (first | refine gO rfl ?_ | (refine gM zM20 fun K1 hK1 => ?_; simp only [go_sem, ↓reduceIte, reduceCtorEq, nA, nB, nC, nD, nE, nF] <;> and_intros <;> first | (apply hK1; clear hK1 K1) | (intros; first | omega | decide) | skip)))
  refine awp_cond (t := _) rfl (fun h9 => by cases h9) (fun _ => ?_)
  (repeat (first | refine gO rfl ?_ | (refine gM zM20 fun K1 hK1 => ?_; simp only [go_sem, ↓reduceIte, reduceCtorEq, nA, nB, nC, nD, nE, nF, hT, hml] <;> and_intros <;> first | (apply hK1; clear hK1 K1) | (intros; first | omega | decide) | skip)))
  intro q hq
  have hqk : k ≠ q := by rintro rfl; rw [hT] at hq; cases hq
  simp only [upd_other _ _ hqk, hT, hml, and_self, if_true]
  refine ⟨⟨trivial, rfl, .inl trivial⟩, ⟨by simp; omega, by simp; omega⟩, hK1 _ ?_⟩; clear hK1 K1
  (repeat (first | refine gO rfl ?_ | (refine gM zM20 fun K1 hK1 => ?_; simp only [go_sem, ↓reduceIte, reduceCtorEq, nA, nB, nC, nD, nE, nF] <;> and_intros <;> first | (apply hK1; clear hK1 K1) | (intros; first | omega | decide) | skip)))
  simp only [Tryz.results304, go_sem, ↓reduceIte, reduceCtorEq, nA, nB, nC, nD, nE, nF]
  exact ⟨_, _, Weak.refl _, Hp.le.refl _, q, rfl, hq, rfl⟩
abbrev zPOE : List Nat := [0, 1, 2, 3, 4, 5, 6, 7]
abbrev zPOP : List (Nat × List Nat × List Nat) := [(8, [], [9])]
abbrev zPPE : List Nat := [0, 1, 2, 3, 4, 5, 6, 7]
abbrev zPPP : List (Nat × List Nat × List Nat) := [(8, [], [9])]
abbrev zPQE : List Nat := [0, 1, 2, 3, 4, 5, 6, 7]
abbrev zPQP : List (Nat × List Nat × List Nat) := [(8, [], [9])]
abbrev zPRE : List Nat := [0, 1, 2, 3, 4, 5, 6, 7, 8]
abbrev zPRP : List (Nat × List Nat × List Nat) := [(9, [], [10]), (11, [], [12])]
attribute [go_sem] zPOE zPOP zPPE zPPP zPQE zPQP zPRE zPRP
def encJ (x : Int) : List AV := [.v (.int .i64 x)]
def orJ : List Int → Int
 | [] => 0
 | x :: l => if x = 0 then orJ l else x
theorem orJ_at (l : List Int) (j : Nat) (h : j < l.length) (h0 : ∀ i, i < j → l.getD i 0 = 0) (hn : l.getD j 0 ≠ 0) : orJ l = l.getD j 0 := by
 induction l generalizing j with
 | nil => simp at h
 | cons x l ih =>
  cases j with
  | zero => rw [orJ, if_neg (by simpa using hn)]; rfl
  | succ j =>
   have hx := h0 0 (by omega)
   simp only [List.getD_cons_zero] at hx
   rw [orJ, if_pos hx, List.getD_cons_succ]
   exact ih j (by simpa using h) (fun i hi => by simpa using h0 (i + 1) (by omega)) (by simpa using hn)
theorem orJ_zero (l : List Int) (h : ∀ i, i < l.length → l.getD i 0 = 0) : orJ l = 0 := by
 induction l with
 | nil => rfl
 | cons x l ih =>
  have hx := h 0 (by simp)
  simp only [List.getD_cons_zero] at hx
  rw [orJ, if_pos hx]
  exact ih fun i hi => by simpa using h (i + 1) (by simpa using hi)
theorem g_orK (l : List Int) (h : Hp) (hl : l.length ≤ 1000) : ACalls Tryz.prog 165 [.row 1 (l.map encJ) none] h (fun r h' => r = .v (.int .i64 (orJ l)) ∧ h' = h) := by
 refine gE Tryz.func165 rfl (by kernel_rfl) 17 rfl fun c => ?_
 (repeat (first | refine gO rfl ?_ | (refine gR fun K1 hK1 => ?_; simp only [go_sem, ↓reduceIte, reduceCtorEq, nA, nB, nC, nD, nE, nF] <;> and_intros <;> first | (apply hK1; clear hK1 K1) | (intros; first | omega | decide | (simp_all <;> omega)) | skip)))
 refine awp_loopC (rl false [3, 1, 2, 3, 9]) 0 (fun g s => ∃ j : Nat, g + j = l.length ∧ (∀ i, i < j → l.getD i 0 = 0) ∧
  s = ⟨((jnk 3 ((.v (.int .i64 0)) :: AV.junk :: AV.junk :: ((.row 1 (l.map encJ) none) :: (.v (.int .i64 l.length)) :: (.v (.int .i64 j)) :: (jnk 9 []))))), [], h⟩) l.length ⟨0, by omega, by omega, rfl⟩ ?_
 rintro g _ ⟨j, hj, h0, rfl⟩
 (repeat (first | refine gO rfl ?_ | (refine gR fun K1 hK1 => ?_; simp only [go_sem, ↓reduceIte, reduceCtorEq, nA, nB, nC, nD, nE, nF] <;> and_intros <;> first | (apply hK1; clear hK1 K1) | (intros; first | omega | decide | (simp_all <;> omega)) | skip)))
 refine awp_cond (t := _) rfl (fun h3 => ?_) (fun h3 => ?_)
 ·simp only [decide_eq_true_eq] at h3
  have hjl : j < l.length := by omega
  have hgx : (l.map encJ).getD j [] = [.v (.int .i64 (l.getD j 0))] := getD_enc encJ l j 0 hjl
  have hat := orJ_at l j hjl h0
  obtain ⟨x, hx⟩ : ∃ x, x = l.getD j 0 := ⟨_, rfl⟩
  rw [← hx] at hgx hat
  (repeat (first | refine gO rfl ?_ | (refine gR fun K1 hK1 => ?_; simp only [go_sem, ↓reduceIte, reduceCtorEq, nA, nB, nC, nD, nE, nF, Int.toNat_natCast, hgx] <;> and_intros <;> first | (apply hK1; clear hK1 K1) | (intros; first | omega | decide | (simp_all <;> omega)) | skip)))
  refine awp_cond (t := _) rfl (fun h4 => ?_) (fun h4 => ?_)
  ·have h4' : x ≠ 0 := by simpa using h4
   (repeat (first | refine gO rfl ?_ | (refine gR fun K1 hK1 => ?_; simp only [go_sem, ↓reduceIte, reduceCtorEq, nA, nB, nC, nD, nE, nF] <;> and_intros <;> first | (apply hK1; clear hK1 K1) | (intros; first | omega | decide | (simp_all <;> omega)) | skip)))
   simp only [Tryz.results165, go_sem, ↓reduceIte, reduceCtorEq, nA, nB, nC, nD, nE, nF]
   exact ⟨_, _, Weak.refl _, Hp.le.refl _, by rw [hat h4'], rfl⟩
  ·have h4' : x = 0 := by simpa using h4
   (repeat (first | refine gO rfl ?_ | (refine gR fun K1 hK1 => ?_; simp only [go_sem, ↓reduceIte, reduceCtorEq, nA, nB, nC, nD, nE, nF] <;> and_intros <;> first | (apply hK1; clear hK1 K1) | (intros; first | omega | decide | (simp_all <;> omega)) | skip)))
   exact ⟨g - 1, by omega, j + 1, by omega, fun i hi => by
    by_cases e : i = j
    ·rw [e, ← hx]; exact h4'
    ·exact h0 i (by omega), rfl⟩
 ·simp only [decide_eq_false_iff_not] at h3
  have hjl : j = l.length := by omega
  subst hjl
  (repeat (first | refine gO rfl ?_ | (refine gR fun K1 hK1 => ?_; simp only [go_sem, ↓reduceIte, reduceCtorEq, nA, nB, nC, nD, nE, nF] <;> and_intros <;> first | (apply hK1; clear hK1 K1) | (intros; first | omega | decide | (simp_all <;> omega)) | skip)))
  simp only [Tryz.results165, go_sem, ↓reduceIte, reduceCtorEq, nA, nB, nC, nD, nE, nF]
  exact ⟨_, _, Weak.refl _, Hp.le.refl _, by rw [orJ_zero l h0], rfl⟩
theorem g_or2 (x y : Int) (h : Hp) : ACalls Tryz.prog 165 [.row 1 [[.v (.int .i64 x)], [.v (.int .i64 y)]] none] h (fun r h' => r = .v (.int .i64 (if x = 0 then y else x)) ∧ h' = h) := by
 refine (g_orK [x, y] h (by simp)).mono ?_
 rintro _ _ ⟨rfl, rfl⟩
 refine ⟨?_, rfl⟩
 by_cases e : x = 0
 ·rw [orJ, if_pos e, if_pos e, orJ]
  by_cases e2 : y = 0
  ·rw [if_pos e2, orJ, e2]
  ·rw [if_neg e2]
 ·rw [orJ, if_neg e, if_neg e]
theorem g_compK {ci k n a b : Nat} {room rule now : Int} {x y : Kp} {h : Hp} (hC : h.H ci = some (.cells (encCa room rule now k n))) (ha : h.H a = some (.cells (encKp x))) (hb : h.H b = some (.cells (encKp y))) :
  ACalls Tryz.prog 307 ([.ptr ci 0] ++ [.ptr a 0, .ptr b 0]) h (fun r h' => r = .v (.int .i64 (cmpK rule x y)) ∧ h' = h) := by
 obtain ⟨ke, by1, pi, ca, la, ma⟩ := x
 obtain ⟨ke', by2, pi', ca', la', ma'⟩ := y
 have c1 := fun x y => g_cmpI x y h
 have c2 := fun x y => g_or2 x y h
 refine gE Tryz.func307 rfl (by kernel_rfl) 54 rfl fun c => ?_
 (repeat (first | refine gO rfl ?_ | ((first | refine gR ?_ | (with_reducible refine wM ?_ ?_) | ((with_reducible refine xR ?_); refine uE 4 zM21 zPOE zPOP 57 rfl (by kernel_rfl) ?_) | ((with_reducible refine xR ?_); refine uE 6 zM21 zPPE zPPP 57 rfl (by kernel_rfl) ?_) | ((with_reducible refine xR ?_); refine uE 8 zM21 zPQE zPQP 57 rfl (by kernel_rfl) ?_) | ((with_reducible refine xS ?_); refine uD 9 zM21 zPRE zPRP 57 rfl (by kernel_rfl) ?_)) <;> ((try with_reducible intro K1 hK1); simp only [go_sem, ↓reduceIte, reduceCtorEq, nA, nB, nC, nD, nE, nF, hC, encCa] <;> and_intros <;> first | (apply hK1; clear hK1 K1) | (intros; first | omega | decide | (simp_all <;> omega)) | skip))))
 by_cases r2 : rule = 2
 ·subst r2
  refine awp_cond (t := _) rfl (fun _ => ?_) (fun h9 => by simp at h9)
  (repeat (first | refine gO rfl ?_ | ((first | refine gR ?_ | (with_reducible refine wM ?_ ?_) | ((with_reducible refine xR ?_); refine uE 4 zM21 zPOE zPOP 57 rfl (by kernel_rfl) ?_) | ((with_reducible refine xR ?_); refine uE 6 zM21 zPPE zPPP 57 rfl (by kernel_rfl) ?_) | ((with_reducible refine xR ?_); refine uE 8 zM21 zPQE zPQP 57 rfl (by kernel_rfl) ?_) | ((with_reducible refine xS ?_); refine uD 9 zM21 zPRE zPRP 57 rfl (by kernel_rfl) ?_)) <;> ((try with_reducible intro K1 hK1); simp only [go_sem, ↓reduceIte, reduceCtorEq, nA, nB, nC, nD, nE, nF, ha, hb, encKp] <;> and_intros <;> first | (apply hK1; clear hK1 K1) | (intros; first | omega | decide) | skip))))
  refine (c1 _ _).mono ?_; rintro _ hz ⟨rfl, hh⟩; apply hK1; clear hK1 K1; rw [hh]; clear hh hz
  (repeat (first | refine gO rfl ?_ | ((first | refine gR ?_ | (with_reducible refine wM ?_ ?_) | ((with_reducible refine xR ?_); refine uE 4 zM21 zPOE zPOP 57 rfl (by kernel_rfl) ?_) | ((with_reducible refine xR ?_); refine uE 6 zM21 zPPE zPPP 57 rfl (by kernel_rfl) ?_) | ((with_reducible refine xR ?_); refine uE 8 zM21 zPQE zPQP 57 rfl (by kernel_rfl) ?_) | ((with_reducible refine xS ?_); refine uD 9 zM21 zPRE zPRP 57 rfl (by kernel_rfl) ?_)) <;> ((try with_reducible intro K1 hK1); simp only [go_sem, ↓reduceIte, reduceCtorEq, nA, nB, nC, nD, nE, nF, ha, hb, encKp] <;> and_intros <;> first | (apply hK1; clear hK1 K1) | (intros; first | omega | decide) | skip))))
  refine (c1 _ _).mono ?_; rintro _ hz ⟨rfl, hh⟩; apply hK1; clear hK1 K1; rw [hh]; clear hh hz
  (repeat (first | refine gO rfl ?_ | ((first | refine gR ?_ | (with_reducible refine wM ?_ ?_) | ((with_reducible refine xR ?_); refine uE 4 zM21 zPOE zPOP 57 rfl (by kernel_rfl) ?_) | ((with_reducible refine xR ?_); refine uE 6 zM21 zPPE zPPP 57 rfl (by kernel_rfl) ?_) | ((with_reducible refine xR ?_); refine uE 8 zM21 zPQE zPQP 57 rfl (by kernel_rfl) ?_) | ((with_reducible refine xS ?_); refine uD 9 zM21 zPRE zPRP 57 rfl (by kernel_rfl) ?_)) <;> ((try with_reducible intro K1 hK1); simp only [go_sem, ↓reduceIte, reduceCtorEq, nA, nB, nC, nD, nE, nF] <;> and_intros <;> first | (apply hK1; clear hK1 K1) | (intros; first | omega | decide) | skip))))
  refine (c2 _ _).mono ?_; rintro _ hz ⟨rfl, hh⟩; apply hK1; clear hK1 K1; rw [hh]; clear hh hz
  (repeat (first | refine gO rfl ?_ | ((first | refine gR ?_ | (with_reducible refine wM ?_ ?_) | ((with_reducible refine xR ?_); refine uE 4 zM21 zPOE zPOP 57 rfl (by kernel_rfl) ?_) | ((with_reducible refine xR ?_); refine uE 6 zM21 zPPE zPPP 57 rfl (by kernel_rfl) ?_) | ((with_reducible refine xR ?_); refine uE 8 zM21 zPQE zPQP 57 rfl (by kernel_rfl) ?_) | ((with_reducible refine xS ?_); refine uD 9 zM21 zPRE zPRP 57 rfl (by kernel_rfl) ?_)) <;> ((try with_reducible intro K1 hK1); simp only [go_sem, ↓reduceIte, reduceCtorEq, nA, nB, nC, nD, nE, nF] <;> and_intros <;> first | (apply hK1; clear hK1 K1) | (intros; first | omega | decide) | skip))))
  simp only [Tryz.results307, go_sem, ↓reduceIte, reduceCtorEq, nA, nB, nC, nD, nE, nF]
  exact ⟨_, _, Weak.refl _, Hp.le.refl _, by rw [cmpK, if_pos rfl], rfl⟩
 ·refine awp_cond (t := _) rfl (fun h9 => absurd (by simpa using h9) r2) (fun _ => ?_)
  (repeat (first | refine gO rfl ?_ | ((first | refine gR ?_ | (with_reducible refine wM ?_ ?_) | ((with_reducible refine xR ?_); refine uE 4 zM21 zPOE zPOP 57 rfl (by kernel_rfl) ?_) | ((with_reducible refine xR ?_); refine uE 6 zM21 zPPE zPPP 57 rfl (by kernel_rfl) ?_) | ((with_reducible refine xR ?_); refine uE 8 zM21 zPQE zPQP 57 rfl (by kernel_rfl) ?_) | ((with_reducible refine xS ?_); refine uD 9 zM21 zPRE zPRP 57 rfl (by kernel_rfl) ?_)) <;> ((try with_reducible intro K1 hK1); simp only [go_sem, ↓reduceIte, reduceCtorEq, nA, nB, nC, nD, nE, nF] <;> and_intros <;> first | (apply hK1; clear hK1 K1) | (intros; first | omega | decide) | skip))))
  by_cases r3 : rule = 3
  ·subst r3
   refine awp_cond (t := _) rfl (fun _ => ?_) (fun h9 => by simp at h9)
   (repeat (first | refine gO rfl ?_ | ((first | refine gR ?_ | (with_reducible refine wM ?_ ?_) | ((with_reducible refine xR ?_); refine uE 4 zM21 zPOE zPOP 57 rfl (by kernel_rfl) ?_) | ((with_reducible refine xR ?_); refine uE 6 zM21 zPPE zPPP 57 rfl (by kernel_rfl) ?_) | ((with_reducible refine xR ?_); refine uE 8 zM21 zPQE zPQP 57 rfl (by kernel_rfl) ?_) | ((with_reducible refine xS ?_); refine uD 9 zM21 zPRE zPRP 57 rfl (by kernel_rfl) ?_)) <;> ((try with_reducible intro K1 hK1); simp only [go_sem, ↓reduceIte, reduceCtorEq, nA, nB, nC, nD, nE, nF, ha, hb, encKp] <;> and_intros <;> first | (apply hK1; clear hK1 K1) | (intros; first | omega | decide) | skip))))
   refine (c1 _ _).mono ?_; rintro _ hz ⟨rfl, hh⟩; apply hK1; clear hK1 K1; rw [hh]; clear hh hz
   (repeat (first | refine gO rfl ?_ | ((first | refine gR ?_ | (with_reducible refine wM ?_ ?_) | ((with_reducible refine xR ?_); refine uE 4 zM21 zPOE zPOP 57 rfl (by kernel_rfl) ?_) | ((with_reducible refine xR ?_); refine uE 6 zM21 zPPE zPPP 57 rfl (by kernel_rfl) ?_) | ((with_reducible refine xR ?_); refine uE 8 zM21 zPQE zPQP 57 rfl (by kernel_rfl) ?_) | ((with_reducible refine xS ?_); refine uD 9 zM21 zPRE zPRP 57 rfl (by kernel_rfl) ?_)) <;> ((try with_reducible intro K1 hK1); simp only [go_sem, ↓reduceIte, reduceCtorEq, nA, nB, nC, nD, nE, nF, ha, hb, encKp] <;> and_intros <;> first | (apply hK1; clear hK1 K1) | (intros; first | omega | decide) | skip))))
   refine (c1 _ _).mono ?_; rintro _ hz ⟨rfl, hh⟩; apply hK1; clear hK1 K1; rw [hh]; clear hh hz
   (repeat (first | refine gO rfl ?_ | ((first | refine gR ?_ | (with_reducible refine wM ?_ ?_) | ((with_reducible refine xR ?_); refine uE 4 zM21 zPOE zPOP 57 rfl (by kernel_rfl) ?_) | ((with_reducible refine xR ?_); refine uE 6 zM21 zPPE zPPP 57 rfl (by kernel_rfl) ?_) | ((with_reducible refine xR ?_); refine uE 8 zM21 zPQE zPQP 57 rfl (by kernel_rfl) ?_) | ((with_reducible refine xS ?_); refine uD 9 zM21 zPRE zPRP 57 rfl (by kernel_rfl) ?_)) <;> ((try with_reducible intro K1 hK1); simp only [go_sem, ↓reduceIte, reduceCtorEq, nA, nB, nC, nD, nE, nF] <;> and_intros <;> first | (apply hK1; clear hK1 K1) | (intros; first | omega | decide) | skip))))
   refine (c2 _ _).mono ?_; rintro _ hz ⟨rfl, hh⟩; apply hK1; clear hK1 K1; rw [hh]; clear hh hz
   (repeat (first | refine gO rfl ?_ | ((first | refine gR ?_ | (with_reducible refine wM ?_ ?_) | ((with_reducible refine xR ?_); refine uE 4 zM21 zPOE zPOP 57 rfl (by kernel_rfl) ?_) | ((with_reducible refine xR ?_); refine uE 6 zM21 zPPE zPPP 57 rfl (by kernel_rfl) ?_) | ((with_reducible refine xR ?_); refine uE 8 zM21 zPQE zPQP 57 rfl (by kernel_rfl) ?_) | ((with_reducible refine xS ?_); refine uD 9 zM21 zPRE zPRP 57 rfl (by kernel_rfl) ?_)) <;> ((try with_reducible intro K1 hK1); simp only [go_sem, ↓reduceIte, reduceCtorEq, nA, nB, nC, nD, nE, nF] <;> and_intros <;> first | (apply hK1; clear hK1 K1) | (intros; first | omega | decide) | skip))))
   simp only [Tryz.results307, go_sem, ↓reduceIte, reduceCtorEq, nA, nB, nC, nD, nE, nF]
   exact ⟨_, _, Weak.refl _, Hp.le.refl _, by rw [cmpK, if_neg r2, if_pos rfl], rfl⟩
  ·refine awp_cond (t := _) rfl (fun h9 => absurd (by simpa using h9) r3) (fun _ => ?_)
   (repeat (first | refine gO rfl ?_ | ((first | refine gR ?_ | (with_reducible refine wM ?_ ?_) | ((with_reducible refine xR ?_); refine uE 4 zM21 zPOE zPOP 57 rfl (by kernel_rfl) ?_) | ((with_reducible refine xR ?_); refine uE 6 zM21 zPPE zPPP 57 rfl (by kernel_rfl) ?_) | ((with_reducible refine xR ?_); refine uE 8 zM21 zPQE zPQP 57 rfl (by kernel_rfl) ?_) | ((with_reducible refine xS ?_); refine uD 9 zM21 zPRE zPRP 57 rfl (by kernel_rfl) ?_)) <;> ((try with_reducible intro K1 hK1); simp only [go_sem, ↓reduceIte, reduceCtorEq, nA, nB, nC, nD, nE, nF] <;> and_intros <;> first | (apply hK1; clear hK1 K1) | (intros; first | omega | decide) | skip))))
   by_cases r4 : rule = 4
   ·subst r4
    refine awp_cond (t := _) rfl (fun _ => ?_) (fun h9 => by simp at h9)
    (repeat (first | refine gO rfl ?_ | ((first | refine gR ?_ | (with_reducible refine wM ?_ ?_) | ((with_reducible refine xR ?_); refine uE 4 zM21 zPOE zPOP 57 rfl (by kernel_rfl) ?_) | ((with_reducible refine xR ?_); refine uE 6 zM21 zPPE zPPP 57 rfl (by kernel_rfl) ?_) | ((with_reducible refine xR ?_); refine uE 8 zM21 zPQE zPQP 57 rfl (by kernel_rfl) ?_) | ((with_reducible refine xS ?_); refine uD 9 zM21 zPRE zPRP 57 rfl (by kernel_rfl) ?_)) <;> ((try with_reducible intro K1 hK1); simp only [go_sem, ↓reduceIte, reduceCtorEq, nA, nB, nC, nD, nE, nF, ha, hb, encKp] <;> and_intros <;> first | (apply hK1; clear hK1 K1) | (intros; first | omega | decide) | skip))))
    refine (c1 _ _).mono ?_; rintro _ hz ⟨rfl, hh⟩; apply hK1; clear hK1 K1; rw [hh]; clear hh hz
    (repeat (first | refine gO rfl ?_ | ((first | refine gR ?_ | (with_reducible refine wM ?_ ?_) | ((with_reducible refine xR ?_); refine uE 4 zM21 zPOE zPOP 57 rfl (by kernel_rfl) ?_) | ((with_reducible refine xR ?_); refine uE 6 zM21 zPPE zPPP 57 rfl (by kernel_rfl) ?_) | ((with_reducible refine xR ?_); refine uE 8 zM21 zPQE zPQP 57 rfl (by kernel_rfl) ?_) | ((with_reducible refine xS ?_); refine uD 9 zM21 zPRE zPRP 57 rfl (by kernel_rfl) ?_)) <;> ((try with_reducible intro K1 hK1); simp only [go_sem, ↓reduceIte, reduceCtorEq, nA, nB, nC, nD, nE, nF, ha, hb, encKp] <;> and_intros <;> first | (apply hK1; clear hK1 K1) | (intros; first | omega | decide) | skip))))
    refine (c1 _ _).mono ?_; rintro _ hz ⟨rfl, hh⟩; apply hK1; clear hK1 K1; rw [hh]; clear hh hz
    (repeat (first | refine gO rfl ?_ | ((first | refine gR ?_ | (with_reducible refine wM ?_ ?_) | ((with_reducible refine xR ?_); refine uE 4 zM21 zPOE zPOP 57 rfl (by kernel_rfl) ?_) | ((with_reducible refine xR ?_); refine uE 6 zM21 zPPE zPPP 57 rfl (by kernel_rfl) ?_) | ((with_reducible refine xR ?_); refine uE 8 zM21 zPQE zPQP 57 rfl (by kernel_rfl) ?_) | ((with_reducible refine xS ?_); refine uD 9 zM21 zPRE zPRP 57 rfl (by kernel_rfl) ?_)) <;> ((try with_reducible intro K1 hK1); simp only [go_sem, ↓reduceIte, reduceCtorEq, nA, nB, nC, nD, nE, nF] <;> and_intros <;> first | (apply hK1; clear hK1 K1) | (intros; first | omega | decide) | skip))))
    refine (c2 _ _).mono ?_; rintro _ hz ⟨rfl, hh⟩; apply hK1; clear hK1 K1; rw [hh]; clear hh hz
    (repeat (first | refine gO rfl ?_ | ((first | refine gR ?_ | (with_reducible refine wM ?_ ?_) | ((with_reducible refine xR ?_); refine uE 4 zM21 zPOE zPOP 57 rfl (by kernel_rfl) ?_) | ((with_reducible refine xR ?_); refine uE 6 zM21 zPPE zPPP 57 rfl (by kernel_rfl) ?_) | ((with_reducible refine xR ?_); refine uE 8 zM21 zPQE zPQP 57 rfl (by kernel_rfl) ?_) | ((with_reducible refine xS ?_); refine uD 9 zM21 zPRE zPRP 57 rfl (by kernel_rfl) ?_)) <;> ((try with_reducible intro K1 hK1); simp only [go_sem, ↓reduceIte, reduceCtorEq, nA, nB, nC, nD, nE, nF] <;> and_intros <;> first | (apply hK1; clear hK1 K1) | (intros; first | omega | decide) | skip))))
    simp only [Tryz.results307, go_sem, ↓reduceIte, reduceCtorEq, nA, nB, nC, nD, nE, nF]
    exact ⟨_, _, Weak.refl _, Hp.le.refl _, by rw [cmpK, if_neg r2, if_neg r3, if_pos rfl], rfl⟩
   ·refine awp_cond (t := _) rfl (fun h9 => absurd (by simpa using h9) r4) (fun _ => ?_)
    (repeat (first | refine gO rfl ?_ | ((first | refine gR ?_ | (with_reducible refine wM ?_ ?_) | ((with_reducible refine xR ?_); refine uE 4 zM21 zPOE zPOP 57 rfl (by kernel_rfl) ?_) | ((with_reducible refine xR ?_); refine uE 6 zM21 zPPE zPPP 57 rfl (by kernel_rfl) ?_) | ((with_reducible refine xR ?_); refine uE 8 zM21 zPQE zPQP 57 rfl (by kernel_rfl) ?_) | ((with_reducible refine xS ?_); refine uD 9 zM21 zPRE zPRP 57 rfl (by kernel_rfl) ?_)) <;> ((try with_reducible intro K1 hK1); simp only [go_sem, ↓reduceIte, reduceCtorEq, nA, nB, nC, nD, nE, nF, ha, hb, encKp] <;> and_intros <;> first | (apply hK1; clear hK1 K1) | (intros; first | omega | decide) | skip))))
    refine (c1 _ _).mono ?_; rintro _ hz ⟨rfl, hh⟩; apply hK1; clear hK1 K1; rw [hh]; clear hh hz
    (repeat (first | refine gO rfl ?_ | ((first | refine gR ?_ | (with_reducible refine wM ?_ ?_) | ((with_reducible refine xR ?_); refine uE 4 zM21 zPOE zPOP 57 rfl (by kernel_rfl) ?_) | ((with_reducible refine xR ?_); refine uE 6 zM21 zPPE zPPP 57 rfl (by kernel_rfl) ?_) | ((with_reducible refine xR ?_); refine uE 8 zM21 zPQE zPQP 57 rfl (by kernel_rfl) ?_) | ((with_reducible refine xS ?_); refine uD 9 zM21 zPRE zPRP 57 rfl (by kernel_rfl) ?_)) <;> ((try with_reducible intro K1 hK1); simp only [go_sem, ↓reduceIte, reduceCtorEq, nA, nB, nC, nD, nE, nF] <;> and_intros <;> first | (apply hK1; clear hK1 K1) | (intros; first | omega | decide) | skip))))
    refine (c2 _ _).mono ?_; rintro _ hz ⟨rfl, hh⟩; apply hK1; clear hK1 K1; rw [hh]; clear hh hz
    (repeat (first | refine gO rfl ?_ | ((first | refine gR ?_ | (with_reducible refine wM ?_ ?_) | ((with_reducible refine xR ?_); refine uE 4 zM21 zPOE zPOP 57 rfl (by kernel_rfl) ?_) | ((with_reducible refine xR ?_); refine uE 6 zM21 zPPE zPPP 57 rfl (by kernel_rfl) ?_) | ((with_reducible refine xR ?_); refine uE 8 zM21 zPQE zPQP 57 rfl (by kernel_rfl) ?_) | ((with_reducible refine xS ?_); refine uD 9 zM21 zPRE zPRP 57 rfl (by kernel_rfl) ?_)) <;> ((try with_reducible intro K1 hK1); simp only [go_sem, ↓reduceIte, reduceCtorEq, nA, nB, nC, nD, nE, nF] <;> and_intros <;> first | (apply hK1; clear hK1 K1) | (intros; first | omega | decide) | skip))))
    simp only [Tryz.results307, go_sem, ↓reduceIte, reduceCtorEq, nA, nB, nC, nD, nE, nF]
    exact ⟨_, _, Weak.refl _, Hp.le.refl _, by rw [cmpK, if_neg r2, if_neg r3, if_neg r4, if_pos rfl], rfl⟩
abbrev zPSE : List Nat := [0, 1, 2, 3, 4, 5, 6, 7, 8, 9, 10, 11, 12, 13]
abbrev zPSP : List (Nat × List Nat × List Nat) := [(14, [], [15, 16])]
abbrev zPTE : List Nat := [0, 1, 2, 3, 4, 5, 6, 7, 8, 9, 10, 11, 12, 13, 14]
abbrev zPTP : List (Nat × List Nat × List Nat) := [(15, [], [16]), (17, [], [])]
abbrev zPUE : List Nat := [0, 1, 2, 3, 4, 5, 6, 7, 8, 9, 10, 11, 12]
abbrev zPUP : List (Nat × List Nat × List Nat) := [(13, [], [14, 15, 16])]
attribute [go_sem] zPSE zPSP zPTE zPTP zPUE zPUP
theorem getD_mid {α : Type} (A : List α) (x : α) (B : List α) (d : α) : (A ++ x :: B).getD A.length d = x := by
 rw [List.getD_eq_getElem?_getD, List.getElem?_append_right (Nat.le_refl _), Nat.sub_self]; rfl
theorem set_mid {α : Type} (A : List α) (x y : α) (B : List α) : (A ++ x :: B).set A.length y = A ++ y :: B := by
 rw [List.set_append_right _ _ (Nat.le_refl _), Nat.sub_self]; rfl
theorem g_insK {f : Nat} {caps : List AV} (cf : Nat → Nat → Int) (k : Nat) (xs : List Nat) (h : Hp) (hT : h.T k = some (.cont 1 (xs.map encR))) (hl : xs.length ≤ 1000)
  (hc : ∀ x ∈ xs, ∀ y ∈ xs, ∀ T', ACalls Tryz.prog f (caps ++ [encRV x, encRV y]) ⟨h.H, T'⟩ (fun r h' => r = .v (.int .i64 (cf x y)) ∧ h' = ⟨h.H, T'⟩)) :
  ACalls Tryz.prog 372 [.arr 1 k xs.length, .v (.int .i64 0), .v (.int .i64 xs.length), .bfn f caps] h (fun r h' => r = .tup [] ∧ h' = ⟨h.H, upd h.T k (some (.cont 1 ((sortI cf xs).map encR)))⟩) := by
 refine gE Tryz.func372 rfl (by kernel_rfl) 49 rfl fun c => ?_
 (repeat (first | refine gO rfl ?_ | ((first | refine gR ?_ | (with_reducible refine wM ?_ ?_) | ((with_reducible refine xS ?_); refine uD 4 zM21 zPSE zPSP 53 rfl (by kernel_rfl) ?_) | ((with_reducible refine xR ?_); refine uE 6 zM21 zPTE zPTP 53 rfl (by kernel_rfl) ?_)) <;> ((try with_reducible intro K1 hK1); simp only [go_sem, ↓reduceIte, reduceCtorEq, nA, nB, nC, nD, nE, nF] <;> and_intros <;> first | (apply hK1; clear hK1 K1) | (intros; first | omega | decide | (simp_all <;> omega)) | skip))))
 refine awp_loopC (rl false [0, 4, 4, 1, 44]) 0 (fun g s => ∃ i : Nat, 1 ≤ i ∧ g + i = xs.length + 1 ∧
  s = ⟨((.arr 1 k xs.length) :: (.v (.int .i64 0)) :: (.v (.int .i64 xs.length)) :: (.bfn f caps) :: (jnk 4 ((.v (.int .i64 i)) :: (jnk 44 [])))), [], ⟨h.H, upd h.T k (some (.cont 1 (((insS cf (xs.take i)).reverse ++ xs.drop i).map encR)))⟩⟩) xs.length
  ⟨1, by omega, by omega, ?_⟩ ?_
 ·have e1 : (insS cf (xs.take 1)).reverse ++ xs.drop 1 = xs := by cases xs <;> simp [insS, insR]
  have e2 : upd h.T k (some (TO.cont 1 (xs.map encR))) = h.T := by
   funext q
   by_cases e : q = k
   ·rw [e, upd_same, hT]
   ·rw [upd_other _ _ e]
  rw [e1, e2]; rfl
 rintro g _ ⟨i, hi1, hi, rfl⟩
 (repeat (first | refine gO rfl ?_ | ((first | refine gR ?_ | (with_reducible refine wM ?_ ?_) | ((with_reducible refine xS ?_); refine uD 4 zM21 zPSE zPSP 53 rfl (by kernel_rfl) ?_) | ((with_reducible refine xR ?_); refine uE 6 zM21 zPTE zPTP 53 rfl (by kernel_rfl) ?_)) <;> ((try with_reducible intro K1 hK1); simp only [go_sem, ↓reduceIte, reduceCtorEq, nA, nB, nC, nD, nE, nF] <;> and_intros <;> first | (apply hK1; clear hK1 K1) | (intros; first | omega | decide | (simp_all <;> omega)) | skip))))
 refine awp_cond (t := _) rfl (fun h1 => ?_) (fun h1 => ?_)
 ·simp only [decide_eq_true_eq] at h1
  have hil : i < xs.length := by omega
  have hdr : xs.drop i = xs.getD i default :: xs.drop (i + 1) := drop_at' xs i default hil
  have htk : xs.take (i + 1) = xs.take i ++ [xs.getD i default] := take_at' xs i default hil
  have hxm : xs.getD i default ∈ xs := by
   rw [List.getD_eq_getElem?_getD, List.getElem?_eq_getElem hil]; exact List.getElem_mem _
  have hpl : (insS cf (xs.take i)).length = i := by rw [insS_len, List.length_take]; omega
  have hpm : ∀ z ∈ (insS cf (xs.take i)).reverse, z ∈ xs := fun z hz => List.mem_of_mem_take ((insS_perm cf (xs.take i)).mem_iff.1 (List.mem_reverse.1 hz))
  have hin : insS cf (xs.take (i + 1)) = insR cf (insS cf (xs.take i)) (xs.getD i default) := by rw [htk, insS_snoc]
  rw [hdr]
  generalize xs.getD i default = x at hxm hin ⊢
  generalize insS cf (xs.take i) = R at hpl hpm hin ⊢
  generalize hrs : xs.drop (i + 1) = rest
  clear hdr htk
  (repeat (first | refine gO rfl ?_ | ((first | refine gR ?_ | (with_reducible refine wM ?_ ?_) | ((with_reducible refine xS ?_); refine uD 4 zM21 zPSE zPSP 53 rfl (by kernel_rfl) ?_) | ((with_reducible refine xR ?_); refine uE 6 zM21 zPTE zPTP 53 rfl (by kernel_rfl) ?_)) <;> ((try with_reducible intro K1 hK1); simp only [go_sem, ↓reduceIte, reduceCtorEq, nA, nB, nC, nD, nE, nF] <;> and_intros <;> first | (apply hK1; clear hK1 K1) | (intros; first | omega | decide | (simp_all <;> omega)) | skip))))
  refine awp_loopC (rl false [0, 4, 4, 2, 43]) 0 (fun g2 s => ∃ (A B : List Nat), g2 = A.length ∧ insR cf R x = B.reverse ++ insR cf A.reverse x ∧ A.length + B.length = i ∧ (∀ z ∈ A, z ∈ xs) ∧
   s = ⟨((.arr 1 k xs.length) :: (.v (.int .i64 0)) :: (.v (.int .i64 xs.length)) :: (.bfn f caps) :: (jnk 4 ((.v (.int .i64 i)) :: (.v (.int .i64 A.length)) :: (jnk 43 [])))), [], ⟨h.H, upd h.T k (some (.cont 1 ((A ++ x :: (B ++ rest)).map encR)))⟩⟩) i
   ⟨R.reverse, [], by rw [List.length_reverse, hpl], by rw [List.reverse_reverse]; rfl, by rw [List.length_reverse, hpl]; rfl, hpm, by rw [List.length_reverse, hpl]; rfl⟩ ?_
  rintro g2 _ ⟨A, B, rfl, hR, hAB, hA, rfl⟩
  have hTq : ∀ X, upd h.T k (some (TO.cont 1 X)) k = some (.cont 1 X) := fun X => upd_same _ _ _
  have hcl : ((A ++ x :: (B ++ rest)).map encR).length = xs.length := by
   have h9 := congrArg List.length hrs
   rw [List.length_drop] at h9
   simp; omega
  by_cases h0 : A.length = 0
  ·have hd0 : decide (0 < (A.length : Int)) = false := by simp [h0]
   have hA0 : A = [] := List.eq_nil_of_length_eq_zero h0
   clear hc
   have gz : ((A ++ x :: (B ++ rest)).map encR).getD 0 [] = encR x := by rw [hA0]; rfl
   have i0 : ((A.length : Int)).toNat = 0 := by rw [Int.toNat_natCast]; exact h0
   have i1 : ((A.length : Int) - 1).toNat = 0 := by omega
   (repeat (first | refine gO rfl ?_ | ((first | refine gR ?_ | (with_reducible refine wM ?_ ?_) | ((with_reducible refine xS ?_); refine uD 4 zM21 zPSE zPSP 53 rfl (by kernel_rfl) ?_) | ((with_reducible refine xR ?_); refine uE 6 zM21 zPTE zPTP 53 rfl (by kernel_rfl) ?_)) <;> ((try with_reducible intro K1 hK1); simp only [go_sem, ↓reduceIte, reduceCtorEq, nA, nB, nC, nD, nE, nF, hd0, hTq, hcl, i0, i1, gz, encR] <;> and_intros <;> first | (apply hK1; clear hK1 K1) | (intros; first | omega | decide | (simp_all <;> omega)) | skip))))
   refine ⟨.v (.bool false), rfl, hK1 _ ?_⟩; clear hK1 K1
   (repeat (first | refine gO rfl ?_ | ((first | refine gR ?_ | (with_reducible refine wM ?_ ?_) | ((with_reducible refine xS ?_); refine uD 4 zM21 zPSE zPSP 53 rfl (by kernel_rfl) ?_) | ((with_reducible refine xR ?_); refine uE 6 zM21 zPTE zPTP 53 rfl (by kernel_rfl) ?_)) <;> ((try with_reducible intro K1 hK1); simp only [go_sem, ↓reduceIte, reduceCtorEq, nA, nB, nC, nD, nE, nF, hd0] <;> and_intros <;> first | (apply hK1; clear hK1 K1) | (intros; first | omega | decide | (simp_all <;> omega)) | skip))))
   refine awp_cond (t := _) rfl (fun h9 => by cases h9) (fun _ => ?_)
   (repeat (first | refine gO rfl ?_ | ((first | refine gR ?_ | (with_reducible refine wM ?_ ?_) | ((with_reducible refine xS ?_); refine uD 4 zM21 zPSE zPSP 53 rfl (by kernel_rfl) ?_) | ((with_reducible refine xR ?_); refine uE 6 zM21 zPTE zPTP 53 rfl (by kernel_rfl) ?_)) <;> ((try with_reducible intro K1 hK1); simp only [go_sem, ↓reduceIte, reduceCtorEq, nA, nB, nC, nD, nE, nF] <;> and_intros <;> first | (apply hK1; clear hK1 K1) | (intros; first | omega | decide | (simp_all <;> omega)) | skip))))
   refine ⟨g - 1, by omega, i + 1, by omega, by omega, ?_⟩
   subst hA0
   have e3 : (insS cf (xs.take (i + 1))).reverse ++ xs.drop (i + 1) = x :: (B ++ rest) := by rw [hin, hR, hrs]; simp [insR]
   rw [e3]; rfl
  ·obtain ⟨A', y, rfl⟩ : ∃ A' y, A = A' ++ [y] := by
    rcases List.eq_nil_or_concat A with rfl | ⟨A', y, e⟩
    ·exact absurd rfl h0
    ·exact ⟨A', y, by rw [e, List.concat_eq_append]⟩
   have hd0 : decide (0 < ((A' ++ [y]).length : Int)) = true := by simp
   have hti : (((A' ++ [y]).length : Int) - 1).toNat = A'.length := by simp
   have hy : y ∈ xs := hA y (by simp)
   have gx : (((A' ++ [y]) ++ x :: (B ++ rest)).map encR).getD (A' ++ [y]).length [] = encR x := by
    rw [List.map_append, List.map_cons]
    have := getD_mid ((A' ++ [y]).map encR) (encR x) ((B ++ rest).map encR) []
    rwa [List.length_map] at this
   have gy : (((A' ++ [y]) ++ x :: (B ++ rest)).map encR).getD A'.length [] = encR y := by
    rw [List.append_assoc, List.map_append, List.singleton_append, List.map_cons]
    have := getD_mid (A'.map encR) (encR y) ((x :: (B ++ rest)).map encR) []
    rwa [List.length_map] at this
   have hcc := fun T' => hc x hxm y hy T'
   have hlt : (A' ++ [y]).length < xs.length := by omega
   have hlt2 : A'.length < xs.length := by simp at hlt; omega
   generalize hct : ((A' ++ [y]) ++ x :: (B ++ rest)).map encR = ct at *
   (repeat (first | refine gO rfl ?_ | ((first | refine gR ?_ | (with_reducible refine wM ?_ ?_) | ((with_reducible refine xS ?_); refine uD 4 zM21 zPSE zPSP 53 rfl (by kernel_rfl) ?_) | ((with_reducible refine xR ?_); refine uE 6 zM21 zPTE zPTP 53 rfl (by kernel_rfl) ?_)) <;> ((try with_reducible intro K1 hK1); simp only [go_sem, ↓reduceIte, reduceCtorEq, nA, nB, nC, nD, nE, nF, hd0, hTq, hcl, Int.toNat_natCast, hti, gx, gy, encR] <;> and_intros <;> first | (apply hK1; clear hK1 K1) | (intros; first | omega | decide) | skip))))
   rotate_left 1
   ·rintro ⟨⟩
   refine (hcc _).mono ?_; rintro _ hz ⟨rfl, hh⟩; refine ⟨rfl, hK1 _ ?_⟩; clear hK1 K1; rw [hh]; clear hh hz
   (repeat (first | refine gO rfl ?_ | ((first | refine gR ?_ | (with_reducible refine wM ?_ ?_) | ((with_reducible refine xS ?_); refine uD 4 zM21 zPSE zPSP 53 rfl (by kernel_rfl) ?_) | ((with_reducible refine xR ?_); refine uE 6 zM21 zPTE zPTP 53 rfl (by kernel_rfl) ?_)) <;> ((try with_reducible intro K1 hK1); simp only [go_sem, ↓reduceIte, reduceCtorEq, nA, nB, nC, nD, nE, nF, hd0] <;> and_intros <;> first | (apply hK1; clear hK1 K1) | (intros; first | omega | decide) | skip))))
   refine awp_cond (t := _) rfl (fun h9 => ?_) (fun h9 => ?_)
   ·have h8 : cf x y < 0 := by simpa using h9
    have hs9 : ((A' ++ [y]).length : Int) - 1 = A'.length := by simp
    have e4 : (ct.set (A' ++ [y]).length (encR y)).set A'.length (encR x) = (A' ++ x :: (y :: B ++ rest)).map encR := by
     have h5 := set_mid ((A' ++ [y]).map encR) (encR x) (encR y) ((B ++ rest).map encR)
     have h6 := set_mid (A'.map encR) (encR y) (encR x) ((encR y) :: (B ++ rest).map encR)
     rw [List.length_map] at h5 h6
     rw [← hct, List.map_append, List.map_cons, h5, List.map_append, List.append_assoc]
     rw [show [y].map encR ++ encR y :: (B ++ rest).map encR = encR y :: (encR y :: (B ++ rest).map encR) from rfl, h6]
     simp
    have g3 : (ct.set (A' ++ [y]).length (encR y)).getD A'.length [] = encR y := by
     have h5 := set_mid ((A' ++ [y]).map encR) (encR x) (encR y) ((B ++ rest).map encR)
     have h6 := getD_mid (A'.map encR) (encR y) ((encR y) :: (B ++ rest).map encR) []
     rw [List.length_map] at h5 h6
     rw [← hct, List.map_append, List.map_cons, h5, List.map_append, List.append_assoc]
     exact h6
    have hcl2 : (ct.set (A' ++ [y]).length (encR y)).length = xs.length := by rw [List.length_set, hcl]
    simp only [encR] at e4 g3 hcl2
    (repeat (first | refine gO rfl ?_ | ((first | refine gR ?_ | (with_reducible refine wM ?_ ?_) | ((with_reducible refine xS ?_); refine uD 4 zM21 zPSE zPSP 53 rfl (by kernel_rfl) ?_) | ((with_reducible refine xR ?_); refine uE 6 zM21 zPTE zPTP 53 rfl (by kernel_rfl) ?_)) <;> ((try with_reducible intro K1 hK1); simp only [go_sem, ↓reduceIte, reduceCtorEq, nA, nB, nC, nD, nE, nF, hTq, hcl, hcl2, Int.toNat_natCast, hti, gx, gy, encR, upd_upd] <;> and_intros <;> first | (apply hK1; clear hK1 K1) | (intros; first | omega | decide) | skip))))
    refine ⟨A'.length, by simp, A', y :: B, rfl, ?_, ?_, fun z hz => hA z (List.mem_append_left _ hz), ?_⟩
    ·rw [hR, List.reverse_append, List.reverse_singleton, List.singleton_append, insR, if_pos h8]; simp
    ·simp at hAB ⊢; omega
    ·simp only [g3, List.drop_succ_cons, List.drop_zero, e4, hs9]
     rfl
   ·have h8 : ¬ cf x y < 0 := by simpa using h9
    (repeat (first | refine gO rfl ?_ | ((first | refine gR ?_ | (with_reducible refine wM ?_ ?_) | ((with_reducible refine xS ?_); refine uD 4 zM21 zPSE zPSP 53 rfl (by kernel_rfl) ?_) | ((with_reducible refine xR ?_); refine uE 6 zM21 zPTE zPTP 53 rfl (by kernel_rfl) ?_)) <;> ((try with_reducible intro K1 hK1); simp only [go_sem, ↓reduceIte, reduceCtorEq, nA, nB, nC, nD, nE, nF] <;> and_intros <;> first | (apply hK1; clear hK1 K1) | (intros; first | omega | decide) | skip))))
    refine ⟨g - 1, by omega, i + 1, by omega, by omega, ?_⟩
    have e3 : (insS cf (xs.take (i + 1))).reverse ++ xs.drop (i + 1) = (A' ++ [y]) ++ x :: (B ++ rest) := by rw [hin, hR, hrs]; simp [insR, h8]
    rw [e3, hct]; rfl
 ·simp only [decide_eq_false_iff_not] at h1
  have e1 : (insS cf (xs.take i)).reverse ++ xs.drop i = sortI cf xs := by
   rw [List.drop_eq_nil_of_le (by omega), List.take_of_length_le (by omega), List.append_nil]; rfl
  rw [e1]
  (repeat (first | refine gO rfl ?_ | ((first | refine gR ?_ | (with_reducible refine wM ?_ ?_) | ((with_reducible refine xS ?_); refine uD 4 zM21 zPSE zPSP 53 rfl (by kernel_rfl) ?_) | ((with_reducible refine xR ?_); refine uE 6 zM21 zPTE zPTP 53 rfl (by kernel_rfl) ?_)) <;> ((try with_reducible intro K1 hK1); simp only [go_sem, ↓reduceIte, reduceCtorEq, nA, nB, nC, nD, nE, nF] <;> and_intros <;> first | (apply hK1; clear hK1 K1) | (intros; first | omega | decide | (simp_all <;> omega)) | skip))))
  simp only [Tryz.results372, go_sem, ↓reduceIte, reduceCtorEq, nA, nB, nC, nD, nE, nF]
  exact ⟨_, _, Weak.refl _, Hp.le.refl _, rfl, rfl⟩
theorem g_pdqK {f : Nat} {caps : List AV} (cf : Nat → Nat → Int) (k : Nat) (xs : List Nat) (lim : Int) (h : Hp) (hT : h.T k = some (.cont 1 (xs.map encR))) (hl : xs.length ≤ 12)
  (hc : ∀ x ∈ xs, ∀ y ∈ xs, ∀ T', ACalls Tryz.prog f (caps ++ [encRV x, encRV y]) ⟨h.H, T'⟩ (fun r h' => r = .v (.int .i64 (cf x y)) ∧ h' = ⟨h.H, T'⟩)) :
  ACalls Tryz.prog 344 [.arr 1 k xs.length, .v (.int .i64 0), .v (.int .i64 xs.length), .v (.int .i64 lim), .bfn f caps] h (fun r h' => r = .tup [] ∧ h' = ⟨h.H, upd h.T k (some (.cont 1 ((sortI cf xs).map encR)))⟩) := by
 have hd0 : decide (((xs.length : Int) - 0) ≤ 12) = true := by simp; omega
 have hi := g_insK cf k xs h hT (by omega) hc
 clear hc
 refine gE Tryz.func344 rfl (by kernel_rfl) 143 rfl fun c => ?_
 (repeat (first | refine gO rfl ?_ | ((first | refine gR ?_ | (with_reducible refine wM ?_ ?_) | ((with_reducible refine xS ?_); refine uD 17 zM21 zPUE zPUP 148 rfl (by kernel_rfl) ?_)) <;> ((try with_reducible intro K1 hK1); simp only [go_sem, ↓reduceIte, reduceCtorEq, nA, nB, nC, nD, nE, nF] <;> and_intros <;> first | (apply hK1; clear hK1 K1) | (intros; first | omega | decide | (simp_all <;> omega)) | skip))))
 refine awp_loopC (rl false [0, 5, 5, 2, 136]) 0 (fun g s => s = ⟨((.arr 1 k xs.length) :: (.v (.int .i64 0)) :: (.v (.int .i64 xs.length)) :: (.v (.int .i64 lim)) :: (.bfn f caps) :: (jnk 5 ((.v (.bool true)) :: (.v (.bool true)) :: (jnk 136 [])))), [], h⟩) 1 rfl ?_
 rintro g _ rfl
 (repeat (first | refine gO rfl ?_ | ((first | refine gR ?_ | (with_reducible refine wM ?_ ?_) | ((with_reducible refine xS ?_); refine uD 17 zM21 zPUE zPUP 148 rfl (by kernel_rfl) ?_)) <;> ((try with_reducible intro K1 hK1); simp only [go_sem, ↓reduceIte, reduceCtorEq, nA, nB, nC, nD, nE, nF] <;> and_intros <;> first | (apply hK1; clear hK1 K1) | (intros; first | omega | decide) | skip))))
 refine awp_cond (t := _) rfl (fun _ => ?_) (fun h9 => by rw [hd0] at h9; cases h9)
 (repeat (first | refine gO rfl ?_ | ((first | refine gR ?_ | (with_reducible refine wM ?_ ?_) | ((with_reducible refine xS ?_); refine uD 17 zM21 zPUE zPUP 148 rfl (by kernel_rfl) ?_)) <;> ((try with_reducible intro K1 hK1); simp only [go_sem, ↓reduceIte, reduceCtorEq, nA, nB, nC, nD, nE, nF] <;> and_intros <;> first | (apply hK1; clear hK1 K1) | (intros; first | omega | decide) | skip))))
 refine hi.mono ?_
 rintro _ h2 ⟨rfl, rfl⟩
 refine hK1 _ ?_; clear hK1 K1
 (repeat (first | refine gO rfl ?_ | ((first | refine gR ?_ | (with_reducible refine wM ?_ ?_) | ((with_reducible refine xS ?_); refine uD 17 zM21 zPUE zPUP 148 rfl (by kernel_rfl) ?_)) <;> ((try with_reducible intro K1 hK1); simp only [go_sem, ↓reduceIte, reduceCtorEq, nA, nB, nC, nD, nE, nF] <;> and_intros <;> first | (apply hK1; clear hK1 K1) | (intros; first | omega | decide) | skip))))
 simp only [Tryz.results344, go_sem, ↓reduceIte, reduceCtorEq, nA, nB, nC, nD, nE, nF]
 exact ⟨_, _, Weak.refl _, Hp.le.refl _, rfl, rfl⟩
theorem g_bitsLen (n : Nat) (h : Hp) (hn : n ≤ 1000000) : ACalls Tryz.prog 158 [.v (.int .u64 n)] h (fun r h' => ∃ m : Int, r = .v (.int .i64 m) ∧ h' = h) := by
 refine acalls_mk (by kernel_rfl) fun G w vs hs hv ha => ?_
 have r0 := ha 0 (by simp)
 have hvs : vs = #[vs.getD 0 undef] := by
  have hv1 : vs.size = 1 := hv
  apply Array.ext (by simpa using hv1)
  intro j hj hj'
  simp only [List.size_toArray, List.length_cons, List.length_nil] at hj'
  obtain rfl : j = 0 := by omega
  simp [Array.getD, hv1]
 rw [hvs]
 generalize vs.getD 0 undef = v at r0
 simp only [List.getElem_cons_zero] at r0
 cases r0
 refine (Tryz.bits_Len n w (by omega) (by omega)).mono ?_
 rintro e w' ⟨rfl, rfl⟩
 exact ⟨_, rfl, _, h, G, ⟨_, rfl, rfl⟩, GLe.refl _, Fr.refl _ _ _, hs, .v _ rfl⟩
theorem g_srtK {f : Nat} {caps : List AV} (cf : Nat → Nat → Int) (k : Nat) (xs : List Nat) (h : Hp) (hT : h.T k = some (.cont 1 (xs.map encR))) (hl : xs.length ≤ 12)
  (hc : ∀ x ∈ xs, ∀ y ∈ xs, ∀ T', ACalls Tryz.prog f (caps ++ [encRV x, encRV y]) ⟨h.H, T'⟩ (fun r h' => r = .v (.int .i64 (cf x y)) ∧ h' = ⟨h.H, T'⟩)) :
  ACalls Tryz.prog 306 [.arr 1 k xs.length, .bfn f caps] h (fun r h' => r = .tup [] ∧ h' = ⟨h.H, upd h.T k (some (.cont 1 ((sortI cf xs).map encR)))⟩) := by
 have hwr : IntKind.u64.wrap (xs.length : Int) = xs.length := by simp [IntKind.wrap, IntKind.bits, IntKind.signed]; omega
 have hp := fun lim => g_pdqK cf k xs lim h hT hl hc
 have hbl := g_bitsLen xs.length h (by omega)
 clear hc
 refine gE Tryz.func306 rfl (by kernel_rfl) 12 rfl fun c => ?_
 (repeat (first | refine gO rfl ?_ | (refine gR fun K1 hK1 => ?_; simp only [go_sem, ↓reduceIte, reduceCtorEq, nA, nB, nC, nD, nE, nF, hwr] <;> and_intros <;> first | (apply hK1; clear hK1 K1) | (intros; first | omega | decide) | skip)))
 refine hbl.mono ?_
 rintro _ h2 ⟨n, rfl, rfl⟩
 refine hK1 _ ?_; clear hK1 K1
 (repeat (first | refine gO rfl ?_ | (refine gR fun K1 hK1 => ?_; simp only [go_sem, ↓reduceIte, reduceCtorEq, nA, nB, nC, nD, nE, nF] <;> and_intros <;> first | (apply hK1; clear hK1 K1) | (intros; first | omega | decide) | skip)))
 refine (hp _).mono ?_
 rintro _ h3 ⟨rfl, rfl⟩
 refine hK1 _ ?_; clear hK1 K1
 (repeat (first | refine gO rfl ?_ | (refine gR fun K1 hK1 => ?_; simp only [go_sem, ↓reduceIte, reduceCtorEq, nA, nB, nC, nD, nE, nF] <;> and_intros <;> first | (apply hK1; clear hK1 K1) | (intros; first | omega | decide) | skip)))
 simp only [Tryz.results306, go_sem, ↓reduceIte, reduceCtorEq, nA, nB, nC, nD, nE, nF]
 exact ⟨_, _, Weak.refl _, Hp.le.refl _, rfl, rfl⟩
theorem g_order {K : Nat → Kp} {ci k : Nat} {room rule now : Int} {ps : List Nat} {h : Hp} (hC : h.H ci = some (.cells (encCa room rule now k ps.length))) (hT : h.T k = some (.cont 1 (ps.map encR))) (hl : ps.length ≤ 12) (hK : CacheH h K ps) :
  ACalls Tryz.prog 243 [.ptr ci 0] h (fun r h' => ∃ q, r = .arr 1 q (orderF rule K ps).length ∧ h'.H = h.H ∧ h'.T q = some (.cont 1 ((orderF rule K ps).map encR)) ∧ h.T q = none ∧ ∀ t, h.T t ≠ none → h'.T t = h.T t) := by
 have hcl := g_cloneK k ps h hT (by omega)
 refine gE Tryz.func243 rfl (by kernel_rfl) 14 rfl fun c => ?_
 (repeat (first | refine gO rfl ?_ | (refine gR fun K1 hK1 => ?_; simp only [go_sem, ↓reduceIte, reduceCtorEq, nA, nB, nC, nD, nE, nF, hC, encCa] <;> and_intros <;> first | (apply hK1; clear hK1 K1) | (intros; first | omega | decide | (simp_all <;> omega)) | skip)))
 refine hcl.mono ?_
 rintro _ _ ⟨q, rfl, hq, rfl⟩
 refine hK1 _ ?_; clear hK1 K1
 have hqk : k ≠ q := by rintro rfl; rw [hT] at hq; cases hq
 have hde := g_delK (caps := []) (fun p => (K p).2.2.1) q ps ⟨h.H, upd h.T q (some (.cont 1 (ps.map encR)))⟩ (upd_same _ _ _) (by omega) (fun p hp T' => g_order1 (h := ⟨h.H, T'⟩) (hK p hp))
 (repeat (first | refine gO rfl ?_ | (refine gR fun K1 hK1 => ?_; simp only [go_sem, ↓reduceIte, reduceCtorEq, nA, nB, nC, nD, nE, nF] <;> and_intros <;> first | (apply hK1; clear hK1 K1) | (intros; first | omega | decide) | skip)))
 refine hde.mono ?_
 rintro _ ⟨H2, T2⟩ ⟨q1, rfl, hH, hT1, hoth⟩
 simp only at hH hT1
 subst hH
 refine hK1 _ ?_; clear hK1 K1
 have hf1 : (ps.filter fun p => !(K p).2.2.1).length ≤ 12 := Nat.le_trans (List.length_filter_le _ _) hl
 have hsr := g_srtK (caps := [.ptr ci 0]) (fun p q => cmpK rule (K p) (K q)) q1 (ps.filter fun p => !(K p).2.2.1) ⟨h.H, T2⟩ hT1 hf1 (fun a ha b hb T' => g_compK (h := ⟨h.H, T'⟩) hC (hK a (List.mem_filter.1 ha).1) (hK b (List.mem_filter.1 hb).1))
 (repeat (first | refine gO rfl ?_ | (refine gR fun K1 hK1 => ?_; simp only [go_sem, ↓reduceIte, reduceCtorEq, nA, nB, nC, nD, nE, nF] <;> and_intros <;> first | (apply hK1; clear hK1 K1) | (intros; first | omega | decide) | skip)))
 refine hsr.mono ?_
 rintro _ _ ⟨rfl, rfl⟩
 refine hK1 _ ?_; clear hK1 K1
 (repeat (first | refine gO rfl ?_ | (refine gR fun K1 hK1 => ?_; simp only [go_sem, ↓reduceIte, reduceCtorEq, nA, nB, nC, nD, nE, nF] <;> and_intros <;> first | (apply hK1; clear hK1 K1) | (intros; first | omega | decide) | skip)))
 simp only [Tryz.results243, go_sem, ↓reduceIte, reduceCtorEq, nA, nB, nC, nD, nE, nF]
 refine ⟨_, _, Weak.refl _, Hp.le.refl _, q1, ?_, rfl, upd_same _ _ _, ?_, ?_⟩
 ·rw [orderF, sortI_len]
 ·by_cases e : q1 = q
  ·rw [e]; exact hq
  ·cases e9 : h.T q1 with
   | none => rfl
   | some o =>
    have := (hoth q1 e (by simp only [upd_other _ _ e, e9]; simp)).1
    exact absurd rfl this
 ·intro t ht
  have htq : t ≠ q := by rintro rfl; exact ht hq
  have h9 := hoth t htq (by simp only [upd_other _ _ htq]; exact ht)
  show upd T2 q1 _ t = _
  rw [upd_other _ _ h9.1]
  refine h9.2.trans ?_
  exact upd_other _ _ htq
theorem g_going {K : Nat → Kp} {ci k : Nat} {room rule now bytes : Int} {item : ByteArray} {ps : List Nat} {h : Hp} (hC : h.H ci = some (.cells (encCa room rule now k ps.length))) (hT : h.T k = some (.cont 1 (ps.map encR))) (hl : ps.length ≤ 12) (hK : CacheH h K ps)
  (hB : ∀ p ∈ ps, 0 ≤ (K p).2.1 ∧ (K p).2.1 ≤ 1000000000000) (hr : 0 ≤ room ∧ room ≤ 1000000000000) (hb : 0 ≤ bytes ∧ bytes ≤ 1000000000000) :
  ACalls Tryz.prog 190 [.ptr ci 0, .v (.string item), .v (.int .i64 bytes)] h (fun r h' => ∃ kt, r = .tup [.row 1 ((goingF item bytes room rule K ps).1.map encR) (some kt), .v (.bool (decide ((goingF item bytes room rule K ps).2 ≤ 0)))] ∧ h'.H = h.H ∧ ∀ t, h.T t ≠ none → h'.T t = h.T t) := by
 have hml : (ps.map encR).length = ps.length := List.length_map _
 refine gE Tryz.func190 rfl (by kernel_rfl) 68 rfl fun c => ?_
 (repeat (first | refine gO rfl ?_ | (refine gR fun K1 hK1 => ?_; simp only [go_sem, ↓reduceIte, reduceCtorEq, nA, nB, nC, nD, nE, nF, hC, encCa] <;> and_intros <;> first | (apply hK1; clear hK1 K1) | (intros; first | omega | decide | (simp_all <;> omega)) | skip)))
 refine awp_loopC (rl false [0, 3, 5, 1, 14, 3, 45]) 0 (fun g s => ∃ (j : Nat) (o : Int), g + j = ps.length ∧ overF item K (ps.drop j) o = overF item K ps (bytes - room) ∧ -1000000000000 ≤ o ∧ o ≤ 1000000000000 + j * 1000000000000 ∧
  s = ⟨((.ptr ci 0) :: (.v (.string item)) :: (.v (.int .i64 bytes)) :: (jnk 5 ((.v (.int .i64 o)) :: (jnk 14 ((.arr 1 k ps.length) :: (.v (.int .i64 ps.length)) :: (.v (.int .i64 j)) :: (jnk 45 [])))))), [], h⟩) ps.length ⟨0, bytes - room, by omega, by rw [List.drop_zero], by omega, by omega, rfl⟩ ?_
 rintro g _ ⟨j, o, hj, ho, ho1, ho2, rfl⟩
 (repeat (first | refine gO rfl ?_ | (refine gR fun K1 hK1 => ?_; simp only [go_sem, ↓reduceIte, reduceCtorEq, nA, nB, nC, nD, nE, nF] <;> and_intros <;> first | (apply hK1; clear hK1 K1) | (intros; first | omega | decide) | skip)))
 refine awp_cond (t := _) rfl (fun h1 => ?_) (fun h1 => ?_)
 ·simp only [decide_eq_true_eq] at h1
  have hjl : j < ps.length := by omega
  have gx : (ps.map encR).getD j [] = encR (ps.getD j default) := getD_enc encR ps j default hjl
  have hdj := drop_at' ps j default hjl
  have hpm : ps.getD j default ∈ ps := by rw [List.getD_eq_getElem?_getD, List.getElem?_eq_getElem hjl]; exact List.getElem_mem _
  obtain ⟨p, hp⟩ : ∃ p, ps.getD j default = p := ⟨_, rfl⟩
  rw [hp] at gx hdj hpm
  have hhp := hK p hpm
  have hbp := hB p hpm
  obtain ⟨o9, ho9⟩ : ∃ o9, overF item K ps (bytes - room) = o9 := ⟨_, rfl⟩
  rw [ho9] at ho ⊢
  rw [hdj, overF] at ho
  generalize K p = x at *
  obtain ⟨ke, by1, pi, ca, la, ma⟩ := x
  simp only at ho hbp
  (repeat (first | refine gO rfl ?_ | (refine gR fun K1 hK1 => ?_; simp only [go_sem, ↓reduceIte, reduceCtorEq, nA, nB, nC, nD, nE, nF, hT, hml, Int.toNat_natCast, gx, encR, hhp, encKp] <;> and_intros <;> first | (apply hK1; clear hK1 K1) | (intros; first | omega | decide) | skip)))
  by_cases e : ke = item
  ·refine awp_cond (t := _) rfl (fun h9 => absurd h9 (by rw [e]; simp [ba_beq])) (fun _ => ?_)
   rw [if_pos e] at ho
   (repeat (first | refine gO rfl ?_ | (refine gR fun K1 hK1 => ?_; simp only [go_sem, ↓reduceIte, reduceCtorEq, nA, nB, nC, nD, nE, nF] <;> and_intros <;> first | (apply hK1; clear hK1 K1) | (intros; first | omega | decide) | skip)))
   exact ⟨g - 1, by omega, j + 1, o, by omega, ho, ho1, by omega, rfl⟩
  ·refine awp_cond (t := _) rfl (fun _ => ?_) (fun h9 => absurd (by simpa [ba_beq] using h9) e)
   rw [if_neg e] at ho
   (repeat (first | refine gO rfl ?_ | (refine gR fun K1 hK1 => ?_; simp only [go_sem, ↓reduceIte, reduceCtorEq, nA, nB, nC, nD, nE, nF, hhp, encKp] <;> and_intros <;> first | (apply hK1; clear hK1 K1) | (intros; first | omega | decide) | skip)))
   exact ⟨g - 1, by omega, j + 1, o + by1, by omega, ho, by omega, by omega, rfl⟩
 ·simp only [decide_eq_false_iff_not] at h1
  have hjl : j = ps.length := by omega
  subst hjl
  rw [List.drop_length] at ho
  simp only [overF] at ho
  (repeat refine gO rfl ?_)
  refine awp_seq ?_
  refine awp_AL ?_
  refine AL.cons rfl (Quiet.aop (q_move (.inr rfl)) ?_)
  refine AL.nil ?_
  refine awp_own 11 1 rfl ⟨rfl, rfl⟩ (fun kt hkt => ?_)
  refine awp_cut (rl false [0, 3, 5, 1, 2, 1, 59]) 0 (?_ : Awp _ _ _ _ ⟨((.ptr ci 0) :: (.v (.string item)) :: (.v (.int .i64 bytes)) :: (jnk 5 ((.v (.int .i64 o)) :: AV.junk :: AV.junk :: ((.row 1 [] (some kt)) :: (jnk 59 []))))), [], ⟨h.H, upd h.T kt (some (.tail 0))⟩⟩)
  have hkt' : h.T kt = none := hkt
  have hkk : k ≠ kt := by rintro rfl; rw [hT] at hkt'; cases hkt'
  have hor := g_order (K := K) (rule := rule) (h := ⟨h.H, upd h.T kt (some (.tail 0))⟩) hC ((upd_other _ _ hkk).trans hT) hl hK
  (repeat (first | refine gO rfl ?_ | (refine gR fun K1 hK1 => ?_; simp only [go_sem, ↓reduceIte, reduceCtorEq, nA, nB, nC, nD, nE, nF] <;> and_intros <;> first | (apply hK1; clear hK1 K1) | (intros; first | omega | decide) | skip)))
  refine hor.mono ?_
  rintro _ ⟨H2, T2⟩ ⟨q, rfl, hH, hT2, hq, hoth⟩
  simp only at hH hT2
  subst hH
  refine hK1 _ ?_; clear hK1 K1 hor
  have hqkt : q ≠ kt := by
   intro e
   have hq' : upd h.T kt (some (.tail 0)) q = none := hq
   rw [e, upd_same] at hq'; cases hq'
  have hT2k : T2 kt = some (.tail 0) := by
   have := hoth kt (by show upd h.T kt _ kt ≠ none; rw [upd_same]; simp)
   exact this.trans (upd_same _ _ _)
  have hold : ∀ t, h.T t ≠ none → T2 t = h.T t ∧ t ≠ kt := fun t ht => by
   have htk : t ≠ kt := by rintro rfl; exact ht hkt'
   have := hoth t (by show upd h.T kt _ t ≠ none; rw [upd_other _ _ htk]; exact ht)
   exact ⟨this.trans (upd_other _ _ htk), htk⟩
  have hom : ∀ p ∈ orderF rule K ps, p ∈ ps := fun p hp => orderF_mem hp
  have hol := orderF_len rule K ps
  unfold goingF
  rw [← ho]
  generalize orderF rule K ps = ord at *
  generalize hG : goF item K ord o = G
  have hol2 : (ord.map encR).length = ord.length := List.length_map _
  clear hoth
  (repeat (first | refine gO rfl ?_ | (refine gR fun K1 hK1 => ?_; simp only [go_sem, ↓reduceIte, reduceCtorEq, nA, nB, nC, nD, nE, nF] <;> and_intros <;> first | (apply hK1; clear hK1 K1) | (intros; first | omega | decide) | skip)))
  refine awp_loopC (rl false [0, 3, 5, 1, 2, 1, 31, 3, 25]) 0 (fun g s => ∃ (j : Nat) (o : Int) (acc : List Nat), g + j = ord.length ∧ acc ++ (goF item K (ord.drop j) o).1 = G.1 ∧ (goF item K (ord.drop j) o).2 = G.2 ∧ acc.length ≤ j ∧ -1000000000000 ≤ o ∧ o ≤ 100000000000000 ∧
   s = ⟨((.ptr ci 0) :: (.v (.string item)) :: (.v (.int .i64 bytes)) :: (jnk 5 ((.v (.int .i64 o)) :: AV.junk :: AV.junk :: ((.row 1 (acc.map encR) (some kt)) :: (jnk 31 ((.arr 1 q ord.length) :: (.v (.int .i64 ord.length)) :: (.v (.int .i64 j)) :: (jnk 25 []))))))), [], ⟨h.H, upd T2 kt (some (.tail acc.length))⟩⟩) ord.length ⟨0, o, [], by omega, by rw [List.drop_zero, hG]; rfl, by rw [List.drop_zero, hG], Nat.le_refl _, ho1, by omega, ?_⟩ ?_
  ·have e2 : upd T2 kt (some (TO.tail ([] : List Nat).length)) = T2 := by
    funext t
    by_cases e : t = kt
    ·rw [e, upd_same, hT2k]; rfl
    ·rw [upd_other _ _ e]
   rw [e2]; rfl
  rintro g _ ⟨j, o2, acc, hj, hg1, hg2, hac, hb1, hb2, rfl⟩
  (repeat (first | refine gO rfl ?_ | (refine gR fun K1 hK1 => ?_; simp only [go_sem, ↓reduceIte, reduceCtorEq, nA, nB, nC, nD, nE, nF] <;> and_intros <;> first | (apply hK1; clear hK1 K1) | (intros; first | omega | decide) | skip)))
  refine awp_cond (t := _) rfl (fun h1 => ?_) (fun h1 => ?_)
  ·simp only [decide_eq_true_eq] at h1
   have hjl : j < ord.length := by omega
   have gx : (ord.map encR).getD j [] = encR (ord.getD j default) := getD_enc encR ord j default hjl
   have hdj := drop_at' ord j default hjl
   have hpm : ord.getD j default ∈ ord := by rw [List.getD_eq_getElem?_getD, List.getElem?_eq_getElem hjl]; exact List.getElem_mem _
   obtain ⟨p, hp⟩ : ∃ p, ord.getD j default = p := ⟨_, rfl⟩
   rw [hp] at gx hdj hpm
   have hhp := hK p (hom p hpm)
   have hbp := hB p (hom p hpm)
   have htq : upd T2 kt (some (TO.tail acc.length)) q = some (.cont 1 (ord.map encR)) := (upd_other _ _ hqkt).trans hT2
   have htk2 : upd T2 kt (some (TO.tail acc.length)) kt = some (.tail acc.length) := upd_same _ _ _
   rw [hdj, goF] at hg1 hg2
   generalize K p = x at *
   obtain ⟨ke, by1, pi, ca, la, ma⟩ := x
   simp only at hg1 hg2 hbp
   (repeat (first | refine gO rfl ?_ | (refine gR fun K1 hK1 => ?_; simp only [go_sem, ↓reduceIte, reduceCtorEq, nA, nB, nC, nD, nE, nF, htq, hol2, Int.toNat_natCast, gx, encR] <;> and_intros <;> first | (apply hK1; clear hK1 K1) | (intros; first | omega | decide) | skip)))
   refine awp_cond (t := _) rfl (fun h2 => ?_) (fun h2 => ?_)
   ·simp only [decide_eq_true_eq] at h2
    rw [if_pos h2] at hg1 hg2
    simp only at hg1 hg2
    (repeat (first | refine gO rfl ?_ | (refine gR fun K1 hK1 => ?_; simp only [go_sem, ↓reduceIte, reduceCtorEq, nA, nB, nC, nD, nE, nF] <;> and_intros <;> first | (apply hK1; clear hK1 K1) | (intros; first | omega | decide) | skip)))
    simp only [Tryz.results190, go_sem, ↓reduceIte, reduceCtorEq, nA, nB, nC, nD, nE, nF]
    refine ⟨_, _, Weak.refl _, Hp.le.refl _, kt, by rw [← hg1, ← hg2, List.append_nil], rfl, fun t ht => ?_⟩
    exact (upd_other _ _ (hold t ht).2).trans (hold t ht).1
   ·simp only [decide_eq_false_iff_not] at h2
    rw [if_neg h2] at hg1 hg2
    (repeat (first | refine gO rfl ?_ | (refine gR fun K1 hK1 => ?_; simp only [go_sem, ↓reduceIte, reduceCtorEq, nA, nB, nC, nD, nE, nF, hhp, encKp] <;> and_intros <;> first | (apply hK1; clear hK1 K1) | (intros; first | omega | decide) | skip)))
    by_cases e : ke = item
    ·refine awp_cond (t := _) rfl (fun h9 => absurd h9 (by rw [e]; simp [ba_beq])) (fun _ => ?_)
     rw [if_pos e] at hg1 hg2
     (repeat (first | refine gO rfl ?_ | (refine gR fun K1 hK1 => ?_; simp only [go_sem, ↓reduceIte, reduceCtorEq, nA, nB, nC, nD, nE, nF] <;> and_intros <;> first | (apply hK1; clear hK1 K1) | (intros; first | omega | decide) | skip)))
     exact ⟨g - 1, by omega, j + 1, o2, acc, by omega, hg1, hg2, by omega, hb1, hb2, rfl⟩
    ·refine awp_cond (t := _) rfl (fun _ => ?_) (fun h9 => absurd (by simpa [ba_beq] using h9) e)
     rw [if_neg e] at hg1 hg2
     (repeat (first | refine gO rfl ?_ | (refine gR fun K1 hK1 => ?_; simp only [go_sem, ↓reduceIte, reduceCtorEq, nA, nB, nC, nD, nE, nF, hhp, encKp, htk2, List.length_map] <;> and_intros <;> first | (apply hK1; clear hK1 K1) | (intros; first | omega | decide) | skip)))
     refine ⟨g - 1, by omega, j + 1, o2 - by1, acc ++ [p], by omega, by rw [List.append_assoc]; exact hg1, hg2, by rw [List.length_append, List.length_singleton]; omega, by omega, by omega, ?_⟩
     rw [List.map_append, List.length_append]
     rfl
  ·simp only [decide_eq_false_iff_not] at h1
   have hjl : j = ord.length := by omega
   subst hjl
   rw [List.drop_length, goF] at hg1 hg2
   simp only at hg1 hg2
   (repeat (first | refine gO rfl ?_ | (refine gR fun K1 hK1 => ?_; simp only [go_sem, ↓reduceIte, reduceCtorEq, nA, nB, nC, nD, nE, nF] <;> and_intros <;> first | (apply hK1; clear hK1 K1) | (intros; first | omega | decide) | skip)))
   simp only [Tryz.results190, go_sem, ↓reduceIte, reduceCtorEq, nA, nB, nC, nD, nE, nF]
   refine ⟨_, _, Weak.refl _, Hp.le.refl _, kt, by rw [← hg1, ← hg2, List.append_nil], rfl, fun t ht => ?_⟩
   exact (upd_other _ _ (hold t ht).2).trans (hold t ht).1
abbrev zPVE : List Nat := [0, 1, 2, 3, 4, 5, 6, 7, 8, 9, 10, 11, 12, 13]
abbrev zPVP : List (Nat × List Nat × List Nat) := []
attribute [go_sem] zPVE zPVP
def encN (x : Kp) : List AV := [.v (.string x.1)]
def PutR (room rule now bytes : Int) (item : ByteArray) (K : Nat → Kp) (ps : List Nat) (ci k : Nat) (h : Hp) (r : AV) (h' : Hp) : Prop :=
 match putL room rule now (ps.map K) item bytes with
 | none => r = .tup [.v (.slice none 0 0), .v (.int .i64 12)] ∧ h'.H = h.H ∧ ∀ t, h.T t ≠ none → h'.T t = h.T t
 | some (L', g) => ∃ (K' : Nat → Kp) (ps' : List Nat) (k' kt : Nat), r = .tup [.row 1 (g.map encN) (some kt), .v (.int .i64 0)] ∧ ps'.map K' = L' ∧ CacheH h' K' ps' ∧ h'.H ci = some (.cells (encCa room rule (now + 1) k' ps'.length)) ∧
   h'.T k' = some (.cont 1 (ps'.map encR)) ∧ ci ∉ ps' ∧ (∀ q, h.H q ≠ none → q ≠ ci → q ∉ ps → h'.H q = h.H q) ∧ ∀ t, h.T t ≠ none → t ≠ k → h'.T t = h.T t
theorem goingF_mem {item : ByteArray} {bytes room rule : Int} {K : Nat → Kp} {ps : List Nat} {p : Nat} (h : p ∈ (goingF item bytes room rule K ps).1) : p ∈ ps := orderF_mem (goF_mem h)
theorem goF_not {item : ByteArray} {K : Nat → Kp} : ∀ {ps : List Nat} {o : Int} {p : Nat}, p ∈ (goF item K ps o).1 → (K p).1 ≠ item
 | [], _, _, h => by simp [goF] at h
 | q :: ps, o, p, h => by
  unfold goF at h
  split at h
  ·simp at h
  ·split at h
   ·exact goF_not h
   ·rename_i e
    rcases List.mem_cons.1 h with rfl | h
    ·exact e
    ·exact goF_not h
theorem findF_cases (item : ByteArray) (K : Nat → Kp) (ps : List Nat) : (hasL item (ps.map K) = false ∧ findF item K ps = nilP) ∨ ∃ p ∈ ps, (K p).1 = item ∧ hasL item (ps.map K) = true ∧ findF item K ps = .ptr p 0 := by
 unfold findF
 cases e : ps.find? (fun p => (K p).1 == item) with
 | none =>
  refine .inl ⟨?_, rfl⟩
  cases hh : hasL item (ps.map K) with
  | false => rfl
  | true =>
   obtain ⟨x, hx, e2⟩ := hasL_iff.1 hh
   obtain ⟨p, hp, rfl⟩ := List.mem_map.1 hx
   have := List.find?_eq_none.1 e p hp
   rw [ba_beq] at this
   simp [e2] at this
 | some p =>
  have h1 := List.find?_some e
  have h2 := List.mem_of_find?_eq_some e
  rw [ba_beq] at h1
  have h3 : (K p).1 = item := by simpa using h1
  exact .inr ⟨p, h2, h3, hasL_iff.2 ⟨K p, List.mem_map_of_mem h2, h3⟩, rfl⟩
theorem g_put {K : Nat → Kp} {ci k : Nat} {room rule now bytes : Int} {item : ByteArray} {ps : List Nat} {h : Hp} (hC : h.H ci = some (.cells (encCa room rule now k ps.length))) (hT : h.T k = some (.cont 1 (ps.map encR))) (hl : ps.length ≤ 11) (hK : CacheH h K ps)
  (hci : ci ∉ ps) (hone : KeysOne (ps.map K)) (hKey : ∀ h, ACalls Tryz.prog 151 [.v (.string item)] h (fun r h' => r = .v (.bool true) ∧ h' = h))
  (hB : ∀ p ∈ ps, 0 ≤ (K p).2.1 ∧ (K p).2.1 ≤ 1000000000000) (hM : ∀ p ∈ ps, 0 ≤ (K p).2.2.2.2.2 ∧ (K p).2.2.2.2.2 ≤ 1000000000) (hr : 0 ≤ room ∧ room ≤ 1000000000000) (hb : 1 ≤ bytes ∧ bytes ≤ 1000000000000) (hnow : 0 ≤ now ∧ now ≤ 1000000000) :
  ACalls Tryz.prog 135 [.ptr ci 0, .v (.string item), .v (.int .i64 bytes)] h (PutR room rule now bytes item K ps ci k h) := by
 have hgo := g_going (item := item) (bytes := bytes) hC hT (by omega) hK hB hr (by omega)
 have hgm := goingF_map item bytes room rule K ps
 have hgmem : ∀ p ∈ (goingF item bytes room rule K ps).1, p ∈ ps := fun p hp => goingF_mem hp
 have hgnot : ∀ p ∈ (goingF item bytes room rule K ps).1, (K p).1 ≠ item := fun p hp => goF_not hp
 have hglen : (goingF item bytes room rule K ps).1.length ≤ ps.length := Nat.le_trans (goF_len item K _ _) (orderF_len rule K ps)
 have hP : putL room rule now (ps.map K) item bytes = putL room rule now (ps.map K) item bytes := rfl
 conv at hP => rhs; unfold putL; rw [← hgm]
 simp only at hP
 generalize goingF item bytes room rule K ps = go at *
 obtain ⟨gone, over⟩ := go
 simp only at hP hgmem hgnot hglen hgo
 clear hgm
 have hOut := a_outside bytes 1 1000000000000
 have hOutE : (decide (bytes < 1) || decide (1000000000000 < bytes)) = false := by simp; omega
 refine gE Tryz.func135 rfl (by kernel_rfl) 93 rfl fun c => ?_
 (repeat (first | refine gO rfl ?_ | ((first | refine gM zM22 ?_ | (with_reducible refine wM ?_ ?_) | ((with_reducible refine xS ?_); refine uD 9 zM22 zPVE zPVP 96 rfl (by kernel_rfl) ?_)) <;> ((try with_reducible intro K1 hK1); simp only [go_sem, ↓reduceIte, reduceCtorEq, nA, nB, nC, nD, nE, nF] <;> and_intros <;> first | (apply hK1; clear hK1 K1) | (intros; first | omega | decide | (simp_all <;> omega)) | skip))))
 refine (hKey _).mono ?_; rintro _ hz ⟨rfl, hh⟩; apply hK1; clear hK1 K1; rw [hh]; clear hh hz
 (repeat (first | refine gO rfl ?_ | ((first | refine gM zM22 ?_ | (with_reducible refine wM ?_ ?_) | ((with_reducible refine xS ?_); refine uD 9 zM22 zPVE zPVP 96 rfl (by kernel_rfl) ?_)) <;> ((try with_reducible intro K1 hK1); simp only [go_sem, ↓reduceIte, reduceCtorEq, nA, nB, nC, nD, nE, nF] <;> and_intros <;> first | (apply hK1; clear hK1 K1) | (intros; first | omega | decide) | skip))))
 refine awp_cond (t := _) rfl (fun h9 => by cases h9) (fun _ => ?_)
 (repeat (first | refine gO rfl ?_ | ((first | refine gM zM22 ?_ | (with_reducible refine wM ?_ ?_) | ((with_reducible refine xS ?_); refine uD 9 zM22 zPVE zPVP 96 rfl (by kernel_rfl) ?_)) <;> ((try with_reducible intro K1 hK1); simp only [go_sem, ↓reduceIte, reduceCtorEq, nA, nB, nC, nD, nE, nF] <;> and_intros <;> first | (apply hK1; clear hK1 K1) | (intros; first | omega | decide) | skip))))
 refine (hOut _).mono ?_; rintro _ hz ⟨rfl, hh⟩; apply hK1; clear hK1 K1; rw [hh]; clear hh hz
 rw [hOutE]
 clear hKey hOut hOutE
 (repeat (first | refine gO rfl ?_ | ((first | refine gM zM22 ?_ | (with_reducible refine wM ?_ ?_) | ((with_reducible refine xS ?_); refine uD 9 zM22 zPVE zPVP 96 rfl (by kernel_rfl) ?_)) <;> ((try with_reducible intro K1 hK1); simp only [go_sem, ↓reduceIte, reduceCtorEq, nA, nB, nC, nD, nE, nF] <;> and_intros <;> first | (apply hK1; clear hK1 K1) | (intros; first | omega | decide) | skip))))
 refine awp_cond (t := _) rfl (fun h9 => by cases h9) (fun _ => ?_)
 (repeat (first | refine gO rfl ?_ | ((first | refine gM zM22 ?_ | (with_reducible refine wM ?_ ?_) | ((with_reducible refine xS ?_); refine uD 9 zM22 zPVE zPVP 96 rfl (by kernel_rfl) ?_)) <;> ((try with_reducible intro K1 hK1); simp only [go_sem, ↓reduceIte, reduceCtorEq, nA, nB, nC, nD, nE, nF] <;> and_intros <;> first | (apply hK1; clear hK1 K1) | (intros; first | omega | decide) | skip))))
 refine hgo.mono ?_
 rintro _ ⟨H2, T2⟩ ⟨kg, rfl, hH, hold⟩
 simp only at hH hold
 subst hH
 refine hK1 _ ?_; clear hK1 K1 hgo
 (repeat (first | refine gO rfl ?_ | ((first | refine gM zM22 ?_ | (with_reducible refine wM ?_ ?_) | ((with_reducible refine xS ?_); refine uD 9 zM22 zPVE zPVP 96 rfl (by kernel_rfl) ?_)) <;> ((try with_reducible intro K1 hK1); simp only [go_sem, ↓reduceIte, reduceCtorEq, nA, nB, nC, nD, nE, nF] <;> and_intros <;> first | (apply hK1; clear hK1 K1) | (intros; first | omega | decide) | skip))))
 intro i hi
 replace hi : h.H i = none := hi
 refine hK1 _ ?_; clear hK1 K1
 (repeat (first | refine gO rfl ?_ | ((first | refine gM zM22 ?_ | (with_reducible refine wM ?_ ?_) | ((with_reducible refine xS ?_); refine uD 9 zM22 zPVE zPVP 96 rfl (by kernel_rfl) ?_)) <;> ((try with_reducible intro K1 hK1); simp only [go_sem, ↓reduceIte, reduceCtorEq, nA, nB, nC, nD, nE, nF, upd_same, upd_upd] <;> and_intros <;> first | (apply hK1; clear hK1 K1) | (intros; first | omega | decide) | skip))))
 by_cases ho : over ≤ 0
 case neg =>
  have hof : decide (over ≤ 0) = false := by simpa using ho
  rw [if_neg ho] at hP
  refine awp_cond (t := !decide (over ≤ 0)) rfl (fun _ => ?_) (fun h9 => by rw [hof] at h9; cases h9)
  (repeat (first | refine gO rfl ?_ | ((first | refine gM zM22 ?_ | (with_reducible refine wM ?_ ?_) | ((with_reducible refine xS ?_); refine uD 9 zM22 zPVE zPVP 96 rfl (by kernel_rfl) ?_)) <;> ((try with_reducible intro K1 hK1); simp only [go_sem, ↓reduceIte, reduceCtorEq, nA, nB, nC, nD, nE, nF] <;> and_intros <;> first | (apply hK1; clear hK1 K1) | (intros; first | omega | decide) | skip))))
  simp only [Tryz.results135, go_sem, ↓reduceIte, reduceCtorEq, nA, nB, nC, nD, nE, nF]
  refine ⟨_, ⟨h.H, T2⟩, Weak.refl _, ⟨fun q => ?_, fun _ => .inr rfl⟩, ?_⟩
  ·by_cases e : q = i
   ·rw [e]; exact .inl hi
   ·exact .inr (upd_other _ _ e).symm
  ·unfold PutR
   rw [hP]
   exact ⟨rfl, rfl, hold⟩
 have hot : decide (over ≤ 0) = true := by simpa using ho
 rw [if_pos ho] at hP
 refine awp_cond (t := !decide (over ≤ 0)) rfl (fun h9 => by rw [hot] at h9; cases h9) (fun _ => ?_)
 have hcii : ci ≠ i := by rintro rfl; rw [hC] at hi; cases hi
 have hpi : ∀ p ∈ ps, p ≠ i := fun p hp => by rintro rfl; have := hK p hp; rw [hi] at this; cases this
 have hne : h.T k ≠ none := by rw [hT]; simp
 have hT2 : T2 k = some (.cont 1 (ps.map encR)) := (hold k hne).trans hT
 have hC3 : upd h.H i (some (.cells [.row 1 (gone.map encR) (some kg)])) ci = some (.cells (encCa room rule now k ps.length)) := (upd_other _ _ hcii).trans hC
 have hI3 : upd h.H i (some (.cells [.row 1 (gone.map encR) (some kg)])) i = some (.cells [.row 1 (gone.map encR) (some kg)]) := upd_same _ _ _
 have hK3 : CacheH ⟨upd h.H i (some (.cells [.row 1 (gone.map encR) (some kg)])), T2⟩ K ps := fun p hp => (upd_other _ _ (hpi p hp)).trans (hK p hp)
 have hfi := g_find (item := item) K ci k room rule now ps ⟨upd h.H i (some (.cells [.row 1 (gone.map encR) (some kg)])), T2⟩ hC3 hT2 (by omega) hK3
 have hfc := findF_cases item K ps
 have hus : uside (findF item K ps) := by rcases hfc with ⟨_, e⟩ | ⟨_, _, _, _, e⟩ <;> rw [e] <;> trivial
 have hun : unw (findF item K ps) = findF item K ps := by rcases hfc with ⟨_, e⟩ | ⟨_, _, _, _, e⟩ <;> rw [e] <;> rfl
 have hcl : cutLoc 0 (findF item K ps) = findF item K ps := by rcases hfc with ⟨_, e⟩ | ⟨_, _, _, _, e⟩ <;> rw [e] <;> rfl
 generalize findF item K ps = fk at *
 unfold uside at hus
 unfold unw at hun
 (repeat (first | refine gO rfl ?_ | ((first | refine gM zM22 ?_ | (with_reducible refine wM ?_ ?_) | ((with_reducible refine xS ?_); refine uD 9 zM22 zPVE zPVP 96 rfl (by kernel_rfl) ?_)) <;> ((try with_reducible intro K1 hK1); simp only [go_sem, ↓reduceIte, reduceCtorEq, nA, nB, nC, nD, nE, nF] <;> and_intros <;> first | (apply hK1; clear hK1 K1) | (intros; first | omega | decide) | skip))))
 refine hfi.mono ?_
 rintro fk hz ⟨rfl, hh⟩; apply hK1; clear hK1 K1; rw [hh]; clear hh hz
 clear hfi
 (repeat (first | refine gQ rfl ?_ | ((first | refine gM zM22 ?_ | (with_reducible refine wM ?_ ?_) | ((with_reducible refine xS ?_); refine uD 9 zM22 zPVE zPVP 96 rfl (by kernel_rfl) ?_)) <;> ((try with_reducible intro K1 hK1); simp only [go_sem, ↓reduceIte, reduceCtorEq, nA, nB, nC, nD, nE, nF, hus, hun] <;> and_intros <;> first | (apply hK1; clear hK1 K1) | (intros; first | omega | decide | (simp_all <;> omega)) | skip))))
 refine awp_seq ?_
 have hlen2 : -1000000000 ≤ (ps.length : Int) - (gone.length : Int) + 1 ∧ (ps.length : Int) - (gone.length : Int) + 1 ≤ 500 := by omega
 have hbig : decide ((500 : Int) < (ps.length : Int) - (gone.length : Int) + 1) = false := by simp; omega
 have hml : (gone.map encR).length = gone.length := List.length_map _
 refine awp_join (rl false [0, 3, 5, 1, 1, 1, 85]) 0 (fun s => s = ⟨((.ptr ci 0) :: (.v (.string item)) :: (.v (.int .i64 bytes)) :: (jnk 5 ((.ptr i 0) :: AV.junk :: ((fk) :: (jnk 85 []))))), [], ⟨upd h.H i (some (.cells [.row 1 (gone.map encR) (some kg)])), T2⟩⟩) ?_ ?_
 ·rcases hfc with ⟨_, rfl⟩ | ⟨p, hp, hpk, hhas, rfl⟩
  ·unfold nilP
   (repeat (first | refine gO rfl ?_ | ((first | refine gM zM22 ?_ | (with_reducible refine wM ?_ ?_) | ((with_reducible refine xS ?_); refine uD 9 zM22 zPVE zPVP 96 rfl (by kernel_rfl) ?_)) <;> ((try with_reducible intro K1 hK1); simp only [go_sem, ↓reduceIte, reduceCtorEq, nA, nB, nC, nD, nE, nF, hC3, hI3, encCa, hml] <;> and_intros <;> first | (apply hK1; clear hK1 K1) | (intros; first | omega | decide) | skip))))
   refine awp_cond (t := _) rfl (fun h9 => by rw [hbig] at h9; cases h9) (fun _ => ?_)
   (repeat (first | refine gO rfl ?_ | ((first | refine gM zM22 ?_ | (with_reducible refine wM ?_ ?_) | ((with_reducible refine xS ?_); refine uD 9 zM22 zPVE zPVP 96 rfl (by kernel_rfl) ?_)) <;> ((try with_reducible intro K1 hK1); simp only [go_sem, ↓reduceIte, reduceCtorEq, nA, nB, nC, nD, nE, nF] <;> and_intros <;> first | (apply hK1; clear hK1 K1) | (intros; first | omega | decide) | skip))))
   rfl
  ·(repeat (first | refine gO rfl ?_ | ((first | refine gM zM22 ?_ | (with_reducible refine wM ?_ ?_) | ((with_reducible refine xS ?_); refine uD 9 zM22 zPVE zPVP 96 rfl (by kernel_rfl) ?_)) <;> ((try with_reducible intro K1 hK1); simp only [go_sem, ↓reduceIte, reduceCtorEq, nA, nB, nC, nD, nE, nF, hC3, hI3, encCa, hml] <;> and_intros <;> first | (apply hK1; clear hK1 K1) | (intros; first | omega | decide) | skip))))
   refine awp_cond (t := _) rfl (fun h9 => by cases h9) (fun _ => ?_)
   (repeat (first | refine gO rfl ?_ | ((first | refine gM zM22 ?_ | (with_reducible refine wM ?_ ?_) | ((with_reducible refine xS ?_); refine uD 9 zM22 zPVE zPVP 96 rfl (by kernel_rfl) ?_)) <;> ((try with_reducible intro K1 hK1); simp only [go_sem, ↓reduceIte, reduceCtorEq, nA, nB, nC, nD, nE, nF] <;> and_intros <;> first | (apply hK1; clear hK1 K1) | (intros; first | omega | decide) | skip))))
   rfl
 rintro _ rfl
 clear hbig hlen2
 (repeat (first | refine gQ rfl ?_ | ((first | refine gM zM22 ?_ | (with_reducible refine wM ?_ ?_) | ((with_reducible refine xS ?_); refine uD 9 zM22 zPVE zPVP 96 rfl (by kernel_rfl) ?_)) <;> ((try with_reducible intro K1 hK1); simp only [go_sem, ↓reduceIte, reduceCtorEq, nA, nB, nC, nD, nE, nF] <;> and_intros <;> first | (apply hK1; clear hK1 K1) | (intros; first | omega | decide | (simp_all <;> omega)) | skip))))
 refine awp_own 11 1 rfl ⟨rfl, rfl⟩ (fun kt hkt => ?_)
 replace hkt : T2 kt = none := hkt
 refine awp_cut (rl false [0, 3, 5, 1, 1, 2, 84]) 0 (?_ : Awp _ _ _ _ ⟨((.ptr ci 0) :: (.v (.string item)) :: (.v (.int .i64 bytes)) :: (jnk 5 ((.ptr i 0) :: AV.junk :: ((cutLoc 0 fk) :: (.row 1 [] (some kt)) :: (jnk 84 []))))), [], ⟨upd h.H i (some (.cells [.row 1 (gone.map encR) (some kg)])), upd T2 kt (some (.tail 0))⟩⟩)
 rw [hcl]
 have hkk : k ≠ kt := by rintro rfl; rw [hT2] at hkt; cases hkt
 have hl2 := hglen
 (repeat (first | refine gQ rfl ?_ | ((first | refine gM zM22 ?_ | (with_reducible refine wM ?_ ?_) | ((with_reducible refine xS ?_); refine uD 9 zM22 zPVE zPVP 96 rfl (by kernel_rfl) ?_)) <;> ((try with_reducible intro K1 hK1); simp only [go_sem, ↓reduceIte, reduceCtorEq, nA, nB, nC, nD, nE, nF, hI3, hml] <;> and_intros <;> first | (apply hK1; clear hK1 K1) | (intros; first | omega | decide | (simp_all <;> omega)) | skip))))
 refine awp_seq ?_
 (repeat (first | refine gQ rfl ?_ | ((first | refine gM zM22 ?_ | (with_reducible refine wM ?_ ?_) | ((with_reducible refine xS ?_); refine uD 9 zM22 zPVE zPVP 96 rfl (by kernel_rfl) ?_)) <;> ((try with_reducible intro K1 hK1); simp only [go_sem, ↓reduceIte, reduceCtorEq, nA, nB, nC, nD, nE, nF, hI3, hml] <;> and_intros <;> first | (apply hK1; clear hK1 K1) | (intros; first | omega | decide | (simp_all <;> omega)) | skip))))
 refine awp_loopC (rl false [0, 3, 5, 1, 1, 2, 33, 3, 48]) 0 (fun g s => ∃ j : Nat, g + j = gone.length ∧
  s = ⟨((.ptr ci 0) :: (.v (.string item)) :: (.v (.int .i64 bytes)) :: (jnk 5 ((.ptr i 0) :: AV.junk :: ((fk) :: (.row 1 ((gone.take j).map fun p => encN (K p)) (some kt)) :: (jnk 33 ((.row 1 (gone.map encR) (some kg)) :: (.v (.int .i64 gone.length)) :: (.v (.int .i64 j)) :: (jnk 48 []))))))), [], ⟨upd h.H i (some (.cells [.row 1 (gone.map encR) (some kg)])), upd T2 kt (some (.tail j))⟩⟩) gone.length ⟨0, by omega, congrArg (fun z => (⟨((.ptr ci 0) :: (.v (.string item)) :: (.v (.int .i64 bytes)) :: (jnk 5 ((.ptr i 0) :: AV.junk :: ((z) :: (.row 1 ((gone.take 0).map fun p => encN (K p)) (some kt)) :: (jnk 33 ((.row 1 (gone.map encR) (some kg)) :: (.v (.int .i64 gone.length)) :: (.v (.int .i64 ((0 : Nat) : Int))) :: (jnk 48 []))))))), [], ⟨upd h.H i (some (.cells [.row 1 (gone.map encR) (some kg)])), upd T2 kt (some (.tail 0))⟩⟩ : St)) hcl⟩ ?_
 rintro g _ ⟨j, hj, rfl⟩
 (repeat (first | refine gO rfl ?_ | ((first | refine gM zM22 ?_ | (with_reducible refine wM ?_ ?_) | ((with_reducible refine xS ?_); refine uD 9 zM22 zPVE zPVP 96 rfl (by kernel_rfl) ?_)) <;> ((try with_reducible intro K1 hK1); simp only [go_sem, ↓reduceIte, reduceCtorEq, nA, nB, nC, nD, nE, nF] <;> and_intros <;> first | (apply hK1; clear hK1 K1) | (intros; first | omega | decide) | skip))))
 refine awp_cond (t := _) rfl (fun h1 => ?_) (fun h1 => ?_)
 ·simp only [decide_eq_true_eq] at h1
  have hjl : j < gone.length := by omega
  have gx : (gone.map encR).getD j [] = encR (gone.getD j default) := getD_enc encR gone j default hjl
  have htj := take_at' gone j default hjl
  have hpm : gone.getD j default ∈ ps := hgmem _ (by rw [List.getD_eq_getElem?_getD, List.getElem?_eq_getElem hjl]; exact List.getElem_mem _)
  obtain ⟨p, hp⟩ : ∃ p, gone.getD j default = p := ⟨_, rfl⟩
  rw [hp] at gx htj hpm
  have hhp := hK3 p hpm
  have hen : encN (K p) = [.v (.string (K p).1)] := rfl
  have htl : (gone.take j).length = j := by rw [List.length_take]; omega
  have htk : upd T2 kt (some (TO.tail j)) kt = some (.tail j) := upd_same _ _ _
  generalize hx : K p = x at *
  obtain ⟨ke, by1, pi, ca, la, ma⟩ := x
  (repeat (first | refine gO rfl ?_ | ((first | refine gM zM22 ?_ | (with_reducible refine wM ?_ ?_) | ((with_reducible refine xS ?_); refine uD 9 zM22 zPVE zPVP 96 rfl (by kernel_rfl) ?_)) <;> ((try with_reducible intro K1 hK1); simp only [go_sem, ↓reduceIte, reduceCtorEq, nA, nB, nC, nD, nE, nF, hml, Int.toNat_natCast, gx, encR, hhp, encKp, List.length_map, htl, htk] <;> and_intros <;> first | (apply hK1; clear hK1 K1) | (intros; first | omega | decide) | skip))))
  refine ⟨g - 1, by omega, j + 1, by omega, ?_⟩
  rw [htj, List.map_append, List.map_cons, hx, hen]
  exact congrArg (fun z => (⟨((.ptr ci 0) :: (.v (.string item)) :: (.v (.int .i64 bytes)) :: (jnk 5 ((.ptr i 0) :: AV.junk :: ((z) :: (.row 1 (((gone.take j).map fun p => encN (K p)) ++ [[.v (.string ke)]]) (some kt)) :: (jnk 33 ((.row 1 (gone.map encR) (some kg)) :: (.v (.int .i64 gone.length)) :: (.v (.int .i64 ((j : Int) + 1))) :: (jnk 48 []))))))), [], ⟨upd h.H i (some (.cells [.row 1 (gone.map encR) (some kg)])), upd T2 kt (some (.tail (j + 1)))⟩⟩ : St)) hcl
 simp only [decide_eq_false_iff_not] at h1
 have hjl : j = gone.length := by omega
 subst hjl
 rw [List.take_length]
 have hT4 : upd T2 kt (some (TO.tail gone.length)) k = some (.cont 1 (ps.map encR)) := (upd_other _ _ hkk).trans hT2
 have hde := g_delK (caps := [.ptr i 0]) (fun p => gone.contains p) k ps ⟨upd h.H i (some (.cells [.row 1 (gone.map encR) (some kg)])), upd T2 kt (some (.tail gone.length))⟩ hT4 (by omega) (fun p hp T' => g_put1 (K := K) p kg i gone ⟨_, T'⟩ hI3 (hK3 p hp) (fun q hq => hK3 q (hgmem q hq)) (by omega))
 (repeat (first | refine gO rfl ?_ | ((first | refine gM zM22 ?_ | (with_reducible refine wM ?_ ?_) | ((with_reducible refine xS ?_); refine uD 9 zM22 zPVE zPVP 96 rfl (by kernel_rfl) ?_)) <;> ((try with_reducible intro K1 hK1); simp only [go_sem, ↓reduceIte, reduceCtorEq, nA, nB, nC, nD, nE, nF, hC3, encCa] <;> and_intros <;> first | (apply hK1; clear hK1 K1) | (intros; first | omega | decide) | skip))))
 refine hde.mono ?_
 rintro _ ⟨H5, T5⟩ ⟨q, rfl, hH5, hT5, hoth⟩
 simp only at hH5 hT5 hoth
 subst hH5
 refine hK1 _ ?_; clear hK1 K1 hde
 have hst : ps.filter (fun p => !gone.contains p) = stayF gone ps := rfl
 rw [hst] at hT5 ⊢
 have hsm : ∀ p ∈ stayF gone ps, p ∈ ps := fun p hp => (List.mem_filter.1 hp).1
 have hsl : (stayF gone ps).length ≤ ps.length := List.length_filter_le _ _
 have hsmap := stayF_map (K := K) hone hgmem
 have hone2 : KeysOne ((stayF gone ps).map K) := by rw [hsmap]; exact keysOne_filter hone _
 have hrow : gone.map (fun p => encN (K p)) = (gone.map K).map encN := by rw [List.map_map]; rfl
 have hTfr : ∀ t, h.T t ≠ none → t ≠ k → T5 t = h.T t ∧ t ≠ q := fun t ht htk => by
  have h1 := hold t ht
  have h2 : t ≠ kt := by rintro rfl; rw [h1] at hkt; exact ht hkt
  have h3 := hoth t htk (by rw [upd_other _ _ h2, h1]; exact ht)
  exact ⟨h3.2.trans ((upd_other _ _ h2).trans h1), h3.1⟩
 have hpci : ∀ p ∈ ps, p ≠ ci := fun p hp => by rintro rfl; exact hci hp
 generalize hSt : stayF gone ps = st at *
 rcases hfc with ⟨hhas, rfl⟩ | ⟨p, hp, hpk, hhas, rfl⟩
 ·unfold nilP
  (repeat (first | refine gO rfl ?_ | ((first | refine gM zM22 ?_ | (with_reducible refine wM ?_ ?_) | ((with_reducible refine xS ?_); refine uD 9 zM22 zPVE zPVP 96 rfl (by kernel_rfl) ?_)) <;> ((try with_reducible intro K1 hK1); simp only [go_sem, ↓reduceIte, reduceCtorEq, nA, nB, nC, nD, nE, nF, hC3, encCa] <;> and_intros <;> first | (apply hK1; clear hK1 K1) | (intros; first | omega | decide) | skip))))
  obtain ⟨H6, hH6⟩ : ∃ H6, H6 = upd (upd h.H i (some (AO.cells [AV.row 1 (List.map encR gone) (some kg)]))) ci (some (AO.cells [.v (.int .i64 room), .v (.int .i64 rule), .v (.int .i64 now), AV.arr 1 q st.length])) := ⟨_, rfl⟩
  rw [← hH6]
  have c6 : H6 ci = some (.cells (encCa room rule now q st.length)) := by rw [hH6]; exact upd_same _ _ _
  have k6 : ∀ r, r ≠ ci → r ≠ i → H6 r = h.H r := fun r h1 h2 => by rw [hH6, upd_other _ _ h1, upd_other _ _ h2]
  clear hH6
  refine awp_cond (t := _) rfl (fun _ => ?_) (fun h9 => by cases h9)
  (repeat (first | refine gO rfl ?_ | ((first | refine gM zM22 ?_ | (with_reducible refine wM ?_ ?_) | ((with_reducible refine xS ?_); refine uD 9 zM22 zPVE zPVP 96 rfl (by kernel_rfl) ?_)) <;> ((try with_reducible intro K1 hK1); simp only [go_sem, ↓reduceIte, reduceCtorEq, nA, nB, nC, nD, nE, nF, c6, encCa] <;> and_intros <;> first | (apply hK1; clear hK1 K1) | (intros; first | omega | decide) | skip))))
  intro pn hpn
  replace hpn : H6 pn = none := hpn
  refine hK1 _ ?_; clear hK1 K1
  have hcn : ci ≠ pn := by rintro rfl; rw [c6] at hpn; cases hpn
  have hnc : pn ≠ ci := fun e => hcn e.symm
  have hrn : ∀ r, h.H r ≠ none → r ≠ ci → r ≠ pn := fun r hr h1 => by
   rintro rfl
   rw [k6 r h1 (by rintro rfl; exact hr hi)] at hpn
   exact hr hpn
  have hstl : (st.map encR).length = st.length := List.length_map _
  have hTq : ∀ X, upd T5 q (some (TO.cont 1 X)) q = some (.cont 1 X) := fun X => upd_same _ _ _
  have hask := fun H T n (hc : H ci = some (.cells (encCa room rule now q n))) (hpp : H pn = some (.cells (encKp (item, bytes, false, now + 1, 0, 0)))) => g_ask (x := (item, bytes, false, now + 1, 0, 0)) (h := ⟨H, T⟩) hc hpp hcn (by omega) (by show (0 : Int) ≤ 0 ∧ (0 : Int) ≤ 1000000000; omega)
  (repeat (first | refine gO rfl ?_ | ((first | refine gM zM22 ?_ | (with_reducible refine wM ?_ ?_) | ((with_reducible refine xS ?_); refine uD 9 zM22 zPVE zPVP 96 rfl (by kernel_rfl) ?_)) <;> ((try with_reducible intro K1 hK1); simp only [go_sem, ↓reduceIte, reduceCtorEq, nA, nB, nC, nD, nE, nF, c6, encCa, upd_other _ _ hcn, upd_other _ _ hnc, upd_same, hT5, hstl] <;> and_intros <;> first | (apply hK1; clear hK1 K1) | (intros; first | omega | decide) | skip))))
  refine (hask _ _ (st.length + 1) ((upd_other _ _ hcn).trans (upd_same _ _ _)) (upd_same _ _ _)).mono ?_; rintro _ hz ⟨rfl, hh⟩; apply hK1; clear hK1 K1; rw [hh]; clear hh hz
  (repeat (first | refine gO rfl ?_ | ((first | refine gM zM22 ?_ | (with_reducible refine wM ?_ ?_) | ((with_reducible refine xS ?_); refine uD 9 zM22 zPVE zPVP 96 rfl (by kernel_rfl) ?_)) <;> ((try with_reducible intro K1 hK1); simp only [go_sem, ↓reduceIte, reduceCtorEq, nA, nB, nC, nD, nE, nF] <;> and_intros <;> first | (apply hK1; clear hK1 K1) | (intros; first | omega | decide) | skip))))
  simp only [Tryz.results135, go_sem, ↓reduceIte, reduceCtorEq, nA, nB, nC, nD, nE, nF]
  refine ⟨_, _, Weak.refl _, Hp.le.refl _, ?_⟩
  unfold PutR
  rw [hP, hhas, if_neg (by decide)]
  have hnst : pn ∉ st := fun hm => hrn pn (by rw [hK pn (hsm pn hm)]; simp) (hpci pn (hsm pn hm)) rfl
  have hKK : st.map (fun r => if r = pn then newK item bytes now else K r) = st.map K := List.map_congr_left fun r hr => if_neg (fun (e : r = pn) => hnst (e ▸ hr))
  refine ⟨fun r => if r = pn then newK item bytes now else K r, st ++ [pn], q, kt, by rw [hrow], ?_, fun r hr => ?_, ?_, ?_, fun hm => ?_, fun r hr h1 h2 => ?_, fun t ht htk => ?_⟩
  ·rw [List.map_append, hKK, hsmap, List.map_cons, List.map_nil, if_pos rfl]
  ·show upd (upd _ ci _) pn _ r = some (AO.cells (encKp (if r = pn then newK item bytes now else K r)))
   by_cases e : r = pn
   ·rw [e, upd_same, if_pos rfl]; rfl
   ·have hrs : r ∈ st := by
     rcases List.mem_append.1 hr with h1 | h1
     ·exact h1
     ·exact absurd (List.mem_singleton.1 h1) e
    rw [upd_other _ _ e, upd_other _ _ (hpci r (hsm r hrs)), upd_other _ _ e, upd_other _ _ (hpci r (hsm r hrs)), upd_other _ _ e, k6 r (hpci r (hsm r hrs)) (hpi r (hsm r hrs)), if_neg e]
    exact hK r (hsm r hrs)
  ·show upd (upd _ ci _) pn _ ci = _
   rw [upd_other _ _ hcn, upd_same, List.length_append, List.length_singleton]
  ·show upd T5 q _ q = _
   rw [upd_same, List.map_append]; rfl
  ·rcases List.mem_append.1 hm with h1 | h1
   ·exact hci (hsm ci h1)
   ·exact hcn (List.mem_singleton.1 h1)
  ·show upd (upd _ ci _) pn _ r = _
   have e : r ≠ pn := hrn r hr h1
   have ei : r ≠ i := by rintro rfl; exact hr hi
   rw [upd_other _ _ e, upd_other _ _ h1, upd_other _ _ e, upd_other _ _ h1, upd_other _ _ e, k6 r h1 ei]
  ·show upd T5 q _ t = _
   rw [upd_other _ _ (hTfr t ht htk).2]; exact (hTfr t ht htk).1
 ·(repeat (first | refine gO rfl ?_ | ((first | refine gM zM22 ?_ | (with_reducible refine wM ?_ ?_) | ((with_reducible refine xS ?_); refine uD 9 zM22 zPVE zPVP 96 rfl (by kernel_rfl) ?_)) <;> ((try with_reducible intro K1 hK1); simp only [go_sem, ↓reduceIte, reduceCtorEq, nA, nB, nC, nD, nE, nF, hC3, encCa] <;> and_intros <;> first | (apply hK1; clear hK1 K1) | (intros; first | omega | decide) | skip))))
  obtain ⟨H6, hH6⟩ : ∃ H6, H6 = upd (upd h.H i (some (AO.cells [AV.row 1 (List.map encR gone) (some kg)]))) ci (some (AO.cells [.v (.int .i64 room), .v (.int .i64 rule), .v (.int .i64 now), AV.arr 1 q st.length])) := ⟨_, rfl⟩
  rw [← hH6]
  have c6 : H6 ci = some (.cells (encCa room rule now q st.length)) := by rw [hH6]; exact upd_same _ _ _
  have k6 : ∀ r, r ≠ ci → r ≠ i → H6 r = h.H r := fun r h1 h2 => by rw [hH6, upd_other _ _ h1, upd_other _ _ h2]
  clear hH6
  refine awp_cond (t := _) rfl (fun h9 => by cases h9) (fun _ => ?_)
  have p6 : H6 p = some (.cells (encKp (K p))) := (k6 p (hpci p hp) (hpi p hp)).trans (hK p hp)
  have hMp := hM p hp
  have hask := fun H (hc : H ci = some (.cells (encCa room rule now q st.length))) (hpp : H p = some (.cells (encKp (setB bytes (K p))))) => g_ask (x := setB bytes (K p)) (h := ⟨H, T5⟩) hc hpp (hpci p hp).symm (by omega) hMp
  have hcp : ci ≠ p := (hpci p hp).symm
  have hKe : encKp (setB bytes (K p)) = [.v (.string (K p).1), .v (.int .i64 bytes), .v (.bool (K p).2.2.1), .v (.int .i64 (K p).2.2.2.1), .v (.int .i64 (K p).2.2.2.2.1), .v (.int .i64 (K p).2.2.2.2.2)] := rfl
  have hKe2 : encKp (K p) = [.v (.string (K p).1), .v (.int .i64 (K p).2.1), .v (.bool (K p).2.2.1), .v (.int .i64 (K p).2.2.2.1), .v (.int .i64 (K p).2.2.2.2.1), .v (.int .i64 (K p).2.2.2.2.2)] := rfl
  rw [hKe2] at p6
  (repeat (first | refine gO rfl ?_ | ((first | refine gM zM22 ?_ | (with_reducible refine wM ?_ ?_) | ((with_reducible refine xS ?_); refine uD 9 zM22 zPVE zPVP 96 rfl (by kernel_rfl) ?_)) <;> ((try with_reducible intro K1 hK1); simp only [go_sem, ↓reduceIte, reduceCtorEq, nA, nB, nC, nD, nE, nF, p6] <;> and_intros <;> first | (apply hK1; clear hK1 K1) | (intros; first | omega | decide) | skip))))
  refine (hask _ ((upd_other _ _ hcp).trans c6) (by rw [hKe]; exact upd_same _ _ _)).mono ?_; rintro _ hz ⟨rfl, hh⟩; apply hK1; clear hK1 K1; rw [hh]; clear hh hz
  (repeat (first | refine gO rfl ?_ | ((first | refine gM zM22 ?_ | (with_reducible refine wM ?_ ?_) | ((with_reducible refine xS ?_); refine uD 9 zM22 zPVE zPVP 96 rfl (by kernel_rfl) ?_)) <;> ((try with_reducible intro K1 hK1); simp only [go_sem, ↓reduceIte, reduceCtorEq, nA, nB, nC, nD, nE, nF] <;> and_intros <;> first | (apply hK1; clear hK1 K1) | (intros; first | omega | decide) | skip))))
  simp only [Tryz.results135, go_sem, ↓reduceIte, reduceCtorEq, nA, nB, nC, nD, nE, nF]
  refine ⟨_, _, Weak.refl _, Hp.le.refl _, ?_⟩
  unfold PutR
  rw [hP, hhas, if_pos rfl]
  have hps : p ∈ st := by
   rw [← hSt]
   refine List.mem_filter.2 ⟨hp, ?_⟩
   cases hc : gone.contains p with
   | false => rfl
   | true => exact absurd hpk (hgnot p (List.contains_iff_mem.1 hc))
  refine ⟨fun r => if r = p then askF (now + 1) (setB bytes (K p)) else K r, st, q, kt, by rw [hrow], ?_, fun r hr => ?_, ?_, hT5, fun hm => hci (hsm ci hm), fun r hr h1 h2 => ?_, fun t ht htk => (hTfr t ht htk).1⟩
  ·rw [← hsmap]
   exact atK_map (fun x => askF (now + 1) (setB bytes x)) hone2 hps hpk
  ·show upd (upd _ ci _) p _ r = some (AO.cells (encKp (if r = p then askF (now + 1) (setB bytes (K p)) else K r)))
   by_cases e : r = p
   ·subst e; rw [upd_same, if_pos rfl]
   ·rw [upd_other _ _ e, upd_other _ _ (hpci r (hsm r hr)), upd_other _ _ e, k6 r (hpci r (hsm r hr)) (hpi r (hsm r hr)), if_neg e]
    exact hK r (hsm r hr)
  ·show upd (upd _ ci _) p _ ci = _
   rw [upd_other _ _ hcp, upd_same]
  ·show upd (upd _ ci _) p _ r = _
   have e : r ≠ p := fun e => h2 (e ▸ hp)
   have ei : r ≠ i := by rintro rfl; exact hr hi
   rw [upd_other _ _ e, upd_other _ _ h1, upd_other _ _ e, k6 r h1 ei]
def missB (room rule : Int) : List ByteArray → Int → List Kp → Bool
  | [], _, _ => true
  | s :: l, now, L => decide (L.length ≤ 11) && (if hasL s L then missB room rule l (now + 1) (atK s (askF (now + 1)) L) else
    match putL room rule now L s 1 with
    | some (L', _) => missB room rule l (now + 1) L'
    | none => false)
def OkL (now : Int) (L : List Kp) : Prop := ∀ x ∈ L, x.2.1 = 1 ∧ 0 ≤ x.2.2.2.2.2 ∧ x.2.2.2.2.2 ≤ now
theorem OkL.ask {now : Int} {L : List Kp} (h : OkL now L) (s : ByteArray) : OkL (now + 1) (atK s (askF (now + 1)) L) := fun x hx => by
  obtain ⟨y, hy, rfl⟩ := List.mem_map.1 hx
  have := h y hy
  split
  · exact ⟨this.1, by show 0 ≤ y.2.2.2.2.2 + 1 ∧ y.2.2.2.2.2 + 1 ≤ now + 1; omega⟩
  · exact ⟨this.1, by omega⟩
theorem OkL.put {now : Int} {L L' g : List Kp} (h : OkL now L) (h0 : 0 ≤ now) {room rule : Int} {s : ByteArray} (hp : putL room rule now L s 1 = some (L', g)) : OkL (now + 1) L' := by
  unfold putL at hp
  split at hp
  · simp only [Option.some.injEq, Prod.mk.injEq] at hp
    obtain ⟨rfl, _⟩ := hp
    split
    · intro x hx
      obtain ⟨y, hy, rfl⟩ := List.mem_map.1 hx
      have := h y (leftL_sub hy)
      split
      · exact ⟨rfl, by show 0 ≤ y.2.2.2.2.2 + 1 ∧ y.2.2.2.2.2 + 1 ≤ now + 1; omega⟩
      · exact ⟨this.1, by omega⟩
    · intro x hx
      rcases List.mem_append.1 hx with hx | hx
      · have := h x (leftL_sub hx)
        exact ⟨this.1, by omega⟩
      · rw [List.mem_singleton] at hx
        subst hx
        exact ⟨rfl, by show (0 : Int) ≤ 1 ∧ (1 : Int) ≤ now + 1; omega⟩
  · cases hp
theorem missL_cons (room rule : Int) (s : ByteArray) (l : List ByteArray) (now : Int) (L : List Kp) (n : Int) : missL room rule (s :: l) now L n = if hasL s L then missL room rule l (now + 1) (atK s (askF (now + 1)) L) n else
    match putL room rule now L s 1 with
    | some (L', _) => missL room rule l (now + 1) L' (n + 1)
    | none => none := rfl
theorem missB_cons (room rule : Int) (s : ByteArray) (l : List ByteArray) (now : Int) (L : List Kp) : missB room rule (s :: l) now L = (decide (L.length ≤ 11) && (if hasL s L then missB room rule l (now + 1) (atK s (askF (now + 1)) L) else
    match putL room rule now L s 1 with
    | some (L', _) => missB room rule l (now + 1) L'
    | none => false)) := rfl
def encT (x : ByteArray) : List AV := [.v (.string x)]
theorem g_ruleFault (rule : Int) (h : Hp) (h1 : 1 ≤ rule ∧ rule ≤ 4) : ACalls Tryz.prog 131 [.v (.int .i64 rule)] h (fun r h' => r = .v (.int .i64 0) ∧ h' = h) := by
 have hO := a_outside rule 1 4
 have hE : (decide (rule < 1) || decide (4 < rule)) = false := by simp; omega
 refine gE Tryz.func131 rfl (by kernel_rfl) 4 rfl fun c => ?_
 (repeat (first | refine gO rfl ?_ | (refine gR fun K1 hK1 => ?_; simp only [go_sem, ↓reduceIte, reduceCtorEq, nA, nB, nC, nD, nE, nF] <;> and_intros <;> first | (apply hK1; clear hK1 K1) | (intros; first | omega | decide | (simp_all <;> omega)) | skip)))
 refine (hO _).mono ?_; rintro _ hz ⟨rfl, hh⟩; apply hK1; clear hK1 K1; rw [hh]; clear hh hz
 rw [hE]
 (repeat (first | refine gO rfl ?_ | (refine gR fun K1 hK1 => ?_; simp only [go_sem, ↓reduceIte, reduceCtorEq, nA, nB, nC, nD, nE, nF] <;> and_intros <;> first | (apply hK1; clear hK1 K1) | (intros; first | omega | decide) | skip)))
 refine awp_cond (t := _) rfl (fun h9 => by cases h9) (fun _ => ?_)
 (repeat (first | refine gO rfl ?_ | (refine gR fun K1 hK1 => ?_; simp only [go_sem, ↓reduceIte, reduceCtorEq, nA, nB, nC, nD, nE, nF] <;> and_intros <;> first | (apply hK1; clear hK1 K1) | (intros; first | omega | decide) | skip)))
 simp only [Tryz.results131, go_sem, ↓reduceIte, reduceCtorEq, nA, nB, nC, nD, nE, nF]
 exact ⟨_, _, Weak.refl _, Hp.le.refl _, rfl, rfl⟩
theorem g_usesFault (l : List ByteArray) (h : Hp) (hl : l.length ≤ 2000) (hk : ∀ s ∈ l, keyB s = true ∧ s.size ≤ 1000) : ACalls Tryz.prog 132 [.row 1 (l.map encT) none] h (fun r h' => r = .v (.int .i64 0) ∧ h' = h) := by
 have hml : (l.map encT).length = l.length := List.length_map _
 have hb : decide ((2000 : Int) < (l.length : Int)) = false := by simp; omega
 refine gE Tryz.func132 rfl (by kernel_rfl) 17 rfl fun c => ?_
 (repeat (first | refine gO rfl ?_ | (refine gR fun K1 hK1 => ?_; simp only [go_sem, ↓reduceIte, reduceCtorEq, nA, nB, nC, nD, nE, nF, hml] <;> and_intros <;> first | (apply hK1; clear hK1 K1) | (intros; first | omega | decide | (simp_all <;> omega)) | skip)))
 refine awp_cond (t := _) rfl (fun h9 => by rw [hb] at h9; cases h9) (fun _ => ?_)
 (repeat (first | refine gO rfl ?_ | (refine gR fun K1 hK1 => ?_; simp only [go_sem, ↓reduceIte, reduceCtorEq, nA, nB, nC, nD, nE, nF, hml] <;> and_intros <;> first | (apply hK1; clear hK1 K1) | (intros; first | omega | decide) | skip)))
 refine awp_loopC (rl false [8, 3, 7]) 0 (fun g s => ∃ j : Nat, g + j = l.length ∧
  s = ⟨((jnk 8 ((.row 1 (l.map encT) none) :: (.v (.int .i64 l.length)) :: (.v (.int .i64 j)) :: (jnk 7 [])))), [], h⟩) l.length ⟨0, by omega, rfl⟩ ?_
 rintro g _ ⟨j, hj, rfl⟩
 (repeat (first | refine gO rfl ?_ | (refine gR fun K1 hK1 => ?_; simp only [go_sem, ↓reduceIte, reduceCtorEq, nA, nB, nC, nD, nE, nF] <;> and_intros <;> first | (apply hK1; clear hK1 K1) | (intros; first | omega | decide) | skip)))
 refine awp_cond (t := _) rfl (fun h1 => ?_) (fun h1 => ?_)
 ·simp only [decide_eq_true_eq] at h1
  have hjl : j < l.length := by omega
  have gx : (l.map encT).getD j [] = encT (l.getD j default) := getD_enc encT l j default hjl
  obtain ⟨hk1, hk2⟩ := hk (l.getD j default) (by rw [List.getD_eq_getElem?_getD, List.getElem?_eq_getElem hjl]; exact List.getElem_mem _)
  generalize l.getD j default = s at *
  have hkk := a_isKey s (by omega) h
  rw [hk1] at hkk
  (repeat (first | refine gO rfl ?_ | (refine gR fun K1 hK1 => ?_; simp only [go_sem, ↓reduceIte, reduceCtorEq, nA, nB, nC, nD, nE, nF, hml, Int.toNat_natCast, gx, encT] <;> and_intros <;> first | (apply hK1; clear hK1 K1) | (intros; first | omega | decide) | skip)))
  refine hkk.mono ?_; rintro _ hz ⟨rfl, hh⟩; apply hK1; clear hK1 K1; rw [hh]; clear hh hz
  (repeat (first | refine gO rfl ?_ | (refine gR fun K1 hK1 => ?_; simp only [go_sem, ↓reduceIte, reduceCtorEq, nA, nB, nC, nD, nE, nF] <;> and_intros <;> first | (apply hK1; clear hK1 K1) | (intros; first | omega | decide) | skip)))
  refine awp_cond (t := _) rfl (fun h9 => by cases h9) (fun _ => ?_)
  (repeat (first | refine gO rfl ?_ | (refine gR fun K1 hK1 => ?_; simp only [go_sem, ↓reduceIte, reduceCtorEq, nA, nB, nC, nD, nE, nF] <;> and_intros <;> first | (apply hK1; clear hK1 K1) | (intros; first | omega | decide) | skip)))
  exact ⟨g - 1, by omega, j + 1, by omega, rfl⟩
 ·(repeat (first | refine gO rfl ?_ | (refine gR fun K1 hK1 => ?_; simp only [go_sem, ↓reduceIte, reduceCtorEq, nA, nB, nC, nD, nE, nF] <;> and_intros <;> first | (apply hK1; clear hK1 K1) | (intros; first | omega | decide) | skip)))
  simp only [Tryz.results132, go_sem, ↓reduceIte, reduceCtorEq, nA, nB, nC, nD, nE, nF]
  exact ⟨_, _, Weak.refl _, Hp.le.refl _, rfl, rfl⟩
theorem g_misses (room rule N : Int) (l : List ByteArray) (h : Hp) (hr : 1 ≤ room ∧ room ≤ 500) (hru : 1 ≤ rule ∧ rule ≤ 4) (hl : l.length ≤ 2000) (hk : ∀ s ∈ l, keyB s = true ∧ s.size ≤ 1000) (hm : missL room rule l 0 [] 0 = some N) (hmb : missB room rule l 0 [] = true) :
  ACalls Tryz.prog 71 [.v (.int .i64 room), .v (.int .i64 rule), .row 1 (l.map encT) none] h (fun r h' => r = .tup [.v (.int .i64 N), .v (.int .i64 0)]) := by
 have hml : (l.map encT).length = l.length := List.length_map _
 have hO := a_outside room 1 500
 have hE : (decide (room < 1) || decide (500 < room)) = false := by simp; omega
 refine gE Tryz.func71 rfl (by kernel_rfl) 57 rfl fun c => ?_
 (repeat (first | refine gO rfl ?_ | (refine gM zM23 fun K1 hK1 => ?_; simp only [go_sem, ↓reduceIte, reduceCtorEq, nA, nB, nC, nD, nE, nF] <;> and_intros <;> first | (apply hK1; clear hK1 K1) | (intros; first | omega | decide | (simp_all <;> omega)) | skip)))
 refine (hO _).mono ?_; rintro _ hz ⟨rfl, hh⟩; apply hK1; clear hK1 K1; rw [hh]; clear hh hz
 rw [hE]
 (repeat (first | refine gO rfl ?_ | (refine gM zM23 fun K1 hK1 => ?_; simp only [go_sem, ↓reduceIte, reduceCtorEq, nA, nB, nC, nD, nE, nF] <;> and_intros <;> first | (apply hK1; clear hK1 K1) | (intros; first | omega | decide) | skip)))
 refine awp_cond (t := _) rfl (fun h9 => by cases h9) (fun _ => ?_)
 (repeat (first | refine gO rfl ?_ | (refine gM zM23 fun K1 hK1 => ?_; simp only [go_sem, ↓reduceIte, reduceCtorEq, nA, nB, nC, nD, nE, nF] <;> and_intros <;> first | (apply hK1; clear hK1 K1) | (intros; first | omega | decide) | skip)))
 refine (g_ruleFault rule _ hru).mono ?_; rintro _ hz ⟨rfl, hh⟩; apply hK1; clear hK1 K1; rw [hh]; clear hh hz
 (repeat (first | refine gO rfl ?_ | (refine gM zM23 fun K1 hK1 => ?_; simp only [go_sem, ↓reduceIte, reduceCtorEq, nA, nB, nC, nD, nE, nF] <;> and_intros <;> first | (apply hK1; clear hK1 K1) | (intros; first | omega | decide) | skip)))
 refine awp_cond (t := _) rfl (fun h9 => by cases h9) (fun _ => ?_)
 (repeat (first | refine gO rfl ?_ | (refine gM zM23 fun K1 hK1 => ?_; simp only [go_sem, ↓reduceIte, reduceCtorEq, nA, nB, nC, nD, nE, nF] <;> and_intros <;> first | (apply hK1; clear hK1 K1) | (intros; first | omega | decide) | skip)))
 refine (g_usesFault l _ hl hk).mono ?_; rintro _ hz ⟨rfl, hh⟩; apply hK1; clear hK1 K1; rw [hh]; clear hh hz
 (repeat (first | refine gO rfl ?_ | (refine gM zM23 fun K1 hK1 => ?_; simp only [go_sem, ↓reduceIte, reduceCtorEq, nA, nB, nC, nD, nE, nF] <;> and_intros <;> first | (apply hK1; clear hK1 K1) | (intros; first | omega | decide) | skip)))
 refine awp_cond (t := _) rfl (fun h9 => by cases h9) (fun _ => ?_)
 (repeat (first | refine gO rfl ?_ | (refine gM zM23 fun K1 hK1 => ?_; simp only [go_sem, ↓reduceIte, reduceCtorEq, nA, nB, nC, nD, nE, nF] <;> and_intros <;> first | (apply hK1; clear hK1 K1) | (intros; first | omega | decide) | skip)))
 intro ci hci
 refine hK1 _ ?_; clear hK1 K1
 (repeat (first | refine gO rfl ?_ | (refine gM zM23 fun K1 hK1 => ?_; simp only [go_sem, ↓reduceIte, reduceCtorEq, nA, nB, nC, nD, nE, nF, hml] <;> and_intros <;> first | (apply hK1; clear hK1 K1) | (intros; first | omega | decide) | skip)))
 refine awp_ownObj ci 3 1 (cs := [.v (.int .i64 room), .v (.int .i64 rule), .v (.int .i64 0), .v (.slice none 0 0)]) (upd_same _ _ _) rfl (fun k0 hk0 => ?_)
 refine awp_loopC (rl false [10, 2, 21, 3, 24]) 0 (fun g s => ∃ (j : Nat) (n : Int) (K : Nat → Kp) (ps : List Nat) (k : Nat) (h' : Hp), g + j = l.length ∧ missL room rule (l.drop j) j (ps.map K) n = some N ∧ missB room rule (l.drop j) j (ps.map K) = true ∧ 0 ≤ n ∧ n ≤ j ∧
   h'.H ci = some (.cells (encCa room rule j k ps.length)) ∧ h'.T k = some (.cont 1 (ps.map encR)) ∧ CacheH h' K ps ∧ ci ∉ ps ∧ KeysOne (ps.map K) ∧ OkL j (ps.map K) ∧
  s = ⟨((jnk 10 ((.ptr ci 0) :: (.v (.int .i64 n)) :: (jnk 21 ((.row 1 (l.map encT) none) :: (.v (.int .i64 l.length)) :: (.v (.int .i64 j)) :: (jnk 24 [])))))), [], h'⟩) l.length
  ⟨0, 0, fun _ => default, [], k0, ⟨upd (upd h.H ci (some (.cells [.v (.int .i64 room), .v (.int .i64 rule), .v (.int .i64 0), .v (.slice none 0 0)]))) ci (some (.cells (encCa room rule ((0 : Nat) : Int) k0 0))), upd h.T k0 (some (.cont 1 []))⟩, by omega, by rw [List.drop_zero]; exact hm, by rw [List.drop_zero]; exact hmb, by omega, by omega, upd_same _ _ _, upd_same _ _ _, (fun p hp => by cases hp), (by simp), List.Pairwise.nil, (fun x hx => by cases hx), rfl⟩ ?_
 rintro g _ ⟨j, n, K, ps, k, h', hj, hmj, hbj, hn0, hnj, hC, hT, hK, hcp, hone, hok, rfl⟩
 (repeat (first | refine gO rfl ?_ | (refine gM zM23 fun K1 hK1 => ?_; simp only [go_sem, ↓reduceIte, reduceCtorEq, nA, nB, nC, nD, nE, nF] <;> and_intros <;> first | (apply hK1; clear hK1 K1) | (intros; first | omega | decide) | skip)))
 refine awp_cond (t := _) rfl (fun h1 => ?_) (fun h1 => ?_)
 ·simp only [decide_eq_true_eq] at h1
  have hjl : j < l.length := by omega
  have gx : (l.map encT).getD j [] = encT (l.getD j default) := getD_enc encT l j default hjl
  have hdj := drop_at' l j default hjl
  obtain ⟨hk1, hk2⟩ := hk (l.getD j default) (by rw [List.getD_eq_getElem?_getD, List.getElem?_eq_getElem hjl]; exact List.getElem_mem _)
  generalize l.getD j default = s at *
  rw [hdj, missL_cons] at hmj
  rw [hdj, missB_cons, Bool.and_eq_true, decide_eq_true_eq, List.length_map] at hbj
  obtain ⟨hp11, hbj⟩ := hbj
  have hkk := fun h => a_isKey s (by omega) h
  rw [hk1] at hkk
  have hokp : ∀ p ∈ ps, (K p).2.1 = 1 ∧ 0 ≤ (K p).2.2.2.2.2 ∧ (K p).2.2.2.2.2 ≤ j := fun p hp => hok (K p) (List.mem_map_of_mem hp)
  have hfi := g_find (item := s) K ci k room rule j ps h' hC hT (by omega) hK
  have hfc := findF_cases s K ps
  (repeat (first | refine gO rfl ?_ | (refine gM zM23 fun K1 hK1 => ?_; simp only [go_sem, ↓reduceIte, reduceCtorEq, nA, nB, nC, nD, nE, nF, hml, Int.toNat_natCast, gx, encT] <;> and_intros <;> first | (apply hK1; clear hK1 K1) | (intros; first | omega | decide) | skip)))
  refine hfi.mono ?_
  rintro fk hz ⟨rfl, hh⟩; apply hK1; clear hK1 K1; rw [hh]; clear hh hz hfi
  rcases hfc with ⟨hhas, e⟩ | ⟨p, hp, hpk, hhas, e⟩
  ·rw [e]
   unfold nilP
   rw [hhas, if_neg (by decide)] at hmj hbj
   have hpu := g_put (room := room) (rule := rule) (now := j) (bytes := 1) (item := s) hC hT hp11 hK hcp hone hkk (fun p hp => by have := hokp p hp; omega) (fun p hp => by have := hokp p hp; omega) (by omega) (by omega) (by omega)
   unfold PutR at hpu
   cases hput : putL room rule j (ps.map K) s 1 with
   | none => rw [hput] at hmj; cases hmj
   | some y =>
    obtain ⟨L', gn⟩ := y
    rw [hput] at hmj hbj hpu
    simp only at hmj hbj hpu
    (repeat (first | refine gO rfl ?_ | (refine gM zM23 fun K1 hK1 => ?_; simp only [go_sem, ↓reduceIte, reduceCtorEq, nA, nB, nC, nD, nE, nF] <;> and_intros <;> first | (apply hK1; clear hK1 K1) | (intros; first | omega | decide) | skip)))
    refine awp_cond (t := _) rfl (fun h9 => by cases h9) (fun _ => ?_)
    (repeat (first | refine gO rfl ?_ | (refine gM zM23 fun K1 hK1 => ?_; simp only [go_sem, ↓reduceIte, reduceCtorEq, nA, nB, nC, nD, nE, nF] <;> and_intros <;> first | (apply hK1; clear hK1 K1) | (intros; first | omega | decide) | skip)))
    refine hpu.mono ?_
    rintro _ h2 ⟨K2, ps2, k2, kt, rfl, hL, hK2, hC2, hT2, hcp2, _, _⟩
    refine hK1 _ ?_; clear hK1 K1 hpu
    (repeat (first | refine gO rfl ?_ | (refine gM zM23 fun K1 hK1 => ?_; simp only [go_sem, ↓reduceIte, reduceCtorEq, nA, nB, nC, nD, nE, nF] <;> and_intros <;> first | (apply hK1; clear hK1 K1) | (intros; first | omega | decide) | skip)))
    refine awp_cond (t := _) rfl (fun h9 => by cases h9) (fun _ => ?_)
    (repeat (first | refine gO rfl ?_ | (refine gM zM23 fun K1 hK1 => ?_; simp only [go_sem, ↓reduceIte, reduceCtorEq, nA, nB, nC, nD, nE, nF] <;> and_intros <;> first | (apply hK1; clear hK1 K1) | (intros; first | omega | decide) | skip)))
    have hone2 := putL_one hput hone
    have hok2 := hok.put (by omega) hput
    rw [← hL] at hmj hbj hone2 hok2
    refine ⟨g - 1, by omega, j + 1, n + 1, K2, ps2, k2, h2, by omega, hmj, hbj, by omega, by omega, hC2, hT2, hK2, hcp2, hone2, hok2, rfl⟩
  ·rw [e]
   rw [hhas, if_pos rfl] at hmj hbj
   have hokk := hokp p hp
   have hpc : ci ≠ p := by rintro rfl; exact hcp hp
   have has := g_ask (now := j) hC (hK p hp) hpc (by omega) (by omega)
   (repeat (first | refine gO rfl ?_ | (refine gM zM23 fun K1 hK1 => ?_; simp only [go_sem, ↓reduceIte, reduceCtorEq, nA, nB, nC, nD, nE, nF] <;> and_intros <;> first | (apply hK1; clear hK1 K1) | (intros; first | omega | decide) | skip)))
   refine awp_cond (t := _) rfl (fun _ => ?_) (fun h9 => by cases h9)
   (repeat (first | refine gO rfl ?_ | (refine gM zM23 fun K1 hK1 => ?_; simp only [go_sem, ↓reduceIte, reduceCtorEq, nA, nB, nC, nD, nE, nF] <;> and_intros <;> first | (apply hK1; clear hK1 K1) | (intros; first | omega | decide) | skip)))
   refine has.mono ?_; rintro _ hz ⟨rfl, hh⟩; apply hK1; clear hK1 K1; rw [hh]; clear hh hz
   (repeat (first | refine gO rfl ?_ | (refine gM zM23 fun K1 hK1 => ?_; simp only [go_sem, ↓reduceIte, reduceCtorEq, nA, nB, nC, nD, nE, nF] <;> and_intros <;> first | (apply hK1; clear hK1 K1) | (intros; first | omega | decide) | skip)))
   have hat := atK_map (item := s) (fun x => askF ((j : Int) + 1) x) hone hp hpk
   have hone2 := atK_one (item := s) (f := askF ((j : Int) + 1)) (fun _ => rfl) hone
   have hok2 := hok.ask s
   rw [← hat] at hmj hbj hone2 hok2
   refine ⟨g - 1, by omega, j + 1, n, fun q => if q = p then askF ((j : Int) + 1) (K p) else K q, ps, k, ⟨upd (upd h'.H ci (some (.cells (encCa room rule ((j : Int) + 1) k ps.length)))) p (some (.cells (encKp (askF ((j : Int) + 1) (K p))))), h'.T⟩, by omega, hmj, hbj, by omega, by omega, (upd_other _ _ hpc).trans (upd_same _ _ _), hT, fun q hq => ?_, hcp, hone2, hok2, rfl⟩
   show upd (upd _ ci _) p _ q = some (AO.cells (encKp (if q = p then askF ((j : Int) + 1) (K p) else K q)))
   by_cases e2 : q = p
   ·rw [e2, upd_same, if_pos rfl]
   ·rw [upd_other _ _ e2, upd_other _ _ (by rintro rfl; exact hcp hq), if_neg e2]
    exact hK q hq
 ·simp only [decide_eq_false_iff_not] at h1
  have hjl : j = l.length := by omega
  subst hjl
  rw [List.drop_length] at hmj
  obtain rfl : n = N := by simpa [missL] using hmj
  (repeat (first | refine gO rfl ?_ | (refine gM zM23 fun K1 hK1 => ?_; simp only [go_sem, ↓reduceIte, reduceCtorEq, nA, nB, nC, nD, nE, nF] <;> and_intros <;> first | (apply hK1; clear hK1 K1) | (intros; first | omega | decide) | skip)))
  simp only [Tryz.results71, go_sem, ↓reduceIte, reduceCtorEq, nA, nB, nC, nD, nE, nF]
  exact ⟨_, _, Weak.refl _, Hp.le.refl _, rfl⟩
theorem g_miss5 (h : Hp) : ACalls Tryz.prog 71 [.v (.int .i64 2), .v (.int .i64 1), .row 1 [[.v (.string ⟨#[97]⟩)], [.v (.string ⟨#[98]⟩)], [.v (.string ⟨#[97]⟩)], [.v (.string ⟨#[99]⟩)], [.v (.string ⟨#[98]⟩)]] none] h (fun r h' => r = .tup [.v (.int .i64 4), .v (.int .i64 0)]) :=
 g_misses 2 1 4 [⟨#[97]⟩, ⟨#[98]⟩, ⟨#[97]⟩, ⟨#[99]⟩, ⟨#[98]⟩] h (by omega) (by omega) (by decide) (by decide) (by decide) (by decide)
abbrev zPWE : List Nat := [0, 1, 2, 3, 4, 5, 6, 7, 8, 9, 10, 11]
abbrev zPWP : List (Nat × List Nat × List Nat) := []
abbrev zPXE : List Nat := [0, 1, 2, 3]
abbrev zPXP : List (Nat × List Nat × List Nat) := [(4, [0], [5]), (6, [], [7])]
abbrev zPYE : List Nat := [0, 1, 2, 3, 4, 5]
abbrev zPYP : List (Nat × List Nat × List Nat) := [(6, [4], [7]), (8, [], [9, 10]), (11, [], [])]
abbrev zPZE : List Nat := [0, 1, 2, 3, 4, 5, 6, 7, 8, 9, 10]
abbrev zPZP : List (Nat × List Nat × List Nat) := []
abbrev zP10E : List Nat := [0, 1, 2, 3, 4, 5, 6, 7, 8, 9, 10, 11, 12, 13, 14, 15, 16]
abbrev zP10P : List (Nat × List Nat × List Nat) := [(17, [], [18, 19]), (20, [], [])]
abbrev zP11E : List Nat := [0, 1, 2, 3, 4, 5, 6, 7, 8, 9, 10, 11, 12, 13, 14, 15, 16]
abbrev zP11P : List (Nat × List Nat × List Nat) := [(17, [], [])]
abbrev zP12E : List Nat := [0, 1, 2, 3, 4, 5, 6, 7, 8]
abbrev zP12P : List (Nat × List Nat × List Nat) := [(9, [3], [10, 11])]
abbrev zP13E : List Nat := [0, 1, 2, 3, 4, 5, 6, 7, 8, 9, 10]
abbrev zP13P : List (Nat × List Nat × List Nat) := []
attribute [go_sem] zPWE zPWP zPXE zPXP zPYE zPYP zPZE zPZP zP10E zP10P zP11E zP11P zP12E zP12P zP13E zP13P
def nlS : AV := .v (.slice none 0 0)
def lA : List AV := [.v (.int .i64 1), .v (.string ⟨#[97]⟩), .v (.int .i64 5), .v (.int .i64 0), nlS, nlS]
theorem ba1 : ((⟨#[97]⟩ : ByteArray) == ⟨#[]⟩) = false := by decide
theorem c_ixL (f : Nat) (caps : List AV) (h : Hp) : ACalls Tryz.prog 255 [nlS, .fn f caps] h (fun r h' => r = .v (.int .i64 (-1)) ∧ h' = h) := by
 unfold nlS
 refine gE Tryz.func255 rfl (by kernel_rfl) 17 rfl fun c => ?_
 (repeat (first | refine gO rfl ?_ | (refine gR fun K1 hK1 => ?_; simp only [go_sem, ↓reduceIte, reduceCtorEq, nA, nB, nC, nD, nE, nF, Int.reduceBEq, Int.reduceTMod, Int.reduceTDiv, Int.reduceMul, Int.reduceBNe, Int.reduceLT, Int.reduceLE, Int.reduceAdd, Int.reduceSub, Int.reduceNeg, decide_true, decide_false, Bool.true_and, Bool.false_and, Bool.and_true, Bool.and_false, Bool.or_false, Bool.or_true, Bool.true_or, Bool.false_or, Bool.not_true, Bool.not_false, true_implies, false_implies, true_and, and_true, Int.reduceToNat] <;> and_intros <;> first | (apply hK1; clear hK1 K1) | (intros; first | omega | decide) | skip) | (refine awp_cond (t := _) rfl (fun hq => ?_) (fun hq => ?_) <;> first | (exact absurd hq (by decide)) | (cases hq; done) | (clear hq)) | (refine awp_un 8 ?_) | (with_reducible exact rfl) | (with_reducible exact trivial) | ((with_reducible show uside _); first | exact True.intro | exact rfl) | ((with_reducible show opS _ _); exact True.intro) | (refine ⟨AV.v (.bool true), rfl, hK1 _ ?_⟩; clear hK1 K1)))
 simp only [Tryz.results255, go_sem, ↓reduceIte, reduceCtorEq, nA, nB, nC, nD, nE, nF]
 exact ⟨_, _, Weak.refl _, Hp.le.refl _, rfl, rfl⟩
theorem c_coL (f : Nat) (caps : List AV) (h : Hp) : ACalls Tryz.prog 197 [nlS, .fn f caps] h (fun r h' => r = .v (.bool false) ∧ h' = h) := by
 have h1 := c_ixL f caps h
 unfold nlS at *
 refine gE Tryz.func197 rfl (by kernel_rfl) 7 rfl fun c => ?_
 (repeat (first | refine gO rfl ?_ | (refine gR fun K1 hK1 => ?_; simp only [go_sem, ↓reduceIte, reduceCtorEq, nA, nB, nC, nD, nE, nF, Int.reduceBEq, Int.reduceTMod, Int.reduceTDiv, Int.reduceMul, Int.reduceBNe, Int.reduceLT, Int.reduceLE, Int.reduceAdd, Int.reduceSub, Int.reduceNeg, decide_true, decide_false, Bool.true_and, Bool.false_and, Bool.and_true, Bool.and_false, Bool.or_false, Bool.or_true, Bool.true_or, Bool.false_or, Bool.not_true, Bool.not_false, true_implies, false_implies, true_and, and_true, Int.reduceToNat] <;> and_intros <;> first | (apply hK1; clear hK1 K1) | (intros; first | omega | decide) | skip) | (refine awp_cond (t := _) rfl (fun hq => ?_) (fun hq => ?_) <;> first | (exact absurd hq (by decide)) | (cases hq; done) | (clear hq)) | (refine awp_un 8 ?_) | (with_reducible exact rfl) | (with_reducible exact trivial) | ((with_reducible show uside _); first | exact True.intro | exact rfl) | ((with_reducible show opS _ _); exact True.intro) | (refine ⟨AV.v (.bool true), rfl, hK1 _ ?_⟩; clear hK1 K1) | (refine (h1).mono ?_; rintro _ hz ⟨rfl, hh⟩; (first | (refine hK1 _ ?_) | (refine ⟨rfl, hK1 _ ?_⟩)); clear hK1 K1; rw [hh]; clear hh hz)))
 simp only [Tryz.results197, go_sem, ↓reduceIte, reduceCtorEq, nA, nB, nC, nD, nE, nF]
 exact ⟨_, _, Weak.refl _, Hp.le.refl _, rfl, rfl⟩
theorem c_large (i : Nat) (h : Hp) (hi : h.H i = some (.cells [.v (.int .i64 0)])) : ACalls Tryz.prog 139 [.ptr i 0, .agg lA, .v (.int .i64 1)] h (fun r h' => r = .v (.bool false) ∧ h' = ⟨upd h.H i (some (.cells [.v (.int .i64 1)])), h.T⟩) := by
 have h1 := fun f caps h => c_coL f caps h
 unfold lA
 unfold nlS at *
 refine gE Tryz.func139 rfl (by kernel_rfl) 24 rfl fun c => ?_
 (repeat (first | refine gO rfl ?_ | (refine gR fun K1 hK1 => ?_; simp only [go_sem, ↓reduceIte, reduceCtorEq, nA, nB, nC, nD, nE, nF, Int.reduceBEq, Int.reduceTMod, Int.reduceTDiv, Int.reduceMul, Int.reduceBNe, Int.reduceLT, Int.reduceLE, Int.reduceAdd, Int.reduceSub, Int.reduceNeg, decide_true, decide_false, Bool.true_and, Bool.false_and, Bool.and_true, Bool.and_false, Bool.or_false, Bool.or_true, Bool.true_or, Bool.false_or, Bool.not_true, Bool.not_false, true_implies, false_implies, true_and, and_true, Int.reduceToNat, hi, upd_same] <;> and_intros <;> first | (apply hK1; clear hK1 K1) | (intros; first | omega | decide) | skip) | (refine awp_cond (t := _) rfl (fun hq => ?_) (fun hq => ?_) <;> first | (exact absurd hq (by decide)) | (cases hq; done) | (clear hq)) | (refine awp_un 8 ?_) | (with_reducible exact rfl) | (with_reducible exact trivial) | ((with_reducible show uside _); first | exact True.intro | exact rfl) | ((with_reducible show opS _ _); exact True.intro) | (refine ⟨AV.v (.bool true), rfl, hK1 _ ?_⟩; clear hK1 K1) | (refine (h1 _ _ _).mono ?_; rintro _ hz ⟨rfl, hh⟩; (first | (refine hK1 _ ?_) | (refine ⟨rfl, hK1 _ ?_⟩)); clear hK1 K1; rw [hh]; clear hh hz)))
 simp only [Tryz.results139, go_sem, ↓reduceIte, reduceCtorEq, nA, nB, nC, nD, nE, nF]
 exact ⟨_, _, Weak.refl _, Hp.le.refl _, rfl, rfl⟩
theorem c_form (h : Hp) : ACalls Tryz.prog 199 [.agg lA] h (fun r h' => r = .v (.bool false) ∧ h' = h) := by
 unfold lA
 unfold nlS at *
 refine gE Tryz.func199 rfl (by kernel_rfl) 77 rfl fun c => ?_
 (repeat (first | refine gO rfl ?_ | ((first | refine gR ?_ | (with_reducible refine wM ?_ ?_) | ((with_reducible refine xS ?_); refine uD 1 zM21 zPWE zPWP 78 rfl (by kernel_rfl) ?_)) <;> ((try with_reducible intro K1 hK1); simp only [go_sem, ↓reduceIte, reduceCtorEq, nA, nB, nC, nD, nE, nF, Int.reduceBEq, Int.reduceTMod, Int.reduceTDiv, Int.reduceMul, Int.reduceBNe, Int.reduceLT, Int.reduceLE, Int.reduceAdd, Int.reduceSub, Int.reduceNeg, decide_true, decide_false, Bool.true_and, Bool.false_and, Bool.and_true, Bool.and_false, Bool.or_false, Bool.or_true, Bool.true_or, Bool.false_or, Bool.not_true, Bool.not_false, true_implies, false_implies, true_and, and_true, Int.reduceToNat, ba1] <;> and_intros <;> first | (apply hK1; clear hK1 K1) | (intros; first | omega | decide) | skip)) | (refine awp_cond (t := _) rfl (fun hq => ?_) (fun hq => ?_) <;> first | (exact absurd hq (by decide)) | (cases hq; done) | (clear hq)) | (refine awp_un 8 ?_) | (with_reducible exact rfl) | (with_reducible exact trivial) | ((with_reducible show uside _); first | exact True.intro | exact rfl) | ((with_reducible show opS _ _); exact True.intro) | (refine ⟨AV.v (.bool true), rfl, hK1 _ ?_⟩; clear hK1 K1)))
 simp only [Tryz.results199, go_sem, ↓reduceIte, reduceCtorEq, nA, nB, nC, nD, nE, nF]
 exact ⟨_, _, Weak.refl _, Hp.le.refl _, rfl, rfl⟩
theorem c_partFault (h : Hp) : ACalls Tryz.prog 140 [.agg lA] h (fun r h' => r = .v (.int .i64 0) ∧ h' = h) := by
 have h1 := fun h => a_outside 1 1 5 h
 have h2 := fun h => c_form h
 have h3 := fun h => a_isKey ⟨#[97]⟩ (by decide) h
 have h4 := fun h => a_outside 5 1 3600000 h
 rw [show keyB ⟨#[97]⟩ = true by decide] at h3
 unfold lA at *
 unfold nlS at *
 refine gE Tryz.func140 rfl (by kernel_rfl) 63 rfl fun c => ?_
 (repeat (first | refine gO rfl ?_ | (refine gM zM24 fun K1 hK1 => ?_; simp only [go_sem, ↓reduceIte, reduceCtorEq, nA, nB, nC, nD, nE, nF, Int.reduceBEq, Int.reduceTMod, Int.reduceTDiv, Int.reduceMul, Int.reduceBNe, Int.reduceLT, Int.reduceLE, Int.reduceAdd, Int.reduceSub, Int.reduceNeg, decide_true, decide_false, Bool.true_and, Bool.false_and, Bool.and_true, Bool.and_false, Bool.or_false, Bool.or_true, Bool.true_or, Bool.false_or, Bool.not_true, Bool.not_false, true_implies, false_implies, true_and, and_true, Int.reduceToNat] <;> and_intros <;> first | (apply hK1; clear hK1 K1) | (intros; first | omega | decide) | skip) | (refine awp_cond (t := _) rfl (fun hq => ?_) (fun hq => ?_) <;> first | (exact absurd hq (by decide)) | (cases hq; done) | (clear hq)) | (refine awp_un 8 ?_) | (with_reducible exact rfl) | (with_reducible exact trivial) | ((with_reducible show uside _); first | exact True.intro | exact rfl) | ((with_reducible show opS _ _); exact True.intro) | (refine ⟨AV.v (.bool true), rfl, hK1 _ ?_⟩; clear hK1 K1) | (refine (h1 _).mono ?_; rintro _ hz ⟨rfl, hh⟩; (first | (refine hK1 _ ?_) | (refine ⟨rfl, hK1 _ ?_⟩)); clear hK1 K1; rw [hh]; clear hh hz) | (refine (h2 _).mono ?_; rintro _ hz ⟨rfl, hh⟩; (first | (refine hK1 _ ?_) | (refine ⟨rfl, hK1 _ ?_⟩)); clear hK1 K1; rw [hh]; clear hh hz) | (refine (h3 _).mono ?_; rintro _ hz ⟨rfl, hh⟩; (first | (refine hK1 _ ?_) | (refine ⟨rfl, hK1 _ ?_⟩)); clear hK1 K1; rw [hh]; clear hh hz) | (refine (h4 _).mono ?_; rintro _ hz ⟨rfl, hh⟩; (first | (refine hK1 _ ?_) | (refine ⟨rfl, hK1 _ ?_⟩)); clear hK1 K1; rw [hh]; clear hh hz)))
 simp only [Tryz.results140, go_sem, ↓reduceIte, reduceCtorEq, nA, nB, nC, nD, nE, nF]
 exact ⟨_, _, Weak.refl _, Hp.le.refl _, rfl, rfl⟩
theorem c_check (h : Hp) : ACalls Tryz.prog 73 [.agg lA] h (fun r h' => r = .v (.int .i64 0)) := by
 have h1 := fun i h (hi : h.H i = some (.cells [.v (.int .i64 0)])) => c_large i h hi
 have h2 := fun h => c_partFault h
 unfold lA at *
 unfold nlS at *
 refine gE Tryz.func73 rfl (by kernel_rfl) 8 rfl fun c => ?_
 (repeat (first | refine gO rfl ?_ | (refine gM zM25 fun K1 hK1 => ?_; simp only [go_sem, ↓reduceIte, reduceCtorEq, nA, nB, nC, nD, nE, nF, Int.reduceBEq, Int.reduceTMod, Int.reduceTDiv, Int.reduceMul, Int.reduceBNe, Int.reduceLT, Int.reduceLE, Int.reduceAdd, Int.reduceSub, Int.reduceNeg, decide_true, decide_false, Bool.true_and, Bool.false_and, Bool.and_true, Bool.and_false, Bool.or_false, Bool.or_true, Bool.true_or, Bool.false_or, Bool.not_true, Bool.not_false, true_implies, false_implies, true_and, and_true, Int.reduceToNat] <;> and_intros <;> first | (apply hK1; clear hK1 K1) | (intros; first | omega | decide) | skip) | (refine awp_cond (t := _) rfl (fun hq => ?_) (fun hq => ?_) <;> first | (exact absurd hq (by decide)) | (cases hq; done) | (clear hq)) | (refine awp_un 8 ?_) | (with_reducible exact rfl) | (with_reducible exact trivial) | ((with_reducible show uside _); first | exact True.intro | exact rfl) | ((with_reducible show opS _ _); exact True.intro) | (refine ⟨AV.v (.bool true), rfl, hK1 _ ?_⟩; clear hK1 K1)))
 intro i hi
 refine hK1 _ ?_; clear hK1 K1
 have h3 := h1 i ⟨upd h.H i (some (.cells [.v (.int .i64 0)])), h.T⟩ (upd_same _ _ _)
 (repeat (first | refine gO rfl ?_ | (refine gM zM25 fun K1 hK1 => ?_; simp only [go_sem, ↓reduceIte, reduceCtorEq, nA, nB, nC, nD, nE, nF, Int.reduceBEq, Int.reduceTMod, Int.reduceTDiv, Int.reduceMul, Int.reduceBNe, Int.reduceLT, Int.reduceLE, Int.reduceAdd, Int.reduceSub, Int.reduceNeg, decide_true, decide_false, Bool.true_and, Bool.false_and, Bool.and_true, Bool.and_false, Bool.or_false, Bool.or_true, Bool.true_or, Bool.false_or, Bool.not_true, Bool.not_false, true_implies, false_implies, true_and, and_true, Int.reduceToNat] <;> and_intros <;> first | (apply hK1; clear hK1 K1) | (intros; first | omega | decide) | skip) | (refine awp_cond (t := _) rfl (fun hq => ?_) (fun hq => ?_) <;> first | (exact absurd hq (by decide)) | (cases hq; done) | (clear hq)) | (refine awp_un 8 ?_) | (with_reducible exact rfl) | (with_reducible exact trivial) | ((with_reducible show uside _); first | exact True.intro | exact rfl) | ((with_reducible show opS _ _); exact True.intro) | (refine ⟨AV.v (.bool true), rfl, hK1 _ ?_⟩; clear hK1 K1) | (refine (h3).mono ?_; rintro _ hz ⟨rfl, hh⟩; (first | (refine hK1 _ ?_) | (refine ⟨rfl, hK1 _ ?_⟩)); clear hK1 K1; rw [hh]; clear hh hz) | (refine (h2 _).mono ?_; rintro _ hz ⟨rfl, hh⟩; (first | (refine hK1 _ ?_) | (refine ⟨rfl, hK1 _ ?_⟩)); clear hK1 K1; rw [hh]; clear hh hz)))
 simp only [Tryz.results73, go_sem, ↓reduceIte, reduceCtorEq, nA, nB, nC, nD, nE, nF]
 exact ⟨_, _, Weak.refl _, Hp.le.refl _, rfl⟩
def pA (had : Int) (k : Nat) : List AV := lA ++ [nlS, .v (.int .i64 had), .arr 1 k 0, .v (.int .i64 0)]
theorem c_newPart (h : Hp) : ACalls Tryz.prog 75 [.agg lA] h (fun r h' => ∃ p k, r = .ptr p 0 ∧ h'.H p = some (.cells (pA 0 k))) := by
 unfold lA
 unfold nlS at *
 refine gE Tryz.func75 rfl (by kernel_rfl) 50 rfl fun c => ?_
 (repeat (first | refine gO rfl ?_ | ((first | refine gM zM26 ?_ | (with_reducible refine wM ?_ ?_) | ((with_reducible refine xS ?_); refine uD 1 zM26 zPXE zPXP 51 rfl (by kernel_rfl) ?_) | ((with_reducible refine xR ?_); refine uE 5 zM26 zPYE zPYP 51 rfl (by kernel_rfl) ?_)) <;> ((try with_reducible intro K1 hK1); simp only [go_sem, ↓reduceIte, reduceCtorEq, nA, nB, nC, nD, nE, nF, Int.reduceBEq, Int.reduceTMod, Int.reduceTDiv, Int.reduceMul, Int.reduceBNe, Int.reduceLT, Int.reduceLE, Int.reduceAdd, Int.reduceSub, Int.reduceNeg, decide_true, decide_false, Bool.true_and, Bool.false_and, Bool.and_true, Bool.and_false, Bool.or_false, Bool.or_true, Bool.true_or, Bool.false_or, Bool.not_true, Bool.not_false, true_implies, false_implies, true_and, and_true, Int.reduceToNat] <;> and_intros <;> first | (apply hK1; clear hK1 K1) | (intros; first | omega | decide) | skip)) | (refine awp_cond (t := _) rfl (fun hq => ?_) (fun hq => ?_) <;> first | (exact absurd hq (by decide)) | (cases hq; done) | (clear hq)) | (refine awp_un 8 ?_) | (with_reducible exact rfl) | (with_reducible exact trivial) | ((with_reducible show uside _); first | exact True.intro | exact rfl) | ((with_reducible show opS _ _); exact True.intro) | (refine ⟨AV.v (.bool true), rfl, hK1 _ ?_⟩; clear hK1 K1)))
 intro k hk
 refine hK1 _ ?_; clear hK1 K1
 (repeat (first | refine gO rfl ?_ | ((first | refine gM zM26 ?_ | (with_reducible refine wM ?_ ?_) | ((with_reducible refine xS ?_); refine uD 1 zM26 zPXE zPXP 51 rfl (by kernel_rfl) ?_) | ((with_reducible refine xR ?_); refine uE 5 zM26 zPYE zPYP 51 rfl (by kernel_rfl) ?_)) <;> ((try with_reducible intro K1 hK1); simp only [go_sem, ↓reduceIte, reduceCtorEq, nA, nB, nC, nD, nE, nF, Int.reduceBEq, Int.reduceTMod, Int.reduceTDiv, Int.reduceMul, Int.reduceBNe, Int.reduceLT, Int.reduceLE, Int.reduceAdd, Int.reduceSub, Int.reduceNeg, decide_true, decide_false, Bool.true_and, Bool.false_and, Bool.and_true, Bool.and_false, Bool.or_false, Bool.or_true, Bool.true_or, Bool.false_or, Bool.not_true, Bool.not_false, true_implies, false_implies, true_and, and_true, Int.reduceToNat] <;> and_intros <;> first | (apply hK1; clear hK1 K1) | (intros; first | omega | decide) | skip)) | (refine awp_cond (t := _) rfl (fun hq => ?_) (fun hq => ?_) <;> first | (exact absurd hq (by decide)) | (cases hq; done) | (clear hq)) | (refine awp_un 8 ?_) | (with_reducible exact rfl) | (with_reducible exact trivial) | ((with_reducible show uside _); first | exact True.intro | exact rfl) | ((with_reducible show opS _ _); exact True.intro) | (refine ⟨AV.v (.bool true), rfl, hK1 _ ?_⟩; clear hK1 K1)))
 intro p hp
 refine hK1 _ ?_; clear hK1 K1
 (repeat (first | refine gO rfl ?_ | ((first | refine gM zM26 ?_ | (with_reducible refine wM ?_ ?_) | ((with_reducible refine xS ?_); refine uD 1 zM26 zPXE zPXP 51 rfl (by kernel_rfl) ?_) | ((with_reducible refine xR ?_); refine uE 5 zM26 zPYE zPYP 51 rfl (by kernel_rfl) ?_)) <;> ((try with_reducible intro K1 hK1); simp only [go_sem, ↓reduceIte, reduceCtorEq, nA, nB, nC, nD, nE, nF, Int.reduceBEq, Int.reduceTMod, Int.reduceTDiv, Int.reduceMul, Int.reduceBNe, Int.reduceLT, Int.reduceLE, Int.reduceAdd, Int.reduceSub, Int.reduceNeg, decide_true, decide_false, Bool.true_and, Bool.false_and, Bool.and_true, Bool.and_false, Bool.or_false, Bool.or_true, Bool.true_or, Bool.false_or, Bool.not_true, Bool.not_false, true_implies, false_implies, true_and, and_true, Int.reduceToNat] <;> and_intros <;> first | (apply hK1; clear hK1 K1) | (intros; first | omega | decide) | skip)) | (refine awp_cond (t := _) rfl (fun hq => ?_) (fun hq => ?_) <;> first | (exact absurd hq (by decide)) | (cases hq; done) | (clear hq)) | (refine awp_un 8 ?_) | (with_reducible exact rfl) | (with_reducible exact trivial) | ((with_reducible show uside _); first | exact True.intro | exact rfl) | ((with_reducible show opS _ _); exact True.intro) | (refine ⟨AV.v (.bool true), rfl, hK1 _ ?_⟩; clear hK1 K1)))
 simp only [Tryz.results75, go_sem, ↓reduceIte, reduceCtorEq, nA, nB, nC, nD, nE, nF]
 exact ⟨_, _, Weak.refl _, Hp.le.refl _, p, k, rfl, upd_same _ _ _⟩
theorem c_full (o : Nat) (h : Hp) (ho : h.H o = some (.cells [nlS, .v (.int .i64 5000)])) : ACalls Tryz.prog 77 [.ptr o 0] h (fun r h' => r = .v (.bool false) ∧ h' = h) := by
 unfold nlS at *
 refine gE Tryz.func77 rfl (by kernel_rfl) 12 rfl fun c => ?_
 (repeat (first | refine gO rfl ?_ | ((first | refine gR ?_ | (with_reducible refine wM ?_ ?_) | ((with_reducible refine xS ?_); refine uD 1 zM21 zPZE zPZP 13 rfl (by kernel_rfl) ?_)) <;> ((try with_reducible intro K1 hK1); simp only [go_sem, ↓reduceIte, reduceCtorEq, nA, nB, nC, nD, nE, nF, Int.reduceBEq, Int.reduceTMod, Int.reduceTDiv, Int.reduceMul, Int.reduceBNe, Int.reduceLT, Int.reduceLE, Int.reduceAdd, Int.reduceSub, Int.reduceNeg, decide_true, decide_false, Bool.true_and, Bool.false_and, Bool.and_true, Bool.and_false, Bool.or_false, Bool.or_true, Bool.true_or, Bool.false_or, Bool.not_true, Bool.not_false, true_implies, false_implies, true_and, and_true, Int.reduceToNat, ho] <;> and_intros <;> first | (apply hK1; clear hK1 K1) | (intros; first | omega | decide) | skip)) | (refine awp_cond (t := _) rfl (fun hq => ?_) (fun hq => ?_) <;> first | (exact absurd hq (by decide)) | (cases hq; done) | (clear hq)) | (refine awp_un 8 ?_) | (with_reducible exact rfl) | (with_reducible exact trivial) | ((with_reducible show uside _); first | exact True.intro | exact rfl) | ((with_reducible show opS _ _); exact True.intro) | (refine ⟨AV.v (.bool true), rfl, hK1 _ ?_⟩; clear hK1 K1)))
 simp only [Tryz.results77, go_sem, ↓reduceIte, reduceCtorEq, nA, nB, nC, nD, nE, nF]
 exact ⟨_, _, Weak.refl _, Hp.le.refl _, rfl, rfl⟩
def rA (k : Nat) : AV := .row 2 [[.v (.string ⟨#[97]⟩), .v (.int .i64 5)]] (some k)
theorem c_full1 (o k : Nat) (h : Hp) (ho : h.H o = some (.cells [rA k, .v (.int .i64 5000)])) : ACalls Tryz.prog 77 [.ptr o 0] h (fun r h' => r = .v (.bool false) ∧ h' = h) := by
 unfold rA at *
 refine gE Tryz.func77 rfl (by kernel_rfl) 12 rfl fun c => ?_
 (repeat (first | refine gO rfl ?_ | ((first | refine gR ?_ | (with_reducible refine wM ?_ ?_) | ((with_reducible refine xS ?_); refine uD 1 zM21 zPZE zPZP 13 rfl (by kernel_rfl) ?_)) <;> ((try with_reducible intro K1 hK1); simp only [go_sem, ↓reduceIte, reduceCtorEq, nA, nB, nC, nD, nE, nF, Int.reduceBEq, Int.reduceTMod, Int.reduceTDiv, Int.reduceMul, Int.reduceBNe, Int.reduceLT, Int.reduceLE, Int.reduceAdd, Int.reduceSub, Int.reduceNeg, decide_true, decide_false, Bool.true_and, Bool.false_and, Bool.and_true, Bool.and_false, Bool.or_false, Bool.or_true, Bool.true_or, Bool.false_or, Bool.not_true, Bool.not_false, true_implies, false_implies, true_and, and_true, Int.reduceToNat, ho] <;> and_intros <;> first | (apply hK1; clear hK1 K1) | (intros; first | omega | decide) | skip)) | (refine awp_cond (t := _) rfl (fun hq => ?_) (fun hq => ?_) <;> first | (exact absurd hq (by decide)) | (cases hq; done) | (clear hq)) | (refine awp_un 8 ?_) | (with_reducible exact rfl) | (with_reducible exact trivial) | ((with_reducible show uside _); first | exact True.intro | exact rfl) | ((with_reducible show opS _ _); exact True.intro) | (refine ⟨AV.v (.bool true), rfl, hK1 _ ?_⟩; clear hK1 K1)))
 simp only [Tryz.results77, go_sem, ↓reduceIte, reduceCtorEq, nA, nB, nC, nD, nE, nF]
 exact ⟨_, _, Weak.refl _, Hp.le.refl _, rfl, rfl⟩
theorem c_pass (p o k : Nat) (h : Hp) (hp : h.H p = some (.cells (pA 0 k))) (ho : h.H o = some (.cells [nlS, .v (.int .i64 5000)])) (hpo : p ≠ o) : ACalls Tryz.prog 76 [.ptr p 0, .ptr o 0] h (fun r h' => r = .tup [] ∧ ∃ q, h'.H p = some (.cells (pA 1 k)) ∧ h'.H o = some (.cells [rA q, .v (.int .i64 5000)])) := by
 have h1 := c_full o h ho
 have hop : o ≠ p := fun e => hpo e.symm
 unfold pA lA nlS at *
 simp only [List.cons_append, List.nil_append] at *
 refine gE Tryz.func76 rfl (by kernel_rfl) 114 rfl fun c => ?_
 (repeat (first | refine gO rfl ?_ | ((first | refine gR ?_ | (with_reducible refine wM ?_ ?_) | ((with_reducible refine xR ?_); refine uE 7 zM21 zP10E zP10P 116 rfl (by kernel_rfl) ?_) | ((with_reducible refine xR ?_); refine uE 15 zM21 zP11E zP11P 116 rfl (by kernel_rfl) ?_)) <;> ((try with_reducible intro K1 hK1); simp only [go_sem, ↓reduceIte, reduceCtorEq, nA, nB, nC, nD, nE, nF, Int.reduceBEq, Int.reduceTMod, Int.reduceTDiv, Int.reduceMul, Int.reduceBNe, Int.reduceLT, Int.reduceLE, Int.reduceAdd, Int.reduceSub, Int.reduceNeg, decide_true, decide_false, Bool.true_and, Bool.false_and, Bool.and_true, Bool.and_false, Bool.or_false, Bool.or_true, Bool.true_or, Bool.false_or, Bool.not_true, Bool.not_false, true_implies, false_implies, true_and, and_true, Int.reduceToNat, hp, ho] <;> and_intros <;> first | (apply hK1; clear hK1 K1) | (intros; first | omega | decide) | skip)) | (refine awp_cond (t := _) rfl (fun hq => ?_) (fun hq => ?_) <;> first | (exact absurd hq (by decide)) | (cases hq; done) | (clear hq)) | (refine awp_un 8 ?_) | (with_reducible exact rfl) | (with_reducible exact trivial) | ((with_reducible show uside _); first | exact True.intro | exact rfl) | ((with_reducible show opS _ _); exact True.intro) | (refine ⟨AV.v (.bool true), rfl, hK1 _ ?_⟩; clear hK1 K1) | (refine (h1).mono ?_; rintro _ hz ⟨rfl, hh⟩; (first | (refine hK1 _ ?_) | (refine ⟨rfl, hK1 _ ?_⟩)); clear hK1 K1; rw [hh]; clear hh hz)))
 intro q hq
 refine hK1 _ ?_; clear hK1 K1
 (repeat (first | refine gO rfl ?_ | ((first | refine gR ?_ | (with_reducible refine wM ?_ ?_) | ((with_reducible refine xR ?_); refine uE 7 zM21 zP10E zP10P 116 rfl (by kernel_rfl) ?_) | ((with_reducible refine xR ?_); refine uE 15 zM21 zP11E zP11P 116 rfl (by kernel_rfl) ?_)) <;> ((try with_reducible intro K1 hK1); simp only [go_sem, ↓reduceIte, reduceCtorEq, nA, nB, nC, nD, nE, nF, Int.reduceBEq, Int.reduceTMod, Int.reduceTDiv, Int.reduceMul, Int.reduceBNe, Int.reduceLT, Int.reduceLE, Int.reduceAdd, Int.reduceSub, Int.reduceNeg, decide_true, decide_false, Bool.true_and, Bool.false_and, Bool.and_true, Bool.and_false, Bool.or_false, Bool.or_true, Bool.true_or, Bool.false_or, Bool.not_true, Bool.not_false, true_implies, false_implies, true_and, and_true, Int.reduceToNat, hp, ho, upd_other _ _ hpo, upd_other _ _ hop] <;> and_intros <;> first | (apply hK1; clear hK1 K1) | (intros; first | omega | decide) | skip)) | (refine awp_cond (t := _) rfl (fun hq => ?_) (fun hq => ?_) <;> first | (exact absurd hq (by decide)) | (cases hq; done) | (clear hq)) | (refine awp_un 8 ?_) | (with_reducible exact rfl) | (with_reducible exact trivial) | ((with_reducible show uside _); first | exact True.intro | exact rfl) | ((with_reducible show opS _ _); exact True.intro) | (refine ⟨AV.v (.bool true), rfl, hK1 _ ?_⟩; clear hK1 K1)))
 simp only [Tryz.results76, go_sem, ↓reduceIte, reduceCtorEq, nA, nB, nC, nD, nE, nF]
 refine ⟨_, _, Weak.refl _, Hp.le.refl _, rfl, q, upd_same _ _ _, ?_⟩
 exact (upd_other _ _ hop).trans (upd_same _ _ _)
theorem c_ixP (f : Nat) (h : Hp) : ACalls Tryz.prog 256 [nlS, .fn f []] h (fun r h' => r = .v (.int .i64 (-1)) ∧ h' = h) := by
 unfold nlS
 refine gE Tryz.func256 rfl (by kernel_rfl) 17 rfl fun c => ?_
 (repeat (first | refine gO rfl ?_ | (refine gR fun K1 hK1 => ?_; simp only [go_sem, ↓reduceIte, reduceCtorEq, nA, nB, nC, nD, nE, nF, Int.reduceBEq, Int.reduceTMod, Int.reduceTDiv, Int.reduceMul, Int.reduceBNe, Int.reduceLT, Int.reduceLE, Int.reduceAdd, Int.reduceSub, Int.reduceNeg, decide_true, decide_false, Bool.true_and, Bool.false_and, Bool.and_true, Bool.and_false, Bool.or_false, Bool.or_true, Bool.true_or, Bool.false_or, Bool.not_true, Bool.not_false, true_implies, false_implies, true_and, and_true, Int.reduceToNat] <;> and_intros <;> first | (apply hK1; clear hK1 K1) | (intros; first | omega | decide) | skip) | (refine awp_cond (t := _) rfl (fun hq => ?_) (fun hq => ?_) <;> first | (exact absurd hq (by decide)) | (cases hq; done) | (clear hq)) | (refine awp_un 8 ?_) | (with_reducible exact rfl) | (with_reducible exact trivial) | ((with_reducible show uside _); first | exact True.intro | exact rfl) | ((with_reducible show opS _ _); exact True.intro) | (refine ⟨AV.v (.bool true), rfl, hK1 _ ?_⟩; clear hK1 K1)))
 simp only [Tryz.results256, go_sem, ↓reduceIte, reduceCtorEq, nA, nB, nC, nD, nE, nF]
 exact ⟨_, _, Weak.refl _, Hp.le.refl _, rfl, rfl⟩
theorem c_coP (f : Nat) (h : Hp) : ACalls Tryz.prog 201 [nlS, .fn f []] h (fun r h' => r = .v (.bool false) ∧ h' = h) := by
 have h1 := c_ixP f h
 unfold nlS at *
 refine gE Tryz.func201 rfl (by kernel_rfl) 7 rfl fun c => ?_
 (repeat (first | refine gO rfl ?_ | (refine gR fun K1 hK1 => ?_; simp only [go_sem, ↓reduceIte, reduceCtorEq, nA, nB, nC, nD, nE, nF, Int.reduceBEq, Int.reduceTMod, Int.reduceTDiv, Int.reduceMul, Int.reduceBNe, Int.reduceLT, Int.reduceLE, Int.reduceAdd, Int.reduceSub, Int.reduceNeg, decide_true, decide_false, Bool.true_and, Bool.false_and, Bool.and_true, Bool.and_false, Bool.or_false, Bool.or_true, Bool.true_or, Bool.false_or, Bool.not_true, Bool.not_false, true_implies, false_implies, true_and, and_true, Int.reduceToNat] <;> and_intros <;> first | (apply hK1; clear hK1 K1) | (intros; first | omega | decide) | skip) | (refine awp_cond (t := _) rfl (fun hq => ?_) (fun hq => ?_) <;> first | (exact absurd hq (by decide)) | (cases hq; done) | (clear hq)) | (refine awp_un 8 ?_) | (with_reducible exact rfl) | (with_reducible exact trivial) | ((with_reducible show uside _); first | exact True.intro | exact rfl) | ((with_reducible show opS _ _); exact True.intro) | (refine ⟨AV.v (.bool true), rfl, hK1 _ ?_⟩; clear hK1 K1) | (refine (h1).mono ?_; rintro _ hz ⟨rfl, hh⟩; (first | (refine hK1 _ ?_) | (refine ⟨rfl, hK1 _ ?_⟩)); clear hK1 K1; rw [hh]; clear hh hz)))
 simp only [Tryz.results201, go_sem, ↓reduceIte, reduceCtorEq, nA, nB, nC, nD, nE, nF]
 exact ⟨_, _, Weak.refl _, Hp.le.refl _, rfl, rfl⟩
theorem c_begins (p k : Nat) (h : Hp) (hp : h.H p = some (.cells (pA 1 k))) : ACalls Tryz.prog 142 [.ptr p 0] h (fun r h' => r = .v (.bool true) ∧ h' = h) := by
 have h1 := fun f h => c_coP f h
 unfold pA lA nlS at *
 simp only [List.cons_append, List.nil_append] at *
 refine gE Tryz.func142 rfl (by kernel_rfl) 43 rfl fun c => ?_
 (repeat (first | refine gO rfl ?_ | ((first | refine gR ?_ | (with_reducible refine wM ?_ ?_) | ((with_reducible refine xR ?_); refine uE 6 zM21 zP12E zP12P 44 rfl (by kernel_rfl) ?_)) <;> ((try with_reducible intro K1 hK1); simp only [go_sem, ↓reduceIte, reduceCtorEq, nA, nB, nC, nD, nE, nF, Int.reduceBEq, Int.reduceTMod, Int.reduceTDiv, Int.reduceMul, Int.reduceBNe, Int.reduceLT, Int.reduceLE, Int.reduceAdd, Int.reduceSub, Int.reduceNeg, decide_true, decide_false, Bool.true_and, Bool.false_and, Bool.and_true, Bool.and_false, Bool.or_false, Bool.or_true, Bool.true_or, Bool.false_or, Bool.not_true, Bool.not_false, true_implies, false_implies, true_and, and_true, Int.reduceToNat, hp] <;> and_intros <;> first | (apply hK1; clear hK1 K1) | (intros; first | omega | decide) | skip)) | (refine awp_cond (t := _) rfl (fun hq => ?_) (fun hq => ?_) <;> first | (exact absurd hq (by decide)) | (cases hq; done) | (clear hq)) | (refine awp_un 8 ?_) | (with_reducible exact rfl) | (with_reducible exact trivial) | ((with_reducible show uside _); first | exact True.intro | exact rfl) | ((with_reducible show opS _ _); exact True.intro) | (refine ⟨AV.v (.bool true), rfl, hK1 _ ?_⟩; clear hK1 K1) | (refine (h1 _ _).mono ?_; rintro _ hz ⟨rfl, hh⟩; (first | (refine hK1 _ ?_) | (refine ⟨rfl, hK1 _ ?_⟩)); clear hK1 K1; rw [hh]; clear hh hz)))
 simp only [Tryz.results142, go_sem, ↓reduceIte, reduceCtorEq, nA, nB, nC, nD, nE, nF]
 exact ⟨_, _, Weak.refl _, Hp.le.refl _, rfl, rfl⟩
theorem c_roundOf (h : Hp) : ACalls Tryz.prog 79 [.agg lA] h (fun r h' => ∃ q, r = .tup [.agg [.v (.int .i64 1), rA q, .v (.int .i64 5)], .v (.int .i64 0)]) := by
 have h1 := c_newPart h
 have h2 := fun p o k h => c_pass p o k h
 have h3 := fun o k h => c_full1 o k h
 have h4 := fun p k h => c_begins p k h
 have hl : lA = [.v (.int .i64 1), .v (.string ⟨#[97]⟩), .v (.int .i64 5), .v (.int .i64 0), nlS, nlS] := rfl
 unfold lA nlS at h1
 unfold lA nlS
 refine gE Tryz.func79 rfl (by kernel_rfl) 56 rfl fun c => ?_
 (repeat (first | refine gO rfl ?_ | (refine gM zM27 fun K1 hK1 => ?_; simp only [go_sem, ↓reduceIte, reduceCtorEq, nA, nB, nC, nD, nE, nF, Int.reduceBEq, Int.reduceTMod, Int.reduceTDiv, Int.reduceMul, Int.reduceBNe, Int.reduceLT, Int.reduceLE, Int.reduceAdd, Int.reduceSub, Int.reduceNeg, decide_true, decide_false, Bool.true_and, Bool.false_and, Bool.and_true, Bool.and_false, Bool.or_false, Bool.or_true, Bool.true_or, Bool.false_or, Bool.not_true, Bool.not_false, true_implies, false_implies, true_and, and_true, Int.reduceToNat] <;> and_intros <;> first | (apply hK1; clear hK1 K1) | (intros; first | omega | decide) | skip) | (refine awp_cond (t := _) rfl (fun hq => ?_) (fun hq => ?_) <;> first | (exact absurd hq (by decide)) | (cases hq; done) | (clear hq)) | (refine awp_un 8 ?_) | (with_reducible exact rfl) | (with_reducible exact trivial) | ((with_reducible show uside _); first | exact True.intro | exact rfl) | ((with_reducible show opS _ _); exact True.intro) | (refine ⟨AV.v (.bool true), rfl, hK1 _ ?_⟩; clear hK1 K1)))
 refine h1.mono ?_
 rintro _ ha ⟨p, k, rfl, hp⟩
 refine hK1 _ ?_; clear hK1 K1 h1
 (repeat (first | refine gO rfl ?_ | (refine gM zM27 fun K1 hK1 => ?_; simp only [go_sem, ↓reduceIte, reduceCtorEq, nA, nB, nC, nD, nE, nF, Int.reduceBEq, Int.reduceTMod, Int.reduceTDiv, Int.reduceMul, Int.reduceBNe, Int.reduceLT, Int.reduceLE, Int.reduceAdd, Int.reduceSub, Int.reduceNeg, decide_true, decide_false, Bool.true_and, Bool.false_and, Bool.and_true, Bool.and_false, Bool.or_false, Bool.or_true, Bool.true_or, Bool.false_or, Bool.not_true, Bool.not_false, true_implies, false_implies, true_and, and_true, Int.reduceToNat] <;> and_intros <;> first | (apply hK1; clear hK1 K1) | (intros; first | omega | decide) | skip) | (refine awp_cond (t := _) rfl (fun hq => ?_) (fun hq => ?_) <;> first | (exact absurd hq (by decide)) | (cases hq; done) | (clear hq)) | (refine awp_un 8 ?_) | (with_reducible exact rfl) | (with_reducible exact trivial) | ((with_reducible show uside _); first | exact True.intro | exact rfl) | ((with_reducible show opS _ _); exact True.intro) | (refine ⟨AV.v (.bool true), rfl, hK1 _ ?_⟩; clear hK1 K1)))
 intro o ho
 refine hK1 _ ?_; clear hK1 K1
 have hpo : p ≠ o := by rintro rfl; rw [hp] at ho; cases ho
 have h5 := h2 p o k ⟨upd ha.H o (some (.cells [nlS, .v (.int .i64 5000)])), ha.T⟩ ((upd_other _ _ hpo).trans hp) (upd_same _ _ _) hpo
 unfold nlS at h5
 (repeat (first | refine gO rfl ?_ | (refine gM zM27 fun K1 hK1 => ?_; simp only [go_sem, ↓reduceIte, reduceCtorEq, nA, nB, nC, nD, nE, nF, Int.reduceBEq, Int.reduceTMod, Int.reduceTDiv, Int.reduceMul, Int.reduceBNe, Int.reduceLT, Int.reduceLE, Int.reduceAdd, Int.reduceSub, Int.reduceNeg, decide_true, decide_false, Bool.true_and, Bool.false_and, Bool.and_true, Bool.and_false, Bool.or_false, Bool.or_true, Bool.true_or, Bool.false_or, Bool.not_true, Bool.not_false, true_implies, false_implies, true_and, and_true, Int.reduceToNat] <;> and_intros <;> first | (apply hK1; clear hK1 K1) | (intros; first | omega | decide) | skip) | (refine awp_cond (t := _) rfl (fun hq => ?_) (fun hq => ?_) <;> first | (exact absurd hq (by decide)) | (cases hq; done) | (clear hq)) | (refine awp_un 8 ?_) | (with_reducible exact rfl) | (with_reducible exact trivial) | ((with_reducible show uside _); first | exact True.intro | exact rfl) | ((with_reducible show opS _ _); exact True.intro) | (refine ⟨AV.v (.bool true), rfl, hK1 _ ?_⟩; clear hK1 K1)))
 refine h5.mono ?_
 rintro _ hb ⟨rfl, q, hpb, hob⟩
 refine hK1 _ ?_; clear hK1 K1 h5
 have h6 := h3 o q hb hob
 have h7 := h4 p k hb hpb
 unfold nlS rA at *
 (repeat (first | refine gO rfl ?_ | (refine gM zM27 fun K1 hK1 => ?_; simp only [go_sem, ↓reduceIte, reduceCtorEq, nA, nB, nC, nD, nE, nF, Int.reduceBEq, Int.reduceTMod, Int.reduceTDiv, Int.reduceMul, Int.reduceBNe, Int.reduceLT, Int.reduceLE, Int.reduceAdd, Int.reduceSub, Int.reduceNeg, decide_true, decide_false, Bool.true_and, Bool.false_and, Bool.and_true, Bool.and_false, Bool.or_false, Bool.or_true, Bool.true_or, Bool.false_or, Bool.not_true, Bool.not_false, true_implies, false_implies, true_and, and_true, Int.reduceToNat, hob] <;> and_intros <;> first | (apply hK1; clear hK1 K1) | (intros; first | omega | decide) | skip) | (refine awp_cond (t := _) rfl (fun hq => ?_) (fun hq => ?_) <;> first | (exact absurd hq (by decide)) | (cases hq; done) | (clear hq)) | (refine awp_un 8 ?_) | (with_reducible exact rfl) | (with_reducible exact trivial) | ((with_reducible show uside _); first | exact True.intro | exact rfl) | ((with_reducible show opS _ _); exact True.intro) | (refine ⟨AV.v (.bool true), rfl, hK1 _ ?_⟩; clear hK1 K1) | (refine (h6).mono ?_; rintro _ hz ⟨rfl, hh⟩; (first | (refine hK1 _ ?_) | (refine ⟨rfl, hK1 _ ?_⟩)); clear hK1 K1; rw [hh]; clear hh hz) | (refine (h7).mono ?_; rintro _ hz ⟨rfl, hh⟩; (first | (refine hK1 _ ?_) | (refine ⟨rfl, hK1 _ ?_⟩)); clear hK1 K1; rw [hh]; clear hh hz)))
 simp only [Tryz.results79, go_sem, ↓reduceIte, reduceCtorEq, nA, nB, nC, nD, nE, nF]
 exact ⟨_, _, Weak.refl _, Hp.le.refl _, q, rfl⟩
theorem c_checked (h : Hp) : ACalls Tryz.prog 70 [.agg lA] h (fun r h' => ∃ q, r = .tup [.agg [.v (.int .i64 1), rA q, .v (.int .i64 5)], .v (.int .i64 0)]) := by
 have h1 := c_check h
 have h2 := fun h => c_roundOf h
 unfold lA nlS rA at *
 refine gE Tryz.func70 rfl (by kernel_rfl) 14 rfl fun c => ?_
 (repeat (first | refine gO rfl ?_ | (refine gM zM28 fun K1 hK1 => ?_; simp only [go_sem, ↓reduceIte, reduceCtorEq, nA, nB, nC, nD, nE, nF, Int.reduceBEq, Int.reduceTMod, Int.reduceTDiv, Int.reduceMul, Int.reduceBNe, Int.reduceLT, Int.reduceLE, Int.reduceAdd, Int.reduceSub, Int.reduceNeg, decide_true, decide_false, Bool.true_and, Bool.false_and, Bool.and_true, Bool.and_false, Bool.or_false, Bool.or_true, Bool.true_or, Bool.false_or, Bool.not_true, Bool.not_false, true_implies, false_implies, true_and, and_true, Int.reduceToNat] <;> and_intros <;> first | (apply hK1; clear hK1 K1) | (intros; first | omega | decide) | skip) | (refine awp_cond (t := _) rfl (fun hq => ?_) (fun hq => ?_) <;> first | (exact absurd hq (by decide)) | (cases hq; done) | (clear hq)) | (refine awp_un 8 ?_) | (with_reducible exact rfl) | (with_reducible exact trivial) | ((with_reducible show uside _); first | exact True.intro | exact rfl) | ((with_reducible show opS _ _); exact True.intro) | (refine ⟨AV.v (.bool true), rfl, hK1 _ ?_⟩; clear hK1 K1)))
 refine h1.mono ?_
 rintro _ ha rfl
 refine hK1 _ ?_; clear hK1 K1 h1
 (repeat (first | refine gO rfl ?_ | (refine gM zM28 fun K1 hK1 => ?_; simp only [go_sem, ↓reduceIte, reduceCtorEq, nA, nB, nC, nD, nE, nF, Int.reduceBEq, Int.reduceTMod, Int.reduceTDiv, Int.reduceMul, Int.reduceBNe, Int.reduceLT, Int.reduceLE, Int.reduceAdd, Int.reduceSub, Int.reduceNeg, decide_true, decide_false, Bool.true_and, Bool.false_and, Bool.and_true, Bool.and_false, Bool.or_false, Bool.or_true, Bool.true_or, Bool.false_or, Bool.not_true, Bool.not_false, true_implies, false_implies, true_and, and_true, Int.reduceToNat] <;> and_intros <;> first | (apply hK1; clear hK1 K1) | (intros; first | omega | decide) | skip) | (refine awp_cond (t := _) rfl (fun hq => ?_) (fun hq => ?_) <;> first | (exact absurd hq (by decide)) | (cases hq; done) | (clear hq)) | (refine awp_un 8 ?_) | (with_reducible exact rfl) | (with_reducible exact trivial) | ((with_reducible show uside _); first | exact True.intro | exact rfl) | ((with_reducible show opS _ _); exact True.intro) | (refine ⟨AV.v (.bool true), rfl, hK1 _ ?_⟩; clear hK1 K1)))
 refine (h2 _).mono ?_
 rintro _ hb ⟨q, rfl⟩
 refine hK1 _ ?_; clear hK1 K1 h2
 (repeat (first | refine gO rfl ?_ | (refine gM zM28 fun K1 hK1 => ?_; simp only [go_sem, ↓reduceIte, reduceCtorEq, nA, nB, nC, nD, nE, nF, Int.reduceBEq, Int.reduceTMod, Int.reduceTDiv, Int.reduceMul, Int.reduceBNe, Int.reduceLT, Int.reduceLE, Int.reduceAdd, Int.reduceSub, Int.reduceNeg, decide_true, decide_false, Bool.true_and, Bool.false_and, Bool.and_true, Bool.and_false, Bool.or_false, Bool.or_true, Bool.true_or, Bool.false_or, Bool.not_true, Bool.not_false, true_implies, false_implies, true_and, and_true, Int.reduceToNat] <;> and_intros <;> first | (apply hK1; clear hK1 K1) | (intros; first | omega | decide) | skip) | (refine awp_cond (t := _) rfl (fun hq => ?_) (fun hq => ?_) <;> first | (exact absurd hq (by decide)) | (cases hq; done) | (clear hq)) | (refine awp_un 8 ?_) | (with_reducible exact rfl) | (with_reducible exact trivial) | ((with_reducible show uside _); first | exact True.intro | exact rfl) | ((with_reducible show opS _ _); exact True.intro) | (refine ⟨AV.v (.bool true), rfl, hK1 _ ?_⟩; clear hK1 K1)))
 simp only [Tryz.results70, go_sem, ↓reduceIte, reduceCtorEq, nA, nB, nC, nD, nE, nF]
 exact ⟨_, _, Weak.refl _, Hp.le.refl _, q, rfl⟩
theorem g_round1 (h : Hp) : ACalls Tryz.prog 15 [.agg lA] h (fun r h' => r = .tup [.v (.int .i64 1), .v (.int .i64 1), .v (.int .i64 5), .v (.int .i64 0)]) := by
 have h2 := fun h => c_checked h
 unfold lA nlS rA at *
 refine gE Tryz.func15 rfl (by kernel_rfl) 21 rfl fun c => ?_
 (repeat (first | refine gO rfl ?_ | ((first | refine gM zM24 ?_ | (with_reducible refine wM ?_ ?_) | ((with_reducible refine xS ?_); refine uD 4 zM24 zP13E zP13P 22 rfl (by kernel_rfl) ?_)) <;> ((try with_reducible intro K1 hK1); simp only [go_sem, ↓reduceIte, reduceCtorEq, nA, nB, nC, nD, nE, nF, Int.reduceBEq, Int.reduceTMod, Int.reduceTDiv, Int.reduceMul, Int.reduceBNe, Int.reduceLT, Int.reduceLE, Int.reduceAdd, Int.reduceSub, Int.reduceNeg, decide_true, decide_false, Bool.true_and, Bool.false_and, Bool.and_true, Bool.and_false, Bool.or_false, Bool.or_true, Bool.true_or, Bool.false_or, Bool.not_true, Bool.not_false, true_implies, false_implies, true_and, and_true, Int.reduceToNat] <;> and_intros <;> first | (apply hK1; clear hK1 K1) | (intros; first | omega | decide) | skip)) | (refine awp_cond (t := _) rfl (fun hq => ?_) (fun hq => ?_) <;> first | (exact absurd hq (by decide)) | (cases hq; done) | (clear hq)) | (refine awp_un 8 ?_) | (with_reducible exact rfl) | (with_reducible exact trivial) | ((with_reducible show uside _); first | exact True.intro | exact rfl) | ((with_reducible show opS _ _); exact True.intro) | (refine ⟨AV.v (.bool true), rfl, hK1 _ ?_⟩; clear hK1 K1)))
 refine (h2 _).mono ?_
 rintro _ hb ⟨q, rfl⟩
 refine hK1 _ ?_; clear hK1 K1 h2
 (repeat (first | refine gO rfl ?_ | ((first | refine gM zM24 ?_ | (with_reducible refine wM ?_ ?_) | ((with_reducible refine xS ?_); refine uD 4 zM24 zP13E zP13P 22 rfl (by kernel_rfl) ?_)) <;> ((try with_reducible intro K1 hK1); simp only [go_sem, ↓reduceIte, reduceCtorEq, nA, nB, nC, nD, nE, nF, Int.reduceBEq, Int.reduceTMod, Int.reduceTDiv, Int.reduceMul, Int.reduceBNe, Int.reduceLT, Int.reduceLE, Int.reduceAdd, Int.reduceSub, Int.reduceNeg, decide_true, decide_false, Bool.true_and, Bool.false_and, Bool.and_true, Bool.and_false, Bool.or_false, Bool.or_true, Bool.true_or, Bool.false_or, Bool.not_true, Bool.not_false, true_implies, false_implies, true_and, and_true, Int.reduceToNat] <;> and_intros <;> first | (apply hK1; clear hK1 K1) | (intros; first | omega | decide) | skip)) | (refine awp_cond (t := _) rfl (fun hq => ?_) (fun hq => ?_) <;> first | (exact absurd hq (by decide)) | (cases hq; done) | (clear hq)) | (refine awp_un 8 ?_) | (with_reducible exact rfl) | (with_reducible exact trivial) | ((with_reducible show uside _); first | exact True.intro | exact rfl) | ((with_reducible show opS _ _); exact True.intro) | (refine ⟨AV.v (.bool true), rfl, hK1 _ ?_⟩; clear hK1 K1)))
 simp only [Tryz.results15, go_sem, ↓reduceIte, reduceCtorEq, nA, nB, nC, nD, nE, nF]
 exact ⟨_, _, Weak.refl _, Hp.le.refl _, rfl⟩
abbrev zP14E : List Nat := [0, 1, 2, 3, 4, 5, 6, 7, 8, 9, 10, 11, 12, 13, 14]
abbrev zP14P : List (Nat × List Nat × List Nat) := []
attribute [go_sem] zP14E zP14P
def kA : AV := .row 3 [[.v (.int .i64 0), .v (.int .i64 10), .v (.int .i64 5)]] none
theorem c_checkLinks (h : Hp) : ACalls Tryz.prog 101 [kA] h (fun r h' => r = .v (.int .i64 0)) := by
 have h1 := fun h => a_outside 5 1 1000000 h
 unfold kA
 refine gE Tryz.func101 rfl (by kernel_rfl) 54 rfl fun c => ?_
 (repeat (first | refine gO rfl ?_ | ((first | refine gM zM29 ?_ | (with_reducible refine wM ?_ ?_) | ((with_reducible refine xS ?_); refine uD 8 zM29 zP14E zP14P 55 rfl (by kernel_rfl) ?_)) <;> ((try with_reducible intro K1 hK1); simp only [go_sem, ↓reduceIte, reduceCtorEq, nA, nB, nC, nD, nE, nF, Int.reduceBEq, Int.reduceTMod, Int.reduceTDiv, Int.reduceMul, Int.reduceBNe, Int.reduceLT, Int.reduceLE, Int.reduceAdd, Int.reduceSub, Int.reduceNeg, decide_true, decide_false, Bool.true_and, Bool.false_and, Bool.and_true, Bool.and_false, Bool.or_false, Bool.or_true, Bool.true_or, Bool.false_or, Bool.not_true, Bool.not_false, true_implies, false_implies, true_and, and_true, Int.reduceToNat] <;> and_intros <;> first | (apply hK1; clear hK1 K1) | (intros; first | omega | decide) | skip)) | (refine awp_cond (t := _) rfl (fun hq => ?_) (fun hq => ?_) <;> first | (exact absurd hq (by decide)) | (cases hq; done) | (clear hq)) | (refine awp_un 8 ?_) | (with_reducible exact rfl) | (with_reducible exact trivial) | ((with_reducible show uside _); first | exact True.intro | exact rfl) | ((with_reducible show opS _ _); exact True.intro) | (refine ⟨AV.v (.bool true), rfl, hK1 _ ?_⟩; clear hK1 K1) | (refine (h1 _).mono ?_; rintro _ hz ⟨rfl, hh⟩; (first | (refine hK1 _ ?_) | (refine ⟨rfl, hK1 _ ?_⟩)); clear hK1 K1; rw [hh]; clear hh hz)))
 simp only [Tryz.results101, go_sem, ↓reduceIte, reduceCtorEq, nA, nB, nC, nD, nE, nF]
 exact ⟨_, _, Weak.refl _, Hp.le.refl _, rfl⟩
theorem c_isMoment (h : Hp) : ACalls Tryz.prog 102 [.v (.int .i64 3)] h (fun r h' => r = .v (.bool true) ∧ h' = h) := by
 refine gE Tryz.func102 rfl (by kernel_rfl) 8 rfl fun c => ?_
 (repeat (first | refine gO rfl ?_ | (refine gR fun K1 hK1 => ?_; simp only [go_sem, ↓reduceIte, reduceCtorEq, nA, nB, nC, nD, nE, nF, Int.reduceBEq, Int.reduceTMod, Int.reduceTDiv, Int.reduceMul, Int.reduceBNe, Int.reduceLT, Int.reduceLE, Int.reduceAdd, Int.reduceSub, Int.reduceNeg, decide_true, decide_false, Bool.true_and, Bool.false_and, Bool.and_true, Bool.and_false, Bool.or_false, Bool.or_true, Bool.true_or, Bool.false_or, Bool.not_true, Bool.not_false, true_implies, false_implies, true_and, and_true, Int.reduceToNat] <;> and_intros <;> first | (apply hK1; clear hK1 K1) | (intros; first | omega | decide) | skip) | (refine awp_cond (t := _) rfl (fun hq => ?_) (fun hq => ?_) <;> first | (exact absurd hq (by decide)) | (cases hq; done) | (clear hq)) | (refine awp_un 8 ?_) | (with_reducible exact rfl) | (with_reducible exact trivial) | ((with_reducible show uside _); first | exact True.intro | exact rfl) | ((with_reducible show opS _ _); exact True.intro) | (refine ⟨AV.v (.bool true), rfl, hK1 _ ?_⟩; clear hK1 K1)))
 simp only [Tryz.results102, go_sem, ↓reduceIte, reduceCtorEq, nA, nB, nC, nD, nE, nF]
 exact ⟨_, _, Weak.refl _, Hp.le.refl _, rfl, rfl⟩
theorem c_done (h : Hp) : ACalls Tryz.prog 103 [kA, .v (.int .i64 3), .v (.int .i64 12)] h (fun r h' => r = .tup [.v (.int .i64 6), .v (.bool true)]) := by
 unfold kA
 refine gE Tryz.func103 rfl (by kernel_rfl) 49 rfl fun c => ?_
 (repeat (first | refine gO rfl ?_ | (refine gM zM2A fun K1 hK1 => ?_; simp only [go_sem, ↓reduceIte, reduceCtorEq, nA, nB, nC, nD, nE, nF, Int.reduceBEq, Int.reduceTMod, Int.reduceTDiv, Int.reduceMul, Int.reduceBNe, Int.reduceLT, Int.reduceLE, Int.reduceAdd, Int.reduceSub, Int.reduceNeg, decide_true, decide_false, Bool.true_and, Bool.false_and, Bool.and_true, Bool.and_false, Bool.or_false, Bool.or_true, Bool.true_or, Bool.false_or, Bool.not_true, Bool.not_false, true_implies, false_implies, true_and, and_true, Int.reduceToNat] <;> and_intros <;> first | (apply hK1; clear hK1 K1) | (intros; first | omega | decide) | skip) | (refine awp_cond (t := _) rfl (fun hq => ?_) (fun hq => ?_) <;> first | (exact absurd hq (by decide)) | (cases hq; done) | (clear hq)) | (refine awp_un 8 ?_) | (with_reducible exact rfl) | (with_reducible exact trivial) | ((with_reducible show uside _); first | exact True.intro | exact rfl) | ((with_reducible show opS _ _); exact True.intro) | (refine ⟨AV.v (.bool true), rfl, hK1 _ ?_⟩; clear hK1 K1)))
 simp only [Tryz.results103, go_sem, ↓reduceIte, reduceCtorEq, nA, nB, nC, nD, nE, nF]
 exact ⟨_, _, Weak.refl _, Hp.le.refl _, rfl⟩
theorem g_done1 (h : Hp) : ACalls Tryz.prog 39 [kA, .v (.int .i64 3), .v (.int .i64 12)] h (fun r h' => r = .tup [.v (.int .i64 6), .v (.bool true), .v (.int .i64 0)]) := by
 have h1 := c_checkLinks h
 have h2 := fun h => c_isMoment h
 have h3 := fun h => a_outside 12 0 1000000000000 h
 have h4 := fun h => c_done h
 unfold kA at *
 refine gE Tryz.func39 rfl (by kernel_rfl) 30 rfl fun c => ?_
 (repeat (first | refine gO rfl ?_ | (refine gR fun K1 hK1 => ?_; simp only [go_sem, ↓reduceIte, reduceCtorEq, nA, nB, nC, nD, nE, nF, Int.reduceBEq, Int.reduceTMod, Int.reduceTDiv, Int.reduceMul, Int.reduceBNe, Int.reduceLT, Int.reduceLE, Int.reduceAdd, Int.reduceSub, Int.reduceNeg, decide_true, decide_false, Bool.true_and, Bool.false_and, Bool.and_true, Bool.and_false, Bool.or_false, Bool.or_true, Bool.true_or, Bool.false_or, Bool.not_true, Bool.not_false, true_implies, false_implies, true_and, and_true, Int.reduceToNat] <;> and_intros <;> first | (apply hK1; clear hK1 K1) | (intros; first | omega | decide) | skip) | (refine awp_cond (t := _) rfl (fun hq => ?_) (fun hq => ?_) <;> first | (exact absurd hq (by decide)) | (cases hq; done) | (clear hq)) | (refine awp_un 8 ?_) | (with_reducible exact rfl) | (with_reducible exact trivial) | ((with_reducible show uside _); first | exact True.intro | exact rfl) | ((with_reducible show opS _ _); exact True.intro) | (refine ⟨AV.v (.bool true), rfl, hK1 _ ?_⟩; clear hK1 K1)))
 refine h1.mono ?_
 rintro _ ha rfl
 refine hK1 _ ?_; clear hK1 K1 h1
 (repeat (first | refine gO rfl ?_ | (refine gR fun K1 hK1 => ?_; simp only [go_sem, ↓reduceIte, reduceCtorEq, nA, nB, nC, nD, nE, nF, Int.reduceBEq, Int.reduceTMod, Int.reduceTDiv, Int.reduceMul, Int.reduceBNe, Int.reduceLT, Int.reduceLE, Int.reduceAdd, Int.reduceSub, Int.reduceNeg, decide_true, decide_false, Bool.true_and, Bool.false_and, Bool.and_true, Bool.and_false, Bool.or_false, Bool.or_true, Bool.true_or, Bool.false_or, Bool.not_true, Bool.not_false, true_implies, false_implies, true_and, and_true, Int.reduceToNat] <;> and_intros <;> first | (apply hK1; clear hK1 K1) | (intros; first | omega | decide) | skip) | (refine awp_cond (t := _) rfl (fun hq => ?_) (fun hq => ?_) <;> first | (exact absurd hq (by decide)) | (cases hq; done) | (clear hq)) | (refine awp_un 8 ?_) | (with_reducible exact rfl) | (with_reducible exact trivial) | ((with_reducible show uside _); first | exact True.intro | exact rfl) | ((with_reducible show opS _ _); exact True.intro) | (refine ⟨AV.v (.bool true), rfl, hK1 _ ?_⟩; clear hK1 K1) | (refine (h2 _).mono ?_; rintro _ hz ⟨rfl, hh⟩; (first | (refine hK1 _ ?_) | (refine ⟨rfl, hK1 _ ?_⟩)); clear hK1 K1; rw [hh]; clear hh hz) | (refine (h3 _).mono ?_; rintro _ hz ⟨rfl, hh⟩; (first | (refine hK1 _ ?_) | (refine ⟨rfl, hK1 _ ?_⟩)); clear hK1 K1; rw [hh]; clear hh hz)))
 refine (h4 _).mono ?_
 rintro _ hb rfl
 refine hK1 _ ?_; clear hK1 K1
 (repeat (first | refine gO rfl ?_ | (refine gR fun K1 hK1 => ?_; simp only [go_sem, ↓reduceIte, reduceCtorEq, nA, nB, nC, nD, nE, nF, Int.reduceBEq, Int.reduceTMod, Int.reduceTDiv, Int.reduceMul, Int.reduceBNe, Int.reduceLT, Int.reduceLE, Int.reduceAdd, Int.reduceSub, Int.reduceNeg, decide_true, decide_false, Bool.true_and, Bool.false_and, Bool.and_true, Bool.and_false, Bool.or_false, Bool.or_true, Bool.true_or, Bool.false_or, Bool.not_true, Bool.not_false, true_implies, false_implies, true_and, and_true, Int.reduceToNat] <;> and_intros <;> first | (apply hK1; clear hK1 K1) | (intros; first | omega | decide) | skip) | (refine awp_cond (t := _) rfl (fun hq => ?_) (fun hq => ?_) <;> first | (exact absurd hq (by decide)) | (cases hq; done) | (clear hq)) | (refine awp_un 8 ?_) | (with_reducible exact rfl) | (with_reducible exact trivial) | ((with_reducible show uside _); first | exact True.intro | exact rfl) | ((with_reducible show opS _ _); exact True.intro) | (refine ⟨AV.v (.bool true), rfl, hK1 _ ?_⟩; clear hK1 K1)))
 simp only [Tryz.results39, go_sem, ↓reduceIte, reduceCtorEq, nA, nB, nC, nD, nE, nF]
 exact ⟨_, _, Weak.refl _, Hp.le.refl _, rfl⟩
theorem g_ready (h : Hp) : ACalls Tryz.prog 16 [] h (fun r _ => r = .v (.bool true)) := by
 have h1 := fun h => g_miss5 h
 have h2 := fun h => g_round1 h
 have h3 := fun h => g_done1 h
 have h4 := fun h => g_bind1 h
 have e5 : (s5 == ⟨#[53]⟩) = true := by decide
 unfold lA nlS at h2
 unfold kA at h3
 rw [fC_eq] at h4
 unfold sT at h4
 refine gE Tryz.func16 rfl (by kernel_rfl) 75 rfl fun c => ?_
 (repeat (first | refine gO rfl ?_ | (refine gR fun K1 hK1 => ?_; simp only [go_sem, ↓reduceIte, reduceCtorEq, nA, nB, nC, nD, nE, nF, Int.reduceBEq, Int.reduceTMod, Int.reduceTDiv, Int.reduceMul, Int.reduceBNe, Int.reduceLT, Int.reduceLE, Int.reduceAdd, Int.reduceSub, Int.reduceNeg, decide_true, decide_false, Bool.true_and, Bool.false_and, Bool.and_true, Bool.and_false, Bool.or_false, Bool.or_true, Bool.true_or, Bool.false_or, Bool.not_true, Bool.not_false, true_implies, false_implies, true_and, and_true, Int.reduceToNat] <;> and_intros <;> first | (apply hK1; clear hK1 K1) | (intros; first | omega | decide) | skip) | (refine awp_cond (t := _) rfl (fun hq => ?_) (fun hq => ?_) <;> first | (exact absurd hq (by decide)) | (cases hq; done) | (clear hq)) | (refine awp_un 8 ?_) | (with_reducible exact rfl) | (with_reducible exact trivial) | ((with_reducible show uside _); first | exact True.intro | exact rfl) | ((with_reducible show opS _ _); exact True.intro) | (refine ⟨AV.v (.bool true), rfl, hK1 _ ?_⟩; clear hK1 K1)))
 refine (h1 _).mono ?_
 rintro _ ha rfl
 refine hK1 _ ?_; clear hK1 K1 h1
 (repeat (first | refine gO rfl ?_ | (refine gR fun K1 hK1 => ?_; simp only [go_sem, ↓reduceIte, reduceCtorEq, nA, nB, nC, nD, nE, nF, Int.reduceBEq, Int.reduceTMod, Int.reduceTDiv, Int.reduceMul, Int.reduceBNe, Int.reduceLT, Int.reduceLE, Int.reduceAdd, Int.reduceSub, Int.reduceNeg, decide_true, decide_false, Bool.true_and, Bool.false_and, Bool.and_true, Bool.and_false, Bool.or_false, Bool.or_true, Bool.true_or, Bool.false_or, Bool.not_true, Bool.not_false, true_implies, false_implies, true_and, and_true, Int.reduceToNat] <;> and_intros <;> first | (apply hK1; clear hK1 K1) | (intros; first | omega | decide) | skip) | (refine awp_cond (t := _) rfl (fun hq => ?_) (fun hq => ?_) <;> first | (exact absurd hq (by decide)) | (cases hq; done) | (clear hq)) | (refine awp_un 8 ?_) | (with_reducible exact rfl) | (with_reducible exact trivial) | ((with_reducible show uside _); first | exact True.intro | exact rfl) | ((with_reducible show opS _ _); exact True.intro) | (refine ⟨AV.v (.bool true), rfl, hK1 _ ?_⟩; clear hK1 K1)))
 refine (h2 _).mono ?_
 rintro _ hb rfl
 refine hK1 _ ?_; clear hK1 K1 h2
 (repeat (first | refine gO rfl ?_ | (refine gR fun K1 hK1 => ?_; simp only [go_sem, ↓reduceIte, reduceCtorEq, nA, nB, nC, nD, nE, nF, Int.reduceBEq, Int.reduceTMod, Int.reduceTDiv, Int.reduceMul, Int.reduceBNe, Int.reduceLT, Int.reduceLE, Int.reduceAdd, Int.reduceSub, Int.reduceNeg, decide_true, decide_false, Bool.true_and, Bool.false_and, Bool.and_true, Bool.and_false, Bool.or_false, Bool.or_true, Bool.true_or, Bool.false_or, Bool.not_true, Bool.not_false, true_implies, false_implies, true_and, and_true, Int.reduceToNat] <;> and_intros <;> first | (apply hK1; clear hK1 K1) | (intros; first | omega | decide) | skip) | (refine awp_cond (t := _) rfl (fun hq => ?_) (fun hq => ?_) <;> first | (exact absurd hq (by decide)) | (cases hq; done) | (clear hq)) | (refine awp_un 8 ?_) | (with_reducible exact rfl) | (with_reducible exact trivial) | ((with_reducible show uside _); first | exact True.intro | exact rfl) | ((with_reducible show opS _ _); exact True.intro) | (refine ⟨AV.v (.bool true), rfl, hK1 _ ?_⟩; clear hK1 K1)))
 refine (h3 _).mono ?_
 rintro _ hd rfl
 refine hK1 _ ?_; clear hK1 K1 h3
 (repeat (first | refine gO rfl ?_ | (refine gR fun K1 hK1 => ?_; simp only [go_sem, ↓reduceIte, reduceCtorEq, nA, nB, nC, nD, nE, nF, Int.reduceBEq, Int.reduceTMod, Int.reduceTDiv, Int.reduceMul, Int.reduceBNe, Int.reduceLT, Int.reduceLE, Int.reduceAdd, Int.reduceSub, Int.reduceNeg, decide_true, decide_false, Bool.true_and, Bool.false_and, Bool.and_true, Bool.and_false, Bool.or_false, Bool.or_true, Bool.true_or, Bool.false_or, Bool.not_true, Bool.not_false, true_implies, false_implies, true_and, and_true, Int.reduceToNat] <;> and_intros <;> first | (apply hK1; clear hK1 K1) | (intros; first | omega | decide) | skip) | (refine awp_cond (t := _) rfl (fun hq => ?_) (fun hq => ?_) <;> first | (exact absurd hq (by decide)) | (cases hq; done) | (clear hq)) | (refine awp_un 8 ?_) | (with_reducible exact rfl) | (with_reducible exact trivial) | ((with_reducible show uside _); first | exact True.intro | exact rfl) | ((with_reducible show opS _ _); exact True.intro) | (refine ⟨AV.v (.bool true), rfl, hK1 _ ?_⟩; clear hK1 K1)))
 refine (h4 _).mono ?_
 rintro _ he rfl
 refine hK1 _ ?_; clear hK1 K1 h4
 (repeat (first | refine gO rfl ?_ | (refine gR fun K1 hK1 => ?_; simp only [go_sem, ↓reduceIte, reduceCtorEq, nA, nB, nC, nD, nE, nF, Int.reduceBEq, Int.reduceTMod, Int.reduceTDiv, Int.reduceMul, Int.reduceBNe, Int.reduceLT, Int.reduceLE, Int.reduceAdd, Int.reduceSub, Int.reduceNeg, decide_true, decide_false, Bool.true_and, Bool.false_and, Bool.and_true, Bool.and_false, Bool.or_false, Bool.or_true, Bool.true_or, Bool.false_or, Bool.not_true, Bool.not_false, true_implies, false_implies, true_and, and_true, Int.reduceToNat, e5] <;> and_intros <;> first | (apply hK1; clear hK1 K1) | (intros; first | omega | decide) | skip) | (refine awp_cond (t := _) rfl (fun hq => ?_) (fun hq => ?_) <;> first | (exact absurd hq (by decide)) | (cases hq; done) | (clear hq)) | (refine awp_un 8 ?_) | (with_reducible exact rfl) | (with_reducible exact trivial) | ((with_reducible show uside _); first | exact True.intro | exact rfl) | ((with_reducible show opS _ _); exact True.intro) | (refine ⟨AV.v (.bool true), rfl, hK1 _ ?_⟩; clear hK1 K1)))
 simp only [Tryz.results16, go_sem, ↓reduceIte, reduceCtorEq, nA, nB, nC, nD, nE, nF]
 exact ⟨_, _, Weak.refl _, Hp.le.refl _, rfl⟩
open Go.RowKit
theorem take_snoc (s : ByteArray) (k : Nat) (h : k < s.size) : s.data.toList.take (k + 1) = s.data.toList.take k ++ [s[k]] := by
  rw [List.take_succ_eq_append_getElem (by simpa using h)]; rfl
def rollStep (r : Int) (b : UInt8) : Int := IntKind.u32.wrap (IntKind.u32.wrap (r * 31) + IntKind.u32.wrap (b.toNat : Int))
def rollL (l : List UInt8) : Int := l.foldl rollStep 0
theorem rollL_snoc (l : List UInt8) (b : UInt8) : rollL (l ++ [b]) = rollStep (rollL l) b := by simp [rollL]
theorem rollL_range (l : List UInt8) : 0 ≤ rollL l ∧ rollL l < 4294967296 := by
  rcases List.eq_nil_or_concat l with rfl | ⟨r, b, rfl⟩
  · decide
  · rw [List.concat_eq_append, rollL_snoc, rollStep, IntKind.wrap_u32']; omega
def rollAt (s : ByteArray) (i : Nat) : Int := rollL ((s.data.toList.take (i + 1)).drop (i + 1 - 16))
theorem take_drop_snoc (s : ByteArray) (d k : Nat) (hd : d ≤ k) (h : k < s.size) : (s.data.toList.take (k + 1)).drop d = (s.data.toList.take k).drop d ++ [s[k]] := by
  rw [take_snoc s k h, List.drop_append_of_le_length]
  simp; omega
set_option maxRecDepth 100000 in
set_option maxHeartbeats 1000000 in
theorem roll_any (s : ByteArray) (i : Nat) (hi : i < s.size) (hsz : s.size ≤ 1000000000000) (w : World) :
    Calls Tryz.prog 106 #[.string s, .int .i64 i] w fun e w' => e = .returned (.int .u32 (rollAt s i)) ∧ w = w' := by
  go_enter Tryz.func106, Tryz.ntmps106
  go_wp2_with fail
  go_loop [5, 6] (fun r j => ∃ k : Nat, k ≤ i + 1 ∧ i + 1 - 16 ≤ k ∧ j = .int .i64 k ∧ r = .int .u32 (rollL ((s.data.toList.take k).drop (i + 1 - 16)))) (fun _ j => i + 1 - (intOf j).toNat)
  case atStart => 
    refine ⟨i + 1 - 16, by omega, by omega, ?_, ?_⟩
    · congr 1; omega
    · rw [List.drop_of_length_le (by simp; omega)]; rfl
  case round =>
    obtain ⟨k, hk, hk2, rfl, rfl⟩ := hrel
    by_cases hlt : k ≤ i
    · have HS := Lib.hid (rollL_snoc ((s.data.toList.take k).drop (i + 1 - 16)) (s[k]'(by omega)))
      have HT := Lib.hid (take_drop_snoc s (i + 1 - 16) k hk2 (by omega))
      go_wp2_with fail
      refine ⟨⟨k + 1, by omega, by omega, by go_num, ?_⟩, by simp [intOf]; omega⟩
      rw [HT.out, HS.out]; rfl
    · obtain rfl : k = i + 1 := by omega
      go_wp2_with fail
      go_ret
      exact ⟨rfl, rfl⟩
def cutC (s : ByteArray) (low : Int) (bits : Nat) (high : Int) (k fr : Nat) : Bool :=
  (decide (low ≤ (k : Int) + 1 - fr) && (rollAt s k % (2 : Int) ^ bits == 0)) || decide (high ≤ (k : Int) + 1 - fr) || decide (k + 1 = s.size)
def cutSt (s : ByteArray) (low : Int) (bits : Nat) (high : Int) : Nat → Nat × List ByteArray
  | 0 => (0, [])
  | k + 1 => if cutC s low bits high k (cutSt s low bits high k).1 then (k + 1, (cutSt s low bits high k).2 ++ [s.extract (cutSt s low bits high k).1 (k + 1)]) else cutSt s low bits high k
theorem cutSt_le (s : ByteArray) (low : Int) (bits : Nat) (high : Int) : ∀ k, (cutSt s low bits high k).1 ≤ k ∧ (cutSt s low bits high k).2.length ≤ k
  | 0 => by simp [cutSt]
  | k + 1 => by
    have := cutSt_le s low bits high k
    unfold cutSt
    split
    · simp; omega
    · omega
theorem pow_u32 (bits : Nat) (h : bits ≤ 16) : ∃ pw : Int, IntKind.u32.wrap ((2 : Int) ^ bits) = pw ∧ 1 ≤ pw ∧ pw = 2 ^ bits := by
  have h1 : (2 : Nat) ^ bits ≤ 2 ^ 16 := Nat.pow_le_pow_right (by omega) h
  have h2 : 1 ≤ (2 : Nat) ^ bits := Nat.one_le_two_pow
  have h3 : ((2 : Int) ^ bits) = ((2 ^ bits : Nat) : Int) := by simp
  refine ⟨2 ^ bits, ?_, ?_, rfl⟩
  · rw [IntKind.wrap_u32', h3]; omega
  · rw [h3]; omega
theorem infoString : (Tryz.prog.info? 9).map (fun i => (i.zero, i.size, i.bytes)) = some (some (.string ⟨#[]⟩), 1, 16) := by kernel_rfl
def CutRel (s : ByteArray) (low : Int) (bits : Nat) (high : Int) (w : World) (g : Nat) (out fr i : Value) (wr : World) : Prop :=
  ∃ k : Nat, k + g = s.size ∧ i = .int .i64 k ∧ fr = .int .i64 ((cutSt s low bits high k).1 : Int) ∧
    wr.ownsRow w.heap.size 9 1 out (cutSt s low bits high k).2.length ((cutSt s low bits high k).2.map Value.string) ∧ Below w.heap.size w wr
set_option maxRecDepth 100000 in
set_option maxHeartbeats 1000000 in
theorem cut_ok (s : ByteArray) (low : Int) (bits : Nat) (high : Int) (hsz : s.size ≤ 100000) (h1 : 1 ≤ low) (h2 : low ≤ high) (h3 : high ≤ 100000) (h4 : bits ≤ 16) (w : World) :
    Calls Tryz.prog 42 #[.string s, .int .i64 low, .int .i64 bits, .int .i64 high] w fun e w' => ∃ v, e = .returned (.tuple #[v, .int .i64 0]) ∧
      w'.ownsRow w.heap.size 9 1 v (cutSt s low bits high s.size).2.length ((cutSt s low bits high s.size).2.map Value.string) ∧ Below w.heap.size w w' := by
  obtain ⟨i0, hi, hz0, hz1, hz2⟩ := info_parts infoString
  have o1 : outsideB low 1 high = false := by simp [outsideB]; omega
  have o2 : outsideB bits 0 16 = false := by simp [outsideB]; omega
  have o3 : decide (100000 < high) = false := by simp; omega
  go_enter Tryz.func42, Tryz.ntmps42
  go_wp2_with fail
  refine (outside_any _ _ _ _).mono ?_
  rintro e w' ⟨rfl, rfl⟩
  rw [o1]
  go_wp2_with fail
  refine (outside_any _ _ _ _).mono ?_
  rintro e w' ⟨rfl, rfl⟩
  rw [o2]
  go_wp2_with fail
  go_loopg [10, 11, 30, 12] s.size (fun g out fr i _ wr => CutRel s low bits high w g out fr i wr)
  case atStart => exact ⟨0, by omega, rfl, rfl, World.ownsRow_nil _ _ _ _, Below.refl _ _⟩
  case round =>
    obtain ⟨k, hk, rfl, rfl, hown, hb⟩ := hrel
    have hle := cutSt_le s low bits high k
    have hst := show cutSt s low bits high k = ((cutSt s low bits high k).1, (cutSt s low bits high k).2) from rfl
    generalize hfr : (cutSt s low bits high k).1 = fr at *
    generalize hol : (cutSt s low bits high k).2 = ol at *
    obtain ⟨hle1, hle2⟩ := hle
    have Hst := Lib.hid hst
    clear hst hfr hol
    by_cases hg : gk = 0
    · obtain rfl : k = s.size := by omega
      go_wp2_with fail
      go_ret2
      exact ⟨_, rfl, by rw [Hst.out]; exact hown, hb⟩
    · have hlt : k < s.size := by omega
      go_upto_region 11 with fail
      go_cut [60] (fun s60 wx => s60 = .bool (cutC s low bits high k fr) ∧ ∃ q, wx = wr.drewN q)
      case first =>
        obtain ⟨pw, hp, hp1, hp2⟩ := pow_u32 bits h4
        have hrr := rollL_range ((s.data.toList.take (k + 1)).drop (k + 1 - 16))
        have hr0 : 0 ≤ rollAt s k := hrr.1
        have hr1 : rollAt s k < 4294967296 := hrr.2
        have HC := Lib.hid (show cutC s low bits high k fr = ((decide (low ≤ (k : Int) + 1 - fr) && (rollAt s k % pw == 0)) || decide (high ≤ (k : Int) + 1 - fr) || decide (k + 1 = s.size)) by rw [hp2]; rfl)
        clear hp2 hrr
        have e4 : decide (k + 1 = s.size) = ((k : Int) == (s.size : Int) - 1) := by
          rw [Bool.eq_iff_iff]; simp; omega
        rw [e4] at HC
        clear e4
        by_cases c1 : low ≤ (k : Int) + 1 - fr
        · rcases Bool.eq_false_or_eq_true (rollAt s k % pw == 0) with c2 | c2
          · go_quiet ((go_at_call 106; exact Calls.quiet_of_same ((roll_any s k hlt (by omega) _).mono fun _ _ h => ⟨h.1, h.2.symm⟩)))
            go_wp2_with fail
            go_meet
            exact ⟨by rw [HC.out]; simp [c1, c2], _, rfl⟩
          · by_cases c3 : high ≤ (k : Int) + 1 - fr
            · go_quiet ((go_at_call 106; exact Calls.quiet_of_same ((roll_any s k hlt (by omega) _).mono fun _ _ h => ⟨h.1, h.2.symm⟩)))
              go_wp2_with fail
              go_meet
              exact ⟨by rw [HC.out]; simp [c1, c2, c3], _, rfl⟩
            · have c3' : decide (high ≤ (k : Int) + 1 - fr) = false := by simpa using c3
              rcases Bool.eq_false_or_eq_true ((k : Int) == (s.size : Int) - 1) with c4 | c4
              · go_quiet ((go_at_call 106; exact Calls.quiet_of_same ((roll_any s k hlt (by omega) _).mono fun _ _ h => ⟨h.1, h.2.symm⟩)))
                go_wp2_with fail
                go_meet
                exact ⟨by rw [HC.out]; simp [c1, c2, c3', c4], _, rfl⟩
              · go_quiet ((go_at_call 106; exact Calls.quiet_of_same ((roll_any s k hlt (by omega) _).mono fun _ _ h => ⟨h.1, h.2.symm⟩)))
                go_wp2_with fail
                go_meet
                exact ⟨by rw [HC.out]; simp [c1, c2, c3', c4], _, rfl⟩
        · have c1' : decide (low ≤ (k : Int) + 1 - fr) = false := by simpa using c1
          have c3' : decide (high ≤ (k : Int) + 1 - fr) = false := by simp; omega
          rcases Bool.eq_false_or_eq_true ((k : Int) == (s.size : Int) - 1) with c4 | c4
          · go_quiet (fail)
            go_wp2_with fail
            go_meet
            exact ⟨by rw [HC.out]; simp [c1', c3', c4], _, rfl⟩
          · go_quiet (fail)
            go_wp2_with fail
            go_meet
            exact ⟨by rw [HC.out]; simp [c1', c3', c4], _, rfl⟩
      case rest =>
        obtain ⟨rfl, q, rfl⟩ := hcut
        have hown2 : (wr.drewN q).ownsRow w.heap.size 9 1 u10 ol.length (ol.map Value.string) := hown
        have hb2 : Below w.heap.size w (wr.drewN q) := below_drewN hb q
        generalize wr.drewN q = wx at *
        clear hown hb
        have HC := Lib.hid (show cutSt s low bits high (k + 1) = if cutC s low bits high k fr then (k + 1, ol ++ [s.extract fr (k + 1)]) else (fr, ol) by
          rw [cutSt, Hst.out])
        rcases Bool.eq_false_or_eq_true (cutC s low bits high k fr) with c | c
        · rw [c]
          have HC2 := Lib.hid (show cutSt s low bits high (k + 1) = (k + 1, ol ++ [s.extract fr (k + 1)]) by rw [HC.out, if_pos c])
          clear c HC
          go_wp2_with (at_builtin; refine wpList_append_own _ rfl _ _ 44 rfl w.heap.size 9 i0 (.string ⟨#[]⟩) 1 16 Tryz.underlying44 hi hz0 hz1 hz2 rfl (by decide) _ _ _ rfl (hown2.alloc _) ⟨wx.heap.size, 0, none⟩ 1 1 [.string (s.extract fr (k + 1))] rfl rfl ?c1 ?c2 ?c3 ?c4 ?c5 ?_)
          case c1 => exact cell_one_new _ _ _
          case c2 => intro u hu; simp at hu; subst hu; rfl
          case c3 => unfold maxLen; omega
          case c4 => omega
          case c5 => have := hb2.size; simp; omega
          intro v' w1 hown3 hgrow _
          have hb3 : Below w.heap.size w w1 := (hb2.alloc hb2.size _).grown hgrow (by have := hb2.size; simp; omega) (fun x hx => (hown2.lt x hx).1)
          go_wp2_with fail
          go_roundg (gk - 1)
          case measure => omega
          case rel => exact ⟨k + 1, by omega, by go_num, by rw [HC2.out]; go_num, by rw [HC2.out]; simpa using hown3, hb3⟩
        · rw [c]
          have HC2 := Lib.hid (show cutSt s low bits high (k + 1) = (fr, ol) by rw [HC.out, if_neg (by simp [c])])
          clear c HC
          go_wp2_with fail
          go_roundg (gk - 1)
          case measure => omega
          case rel => exact ⟨k + 1, by omega, by go_num, by rw [HC2.out], by rw [HC2.out]; exact hown2, hb2⟩
theorem cutSt_gap (s : ByteArray) (low : Int) (bits : Nat) (high : Int) (h : 1 ≤ high) : ∀ k : Nat, (k : Int) - ((cutSt s low bits high k).1 : Int) < high
  | 0 => by simp [cutSt]; omega
  | k + 1 => by
    have ih := cutSt_gap s low bits high h k
    rw [cutSt]
    split
    · simp; omega
    · rename_i hc
      have : ¬ high ≤ (k : Int) + 1 - ((cutSt s low bits high k).1 : Int) := by
        intro hh
        exact hc (by simp [cutC, hh])
      simp only [Int.natCast_add]; omega
section
variable (s : ByteArray) (low : Int) (bits : Nat) (high : Int)
def sizesL (l : List ByteArray) : Nat := (l.map ByteArray.size).sum
def joinL (l : List ByteArray) : List UInt8 := (l.map (·.data.toList)).flatten
theorem cutSt_join : ∀ k, k ≤ s.size → joinL (cutSt s low bits high k).2 = s.data.toList.take (cutSt s low bits high k).1
  | 0, _ => by simp [cutSt, joinL]
  | k + 1, h => by
    have ih := cutSt_join k (by omega)
    have hle := (cutSt_le s low bits high k).1
    unfold cutSt
    split
    · show joinL (_ ++ [_]) = _
      unfold joinL at *
      rw [List.map_append, List.flatten_append, ih]
      simp only [List.map_cons, List.map_nil, List.flatten_cons, List.flatten_nil, List.append_nil]
      rw [ByteArray.data_extract, Array.toList_extract]
      simp only [List.extract]
      exact take_drop_app s.data.toList hle
    · exact ih
where
  take_drop_app {α : Type} (l : List α) {i k : Nat} (h : i ≤ k) : l.take i ++ (l.drop i).take (k + 1 - i) = l.take (k + 1) := by
    conv => rhs; rw [← List.take_append_drop i (l.take (k + 1))]
    rw [List.take_take, List.drop_take, Nat.min_eq_left (by omega)]
theorem cutSt_end (h : 1 ≤ s.size) : (cutSt s low bits high s.size).1 = s.size := by
  obtain ⟨n, hn⟩ : ∃ n, s.size = n + 1 := ⟨s.size - 1, by omega⟩
  have hc : cutC s low bits high n (cutSt s low bits high n).1 = true := by
    unfold cutC; simp [hn]
  rw [hn]
  unfold cutSt
  rw [if_pos hc]
theorem joinL_len (l : List ByteArray) : (joinL l).length = sizesL l := by
  unfold joinL sizesL
  induction l with
  | nil => rfl
  | cons x r ih => simp only [List.map_cons, List.flatten_cons, List.length_append, List.sum_cons, ih]; rfl
theorem cutSt_sizes (k : Nat) (h : k ≤ s.size) : sizesL (cutSt s low bits high k).2 = (cutSt s low bits high k).1 := by
  have := congrArg List.length (cutSt_join s low bits high k h)
  rw [joinL_len, List.length_take] at this
  have hle := (cutSt_le s low bits high k).1
  have : s.data.toList.length = s.size := rfl
  omega
theorem cutSt_late (k0 : Nat) : ∀ k, k0 ≤ k → k ≤ s.size → ∃ r, (cutSt s low bits high k).2 = (cutSt s low bits high k0).2 ++ r ∧ ∀ i, i < r.length → k0 < sizesL ((cutSt s low bits high k0).2 ++ r.take (i + 1))
  | 0, h, _ => ⟨[], by simp [Nat.le_zero.1 h], by simp⟩
  | k + 1, h, hs => by
    rcases Nat.lt_or_ge k0 (k + 1) with h1 | h1
    · obtain ⟨r, e, hr⟩ := cutSt_late k0 k (by omega) (by omega)
      have hz := cutSt_sizes s low bits high (k + 1) hs
      rw [cutSt] at hz ⊢
      split at hz
      · rename_i hc
        rw [if_pos hc]
        rw [e] at hz ⊢
        refine ⟨r ++ [s.extract (cutSt s low bits high k).1 (k + 1)], List.append_assoc .., fun i hi => ?_⟩
        rw [List.length_append, List.length_singleton] at hi
        rcases Nat.lt_or_ge i r.length with h2 | h2
        · rw [List.take_append_of_le_length (by omega)]; exact hr i h2
        · obtain rfl : i = r.length := by omega
          rw [List.take_of_length_le (by simp), ← List.append_assoc, hz]
          show k0 < k + 1
          omega
      · rename_i hc
        rw [if_neg hc]
        exact ⟨r, e, hr⟩
    · obtain rfl : k0 = k + 1 := by omega
      exact ⟨[], by simp, by simp⟩
theorem cutSt_same (u : ByteArray) (hz : u.size = s.size) : ∀ k, k ≤ s.size → s.data.toList.take k = u.data.toList.take k → cutSt s low bits high k = cutSt u low bits high k
  | 0, _, _ => rfl
  | k + 1, h, e => by
    have ek : s.data.toList.take k = u.data.toList.take k := by
      have := congrArg (List.take k) e
      rwa [List.take_take, List.take_take, Nat.min_eq_left (by omega)] at this
    have ih := cutSt_same u hz k (by omega) ek
    have er : rollAt s k = rollAt u k := by unfold rollAt; rw [e]
    have ec : ∀ fr, cutC s low bits high k fr = cutC u low bits high k fr := fun fr => by unfold cutC; rw [er, hz]
    have ex : ∀ fr, fr ≤ k → s.extract fr (k + 1) = u.extract fr (k + 1) := fun fr hfr => by
      apply ByteArray.ext
      rw [ByteArray.data_extract, ByteArray.data_extract]
      apply Array.ext'
      rw [Array.toList_extract, Array.toList_extract]
      simp only [List.extract]
      rw [← List.drop_take, ← List.drop_take, e]
    rw [cutSt, cutSt, ih, ec, ex _ (cutSt_le u low bits high k).1]
theorem cutSt_high (h1 : 1 ≤ high) : ∀ k, k ≤ s.size → ∀ p ∈ (cutSt s low bits high k).2, (p.size : Int) ≤ high
  | 0, _, p, hp => by simp [cutSt] at hp
  | k + 1, h, p, hp => by
    have hg := cutSt_gap s low bits high h1 k
    have hle := (cutSt_le s low bits high k).1
    rw [cutSt] at hp
    split at hp
    · rcases List.mem_append.1 hp with h2 | h2
      · exact cutSt_high h1 k (by omega) p h2
      · rw [List.mem_singleton] at h2
        subst h2
        rw [ByteArray.size_extract]
        omega
    · exact cutSt_high h1 k (by omega) p hp
theorem cutSt_low (h2 : low ≤ high) : ∀ k, k ≤ s.size → ∀ i p, (cutSt s low bits high k).2[i]? = some p → (i + 1 < (cutSt s low bits high k).2.length ∨ k < s.size) → low ≤ (p.size : Int)
  | 0, _, i, p, hp, _ => by simp [cutSt] at hp
  | k + 1, h, i, p, hp, hl => by
    have hle := (cutSt_le s low bits high k).1
    rw [cutSt] at hp hl
    split at hp
    · rename_i hc
      rw [if_pos hc] at hl
      simp only [List.length_append, List.length_singleton] at hl
      rcases Nat.lt_or_ge i (cutSt s low bits high k).2.length with h3 | h3
      · rw [List.getElem?_append_left h3] at hp
        exact cutSt_low h2 k (by omega) i p hp (.inr (by omega))
      · rw [List.getElem?_append_right h3] at hp
        have hi0 : i - (cutSt s low bits high k).2.length = 0 := by
          rcases Nat.eq_zero_or_pos (i - (cutSt s low bits high k).2.length) with h4 | h4
          · exact h4
          · rw [List.getElem?_eq_none (by simp; omega)] at hp; cases hp
        rw [hi0] at hp
        simp only [List.getElem?_cons_zero, Option.some.injEq] at hp
        subst hp
        have hks : k + 1 < s.size := by omega
        rw [ByteArray.size_extract]
        unfold cutC at hc
        simp only [Bool.or_eq_true, Bool.and_eq_true, decide_eq_true_eq] at hc
        omega
    · rename_i hc
      rw [if_neg hc] at hl
      exact cutSt_low h2 k (by omega) i p hp (.inr (by omega))
theorem getD_app_left {l r : List ByteArray} {j : Nat} (h : j < l.length) : (l ++ r).getD j default = l.getD j default := by
  rw [List.getD_eq_getElem?_getD, List.getD_eq_getElem?_getD, List.getElem?_append_left h]
theorem parts_alike (u : ByteArray) (hz : u.size = s.size) {k0 : Nat} (hk : k0 ≤ s.size) (e : s.data.toList.take k0 = u.data.toList.take k0) {j : Nat} (hj : j < (cutSt s low bits high s.size).2.length)
    (hle : sizesL ((cutSt s low bits high s.size).2.take (j + 1)) ≤ k0) : j < (cutSt u low bits high u.size).2.length ∧ (cutSt u low bits high u.size).2.getD j default = (cutSt s low bits high s.size).2.getD j default := by
  obtain ⟨r, e1, hr⟩ := cutSt_late s low bits high k0 s.size hk (Nat.le_refl _)
  obtain ⟨r2, e2, _⟩ := cutSt_late u low bits high k0 u.size (by omega) (Nat.le_refl _)
  rw [← cutSt_same s low bits high u hz k0 hk e] at e2
  rw [e1] at hj hle ⊢
  rw [e2]
  rcases Nat.lt_or_ge j (cutSt s low bits high k0).2.length with h | h
  · refine ⟨by rw [List.length_append]; omega, ?_⟩
    rw [getD_app_left h, getD_app_left h]
  · exfalso
    rw [List.length_append] at hj
    have := hr (j - (cutSt s low bits high k0).2.length) (by omega)
    rw [List.take_append, List.take_of_length_le (by omega), show j + 1 - (cutSt s low bits high k0).2.length = j - (cutSt s low bits high k0).2.length + 1 by omega] at hle
    omega
theorem cutSt_whole (h : 1 ≤ s.size) : (⟨(joinL (cutSt s low bits high s.size).2).toArray⟩ : ByteArray) = s := by
  rw [cutSt_join s low bits high s.size (Nat.le_refl _), cutSt_end s low bits high h]
  have : s.data.toList.take s.size = s.data.toList := List.take_of_length_le (Nat.le_refl _)
  rw [this]
theorem sizesL_step (l : List ByteArray) {j : Nat} (h : j < l.length) : sizesL (l.take (j + 1)) = sizesL (l.take j) + (l.getD j default).size := by
  have e : l.take (j + 1) = l.take j ++ [l.getD j default] := by
    rw [List.take_succ_eq_append_getElem h, List.getD_eq_getElem?_getD, List.getElem?_eq_getElem h]; rfl
  rw [e]
  unfold sizesL
  simp
end
theorem other_size (t : ByteArray) {k : Nat} (h : k < t.size) : (t.extract 0 k ++ ⟨#[33]⟩ ++ t.extract (k + 1) t.size).size = t.size := by
  rw [ByteArray.size_append, ByteArray.size_append, ByteArray.size_extract, ByteArray.size_extract]
  have : (⟨#[33]⟩ : ByteArray).size = 1 := rfl
  omega
theorem other_take (t : ByteArray) {k : Nat} (h : k < t.size) : t.data.toList.take k = (t.extract 0 k ++ ⟨#[33]⟩ ++ t.extract (k + 1) t.size).data.toList.take k := by
  have hx : (t.extract 0 k).data.toList = t.data.toList.take k := by
    rw [ByteArray.data_extract, Array.toList_extract]; simp [List.extract]
  have hl : (t.data.toList.take k).length = k := by
    have h1 : t.data.toList.length = t.size := rfl
    rw [List.length_take, h1]; omega
  rw [ByteArray.data_append, ByteArray.data_append, Array.toList_append, Array.toList_append, List.append_assoc, hx, List.take_append_of_le_length (Nat.le_of_eq hl.symm), List.take_take, Nat.min_self]
open Go
set_option linter.unusedVariables false
set_option linter.unusedSimpArgs false
open Nat renaming reduceAdd → nA, reduceSub → nB, reduceMul → nC, reduceLT → nD, reduceLeDiff → nE, reduceEqDiff → nF, reduceMod → nG, reduceDiv → nH, reducePow → nI
set_option maxRecDepth 100000
set_option maxHeartbeats 8000000
theorem upd_comm {α : Type} (f : Nat → Option α) {i j : Nat} (x y : Option α) (h : i ≠ j) : upd (upd f i x) j y = upd (upd f j y) i x := by
 funext q
 by_cases e : q = j
 ·subst e; rw [upd_same, upd_other _ _ (fun e => h e.symm), upd_same]
 ·rw [upd_other _ _ e]
  by_cases e2 : q = i
  ·subst e2; rw [upd_same, upd_same]
  ·rw [upd_other _ _ e2, upd_other _ _ e2, upd_other _ _ e]
theorem st_upd {h : Hp} {i b k : Nat} {l : List Int} {a : Int} {o : Option AO} {t : Option TO} (n : b ≠ i) : (⟨upd (h.st i l a).H b o, upd (h.st i l a).T k t⟩ : Hp) = Hp.st ⟨upd h.H b o, upd h.T k t⟩ i l a := by
 simp only [Hp.st]
 congr 1
 exact (upd_comm _ _ _ n).symm
theorem flat_strs (l : List ByteArray) : (l.map encS).flatten = l.map fun x => AV.v (.string x) := by
 induction l with
 | nil => rfl
 | cons x q ih => simp [encS, ih]
theorem repL_str (G : Gh) (l : List ByteArray) : RepL G (l.map fun x => AV.v (.string x)) (l.map Value.string) := by
 refine ⟨by simp, fun j a b => ?_⟩
 simp only [List.getElem_map]
 exact ⟨.v _ rfl, rfl⟩
theorem repL_str_inv {G : Gh} {l : List ByteArray} {us : List Value} (h : RepL G (l.map fun x => AV.v (.string x)) us) : us = l.map Value.string := by
 obtain ⟨h1, h2⟩ := h
 apply List.ext_getElem (by simpa using h1)
 intro j a b
 have h3 := (h2 j (by simpa using b) a).1
 simp only [List.getElem_map] at h3 ⊢
 generalize us[j] = y at h3
 cases h3; rfl
def sevenS : List ByteArray := [⟨#[97]⟩, ⟨#[98]⟩, ⟨#[99]⟩, ⟨#[0]⟩, ⟨#[255]⟩, ⟨#[122, 122]⟩, ⟨#[97, 98, 99, 97, 98, 99]⟩]
theorem sevenS_bd : ∀ x ∈ sevenS, 1 ≤ x.size ∧ x.size ≤ 6 := by decide
theorem g_content (i : Nat) (l : List Int) (a : Int) (many : Nat) (h : Hp) (hl : SOk l) (ha : 0 ≤ a ∧ a ≤ 1000000) (hm : 1 ≤ many ∧ many ≤ 1000) :
  ACalls Tryz.prog 41 [.ptr i 0, .v (.int .i64 many)] (h.st i l a) (fun r h' => ∃ t : ByteArray, r = .v (.string t) ∧ (many ≤ t.size ∧ t.size ≤ 6 * many) ∧ h' = h.st i l (a + many)) := by
 have hs := fun a h ha => g_some i l a sevenS none h hl ha (by decide)
 have hsv : (sevenS.map encS) = [[.v (.string ⟨#[97]⟩)], [.v (.string ⟨#[98]⟩)], [.v (.string ⟨#[99]⟩)], [.v (.string ⟨#[0]⟩)], [.v (.string ⟨#[255]⟩)], [.v (.string ⟨#[122, 122]⟩)], [.v (.string ⟨#[97, 98, 99, 97, 98, 99]⟩)]] := rfl
 rw [hsv] at hs
 refine gE Tryz.func41 rfl (by kernel_rfl) 13 rfl fun c => ?_
 (first | refine gO rfl ?_ | (refine gM zM2B fun K1 hK1 => ?_; simp only [go_sem, ↓reduceIte, reduceCtorEq, nA, nB, nC, nD, nE, nF] <;> and_intros <;> first | (apply hK1; clear hK1 K1) | (intros; first | omega | decide | (simp_all <;> omega)) | skip)); (first | refine gO rfl ?_ | (refine gM zM2B fun K1 hK1 => ?_; simp only [go_sem, ↓reduceIte, reduceCtorEq, nA, nB, nC, nD, nE, nF] <;> and_intros <;> first | (apply hK1; clear hK1 K1) | (intros; first | omega | decide | (simp_all <;> omega)) | skip))
 refine awp_seq (awp_allocT tyok rfl rfl ty205 (fun b hb => ?_))
 replace hb : (h.st i l a).H b = none := hb
 have hbi : b ≠ i := by rintro rfl; rw [st_at] at hb; cases hb
 have hb0 : h.H b = none := by rw [← hb]; exact (upd_other _ _ hbi).symm
 refine (?_ : Awp _ c _ _ ⟨((.ptr i 0) :: (.v (.int .i64 many)) :: AV.junk :: AV.junk :: ((.v (.string ⟨#[]⟩)) :: (.ptr b 0) :: (jnk 9 []))), [], ⟨upd (h.st i l a).H b (some (.obj 205 [.v (.pointer none), .v (.slice none 0 0)])), h.T⟩⟩)
 refine awp_ownBuf b 1 205 5 (cs := [.v (.pointer none), .v (.slice none 0 0)]) (upd_same _ _ _) rfl (fun k hk => ?_)
 replace hk : h.T k = none := hk
 (repeat (first | refine gO rfl ?_ | (refine gM zM2B fun K1 hK1 => ?_; simp only [go_sem, ↓reduceIte, reduceCtorEq, nA, nB, nC, nD, nE, nF, upd_upd] <;> and_intros <;> first | (apply hK1; clear hK1 K1) | (intros; first | omega | decide | (simp_all <;> omega)) | skip)))
 refine awp_loopC (rl false [0, 1, 4, 3, 7]) 0 (fun g s => ∃ (j : Nat) (X : AV) (bs : List UInt8), g + j = many ∧ (X = .v (.pointer none) ∨ X = .ptr b 0) ∧ (j ≤ bs.length ∧ bs.length ≤ 6 * j) ∧
  s = ⟨((.ptr i 0) :: (jnk 4 ((.ptr b 0) :: (.v (.int .i64 many)) :: (.v (.int .i64 j)) :: (jnk 7 [])))), [], Hp.st ⟨upd h.H b (some (.obj 205 [X, .arr 1 k bs.length])), upd h.T k (some (.buf 5 (rowB bs)))⟩ i l (a + j)⟩) many ⟨0, _, [], by omega, .inl rfl, by simp, ?_⟩ ?_
 ·rw [← st_upd hbi, show a + ((0 : Nat) : Int) = a by omega]; rfl
 rintro g _ ⟨j, X, bs, hj, hX, hbd, rfl⟩
 (repeat (first | refine gO rfl ?_ | (refine gM zM2B fun K1 hK1 => ?_; simp only [go_sem, ↓reduceIte, reduceCtorEq, nA, nB, nC, nD, nE, nF] <;> and_intros <;> first | (apply hK1; clear hK1 K1) | (intros; first | omega | decide | (simp_all <;> omega)) | skip)))
 refine awp_cond (t := _) rfl (fun h5 => ?_) (fun h5 => ?_)
 ·simp only [decide_eq_true_eq] at h5
  (repeat (first | refine gO rfl ?_ | (refine gM zM2B fun K1 hK1 => ?_; simp only [go_sem, ↓reduceIte, reduceCtorEq, nA, nB, nC, nD, nE, nF] <;> and_intros <;> first | (apply hK1; clear hK1 K1) | (intros; first | omega | decide | (simp_all <;> omega)) | skip)))
  refine (hs (a + j) _ (by omega)).mono ?_
  rintro _ h9 ⟨x, hx, rfl, rfl⟩
  have hxb := sevenS_bd x hx
  apply hK1; clear hK1 K1
  (repeat (first | refine gO rfl ?_ | (refine gM zM2B fun K1 hK1 => ?_; simp only [go_sem, ↓reduceIte, reduceCtorEq, nA, nB, nC, nD, nE, nF] <;> and_intros <;> first | (apply hK1; clear hK1 K1) | (intros; first | omega | decide | (simp_all <;> omega)) | skip)))
  refine (g_writeString b k bs.length X x bs _ ((upd_other _ _ hbi).trans (upd_same _ _ _)) hX (upd_same _ _ _) rfl (by omega)).mono ?_
  rintro _ h9 ⟨rfl, rfl⟩
  apply hK1; clear hK1 K1
  (repeat (first | refine gO rfl ?_ | (refine gM zM2B fun K1 hK1 => ?_; simp only [go_sem, ↓reduceIte, reduceCtorEq, nA, nB, nC, nD, nE, nF] <;> and_intros <;> first | (apply hK1; clear hK1 K1) | (intros; first | omega | decide | (simp_all <;> omega)) | skip)))
  refine ⟨g - 1, by omega, j + 1, _, bs ++ x.data.toList, by omega, .inr rfl, ?_, ?_⟩
  ·have : x.data.toList.length = x.size := rfl
   rw [List.length_append]; omega
  ·have hlx : (bs ++ x.data.toList).length = bs.length + x.size := by rw [List.length_append]; rfl
   rw [st_upd hbi, hlx]
   simp only [upd_upd]
   rw [show a + ((j + 1 : Nat) : Int) = a + j + 1 by omega]; rfl
 ·simp only [decide_eq_false_iff_not] at h5
  obtain rfl : j = many := by omega
  (repeat (first | refine gO rfl ?_ | (refine gM zM2B fun K1 hK1 => ?_; simp only [go_sem, ↓reduceIte, reduceCtorEq, nA, nB, nC, nD, nE, nF] <;> and_intros <;> first | (apply hK1; clear hK1 K1) | (intros; first | omega | decide | (simp_all <;> omega)) | skip)))
  refine (g_bString b k X bs _ ((upd_other _ _ hbi).trans (upd_same _ _ _)) (upd_same _ _ _) (by intro e; rw [e] at hbd; simp at hbd; omega)).mono ?_
  rintro _ h9 ⟨rfl, rfl⟩
  apply hK1; clear hK1 K1
  (repeat (first | refine gO rfl ?_ | (refine gM zM2B fun K1 hK1 => ?_; simp only [go_sem, ↓reduceIte, reduceCtorEq, nA, nB, nC, nD, nE, nF] <;> and_intros <;> first | (apply hK1; clear hK1 K1) | (intros; first | omega | decide | (simp_all <;> omega)) | skip)))
  simp only [Tryz.results41, go_sem, ↓reduceIte, reduceCtorEq, nA, nB, nC, nD, nE, nF]
  refine ⟨_, h.st i l (a + j), Weak.refl _, ⟨fun q => ?_, fun q => ?_⟩, ⟨bs.toArray⟩, rfl, ?_, rfl⟩
  ·by_cases e : q = b
   ·left; subst e; exact (upd_other _ _ hbi).trans hb0
   ·right
    show upd h.H i _ q = upd (upd (upd h.H b _) i _) b none q
    rw [upd_other _ _ e]
    by_cases e2 : q = i
    ·subst e2; rw [upd_same, upd_same]
    ·rw [upd_other _ _ e2, upd_other _ _ e2, upd_other _ _ e]
  ·by_cases e : q = k
   ·left; rw [e]; exact hk
   ·right; show _ = upd (upd _ _ _) _ _ _; rw [upd_other _ _ e, upd_other _ _ e]; rfl
  ·show j ≤ bs.toArray.size ∧ bs.toArray.size ≤ 6 * j
   simpa using hbd
theorem args_v {G : Gh} {xs : List Value} {vs : Array Value} (hl : vs.size = (xs.map AV.v).length) (ha : ∀ j (hj : j < (xs.map AV.v).length), Rep G (xs.map AV.v)[j] (vs.getD j undef)) : vs = xs.toArray := by
 apply Array.ext
 ·simpa using hl
 ·intro j hj hj'
  have hjx : j < (xs.map AV.v).length := by rw [← hl]; exact hj
  have := ha j hjx
  simp only [List.getElem_map] at this
  have h2 : vs.getD j undef = vs[j] := by simp [Array.getD, hj]
  rw [h2] at this
  simp only [List.getElem_toArray]
  generalize vs[j] = y at this
  cases this
  rfl
theorem g_cut (s : ByteArray) (low : Int) (bits : Nat) (high : Int) (h : Hp) (hsz : s.size ≤ 100000) (h1 : 1 ≤ low) (h2 : low ≤ high) (h3 : high ≤ 100000) (h4 : bits ≤ 16) :
  ACalls Tryz.prog 42 [.v (.string s), .v (.int .i64 low), .v (.int .i64 bits), .v (.int .i64 high)] h (fun r h' => r = .tup [.row 1 ((cutSt s low bits high s.size).2.map encS) none, .v (.int .i64 0)] ∧ h' = h) := by
 refine acalls_mk (by kernel_rfl) fun G w vs hs hv ha => ?_
 rw [args_v (xs := [.string s, .int .i64 low, .int .i64 bits, .int .i64 high]) hv ha]
 refine (cut_ok s low bits high hsz h1 h2 h3 h4 w).mono ?_
 rintro _ w' ⟨v', rfl, own, bel⟩
 obtain ⟨G', g1, f1, s1, r1⟩ := row_of_own hs bel own (xs := (cutSt s low bits high s.size).2.map encS) (by simp) (fun x hx => by obtain ⟨y, _, rfl⟩ := List.mem_map.1 hx; rfl) (by rw [flat_strs]; exact repL_str G _)
 refine ⟨_, rfl, _, h, G', ⟨rfl, rfl⟩, g1, f1, s1, ?_⟩
 refine .tup _ _ (fun j => [v', Value.int .i64 0].getD j undef) rfl (fun j hj => ?_) (fun j hj => ?_)
 ·have : j = 0 ∨ j = 1 := by simp at hj; omega
  rcases this with rfl | rfl <;> rfl
 ·have : j = 0 ∨ j = 1 := by simp at hj; omega
  rcases this with rfl | rfl
  ·exact r1
  ·exact .v _ rfl
theorem join_flat (l : List ByteArray) : Lib.join (l.map (·.data.toList)) [] = joinL l := by
 unfold joinL
 cases l with
 | nil => rfl
 | cons x r => rw [List.map_cons, Lib.join_cons, List.flatten_cons]; simp [Lib.joinTail, Function.comp_def]
theorem g_join (l : List ByteArray) (h : Hp) (hn : l.length ≤ 1000000) (hz : (joinL l).length ≤ 1000000) : ACalls Tryz.prog 43 [.row 1 (l.map encS) none, .v (.string ⟨#[]⟩)] h (fun r h' => r = .v (.string ⟨(joinL l).toArray⟩) ∧ h' = h) := by
 refine acalls_mk (by kernel_rfl) fun G w vs hs hv ha => ?_
 have hv2 : vs.size = 2 := hv
 have r0 := ha 0 (by simp)
 have r1 := ha 1 (by simp)
 have hvs : vs = #[vs.getD 0 undef, vs.getD 1 undef] := by
  apply Array.ext (by simpa using hv2)
  intro j hj hj'
  simp only [List.size_toArray, List.length_cons, List.length_nil] at hj'
  have : j = 0 ∨ j = 1 := by omega
  rcases this with rfl | rfl <;> simp [Array.getD, hv2]
 rw [hvs]
 generalize vs.getD 0 undef = v0 at *
 generalize vs.getD 1 undef = v1 at *
 simp only [List.getElem_cons_zero, List.getElem_cons_succ] at r0 r1
 cases r1
 have fin : ∀ e w', (e = .returned (.string ⟨(joinL l).toArray⟩) ∧ RowKit.Below w.heap.size w w') → ∃ v, e = Ending.returned v ∧ ∃ r h' G', (r = AV.v (.string ⟨(joinL l).toArray⟩) ∧ h' = h) ∧ GLe G G' ∧ Fr G h w G' h' w' ∧ HSim G' h' w' ∧ Rep G' r v := by
  rintro _ w' ⟨rfl, hb⟩
  have hb' : ∀ b, b < w.heap.size → w'.heap[b]? = w.heap[b]? := fun b hb2 => hb.block b hb2
  exact ⟨_, rfl, _, h, G, ⟨rfl, rfl⟩, GLe.refl _, Fr.below (Fr.refl _ _ _) hb' hb.os hb.tape hb.output hb.size, hs.below hb', .v _ rfl⟩
 rcases Rep.row_inv r0 with ⟨a, rfl, e⟩ | ⟨g, o, c, us, rfl, hc, hzz, hru, hu2⟩
 ·obtain rfl : l = [] := List.map_eq_nil_iff.1 e
  refine (Tryz.strings_Join_none a 0 ⟨#[]⟩ w).mono fun e w' ⟨he, hw⟩ => fin e w' ⟨he, hw ▸ bel_id w⟩
 ·rw [flat_strs] at hru
  have hus := repL_str_inv hru
  subst hus
  rw [List.length_map] at hc ⊢
  have hcell : ∀ (j : Nat) x, l[j]? = some x → w.cell? ⟨g, o + j, none⟩ = some (.string x) := fun j x hx => hs.cell _ _ _ (hu2 j _ (by rw [List.getElem?_map, hx]; rfl))
  rcases Nat.eq_zero_or_pos l.length with h0 | h0
  ·obtain rfl : l = [] := List.eq_nil_of_length_eq_zero h0
   exact (Tryz.strings_Join_none _ c ⟨#[]⟩ w).mono fun e w' ⟨he, hw⟩ => fin e w' ⟨he, hw ▸ bel_id w⟩
  ·have hjf := join_flat l
   refine (Tryz.strings_Join g o c l ⟨#[]⟩ w hcell (World.block_lt_of_cell? w _ (hcell 0 _ (List.getElem?_eq_getElem h0))) (by omega) hc ?_).mono fun e w' ⟨he, hb⟩ => fin e w' ⟨?_, hb⟩
   ·show (Lib.join _ []).length ≤ _
    rw [hjf]; omega
   ·rw [he]
    show Ending.returned (.string ⟨(Lib.join _ []).toArray⟩) = _
    rw [hjf]
open Go Go.RowKit
def ARow (w : World) (a : Option Addr) (len cap : Nat) (zs : List Int) : Prop :=
 (a = none ∧ len = 0 ∧ cap = 0 ∧ zs = []) ∨ ∃ b : Addr, a = some b ∧ len ≤ cap ∧ cap ≤ maxLen ∧ zs.length = cap ∧ (∀ i, i < zs.length → w.cell? (b.add i) = some (.int .i64 (zs.getD i 0)) ∧ w.frozen? (b.add i) = false) ∧ (∀ n ∈ zs, (Lit.int .i64 n).wf = true)
def G0 (w : World) : Gh := ⟨fun g o => cellT w g o, fun _ => none, fun _ => none, 0⟩
def H0 : Hp := ⟨fun _ => none, fun _ => none⟩
theorem hsim_all (w : World) : HSim (G0 w) H0 w where
 val _ _ _ h := h
 obj _ _ h := by cases h
 inj _ _ _ h := absurd rfl h
 tok _ _ h := by cases h
 tinj _ _ _ _ h := absurd rfl h
 tobj _ _ _ h := absurd rfl h
 fat _ _ := rfl
 ftl _ _ := rfl
theorem below_of_fr {G G' : Gh} {h' : Hp} {w w' : World} (f : Fr G H0 w G' h' w') : Below w.heap.size w w' :=
 ⟨f.os, f.tape, f.output, f.size, fun b hb => (f.keep b hb (fun o => by rcases o with ⟨_, h, _⟩ | ⟨_, _, h, _⟩ <;> exact h rfl)).1⟩
theorem rep_v_inv0 {G : Gh} {x y : Value} (h : Rep G (.v x) y) : y = x := by cases h; rfl
theorem flat_encI (l : List Int) : (l.map encI).flatten = l.map fun x => AV.v (.int .i64 x) := by
 induction l with
 | nil => rfl
 | cons x q ih => simp [encI, ih]
theorem arow_rep {w : World} {a : Option Addr} {len cap : Nat} {zs : List Int} (h : ARow w a len cap zs) : ∃ l : List Int, SOk l ∧ Rep (G0 w) (.row 1 (l.map encI) none) (.slice a len cap) := by
 rcases h with ⟨rfl, rfl, rfl, _⟩ | ⟨⟨b, o, sp⟩, rfl, hl, hm, hz, hc, hwz⟩
 ·exact ⟨[], ⟨by simp, by simp⟩, .nil 1 none trivial⟩
 ·by_cases h0 : cap = 0
  ·subst h0
   obtain rfl : len = 0 := by omega
   exact ⟨[], ⟨by simp, by simp⟩, .nilA 1 _⟩
  ·have hsp : sp = none := by
    have h1 := (hc 0 (by omega)).1
    rw [show (⟨b, o, sp⟩ : Addr).add 0 = ⟨b, o, sp⟩ from rfl] at h1
    cases sp with
    | none => rfl
    | some s =>
     simp only [World.cell?] at h1
     split at h1 <;> simp at h1
   subst hsp
   refine ⟨zs.take len, ⟨by have hm2 : maxLen = 9223372036854775807 := rfl; rw [List.length_take]; omega, fun x hx => ?_⟩, ?_⟩
   ·have h1 := hwz x (List.mem_of_mem_take hx)
    simp only [Lit.wf, Bool.and_eq_true, decide_eq_true_eq] at h1
    exact ⟨h1.1, h1.2⟩
   ·have hlen : (zs.take len).length = len := by simp; omega
    have h2 := Rep.row_mk (G := G0 w) (z := 1) (xs := (zs.take len).map encI) (g := b) (o := o) (c := cap) (us := (zs.take len).map fun x => Value.int .i64 x) (by rw [List.length_map, hlen]; exact hl)
     (fun y hy => by obtain ⟨x, _, rfl⟩ := List.mem_map.1 hy; rfl) (by
      rw [flat_encI]
      refine ⟨by simp, fun j a b => ?_⟩
      simp only [List.getElem_map]
      exact ⟨.v _ rfl, rfl⟩) (fun j y hy => by
      rw [List.getElem?_map] at hy
      obtain ⟨x, hx, rfl⟩ := Option.map_eq_some_iff.1 hy
      rw [List.getElem?_take] at hx
      split at hx
      ·have hjl := (List.getElem?_eq_some_iff.1 hx).1
       have h3 := hc j hjl
       rw [List.getD_eq_getElem?_getD, hx, Addr.add_lit] at h3
       show cellT w b (o + j) = _
       rw [cellT, h3.2]; exact h3.1
      ·cases hx)
    rwa [List.length_map, hlen] at h2
theorem law_calls {f : Nat} (hlaw : ∀ (l : List Int) (h : Hp), SOk l → ACalls Tryz.prog f [.row 1 (l.map encI) none] h (fun r _ => r = .v (.bool true))) (a : Option Addr) (len cap : Nat) (zs : List Int) (w : World) (h : ARow w a len cap zs) :
  Calls Tryz.prog f #[.slice a len cap] w fun e w' => e = .returned (.bool true) ∧ Below w.heap.size w w' := by
 obtain ⟨l, hl, hrep⟩ := arow_rep h
 refine ((hlaw l H0 hl).calls _ w #[.slice a len cap] (hsim_all w) rfl (fun j hj => ?_)).mono ?_
 ·simp only [List.length_cons, List.length_nil, Nat.zero_add, Nat.lt_one_iff] at hj
  subst hj
  exact hrep
 ·rintro _ w' ⟨r, h', G', v, rfl, rfl, _, f, _, hv⟩
  exact ⟨by rw [rep_v_inv0 hv], below_of_fr f⟩
end Go.Proofs.YtidkkmoiolffnaaGreatDoor
